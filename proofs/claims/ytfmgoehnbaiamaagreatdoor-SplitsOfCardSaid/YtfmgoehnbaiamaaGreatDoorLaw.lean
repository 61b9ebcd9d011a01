/- The frame of a law's row: what a call has left alone reads as it read. -/
import Derived.Test.YtfmgoehnbaiamaaGreatDoorBase
import Derived.ProofKit
import Derived.OpenShut
import Derived.Carry
import Derived.Deep.Slices
import Derived.JoinedOf
open Go Go.RowKit Go.ChangeShapes Go.WideShapes
namespace Alm
variable {P:Program}{H:Type}{W:World}
theorem zNu{H:Type}{enc:TypeId×Value->H}{P:Program}(hl:laidOutB P=true){W W':World}(hb:Below W.heap.size W W') :
  ∀ {ts:List TypeId} {vs:List Value} {ds:List (DataW H)} {ps:List MemPlace},(∀ t∈ts,P.readableRec t=true/\t<P.types.size)->DataW.TrodAll enc P W 0 (fun _=>true) true ts vs ds ps->(∀ x∈ps,x.block<W.heap.size) ->
   DataW.TrodAll enc P W' 0 (fun b=>decide (b<W.heap.size)) true ts vs ds ps
 | [],[],[],_,_,h,_=>h
 | _::_,_::_,_::_,_,hT,⟨p,q,h1,h2,e⟩,hs =>
  ⟨p,q,Below.trod hl (hT _ (zzK.2 (Or.inl rfl))).1 (hT _ (zzK.2 (Or.inl rfl))).2 h1 hb (fun x hx=>hs x (by rw[e];exact List.mem_append_left _ hx)),
   zNu hl hb (fun t ht=>hT t (zzK.2 (Or.inr ht))) h2 (fun x hx=>hs x (by rw[e];exact List.mem_append_right _ hx)),e⟩
theorem yJj{enc:TypeId×Value->H}{f:Func}{s:ChangeSpec}{W':World}{args:Array Value}{ds:List (DataW H)}{before:List MemPlace}
  (hl:laidOutB P=true) (hT:∀ t∈f.params.toList,P.readableRec t=true/\t<P.types.size) (tb:TypeId) (hu:P.underlying tb=some .bool) (hr:f.resultTypes=#[tb])
  (hfn:s.fn H (ds++[])={ results:=[.lit (.bool true)],args:=ds }) (hvs:s.vars=[])
  (hW:DataW.Whole enc P f.params.toList s.vars false W args.toList ds [] before) (hB:Below W.heap.size W W'):s.post enc P f false true false false W args (.bool true) W':=by
 have hW':=hW
 obtain⟨p,q,hA,hV,rfl,_,_⟩:=hW
 rw[hvs]at hV
 obtain⟨_,rfl⟩:=trodVars_none hV
 have hlt:∀ x∈p,x.block<W.heap.size:=fun x hx=>by simpa using hW'.lt x (List.mem_append_left _ hx)
 refine⟨ds,[],p++[],[],p,[],hW',?_,?_,?_,hB.frame _,fun h=>by cases h⟩
 ·rw[hfn,hr];exact trodAll_mk1 (shut_bool hu true)
 ·rw[hfn];exact zNu hl hB hT hA hlt
 ·rw[hfn,hvs];rfl
theorem zPw{enc:TypeId×Value->H}{base:Nat}{spare:Nat->Bool}{held:Bool}{fuel:Nat}{t e:TypeId}{cs:List Value}{x:DataW H×List MemPlace}
  (ht:P.underlying t=some (.array 32 e)) (he:P.underlying e=some (.int .u8)) (hc:P.cellsOf e=1) (hct:P.cellsOf t=32) (h:DataW.trod enc P W base spare held fuel t cs=some x):∃ s:Sum,cs=cellsOf s:=by
 obtain⟨xs,m,rfl,_,hlen,hxl,hel⟩:=DataW.trod_array ht h
 rw[hct]at hlen
 have one:∀ i,i<32->∃ b:UInt8,cs[i]? = some (u8v b):=fun i hi=>by
  have hi':=hel i hi
  rw[hc,Nat.mul_one]at hi'
  rw[zzf (by omega)]at hi'
  obtain⟨n,hn,_,hw⟩:=DataW.trod_int he hi'
  have hd:(cs.drop i).take 1=[cs[i]]:=by
   rw[zz9 (by omega)];rfl
  rw[hd]at hn
  have hn':cs[i]=.int .u8 n:=by simpa using hn
  have hb:0<=n/\n<=255:=by simpa[Lit.wf,IntKind.min,IntKind.max,IntKind.signed,IntKind.bits]using hw
  refine⟨UInt8.ofNat n.toNat,?_⟩
  rw[zzf (by omega),hn',u8v,UInt8.toNat_ofNat']
  congr 2;omega
 have hch:=fun i:Fin 32=>one i.1 i.2
 refine⟨Vector.ofFn fun i=>Classical.choose (hch i),?_⟩
 refine List.ext_getElem? fun i=>?_
 by_cases hi:i<32
 ·rw[Classical.choose_spec (hch ⟨i,hi⟩)]
  simp[cellsOf,hi]
 ·rw[zyf (by omega),zyf (by rw[zDa];omega)]
end Alm
