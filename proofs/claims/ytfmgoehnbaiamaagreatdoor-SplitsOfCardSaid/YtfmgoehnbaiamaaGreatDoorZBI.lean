/- Joined: D2, D3, D4, D5, D6. -/
import Derived.Test.YtfmgoehnbaiamaaGreatDoorZBH
set_option maxRecDepth 100000
set_option maxHeartbeats 2000000
open Go Go.RowKit Alm
namespace Go.Proofs.YtfmgoehnbaiamaaGreatDoor
variable {a:Act}{ops:Array Oper}{Q:Exit->Act->World->Prop}{A B:List (Sum×Sum)}{rest:List Oper}{S T:List Sum}{e:List UInt8}{D d m n o p q y z:Nat}{X:Nat->Prop}{op:Oper}{k t which x0:Sum}{α:Type}{vS ve:Value}{W W' w:World}
theorem zSb(vs:List Value)(ls:List (List UInt8))(b o cap:Nat)(w:World)(h:zWn w b o vs ls)(hc:ls.length<=cap)(hk:ls.length<=1000)(hpos:1<=ls.flatten.length)(hl:ls.flatten.length<=140737488355328):
  Calls Tryz.prog 123 #[.slice (some ⟨b,o,none⟩) ls.length cap] w fun e w'=>∃ v,e=.returned v/\Lie w' w.heap.size 1 v (zIx ls.flatten)/\Below w.heap.size w w':=by
 obtain⟨k,hkk⟩:∃ k,k=ls.length:=⟨_,rfl⟩
 rw[<-hkk]at hc hk ⊢
 have HK:=zzb hkk;clear hkk
 have HL:=zzb hl;clear hl
 have HP:=zzb hpos;clear hpos
 have hk':(k:Int)<=1000:=by omega
 go_enter Tryz.func123,Tryz.ntmps123
 go_wp2_with fail
 go_loopw [3,11] (fun s i W=>∃ j:Nat,j<=k/\i=.int .i64 (j:Int)/\s=.int .i64 ((ls.take j).flatten.length:Int)/\Below w.heap.size w W) (fun _ i _=>k - (intOf i).toNat)
 case atStart=>exact⟨0,by omega,rfl,rfl,zze _ _⟩
 case round =>
  obtain⟨j,hj,rfl,rfl,hB⟩:=hrel
  by_cases hlt:j<k
  ·have hlt':(j:Int)<(k:Int):=by omega
   have hc0:=zLg h (j:=j) (by rw[<-HK.out];exact hlt)
   have hc1:wr.cell? ⟨b,o+j,none⟩=some (vs.getD j undef):=(hB.cell (p:=⟨b,o+j,none⟩) (World.block_lt_of_cell? w _ hc0)).trans hc0
   obtain⟨a,n,c,hv,hn,hnc,-⟩:=h.2.2 j (by rw[<-HK.out];exact hlt)
   rw[hv]at hc1
   clear hc0 hv
   have hft:=zLd ls j (by rw[<-HK.out];exact hlt)
   have hfl:=congrArg List.length hft
   rw[zzi,<-hn]at hfl
   have hle:=zHv ls (j+1)
   have hmx:=HL.out
   obtain⟨s1,hs1⟩:∃ s,s=(ls.take j).flatten.length:=⟨_,rfl⟩
   obtain⟨s2,hs2⟩:∃ s,s=(ls.take (j+1)).flatten.length:=⟨_,rfl⟩
   rw[<-hs1,<-hs2]at hfl
   rw[<-hs2]at hle
   rw[<-hs1]
   have hsum:IntKind.i64.wrap ((s1:Int)+(n:Int))=(s2:Int):=by rw[zzr];omega
   have HS2:=zzb hs2
   clear hft hn hs1 hs2 hfl hle hmx
   go_wp2_with fail
   exact⟨⟨j+1,by omega,by simp,by rw[HS2.out],hB⟩,by simp[intOf];omega⟩
  ·have hjk:j=k:=by omega
   subst hjk
   have htk:ls.take j=ls:=zzD (by rw[HK.out];exact zzc _)
   rw[htk]
   obtain⟨T,hT⟩:∃ T,T=ls.flatten.length:=⟨_,rfl⟩
   rw[<-hT]
   have hT1:1<=T:=by rw[hT];exact HP.out
   have hT2:T<=140737488355328:=by rw[hT];exact HL.out
   have HT:=zzb hT;clear hT
   have Ht:=zzb htk;clear htk
   have G:=zzb (zTu T wr hT1 hT2);clear hT1 hT2
   go_wp2_with fail
   refine G.out.mono ?_
   rintro e w1 ⟨v,rfl,ho1,hb1⟩
   obtain⟨i0,hi0,hz0⟩:=zzv.1 zGq
   simp only[zyc]at hz0
   have HI:=zzb hi0;clear hi0
   have HZ:=zzb hz0;clear hz0
   have hB1:Below w.heap.size w w1:=hB.trans (hb1.mono hB.size)
   have ho1':w1.ownsRow w.heap.size 5 1 v 0 []:=zPr ho1 hB.size
   clear ho1 hb1 hB G
   go_wp2_with fail
   go_loopw [6,27] (fun v i W=>∃ q:Nat,q<=j/\i=.int .i64 (q:Int)/\W.ownsRow w.heap.size 5 1 v (ls.take q).flatten.length (zDi (ls.take q).flatten)/\Below w.heap.size w W) (fun _ i _=>j - (intOf i).toNat)
   case atStart=>exact⟨0,by omega,rfl,ho1',hB1⟩
   case round =>
    clear hB1 ho1'
    obtain⟨q,hq,rfl,ho2,hB2⟩:=hrel
    by_cases hlt2:q<j
    ·have hlt':(q:Int)<(j:Int):=by omega
     have hc0:=zLg h (j:=q) (by rw[<-HK.out];exact hlt2)
     have hc1:=(hB2.cell (p:=⟨b,o+q,none⟩) (World.block_lt_of_cell? w _ hc0)).trans hc0
     obtain⟨a,n,c,hv,hn,hnc,hor⟩:=h.2.2 q (by rw[<-HK.out];exact hlt2)
     rw[hv]at hc1
     clear hc0 hv
     have hft:=zLd ls q (by rw[<-HK.out];exact hlt2)
     have hfl:=congrArg List.length hft
     rw[zzi,<-hn]at hfl
     have hle:=zHv ls (q+1)
     have hmx:=HL.out
     have hnn:(ls.take q).flatten.length+n<=140737488355328:=by omega
     have HN:=zzb hnn;clear hnn
     have HF:=zzb hft;clear hft
     have HFL:=zzb hfl;clear hfl
     have HNn:=zzb hn;clear hn
     clear hle hmx
     by_cases hn0:n=0
     ·have hp0:ls.getD q []=[]:=zzu.1 (by rw[<-HNn.out];exact hn0)
      have hHF:=HF.out
      rw[hp0,List.append_nil]at hHF
      have HHF:=zzb hHF;clear hHF hp0 hor
      subst hn0
      go_wp2_with (at_builtin;refine zH9 rfl _ _ rfl w.heap.size i0 HI.out _ _ _ rfl ho2 a c rfl ?_)
      exact⟨⟨q+1,by omega,by simp,by rw[HHF.out];exact ho2,hB2⟩,by simp[intOf];omega⟩
     ·obtain⟨b',o',rfl,hrg,hb'⟩:=hor.resolve_left (by intro h;rw[HNn.out,h]at hn0;exact hn0 rfl)
      have hrg':=zEm hB2 hrg hb'
      clear hrg
      go_wp2_with (at_builtin;refine wpList_append_own _ rfl _ _ _ rfl w.heap.size 5 i0 (.int .u8 0) 1 1 Tryz.underlying39 HI.out HZ.out.1 HZ.out.2.1 HZ.out.2.2 rfl (by decide) _ _ _ rfl ho2 ⟨b',o',none⟩ n c (zDi (ls.getD q [])) rfl (by rw[zEc,HNn.out];omega) (fun j u hj=>by rw[Addr.add_mid];exact hrg' j u hj) (zFp _) (by unfold maxLen;have:=HN.out;omega) (by have:=HN.out;omega) hB2.size ?_;intro v' w2 ho3 hg3 _)
      rw[<-HFL.out,<-zGn,<-HF.out]at ho3
      exact⟨⟨q+1,by omega,by simp,ho3,hB2.grown hg3 hB2.size (zFx ho2)⟩,by simp[intOf];omega⟩
    ·have hqj:q=j:=by omega
     subst hqj
     rw[Ht.out]at ho2
     go_wp2_with fail
     refine zzM (zzN rfl _ _ _) rfl ?_
     exact⟨_,rfl,zP5 (xs:=zIx ls.flatten) (by rw[zQz];exact ho2) (zFu _) (zWl _),hB2⟩
theorem zLp(k:Sum)(v:List UInt8):(zId k v).length<=33+v.length:=by
 unfold zId;split<;>simp<;>omega
theorem zS1(k:Sum)(l:List UInt8)(v:Value)(w:World)(hv:zDk w v l)(hl:l.length<140737488355000):Calls Tryz.prog 151 #[sv k,v] w fun e w'=>∃ v',e=.returned v'/\Lie w' w.heap.size 1 v' (zIx (zId k l))/\Below w.heap.size w w':=by
 have hr:=zDh w (cellsOf k).toArray 24 _ rfl
 have hb:=al (zze _ w) (.cells (cellsOf k).toArray 24)
 have hz1:(w.alloc (.cells (cellsOf k).toArray 24)).heap.size=w.heap.size+1:=zzT _
 have hv1:=zDg hv hb (zzc _)
 obtain⟨ad,cap,rfl,h1,h2,h3⟩:=hv
 obtain⟨n,hn⟩:∃ n,n=l.length:=⟨_,rfl⟩
 rw[<-hn]at hv1 ⊢
 have HN:=zAI hn hl
 have H1:=zAI hv1 (zza hr (zza hb hz1))
 clear hr hb hz1 hv1 h1 h2 h3 hn hl
 by_cases h0:n=0
 ·have hl0:l=[]:=zzu.1 (by rw[<-HN.out.1,h0])
  have he:zId k l=[2]:=by rw[hl0];rfl
  rw[he]
  subst h0
  go_enter Tryz.func151,Tryz.ntmps151
  go_wp2_with fail
  refine zzM (zzN rfl _ _ _) rfl ?_
  have hr2:=zDh (w.alloc (.cells (cellsOf k).toArray 24)) #[.int .u8 2] 5 _ rfl
  have ht2:=zD5 (w.alloc (.cells (cellsOf k).toArray 24)) #[.int .u8 2] 5
  rw[H1.out.2.2.2]at hr2 ht2
  exact⟨.slice (some ⟨w.heap.size+1,0,none⟩) 1 1,rfl,.inr ⟨_,1,rfl,by omega,by rw[zzp,H1.out.2.2.2];omega,zzc _,by unfold maxLen;omega,hr2,ht2,zWl _⟩,al H1.out.2.2.1 _⟩
 ·have hne:l≠[]:=by intro e;have:=HN.out.1;rw[e]at this;exact h0 this
  have hsf:[[3],k.toList,l].flatten=zId k l:=by
   unfold zId
   rw[zzZ hne]
   simp
  have hn0:decide (n=0)=false:=by simpa using h0
  have hn1:decide ((n:Int)=0)=false:=by simp;omega
  have HSF:=zzb hsf
  have h3:=al H1.out.2.2.1 (.cells #[.int .u8 3] 5)
  have hz3:((w.alloc (.cells (cellsOf k).toArray 24)).alloc (.cells #[.int .u8 3] 5)).heap.size=w.heap.size+1+1:=by rw[zzp,H1.out.2.2.2]
  have hP:=zWj (w:=(w.alloc (.cells (cellsOf k).toArray 24)).alloc (.cells #[.int .u8 3] 5)) (p:=w.heap.size+1) (q:=w.heap.size+1+1) (a:=w.heap.size) k l (.slice ad n cap) (by rw[hz3];omega) (by rw[hz3];omega) 39
   (by rw[<-H1.out.2.2.2];exact zDh _ _ _ _ rfl) (zzt H1.out.2.1 _) (zDg H1.out.1 (al (zze _ _) _) (zzc _)) hz3.symm
  have hB4:=al h3 (.cells #[.slice (some ⟨w.heap.size+1,0,none⟩) 1 1,.slice (some ⟨w.heap.size,0,none⟩) 32 32,.slice ad n cap] 39)
  have HPP:=zAI hP hB4
  clear h3 hz3 hP hB4 H1 hsf
  go_enter Tryz.func151,Tryz.ntmps151
  go_wp2_with fail
  change Calls _ _ _ (((w.alloc (.cells (cellsOf k).toArray 24)).alloc (.cells #[.int .u8 3] 5)).alloc (.cells #[.slice (some ⟨w.heap.size+1,0,none⟩) 1 1,.slice (some ⟨w.heap.size,0,none⟩) 32 32,.slice ad n cap] 39)) _
  generalize (((w.alloc (.cells (cellsOf k).toArray 24)).alloc (.cells #[.int .u8 3] 5)).alloc (.cells #[.slice (some ⟨w.heap.size+1,0,none⟩) 1 1,.slice (some ⟨w.heap.size,0,none⟩) 32 32,.slice ad n cap] 39))=W at *
  refine (zSb _ [[3],k.toList,l] _ _ 3 W HPP.out.1 (by simp) (by simp) (by simp) (by have:=HN.out.2;simp;omega)).mono ?_
  rintro e w1 ⟨v,rfl,hbv,hb⟩
  have HH:=zAI hbv (HPP.out.2.trans (hb.mono HPP.out.2.size))
  have HSZ:=zzb HPP.out.2.size
  clear hb hbv HPP
  go_wp2_with fail
  refine zzM (zzN rfl _ _ _) rfl ?_
  exact⟨v,rfl,by rw[<-HSF.out];exact HH.out.1.mono HSZ.out,HH.out.2⟩
abbrev b2(p:Sum×Sum):Value:=.agg (zEi p.1 p.2).toArray
theorem yD4{a:Nat}(s:Sum×Sum)(hp:p<w.heap.size)(ha:a<w.heap.size)(t:TypeId)
  (h1:w.rangeAt p 0 (zDi [4])) (h2:w.rangeAt a 0 (cellsOf s.1)) (h3:w.rangeAt a 32 (cellsOf s.2)) (hq:q=w.heap.size) :
  zWn (w.alloc (.cells #[.slice (some ⟨p,0,none⟩) 1 1,.slice (some ⟨a,0,none⟩) 32 32,.slice (some ⟨a,32,none⟩) 32 32] t)) q 0 [.slice (some ⟨p,0,none⟩) 1 1,.slice (some ⟨a,0,none⟩) 32 32,.slice (some ⟨a,32,none⟩) 32 32] [[4],s.1.toList,s.2.toList]:=by
 subst hq
 have hB:=al (zze w.heap.size w) (.cells #[.slice (some ⟨p,0,none⟩) 1 1,.slice (some ⟨a,0,none⟩) 32 32,.slice (some ⟨a,32,none⟩) 32 32] t)
 refine⟨zDh _ _ _ _ rfl,rfl,fun j hj=>?_⟩
 have hj':j<3:=hj
 match j,hj' with
 | 0,_=>exact⟨_,_,_,rfl,rfl,by decide,.inr ⟨p,0,rfl,zEm hB h1 hp,by simp;omega⟩⟩
 | 1,_=>exact⟨_,_,_,rfl,by simp,by decide,.inr ⟨a,0,rfl,zEm hB h2 ha,by simp;omega⟩⟩
 | 2,_=>exact⟨_,_,_,rfl,by simp,by decide,.inr ⟨a,32,rfl,zEm hB h3 ha,by simp;omega⟩⟩
theorem zVw(p:Sum×Sum)(w:World):Calls Tryz.prog 177 #[b2 p] w fun e w'=>∃ v,e=.returned v/\Lie w' w.heap.size 1 v (zIx (zJ9 p))/\Below w.heap.size w w':=by
 have hr:=zDt.1 (show (w.alloc (.cells (zEi p.1 p.2).toArray 122)).rangeAt w.heap.size 0 (cellsOf p.1++cellsOf p.2) from zDh w (zEi p.1 p.2).toArray 122 _ rfl)
 rw[zDa]at hr
 have hb:=al (zze _ w) (.cells (zEi p.1 p.2).toArray 122)
 have hz1:(w.alloc (.cells (zEi p.1 p.2).toArray 122)).heap.size=w.heap.size+1:=zzT _
 have H1:=zzb (show Below w.heap.size w (w.alloc (.cells (zEi p.1 p.2).toArray 122)).drew/\(w.alloc (.cells (zEi p.1 p.2).toArray 122)).drew.rangeAt w.heap.size 0 (cellsOf p.1)/\(w.alloc (.cells (zEi p.1 p.2).toArray 122)).drew.rangeAt w.heap.size 32 (cellsOf p.2)/\(w.alloc (.cells (zEi p.1 p.2).toArray 122)).drew.heap.size=w.heap.size+1 from ⟨hb.drew,hr.1,hr.2,hz1⟩)
 clear hr hb hz1
 have hsf:[[4],p.1.toList,p.2.toList].flatten=zJ9 p:=by unfold zJ9;simp
 have HSF:=zzb hsf
 clear hsf
 go_enter Tryz.func177,Tryz.ntmps177
 go_wp2_with fail
 refine zDd (fun W=>True) [.t 1,.t 2,.t 3,.t 4,.e 0 false,.e 5 false,.e 6 false,.t 7] (by kernel_rfl) (by kernel_rfl) (by rintro _ _(_|_)_ _ h<;>exact h) ?_
 change wpS _ _ _ _ _ _ _ (World.drew (w.alloc (.cells (zEi p.1 p.2).toArray 122)))
 generalize World.drew (w.alloc (.cells (zEi p.1 p.2).toArray 122))=V at *
 iterate 4
  refine zDp rfl (v:=?_) (by rfl) (fun W=>?_) ?_
  rotate_left
  ·go_simp
   try rfl
  try simp only[zU,zA,zB,zC]
 refine zEa rfl (by rfl) (fun K hK=>?_)
 go_simp
 refine hK _ _ ?_;clear hK K
 try simp only[zU,zA,zB,zC]
 refine zEa rfl (by rfl) (fun K hK=>?_)
 go_simp
 refine hK _ _ ?_;clear hK K
 try simp only[zU,zA,zB,zC]
 have h3:=al H1.out.1 (.cells #[.int .u8 4] 5)
 have hz3:(V.alloc (.cells #[.int .u8 4] 5)).heap.size=V.heap.size+1:=zzp _ _
 have hP:=yD4 (w:=V.alloc (.cells #[.int .u8 4] 5)) (p:=V.heap.size) (q:=V.heap.size+1) (a:=w.heap.size) p (by rw[hz3];omega) (by rw[hz3,H1.out.2.2.2];omega) 39
  (zDh _ _ _ _ rfl) (zzt H1.out.2.1 _) (zzt H1.out.2.2.1 _) hz3.symm
 have HPP:=zAI hP (al h3 (.cells #[.slice (some ⟨V.heap.size,0,none⟩) 1 1,.slice (some ⟨w.heap.size,0,none⟩) 32 32,.slice (some ⟨w.heap.size,32,none⟩) 32 32] 39))
 clear h3 hz3 hP H1
 generalize V.heap.size=q at *
 change wpS _ _ _ _ _ _ _ ((V.alloc (.cells #[.int .u8 4] 5)).alloc (.cells #[.slice (some ⟨q,0,none⟩) 1 1,.slice (some ⟨w.heap.size,0,none⟩) 32 32,.slice (some ⟨w.heap.size,32,none⟩) 32 32] 39))
 generalize ((V.alloc (.cells #[.int .u8 4] 5)).alloc (.cells #[.slice (some ⟨q,0,none⟩) 1 1,.slice (some ⟨w.heap.size,0,none⟩) 32 32,.slice (some ⟨w.heap.size,32,none⟩) 32 32] 39))=W at *
 refine zEa rfl (by rfl) (fun K hK=>?_)
 go_simp
 refine (zSb _ [[4],p.1.toList,p.2.toList] _ _ 3 W HPP.out.1 (by simp) (by simp) (by simp) (by simp)).mono ?_
 rintro e w1 ⟨v,rfl,hbv,hb⟩
 have HH:=zAI (hbv.mono HPP.out.2.size) (HPP.out.2.trans (hb.mono HPP.out.2.size))
 clear hb hbv HPP
 refine hK _ _ ?_;clear hK K
 try simp only[zU,zA,zB,zC]
 refine zDp rfl (v:=?_) (by rfl) (fun W=>?_) ?_
 rotate_left
 ·go_simp
  try rfl
 try simp only[zU,zA,zB,zC]
 refine zDn ?_
 go_wp2_with fail
 refine zzM (zzN rfl _ _ _) rfl ?_
 exact⟨v,rfl,by rw[<-HSF.out];exact HH.out.1,HH.out.2⟩
theorem zZy{a b:List α}(h1:a.length=m)(h2:b.length=n):(a.append b).length=m+n:=by
 show (a++b).length=m+n
 rw[zzi,h1,h2]
theorem yKa{a:List α}(h1:a.length=m)(h2:m=n):a.length=n:=h1.trans h2
theorem yKr:Tryz.zeroCells125.size=16417:=by
 unfold Tryz.zeroCells125
 rw[zzE]
 refine yKa (m:=?_) ?_ ?_
 rotate_left
 ·repeat' (refine zZy ?_ ?_)
  all_goals exact rfl
 ·rfl
noncomputable def zP1:Array Value:=Tryz.zeroCells125
theorem zNv:zP1.size=16417:=yKr
theorem yKh(v:Value)(hv:v.cells=#[v]):Instr.fill (fun x=>(#[(0,32),(32,16384),(16416,1)]:Array (Nat×Nat))[x]?) zP1 [(2,v)]=some (zP1.setIfInBounds 16416 v):=by
 unfold Instr.fill
 simp only[zyb,List.getElem?_cons_succ,List.getElem?_cons_zero,hv,zNv]
 simp[Instr.fill]
theorem zR3(w:World):(Array.mapM (fun (f:Field)=>do pure (f.offset,<-Go.sizeOf f.type)) (#[{ name := "root",type:=24,offset:=0,embedded:=false,tag := "",pkgPath := "almoner/splits",byteOffset:=0 },
  { name := "l",type:=123,offset:=32,embedded:=false,tag := "",pkgPath := "almoner/splits",byteOffset:=32 },
  { name := "end",type:=39,offset:=16416,embedded:=false,tag := "",pkgPath := "almoner/splits",byteOffset:=16416 }]:Array Field)).run Tryz.prog w=.ok (#[(0,32),(32,16384),(16416,1)]:Array (Nat×Nat)) w:=by
 simp[Array.mapM_eq_mapM_toList,Tryz.sizeOf24,Tryz.sizeOf123,Tryz.sizeOf39]
theorem yG3(v:Value)(hv:v.cells=#[v])(w:World):(Instr.build 125 #[(2,v)]).run Tryz.prog w=.ok (.agg (zP1.setIfInBounds 16416 v)) w:=by
 unfold Instr.build
 simp only[Sem.run_bind,Tryz.zeroValue125,Result.andThen_ok,Tryz.runUnderlying125,zR3]
 have h:Instr.fill (fun x=>(#[(0,32),(32,16384),(16416,1)]:Array (Nat×Nat))[x]?) (Value.agg Tryz.zeroCells125).cells [(2,v)]=some (zP1.setIfInBounds 16416 v):=yKh v hv
 rw[h]
 rfl
theorem zZ7(w:World):(Instr.build 125 #[]).run Tryz.prog w=.ok (.agg zP1) w:=by
 unfold Instr.build
 simp only[Sem.run_bind,Tryz.zeroValue125,Result.andThen_ok,Tryz.runUnderlying125,zR3]
 have h:Instr.fill (fun x=>(#[(0,32),(32,16384),(16416,1)]:Array (Nat×Nat))[x]?) (Value.agg Tryz.zeroCells125).cells []=some zP1:=rfl
 rw[h]
 rfl
theorem zM7{P:Program}(hgd:op.guard=none)(t:TypeId)(x:Operand)(ho:op.op=.box t x)(C:Array Value)(hx:a.eval x=.agg C)
  (h:wpList P ops Q rest (a.put op.dst (.pointer (some ⟨w.heap.size,0,none⟩))) (w.alloc (.cells C t))):wpList P ops Q (op::rest) a w :=
 wpList_plain hgd fun _ hK=>by
  unfold Oper.wp execOp
  simp only[ho,Instr.box,newVar,newRow,hx]
  simp[go_sem]
  exact hK _ _ h
open Keys (Rise Pr kn)
def zM5(L:List (Sum×Sum)):List Value:=L.flatMap fun q=>zEi q.1 q.2
theorem zGo(q:Sum×Sum)(L:List (Sum×Sum)):zM5 (q::L)=zEi q.1 q.2++zM5 L:=by simp[zM5]
theorem zGm(A B:List (Sum×Sum)):zM5 (A++B)=zM5 A++zM5 B:=by simp[zM5]
theorem zFe(L:List (Sum×Sum)):(zM5 L).length=64*L.length:=by
 induction L with
 | nil=>rfl
 | cons q L ih=>rw[zGo,zzi,zEk,ih,zzB];omega
structure zLe(W:World)(p d:Nat)(A:List (Sum×Sum)):Prop where
 th:W.there p 0 16417
 row:W.rangeAt p (32+d*64) (zM5 A)
structure zSm(W:World)(p:Nat)(ve:Value)(e:List UInt8):Prop where
 en:W.cell? ⟨p,16416,none⟩=some ve
 lb:Lie W 0 1 ve (zIx e)
 ne:∀ k,ve.ownBlock=some k->k≠p
theorem zSm.bt(h:zSm W p ve e):zDk W ve e:=zHl h.lb
theorem zLe.keep(h:zLe W p d A)(hk:zDj X W W')(hx:¬X p):zLe W' p d A:=⟨hk.there h.th (by decide) hx,hk.range h.row hx⟩
theorem zLe.below(h:zLe W p d A)(hb:Below W.heap.size W W'):zLe W' p d A:=h.keep (zK hb) id
theorem zSm.keep(h:zSm W p ve e)(hk:zDj X W W')(hx:¬X p)(hv:∀ k,ve.ownBlock=some k->¬X k):zSm W' p ve e:=⟨hk.cell h.en hx,h.lb.keep hk hv,h.ne⟩
theorem zSm.below(h:zSm W p ve e)(hb:Below W.heap.size W W'):zSm W' p ve e:=h.keep (zK hb) id (fun _ _ h=>h)
theorem zLe.at(h:zLe W p d A)(ho:o+n<=16417):W.there p o n:=fun j hj=>by
 have:=h.th (o+j) (by omega)
 rwa[zzn]at this
theorem zFq(W:World)(p o:Nat)(vs:List Value):zDj (fun i=>i=p) W (W.setCells p o vs):=zDj.of_grown (zKs W p o vs) (fun k hk=>by simpa using hk.symm)
theorem zSm.store(h:zSm W p ve e){vs:List Value}(ho:o+vs.length<=16416):zSm (W.setCells p o vs) p ve e :=
 ⟨by
  have h0:W.rangeAt p 16416 [ve]:=fun j v hj=>by
   match j,hj with
   | 0,hj=>simp only[List.getElem?_cons_zero,zzj]at hj;rw[<-hj];exact h.en
  have:=zzA h0 p o vs (.inr (.inr ho))
  exact this 0 ve rfl,h.lb.keep (zFq W p o vs) (fun k hk hx=>h.ne k hk hx),h.ne⟩
theorem zLe.row_at{q:Sum×Sum}(h:zLe W p 0 (A++q::B)):W.rangeAt p (32+A.length*64) (cellsOf q.1)/\W.rangeAt p (32+A.length*64+32) (cellsOf q.2):=by
 have h1:=h.row
 rw[zGm,zDt,zGo,zDt,zFe]at h1
 have h2:=h1.2.1
 unfold zEi at h2
 rw[zDt,zDa,Nat.zero_mul,Nat.add_zero,Nat.mul_comm]at h2
 exact h2
theorem zLe.left{q:Sum×Sum}(h:zLe W p 0 (A++q::B))(x:Sum)(hl:A.length<256):zLe (W.setCells p (32+A.length*64) (cellsOf x)) p 0 (A++(x,q.2)::B):=by
 have h1:=h.row
 rw[zGm,zDt,zGo,zDt,zFe,zEk]at h1
 obtain⟨ha,hq,hb⟩:=h1
 unfold zEi at hq
 rw[zDt,zDa]at hq
 refine⟨zzd h.th _ _ _,?_⟩
 rw[zGm,zDt,zGo,zDt,zFe,zEk]
 unfold zEi
 rw[zDt,zDa]
 have e:32+A.length*64=32+0*64+64*A.length:=by omega
 refine⟨zzA ha _ _ _ (.inr (.inl (by rw[zFe];omega))),⟨?_,zzA hq.2 _ _ _ (.inr (.inr (by rw[zDa];omega)))⟩,zzA hb _ _ _ (.inr (.inr (by rw[zDa];omega)))⟩
 rw[e]
 exact zDf _ _ _ _ (by rw[zDa];exact zzd (h.at (by omega)) _ _ _)
theorem zLe.right{q:Sum×Sum}(h:zLe W p 0 (A++q::B))(x:Sum)(hl:A.length<256):zLe (W.setCells p (32+A.length*64+32) (cellsOf x)) p 0 (A++(q.1,x)::B):=by
 have h1:=h.row
 rw[zGm,zDt,zGo,zDt,zFe,zEk]at h1
 obtain⟨ha,hq,hb⟩:=h1
 unfold zEi at hq
 rw[zDt,zDa]at hq
 refine⟨zzd h.th _ _ _,?_⟩
 rw[zGm,zDt,zGo,zDt,zFe,zEk]
 unfold zEi
 rw[zDt,zDa]
 have e:32+A.length*64+32=32+0*64+64*A.length+32:=by omega
 refine⟨zzA ha _ _ _ (.inr (.inl (by rw[zFe];omega))),⟨zzA hq.1 _ _ _ (.inr (.inl (by rw[zDa];omega))),?_⟩,zzA hb _ _ _ (.inr (.inr (by rw[zDa];omega)))⟩
 rw[e]
 exact zDf _ _ _ _ (by rw[zDa];exact zzd (h.at (by omega)) _ _ _)
theorem zLe.root{W:World}{p d:Nat}{A:List (Sum×Sum)}(h:zLe W p d A)(x:Sum):zLe (W.setCells p 0 (cellsOf x)) p d A/\(W.setCells p 0 (cellsOf x)).rangeAt p 0 (cellsOf x) :=
 ⟨⟨zzd h.th _ _ _,zzA h.row _ _ _ (.inr (.inr (by rw[zDa];omega)))⟩,zDf _ _ _ _ (by rw[zDa];exact zzd (h.at (by omega)) _ _ _)⟩
theorem zLe.ahead(h:zLe W p (d+1) A)(q:Sum×Sum)(hd:d<256):zLe (W.setCells p (32+d*64) (zEi q.1 q.2)) p d (q::A):=by
 refine⟨zzd h.th _ _ _,?_⟩
 rw[zGo,zDt,zEk]
 refine⟨zDf _ _ _ _ (by rw[zEk];exact zzd (h.at (by omega)) _ _ _),?_⟩
 have:=zzA h.row p (32+d*64) (zEi q.1 q.2) (.inr (.inr (by rw[zEk];omega)))
 rwa[show 32+(d+1)*64=32+d*64+64 by omega]at this
theorem zLe.behind(h:zLe W p 0 A)(q:Sum×Sum)(hd:A.length<256):zLe (W.setCells p (32+A.length*64) (zEi q.1 q.2)) p 0 (A++[q]):=by
 refine⟨zzd h.th _ _ _,?_⟩
 rw[zGm,zDt,zFe,zGo,show zM5 []=[] from rfl,List.append_nil]
 refine⟨zzA h.row _ _ _ (.inr (.inl (by rw[zFe];omega))),?_⟩
 rw[show 32+0*64+64*A.length=32+A.length*64 by omega]
 exact zDf _ _ _ _ (by rw[zEk];exact zzd (h.at (by omega)) _ _ _)
structure zKv(W:World)(p:Nat)(root:Sum)(L:List (Sum×Sum))(ve:Value)(e:List UInt8):Prop where
 rows:zLe W p 0 L
 root:W.rangeAt p 0 (cellsOf root)
 en:zSm W p ve e
theorem zKv.below{root:Sum}{L:List (Sum×Sum)}(h:zKv W p root L ve e)(hb:Below W.heap.size W W'):zKv W' p root L ve e :=
 ⟨h.rows.below hb,(zK hb).range h.root id,h.en.below hb⟩
def zSn(T:List Sum):List (Sum×Sum):=T.map fun t=>(t,t)
theorem zIn(T:List Sum):(zSn T).length=T.length:=by simp[zSn]
theorem yHx(h:T[d]? = some t):zSn (T.take (d+1))=zSn (T.take d)++[(t,t)]:=by
 obtain⟨hl,e⟩:=zzl.1 h
 unfold zSn
 rw[zzJ hl,e,zyh]
 rfl
theorem yGd(h:T[d]? = some t):T.drop d=t::T.drop (d+1):=by
 obtain⟨hl,e⟩:=zzl.1 h
 rw[zz9 hl,e]
structure UW(w W:World)(p q z D:Nat)(k x0:Sum)(T:List Sum)(ve:Value)(e:List UInt8):Prop where
 kp:zDj (fun i=>i=p) w W
 rows:zLe W p 0 (zSn (T.take D)++zIp k (256 - D) (T.drop D) x0)
 en:zSm W p ve e
 key:W.rangeAt z 0 (cellsOf k)
 x:W.rangeAt q 0 (cellsOf (zE7 k (256 - D) (T.drop D) x0))
 tq:W.there q 0 32
 qz:q≠p/\z≠p/\q≠z/\w.heap.size<=q/\w.heap.size<=z
 qv:∀ i,ve.ownBlock=some i->i<w.heap.size
theorem UW.below(h:UW w W p q z D k x0 T ve e)(hb:Below W.heap.size W W'):UW w W' p q z D k x0 T ve e :=
 have kk:=zK hb
 ⟨h.kp.trans (kk.mono (fun _ h=>h.elim)),h.rows.below hb,h.en.below hb,kk.range h.key id,kk.range h.x id,kk.there h.tq (by decide) id,h.qz,h.qv⟩
structure UM(w W:World)(p q z D:Nat)(k x0:Sum)(T:List Sum)(ve:Value)(e:List UInt8):Prop where
 kp:zDj (fun i=>i=p) w W
 rows:zLe W p 0 (zSn (T.take D)++zIp k (256 - D) (T.drop D) x0)
 en:zSm W p ve e
 key:W.rangeAt z 0 (cellsOf k)
 tq:W.there q 0 32
 qz:q≠p/\z≠p/\q≠z/\w.heap.size<=q/\w.heap.size<=z
 qv:∀ i,ve.ownBlock=some i->i<w.heap.size
theorem UM.below(h:UM w W p q z D k x0 T ve e)(hb:Below W.heap.size W W'):UM w W' p q z D k x0 T ve e :=
 have kk:=zK hb
 ⟨h.kp.trans (kk.mono (fun _ h=>h.elim)),h.rows.below hb,h.en.below hb,kk.range h.key id,kk.there h.tq (by decide) id,h.qz,h.qv⟩
theorem zR6(ht:T[d]? = some t)(hd:d<256):zIp k (256 - d) (T.drop d) x0=zUj k (255 - d) t (zE7 k (256 - (d+1)) (T.drop (d+1)) x0)::zIp k (256 - (d+1)) (T.drop (d+1)) x0:=by
 rw[yGd ht,show 256 - d=(255 - d)+1 by omega,zIp,show 256 - (d+1)=255 - d by omega]
theorem yDd(ht:T[d]? = some t)(hd:d<256):zE7 k (256 - d) (T.drop d) x0=sd (zUj k (255 - d) t (zE7 k (256 - (d+1)) (T.drop (d+1)) x0)).1 (zUj k (255 - d) t (zE7 k (256 - (d+1)) (T.drop (d+1)) x0)).2:=by
 rw[yGd ht,show 256 - d=(255 - d)+1 by omega,zE7,show 256 - (d+1)=255 - d by omega,zP6]
theorem UW.lay{b:Nat}(h:UW w W p q z (d+1) k x0 T ve e)(hd:d<256)(hT:T.length=256)(ht:T[d]? = some t)(hb:b=(kn k>>>(255 - d))%2):
  UM w (W.setCells p (32+d*64+b*32) (cellsOf (zE7 k (256 - (d+1)) (T.drop (d+1)) x0))) p q z d k x0 T ve e:=by
 have kk:=zFq W p (32+d*64+b*32) (cellsOf (zE7 k (256 - (d+1)) (T.drop (d+1)) x0))
 have hlA:(zSn (T.take d)).length=d:=by rw[zIn,zzq,hT];omega
 have hro:=h.rows
 rw[yHx ht,List.append_assoc,List.singleton_append]at hro
 obtain⟨h1,h2,h3,h4,h5⟩:=h.qz
 have hb2:b<2:=by omega
 refine⟨h.kp.trans kk,?_,h.en.store (by rw[zDa];omega),kk.range h.key (fun e=>h2 e),kk.there h.tq (by decide) (fun e=>h1 e),h.qz,h.qv⟩
 rw[zR6 ht hd]
 by_cases hb1:b=1
 ·have hbit:(kn k).testBit (255 - d)=true:=(zO3 k (255 - d)).1 (by rw[<-hb,hb1])
  have:=hro.right (zE7 k (256 - (d+1)) (T.drop (d+1)) x0) (by rw[hlA];exact hd)
  rw[hlA]at this
  unfold zUj
  rw[hbit,zzY rfl,hb1,Nat.one_mul]
  exact this
 ·have hb0:b=0:=by omega
  have hbit:¬(kn k).testBit (255 - d)=true:=fun e=>hb1 (by rw[hb];exact (zO3 k (255 - d)).2 e)
  have:=hro.left (zE7 k (256 - (d+1)) (T.drop (d+1)) x0) (by rw[hlA];exact hd)
  rw[hlA]at this
  unfold zUj
  rw[zzZ hbit,hb0,Nat.zero_mul,Nat.add_zero]
  exact this
theorem UM.tell(h:UM w W p q z d k x0 T ve e):
  UW w (W.setCells q 0 (cellsOf (zE7 k (256 - d) (T.drop d) x0))) p q z d k x0 T ve e:=by
 have kk:=zFq W q 0 (cellsOf (zE7 k (256 - d) (T.drop d) x0))
 obtain⟨h1,h2,h3,h4,h5⟩:=h.qz
 refine⟨h.kp.trans' kk (fun i hi=>.inr (by omega)),h.rows.keep kk (fun e=>h1 e.symm),h.en.keep kk (fun e=>h1 e.symm) (fun i hi e=>by have:=h.qv i hi;omega),kk.range h.key (fun e=>h3 e.symm),zDf _ _ _ _ (by rw[zDa];exact zzd h.tq _ _ _),zzd h.tq _ _ _,h.qz,h.qv⟩
theorem UM.row(h:UM w W p q z d k x0 T ve e)(hd:d<256)(hT:T.length=256)(ht:T[d]? = some t):
  W.rangeAt p (32+d*64) (cellsOf (zUj k (255 - d) t (zE7 k (256 - (d+1)) (T.drop (d+1)) x0)).1)/\W.rangeAt p (32+d*64+32) (cellsOf (zUj k (255 - d) t (zE7 k (256 - (d+1)) (T.drop (d+1)) x0)).2):=by
 have hlA:(zSn (T.take d)).length=d:=by rw[zIn,zzq,hT];omega
 have hro:=h.rows
 rw[zR6 ht hd]at hro
 have:=hro.row_at
 rw[hlA]at this
 exact this
open Keys (Rise Pr kn)
theorem yFi(k x0:Sum)(T:List Sum)(p:Nat)(ve:Value)(e:List UInt8)(w:World)(hT:T.length=256)(hr:zLe w p 0 (zSn T))(he:zSm w p ve e)(hx:sh e=x0)(hl:e.length<72057594037927936)(hv:∀ i,ve.ownBlock=some i->i<w.heap.size):
  Calls Tryz.prog 152 #[.pointer (some ⟨p,0,none⟩),sv k] w fun r w'=>r=.returned (.pointer (some ⟨p,0,none⟩))/\zKv w' p (zE7 k 256 T x0) (zIp k 256 T x0) ve e/\zDj (fun i=>i=p) w w':=by
 have hb0:=al (zze _ w) (.cells (cellsOf k).toArray 24)
 have H0:=zAI hb0 (zza (zDh w (cellsOf k).toArray 24 _ rfl) (zza (hr.below hb0) (he.below hb0)))
 have hpw:p<w.heap.size:=zEo hr.th (by decide)
 have hc:=(he.below hb0).en
 obtain⟨z,hz⟩:∃ z,z=w.heap.size:=⟨_,rfl⟩
 have HZ:=zAI hz (zza hpw (zza hv (zza hT (zza hx hl))))
 clear hb0 hr he hpw hz hx hl hv hT
 go_enter Tryz.func152,Tryz.ntmps152
 go_wp2_with fail
 refine (zY5 e ve _ H0.out.2.2.2.bt HZ.out.2.2.2.2.2).mono ?_
 rw[HZ.out.2.2.2.2.1]
 rintro r w1 ⟨rfl,hb⟩
 rw[<-HZ.out.1]
 have H1:=zAI (H0.out.1.trans (hb.mono H0.out.1.size)) (zza ((zK hb).range H0.out.2.1 id) (zza (H0.out.2.2.1.below hb) (zza (H0.out.2.2.2.below hb) (show w.heap.size<w1.heap.size from zzH (by rw[zzp];omega) hb.size))))
 clear hb hc H0
 have HG:=zzb trivial
 go_wp2_with (have _:=HG;refine zD3 (by rfl) rfl _ _ rfl x0 rfl rfl ?_;intro W2 hb hr ht;obtain⟨q,hq⟩:∃ q,q=w1.heap.size:=⟨_,rfl⟩;rw[<-hq]at hr ht ⊢;have H2:=zAI hb (zza hr (zza ht hq));clear HG hb hr ht hq)
 have hU:UW w W2 p q z 256 k x0 T ve e:=by
  have hlen:=HZ.out.2.2.2.1
  have e1:T.take 256=T:=zzD (by omega)
  have e2:T.drop 256=[]:=List.drop_eq_nil_of_le (by omega)
  have hbw:=H1.out.1.trans (H2.out.1.mono H1.out.1.size)
  have hz:=HZ.out.1
  have hq:=H2.out.2.2.2
  have hlt:=H1.out.2.2.2.2
  have hp:=HZ.out.2.1
  refine⟨zDj.of_below hbw,?_,H1.out.2.2.2.1.below H2.out.1,?_,?_,H2.out.2.2.1,⟨by omega,by omega,by omega,by omega,by omega⟩,HZ.out.2.2.1⟩
  ·rw[e1,e2]
   have:zIp k (256 - 256) [] x0=[]:=rfl
   rw[this,List.append_nil]
   exact H1.out.2.2.1.below H2.out.1
  ·rw[hz];exact (zK H2.out.1).range H1.out.2.1 id
  ·rw[e2];exact H2.out.2.1
 have HU:=zzb hU
 clear hU H1 H2
 go_loopw [6] (fun dv W=>∃ D:Nat,D<=256/\dv=.int .i64 ((D:Int) - 1)/\UW w W p q z D k x0 T ve e) (fun dv _=>(intOf dv+1).toNat)
 case atStart=>exact⟨256,zzc _,rfl,HU.out⟩
 case round =>
  clear HU
  obtain⟨D,hD,rfl,hU⟩:=hrel
  have HU:=zzb hU
  clear hU
  cases D with
  | zero =>
   have e0:((0:Nat):Int) - 1=-1:=rfl
   rw[e0]
   clear e0
   obtain⟨X,hX⟩:∃ X,X=zE7 k 256 T x0:=⟨_,rfl⟩
   have hx:=HU.out.x
   rw[List.drop_zero,show 256 - 0=256 from rfl,<-hX]at hx
   have HX:=zAI hX hx
   clear hX hx
   go_wp2_with (first
    | (refine zDb rfl _ rfl q 0 rfl X HX.out.2 ?_)
    | (refine zDm rfl _ _ rfl p 0 X rfl rfl (HU.out.rows.at (by omega)) ?_))
   have hrt:=HU.out.rows.root X
   have hrw:=hrt.1
   rw[List.take_zero,List.drop_zero,show zSn []=[] from rfl,List.nil_append,show 256 - 0=256 from rfl]at hrw
   have hen:=HU.out.en.store (o:=0) (vs:=cellsOf X) (by rw[zDa];omega)
   refine zzM (zzN rfl _ _ _) rfl ?_
   refine⟨rfl,⟨hrw,?_,hen⟩,HU.out.kp.trans (zFq wr p 0 (cellsOf X))⟩
   rw[<-HX.out.1]
   exact hrt.2
  | succ d =>
   have e0:((d+1:Nat):Int) - 1=(d:Int):=by omega
   rw[e0]
   clear e0
   have hd0:(0:Int)<=(d:Int):=Int.natCast_nonneg _
   have hd1:decide ((0:Int)<=(d:Int))=true:=zz2 hd0
   have hd2:(d:Int)<256:=by omega
   have HD:=zzb hD
   clear hD
   obtain⟨t,ht⟩:∃ t,T[d]? = some t:=⟨_,zzf (by rw[HZ.out.2.2.2.1];exact HD.out)⟩
   obtain⟨X,hX⟩:∃ X,X=zE7 k (256 - (d+1)) (T.drop (d+1)) x0:=⟨_,rfl⟩
   obtain⟨b,hb⟩:∃ b,b=(kn k>>>(255 - d))%2:=⟨_,rfl⟩
   have hx:=HU.out.x
   rw[<-hX]at hx
   have hb0:(0:Int)<=(b:Int):=Int.natCast_nonneg _
   have hb2:(b:Int)<2:=by omega
   have HX1:=zAI ht (zza hX hb)
   clear hx ht hX hb
   go_wp2_with fail
   refine zDd (fun W=>UW w W p q z (d+1) k x0 T ve e) [.t 0,.t 1,.t 3,.t 6,.t 7,.t 8,.s 2,.s 5,.e 4 true,.t 9,.e 10 false] (by kernel_rfl) (by kernel_rfl) (by rintro _ _(_|_)_ _ h<;>exact h) ?_
   have HS:=zzb (HU.out.below (zze _ _).drew)
   clear HU
   generalize wr.drew=V at *
   iterate 6
    refine zDp rfl (v:=?_) (by rfl) (fun W=>?_) ?_
    rotate_left
    ·go_simp
     try rfl
    try simp only[zU,zA,zB,zC]
   refine zDl (by exact HS.out) rfl (by rfl) _ (by rfl) z 0 (by rfl) k (fun W hW=>hW.key) ?_
   try simp only[zU,zA,zB,zC]
   refine zDl (by exact HS.out) rfl (by rfl) _ (by rfl) q 0 (by rfl) X (fun W hW=>by rw[HX1.out.2.1];exact hW.x) ?_
   try simp only[zU,zA,zB,zC]
   refine zD8 rfl (by rfl) (fun K hK=>?_)
   go_simp
   have hc:=zJe k d V HD.out
   rw[<-HX1.out.2.2]at hc
   refine hc.mono ?_
   clear hc
   rintro r V1 ⟨rfl,hb⟩
   have HS1:=zzb (HS.out.below hb)
   clear hb HS
   refine hK _ _ ⟨by exact HS1.out,?_⟩;clear hK K
   try simp only[zU,zA,zB,zC]
   refine zDp rfl (v:=?_) (by rfl) (fun W=>?_) ?_
   rotate_left
   ·go_simp
    try rfl
   try simp only[zU,zA,zB,zC]
   refine zEa rfl (by rfl) (fun K hK=>?_)
   refine zEd _ _ (by rfl) p (32+d*64+b*32) X (by rfl) (by rfl) (HS1.out.rows.at (by have:=HD.out;omega)) ?_
   have hM:=HS1.out.lay (by have:=HD.out;omega) HZ.out.2.2.2.1 HX1.out.1 HX1.out.2.2
   rw[<-HX1.out.2.1]at hM
   have HM:=zzb hM
   clear hM HS1
   refine hK _ _ ?_;clear hK K
   try simp only[zU,zA,zB,zC]
   change wpS _ _ _ _ _ _ _ (V1.setCells p (32+d*64+b*32) (cellsOf X))
   generalize V1.setCells p (32+d*64+b*32) (cellsOf X)=V2 at *
   refine zDn ?_
   clear hb0 hb2
   obtain⟨s1,hs1⟩:∃ s,s=(zUj k (255 - d) t X).1:=⟨_,rfl⟩
   obtain⟨s2,hs2⟩:∃ s,s=(zUj k (255 - d) t X).2:=⟨_,rfl⟩
   have hrow:∀ V,UM w V p q z d k x0 T ve e->V.rangeAt p (32+d*64) (cellsOf s1)/\V.rangeAt p (32+d*64+32) (cellsOf s2):=fun V hV=>by
    have:=hV.row (by have:=HD.out;omega) HZ.out.2.2.2.1 HX1.out.1
    rw[<-HX1.out.2.1,<-hs1,<-hs2]at this
    exact this
   have hup:sd s1 s2=zE7 k (256 - d) (T.drop d) x0:=by
    rw[yDd HX1.out.1 (by have:=HD.out;omega),<-HX1.out.2.1,hs1,hs2]
   obtain⟨Y,hY⟩:∃ Y,Y=sd s1 s2:=⟨_,rfl⟩
   rw[<-hY]at hup
   have HY:=zAI hrow (zza hup hY)
   clear hrow hup hY hs1 hs2
   go_wp2_with fail
   refine zDd (fun W=>UM w W p q z d k x0 T ve e) [.t 0,.t 1,.t 2,.t 3,.t 4,.t 5,.t 7,.t 8,.t 9,.t 10,.t 11,.t 12,.s 6,.e 13 true,.e 14 false,.e 15 false] (by kernel_rfl) (by kernel_rfl) (by rintro _ _(_|_)_ _ h<;>exact h) ?_
   have HS:=zzb (HM.out.below (zze _ _).drew)
   clear HM
   generalize V2.drew=V3 at *
   iterate 12
    refine zDp rfl (v:=?_) (by rfl) (fun W=>?_) ?_
    rotate_left
    ·go_simp
     try rfl
    try simp only[zU,zA,zB,zC]
   refine zDl (by exact HS.out) rfl (by rfl) _ (by rfl) p (32+d*64) (by rfl) s1 (fun W hW=>(HY.out.1 W hW).1) ?_
   try simp only[zU,zA,zB,zC]
   refine zD8 rfl (by rfl) (fun K hK=>?_)
   refine zEb _ (by rfl) p (32+d*64+32) (by rfl) s2 (HY.out.1 _ HS.out).2 ?_
   refine hK _ _ ⟨by exact HS.out,?_⟩;clear hK K
   try simp only[zU,zA,zB,zC]
   refine zEa rfl (by rfl) (fun K hK=>?_)
   go_simp
   have hc:=zJh s1 s2 V3
   rw[<-HY.out.2.2]at hc
   refine hc.mono ?_
   clear hc
   rintro r V4 ⟨rfl,hb⟩
   have HS1:=zzb (HS.out.below hb)
   clear hb HS
   refine hK _ _ ?_;clear hK K
   try simp only[zU,zA,zB,zC]
   refine zEa rfl (by rfl) (fun K hK=>?_)
   refine zEd _ _ (by rfl) q 0 Y (by rfl) (by rfl) HS1.out.tq ?_
   have hU:=HS1.out.tell
   rw[<-HY.out.2.1]at hU
   have HU:=zzb hU
   clear hU HS1
   refine hK _ _ ?_;clear hK K
   try simp only[zU,zA,zB,zC]
   change wpS _ _ _ _ _ _ _ (V4.setCells q 0 (cellsOf Y))
   generalize V4.setCells q 0 (cellsOf Y)=V5 at *
   refine zDn ?_
   have hw2:wrap64 ((d:Int) - 1)=(d:Int) - 1:=by have:=HD.out;unfold wrap64;omega
   go_wp2_with fail
   try rw[hw2]
   exact⟨⟨d,by have:=HD.out;omega,rfl,HU.out⟩,by simp only[intOf];omega⟩
open Keys (Rise Pr kn)
theorem yH9:(Tryz.prog.info? 122).map (·.size)=some 64:=by kernel_rfl
theorem yIz:(Tryz.prog.info? 122).map (fun i=>i.zero.map fun z=>z.cells.size)=some (some 64):=by kernel_rfl
theorem zKp{K:Act->World->Prop}(x y:Operand)(ho:op.op=.store 122 x y)
  (b o:Nat) (s t:Sum) (hx:a.eval x=.pointer (some ⟨b,o,none⟩)) (hy:a.eval y=bv s t) (ht:w.there b o 64) (h:K (a.put op.dst undef) (w.setCells b o (zEi s t))):op.wp Tryz.prog a w K Q :=
 wp_store_mid _ x y ho b o _ hx hy (by simpa[zEk]using ht) (by simpa[zEk]using yH9) (zSq s t) h
theorem yGs(x y:Sum)(w:World):(Instr.build 122 #[(0,.agg (cellsOf x).toArray),(1,.agg (cellsOf y).toArray)]).run Tryz.prog w=.ok (bv x y) w:=by
 obtain⟨ib,hib,hzb⟩:=zzv.1 yIz
 obtain⟨zb,hz,hzs⟩:=zzv.1 hzb
 obtain⟨i,z,hi,hz1,hs,hb,hz2⟩:=zLi
 refine run_build w _ _ _ ?_
 unfold Program.built
 simp only[hib,Tryz.underlying122,hz,hi,hs]
 have:=Great.fill_whole (s:=32) (by omega) [sv x,sv y] zb.cells (fun v hv=>by
  rcases zzK.1 hv with rfl | hv
  ·exact zEt x
  ·rw[zzx.1 hv];exact zEt y) (by rw[hzs];rfl)
 refine this.trans ?_
 congr 1
 simp[zEi,Value.cells]
theorem zIw{f:Operand->Value}{o:Oper}(parts:Array (Nat×Operand))(ho:o.op=.build 122 parts)(x y:Sum)(hp:(parts.toList.map fun (i,x)=>(i,f x))=[(0,sv x),(1,sv y)])(W:World):
  (execOp f o).run Tryz.prog W=.ok (.value (bv x y)) W:=by
 have:(parts.map fun (i,x)=>(i,f x))=#[(0,sv x),(1,sv y)]:=by
  apply Array.toList_inj.1
  rw[Array.toList_map];exact hp
 unfold execOp
 simp only[ho,Sem.run_bind,Sem.run_pure,Result.andThen_ok,this,yGs]
theorem zPg(hgd:op.guard=none)(parts:Array (Nat×Operand))(ho:op.op=.build 125 parts)
  (v:Value) (hv:v.cells=#[v]) (hp:(parts.toList.map fun (i,x)=>(i,a.eval x))=[(2,v)])
  (h:wpList Tryz.prog ops Q rest (a.put op.dst (.agg (zP1.setIfInBounds 16416 v))) w):wpList Tryz.prog ops Q (op::rest) a w :=
 zF2 hgd 125 parts ho (.agg (zP1.setIfInBounds 16416 v)) (fun W=>by
  have:(parts.map fun (i,x)=>(i,a.eval x))=#[(2,v)]:=by
   apply Array.toList_inj.1
   rw[Array.toList_map];exact hp
  rw[this]
  exact yG3 v hv W) h
theorem zOg(hgd:op.guard=none)(ho:op.op=.build 125 #[])
  (h:wpList Tryz.prog ops Q rest (a.put op.dst (.agg zP1)) w):wpList Tryz.prog ops Q (op::rest) a w :=
 zF2 hgd 125 #[] ho (.agg zP1) (fun W=>by rw[Array.map_empty];exact zZ7 W) h
theorem yL3(w:World)(ve:Value)(e:List UInt8)(he:Lie w 0 1 ve (zIx e))(hv:∀ k,ve.ownBlock=some k->k<w.heap.size):
  zLe (w.alloc (.cells (zP1.setIfInBounds 16416 ve) 125)) w.heap.size 256 (zSn [])/\zSm (w.alloc (.cells (zP1.setIfInBounds 16416 ve) 125)) w.heap.size ve e:=by
 have hs:(zP1.setIfInBounds 16416 ve).size=16417:=by rw[Array.size_setIfInBounds,zNv]
 have ht:=zD5 w (zP1.setIfInBounds 16416 ve) 125
 rw[hs]at ht
 refine⟨⟨ht,zJv _ _ _⟩,⟨?_,he.below (al (zze _ _) _),fun k hk=>by have:=hv k hk;omega⟩⟩
 rw[cell_of_row _ _ _ _ _ (0,0) (heap_alloc_new w _),Array.getElem?_setIfInBounds,zzY rfl,zzY (by rw[zNv];decide)]
structure LB(w W:World)(p z y D:Nat)(k which:Sum)(vS:Value)(S T:List Sum)(ve:Value)(e:List UInt8):Prop where
 bw:Below w.heap.size w W
 rows:zLe W p D (zSn T)
 en:zSm W p ve e
 key:W.rangeAt z 0 (cellsOf k)
 sh:W.rangeAt y 0 (zDe which vS)
 sums:zD1 w vS S
 pz:w.heap.size<=p/\z<p/\y<p
 qv:∀ i,ve.ownBlock=some i->i<p
theorem LB.below(h:LB w W p z y D k which vS S T ve e)(hb:Below W.heap.size W W'):LB w W' p z y D k which vS S T ve e :=
 have kk:=zK hb
 ⟨h.bw.trans (hb.mono h.bw.size),h.rows.below hb,h.en.below hb,kk.range h.key id,kk.range h.sh id,h.sums,h.pz,h.qv⟩
theorem LB.slice(h:LB w W p z y D k which vS S T ve e):W.cell? ⟨y,32,none⟩=some vS:=yF8 h.sh
structure LE(w W:World)(p z y q D n:Nat)(k which:Sum)(vS:Value)(S T:List Sum)(ve:Value)(e:List UInt8):Prop where
 lb:LB w W p z y D k which vS S T ve e
 no:W.rangeAt q 0 (cellsOf (em n))
 tq:W.there q 0 32
 pq:p<q
theorem LE.below(h:LE w W p z y q D n k which vS S T ve e)(hb:Below W.heap.size W W'):LE w W' p z y q D n k which vS S T ve e :=
 have kk:=zK hb
 ⟨h.lb.below hb,kk.range h.no id,kk.there h.tq (by decide) id,h.pq⟩
theorem LE.row(h:LE w W p z y q (d+1) n k which vS S T ve e)(hd:d<256):LE w (W.setCells p (32+d*64) (zEi t t)) p z y q d n k which vS S (t::T) ve e:=by
 have kk:=zFq W p (32+d*64) (zEi t t)
 obtain⟨h1,h2,h3⟩:=h.lb.pz
 have hpq:=h.pq
 have hr:=h.lb.rows.ahead (t,t) hd
 exact⟨⟨zDc _ h1 _ _ _ _ h.lb.bw,hr,h.lb.en.store (by rw[zEk];omega),kk.range h.lb.key (by omega),kk.range h.lb.sh (by omega),h.lb.sums,h.lb.pz,h.lb.qv⟩,kk.range h.no (by omega),kk.there h.tq (by decide) (by omega),h.pq⟩
theorem LE.none(h:LE w W p z y q D n k which vS S T ve e):LE w (W.setCells q 0 (cellsOf (em (n+1)))) p z y q D (n+1) k which vS S T ve e:=by
 have kk:=zFq W q 0 (cellsOf (em (n+1)))
 obtain⟨h1,h2,h3⟩:=h.lb.pz
 have hpq:=h.pq
 exact⟨⟨zDc _ (by omega) _ _ _ _ h.lb.bw,h.lb.rows.keep kk (by omega),h.lb.en.keep kk (by omega) (fun i hi=>by have:=h.lb.qv i hi;omega),kk.range h.lb.key (by omega),kk.range h.lb.sh (by omega),h.lb.sums,h.lb.pz,h.lb.qv⟩,zDf _ _ _ _ (by rw[zDa];exact zzd h.tq _ _ _),zzd h.tq _ _ _,h.pq⟩
theorem LE.apart{r:Nat}(h:LE w W p z y q D n k which vS S T ve e)(kk:zDj (fun i=>i=r) W W')(hr:q<r):LE w W' p z y q D n k which vS S T ve e:=by
 obtain⟨h1,h2,h3⟩:=h.lb.pz
 have hpq:=h.pq
 exact⟨⟨h.lb.bw.trans (kk.below h.lb.bw.size (fun i hi=>by omega)),h.lb.rows.keep kk (by omega),h.lb.en.keep kk (by omega) (fun i hi=>by have:=h.lb.qv i hi;omega),kk.range h.lb.key (by omega),kk.range h.lb.sh (by omega),h.lb.sums,h.lb.pz,h.lb.qv⟩,kk.range h.no (by omega),kk.there h.tq (by decide) (by omega),h.pq⟩
end Go.Proofs.YtfmgoehnbaiamaaGreatDoor
