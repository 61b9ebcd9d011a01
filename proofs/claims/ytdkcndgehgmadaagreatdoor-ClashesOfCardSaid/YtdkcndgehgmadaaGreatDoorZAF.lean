/- Joined: W0, BK1, BK2, BL1, BL2. -/
import Derived.Test.YtdkcndgehgmadaaGreatDoorShelf
import Derived.Test.YtdkcndgehgmadaaGreatDoorMerkle
import Derived.Test.YtdkcndgehgmadaaGreatDoorZAC
import Derived.Stop.BytesEq
import Derived.ArgAppend
set_option maxRecDepth 100000
open Go Go.RowKit Alm
namespace Go.Proofs.YtdkcndgehgmadaaGreatDoor
theorem zF2:(Tryz.prog.info? 24).map (·.size)=some 32:=by kernel_rfl
theorem zDe{ops:Array Oper}{rest:List Oper}{op:Oper}{a:Act}{w:World}{Q:Exit->Act->World->Prop}(hgd:op.guard=none)(x:Operand)(ho:op.op=.load 24 x)
  (b o:Nat) (hx:a.eval x=.pointer (some ⟨b,o,none⟩)) (s:Sum) (hc:w.rangeAt b o (cellsOf s))
  (h:wpList Tryz.prog ops Q rest (a.put op.dst (sv s)) w):wpList Tryz.prog ops Q (op::rest) a w :=
 wpList_load_mid hgd _ x ho b o hx (cellsOf s) _ hc Tryz.underlying24 rfl (by rw[zDf];exact zF2) h
theorem zDp{ops:Array Oper}{rest:List Oper}{op:Oper}{a:Act}{w:World}{Q:Exit->Act->World->Prop}(hgd:op.guard=none)(x y:Operand)(ho:op.op=.store 24 x y)
  (b o:Nat) (s:Sum) (hx:a.eval x=.pointer (some ⟨b,o,none⟩)) (hy:a.eval y=sv s) (ht:w.there b o 32)
  (h:wpList Tryz.prog ops Q rest (a.put op.dst undef) (w.setCells b o (cellsOf s))):wpList Tryz.prog ops Q (op::rest) a w :=
 wpList_store_mid hgd _ x y ho b o _ hx hy (by rw[zEi];exact ht) (by rw[zEi];exact zF2) (zIq s) h
theorem zEa{fn:Func}{p:Tmp}(h:fn.results=#[.cell p 24])(tmps:Array Value)(w:World)(b:Nat)(s:Sum)
  (hp:tmps.getD p undef=.pointer (some ⟨b,0,none⟩)) (ht:(w.setCells b 0 (cellsOf s)).there b 0 32) :
  (results fn tmps).run Tryz.prog (w.setCells b 0 (cellsOf s))=.ok (sv s) (w.setCells b 0 (cellsOf s)) :=
 zGc h tmps _ b 0 _ _ hp (zDd _ _ _ _ (by rw[zDf];exact ht)) Tryz.underlying24 rfl (by rw[zDf];exact zF2)
theorem zPz:∀ (f x:Nat),x<2 ^ f->x≠0->Lib.bitLenAux f x=x.log2+1:=by
 intro f
 induction f with
 | zero=>intro x h h0;simp at h;exact (h0 h).elim
 | succ f ih =>
  intro x h h0
  rw[Lib.bitLenAux,zzT h0,Nat.log2_def]
  by_cases h1:x<2
  ·have:x / 2=0:=by omega
   rw[this,zzT (by omega)];cases f<;>simp[Lib.bitLenAux]
  ·rw[zzS (by omega),ih (x / 2) (by rw[Nat.pow_succ]at h;omega) (by omega)];omega
theorem zO8(x:Nat)(h:x<18446744073709551616)(h0:x≠0):Lib.bitLen x=x.log2+1:=zPz 64 x h h0
theorem zS8(x:Int)(w:World)(h0:1<=x)(h1:x<=18446744073709551615) :
  Calls Tryz.prog 151 #[.int .u64 x] w fun e w'=>e=.returned (.int .i64 ((x.toNat.log2:Int)+1))/\w'=w :=
 (Tryz.bits_Len64 x w (by omega) h1).mono fun e w' ⟨he,hw⟩=>⟨by rw[he,zO8 _ (by omega) (by omega)];rfl,hw⟩
theorem yDf(x:Int)(w:World)(h0:1<=x)(h1:x<=18446744073709551615) :
  Calls Tryz.prog 153 #[.int .u64 x] w fun e w'=>e=.returned (.int .i64 ((x.toNat.log2:Int)+1))/\w'=w :=
 (Tryz.bits_Len x w (by omega) h1).mono fun e w' ⟨he,hw⟩=>⟨by rw[he,zO8 _ (by omega) (by omega)];rfl,hw⟩
noncomputable def mkS:UInt8->Sum:=Classical.choose (⟨fun b=>⟨#[b,0,0,0,0,0,0,0,0,0,0,0,0,0,0,0,0,0,0,0,0,0,0,0,0,0,0,0,0,0,0,0],rfl⟩,rfl⟩:∃ f:UInt8->Sum,f=fun b=>⟨#[b,0,0,0,0,0,0,0,0,0,0,0,0,0,0,0,0,0,0,0,0,0,0,0,0,0,0,0,0,0,0,0],rfl⟩)
theorem yGz:mkS=fun b=>⟨#[b,0,0,0,0,0,0,0,0,0,0,0,0,0,0,0,0,0,0,0,0,0,0,0,0,0,0,0,0,0,0,0],rfl⟩:=Classical.choose_spec (⟨fun b=>⟨#[b,0,0,0,0,0,0,0,0,0,0,0,0,0,0,0,0,0,0,0,0,0,0,0,0,0,0,0,0,0,0,0],rfl⟩,rfl⟩:∃ f:UInt8->Sum,f=fun b=>⟨#[b,0,0,0,0,0,0,0,0,0,0,0,0,0,0,0,0,0,0,0,0,0,0,0,0,0,0,0,0,0,0,0],rfl⟩)
theorem yIr(b:UInt8):(Value.agg #[.int .u8 ((b.toNat:Nat):Int),.int .u8 0,.int .u8 0,.int .u8 0,.int .u8 0,.int .u8 0,.int .u8 0,.int .u8 0,.int .u8 0,.int .u8 0,.int .u8 0,.int .u8 0,.int .u8 0,.int .u8 0,.int .u8 0,.int .u8 0,.int .u8 0,.int .u8 0,.int .u8 0,.int .u8 0,.int .u8 0,.int .u8 0,.int .u8 0,.int .u8 0,.int .u8 0,.int .u8 0,.int .u8 0,.int .u8 0,.int .u8 0,.int .u8 0,.int .u8 0,.int .u8 0])=sv (mkS b):=by rw[yGz];rfl
theorem yGi(s t:Sum)(w:World):(Op.equalIn 10000 24 (.agg (cellsOf s).toArray) (.agg (cellsOf t).toArray)).run Tryz.prog w=.ok (decide (s=t)) w:=by
 obtain⟨d,hd⟩:∃ d,10000=d+2:=⟨9998,rfl⟩
 rw[hd]
 have h:=run_equalIn_bytes (P:=Tryz.prog) w d 24 5 32 Tryz.underlying24 Tryz.underlying5 (fun w=>Tryz.sizeOf5 w) s.toList t.toList (by simp) (by simp)
 have hc:∀ s:Sum,cellsOf s=s.toList.map Extern.Stop.cell:=fun s=>rfl
 simp only[hc]
 rw[h]
 have hd:(s.toList == t.toList)=decide (s=t):=by
  rw[Bool.eq_iff_iff]
  simp[Vector.toList_inj]
 rw[hd]
theorem yG1{q:Int}{b:UInt8}(h:q=((b.toNat:Nat):Int)):(Value.agg #[.int .u8 q,.int .u8 0,.int .u8 0,.int .u8 0,.int .u8 0,.int .u8 0,.int .u8 0,.int .u8 0,.int .u8 0,.int .u8 0,.int .u8 0,.int .u8 0,.int .u8 0,.int .u8 0,.int .u8 0,.int .u8 0,.int .u8 0,.int .u8 0,.int .u8 0,.int .u8 0,.int .u8 0,.int .u8 0,.int .u8 0,.int .u8 0,.int .u8 0,.int .u8 0,.int .u8 0,.int .u8 0,.int .u8 0,.int .u8 0,.int .u8 0,.int .u8 0])=sv (mkS b):=by rw[h];exact yIr b
theorem zOw(b:UInt8)(w:World):Calls Tryz.prog 158 #[.int .i64 ((b.toNat:Nat):Int)] w fun e w'=>e=.returned (sv (mkS b))/\Below w.heap.size w w':=by
 obtain⟨q,hq⟩:∃ q,q=((b.toNat:Nat):Int):=⟨_,rfl⟩
 have hm:q%256=q:=by
  have:=b.toNat_lt
  rw[hq]
  omega
 rw[<-hq]
 have HQ:=zzb hq
 have HB:=zAI (al (zze w.heap.size w) (.cells #[.int .u8 0,.int .u8 0,.int .u8 0,.int .u8 0,.int .u8 0,.int .u8 0,.int .u8 0,.int .u8 0,.int .u8 0,.int .u8 0,.int .u8 0,.int .u8 0,.int .u8 0,.int .u8 0,.int .u8 0,.int .u8 0,.int .u8 0,.int .u8 0,.int .u8 0,.int .u8 0,.int .u8 0,.int .u8 0,.int .u8 0,.int .u8 0,.int .u8 0,.int .u8 0,.int .u8 0,.int .u8 0,.int .u8 0,.int .u8 0,.int .u8 0,.int .u8 0] 24)) (zD0 w #[.int .u8 0,.int .u8 0,.int .u8 0,.int .u8 0,.int .u8 0,.int .u8 0,.int .u8 0,.int .u8 0,.int .u8 0,.int .u8 0,.int .u8 0,.int .u8 0,.int .u8 0,.int .u8 0,.int .u8 0,.int .u8 0,.int .u8 0,.int .u8 0,.int .u8 0,.int .u8 0,.int .u8 0,.int .u8 0,.int .u8 0,.int .u8 0,.int .u8 0,.int .u8 0,.int .u8 0,.int .u8 0,.int .u8 0,.int .u8 0,.int .u8 0,.int .u8 0] 24)
 clear hq
 go_enter Tryz.func158,Tryz.ntmps158
 go_wp2_with (refine zDp rfl _ _ rfl w.heap.size 0 (mkS b) rfl (yG1 HQ.out) HB.out.2 ?_)
 exact zzJ (zEa Tryz.results158 _ _ _ _ rfl (zzd HB.out.2 _ _ _)) rfl ⟨rfl,zDa _ (zzc _) _ _ _ _ HB.out.1⟩
theorem yDz(s:Sum)(b:UInt8)(w:World):Calls Tryz.prog 167 #[sv s,.int .i64 ((b.toNat:Nat):Int)] w fun e w'=>e=.returned (.bool (decide (s=mkS b)))/\Below w.heap.size w w':=by
 obtain⟨q,hq⟩:∃ q,q=((b.toNat:Nat):Int):=⟨_,rfl⟩
 have hm:q%256=q:=by
  have:=b.toNat_lt
  rw[hq]
  omega
 rw[<-hq]
 have HB:=zAI (al (zze w.heap.size w) (.cells (cellsOf s).toArray 24)) (zDl w (cellsOf s).toArray 24 _ rfl)
 have heq:=fun w=>yGi s (mkS b) w
 have hvq:=yG1 hq
 obtain⟨V,hV⟩:∃ V,V=Value.agg #[.int .u8 q,.int .u8 0,.int .u8 0,.int .u8 0,.int .u8 0,.int .u8 0,.int .u8 0,.int .u8 0,.int .u8 0,.int .u8 0,.int .u8 0,.int .u8 0,.int .u8 0,.int .u8 0,.int .u8 0,.int .u8 0,.int .u8 0,.int .u8 0,.int .u8 0,.int .u8 0,.int .u8 0,.int .u8 0,.int .u8 0,.int .u8 0,.int .u8 0,.int .u8 0,.int .u8 0,.int .u8 0,.int .u8 0,.int .u8 0,.int .u8 0,.int .u8 0]:=⟨_,rfl⟩
 obtain⟨d,hd⟩:∃ d,d=decide (s=mkS b):=⟨_,rfl⟩
 rw[<-hd]
 rw[<-hd]at heq
 have heq2:∀ w,(Op.equalIn 10000 24 (.agg (cellsOf s).toArray) (Value.agg #[.int .u8 q,.int .u8 0,.int .u8 0,.int .u8 0,.int .u8 0,.int .u8 0,.int .u8 0,.int .u8 0,.int .u8 0,.int .u8 0,.int .u8 0,.int .u8 0,.int .u8 0,.int .u8 0,.int .u8 0,.int .u8 0,.int .u8 0,.int .u8 0,.int .u8 0,.int .u8 0,.int .u8 0,.int .u8 0,.int .u8 0,.int .u8 0,.int .u8 0,.int .u8 0,.int .u8 0,.int .u8 0,.int .u8 0,.int .u8 0,.int .u8 0,.int .u8 0])).run Tryz.prog w=.ok d w:=fun w=>by rw[hvq];exact heq w
 clear hq hvq hd heq
 go_enter Tryz.func167,Tryz.ntmps167
 go_wp2_with (refine zDe rfl _ rfl w.heap.size 0 rfl s HB.out.2 ?_)
 exact zzJ (zzK rfl _ _ _) rfl ⟨rfl,HB.out.1⟩
end Go.Proofs.YtdkcndgehgmadaaGreatDoor
open Go Go.RowKit
namespace Alm
def Lie(W:World)(base size:Nat)(v:Value)(xs:List (List Value)):Prop :=
 (v=.slice none 0 0/\xs=[])∨∃ g cap,v=.slice (some ⟨g,0,none⟩) xs.length cap/\base<=g/\g<W.heap.size/\xs.length<=cap/\cap<=maxLen/\W.rangeAt g 0 xs.flatten/\W.there g 0 (cap*size)/\∀ x∈xs,x.length=size
theorem Lie.form{W:World}{base size:Nat}{v:Value}{xs:List (List Value)}(h:Lie W base size v xs):∃ a cap,v=.slice a xs.length cap:=by
 rcases h with ⟨rfl,rfl⟩ | ⟨g,cap,rfl,_⟩
 ·exact⟨none,0,rfl⟩
 ·exact⟨_,_,rfl⟩
theorem Lie.lt{W:World}{base size:Nat}{v:Value}{xs:List (List Value)}(h:Lie W base size v xs):∀ k,v.ownBlock=some k->base<=k/\k<W.heap.size:=by
 intro k hk
 rcases h with ⟨rfl,_⟩ | ⟨g,cap,rfl,hb,hg,_⟩
 ·cases hk
 ·obtain rfl:g=k:=by simpa[Value.ownBlock]using hk
  exact⟨hb,hg⟩
theorem Lie.each{W:World}{base size:Nat}{v:Value}{xs:List (List Value)}(h:Lie W base size v xs):∀ x∈xs,x.length=size:=by
 rcases h with ⟨_,rfl⟩ | ⟨g,cap,_,_,_,_,_,_,_,hl⟩
 ·intro x hx;cases hx
 ·exact hl
theorem zL8{size:Nat}:∀ {xs:List (List Value)},(∀ x∈xs,x.length=size)->xs.flatten.length=xs.length*size
 | [],_=>by simp
 | x::xs,h=>by
  rw[List.flatten_cons,zzi,h x (by simp),zL8 (fun y hy=>h y (by simp[hy])),zzA,Nat.add_mul,Nat.one_mul,Nat.add_comm]
theorem Lie.keep{X:Nat->Prop}{W W':World}{base size:Nat}{v:Value}{xs:List (List Value)}(h:Lie W base size v xs)(hk:zDj X W W')(hx:∀ k,v.ownBlock=some k->¬X k):Lie W' base size v xs:=by
 rcases h with h | ⟨g,cap,hv,hb,hg,hnc,hcm,hr,ht,hl⟩
 ·exact .inl h
 ·have hxg:¬X g:=hx g (by rw[hv];rfl)
  refine .inr ⟨g,cap,hv,hb,zzF hg hk.size,hnc,hcm,hk.range hr hxg,?_,hl⟩
  rcases Nat.eq_zero_or_pos (cap*size)with h0 | h0
  ·rw[h0];intro j hj;omega
  ·exact hk.there ht h0 hxg
theorem Lie.below{W W':World}{base size:Nat}{v:Value}{xs:List (List Value)}(h:Lie W base size v xs)(hb:Below W.heap.size W W'):Lie W' base size v xs:=h.keep (zK hb) (fun _ _ h=>h)
theorem Lie.mono{W:World}{base base' size:Nat}{v:Value}{xs:List (List Value)}(h:Lie W base size v xs)(hb:base'<=base):Lie W base' size v xs:=by
 rcases h with h | ⟨g,cap,hv,h1,r⟩
 ·exact .inl h
 ·exact .inr ⟨g,cap,hv,zzk hb h1,r⟩
theorem zJw{size:Nat}{xs:List (List Value)}(h:∀ x∈xs,x.length=size){k:Nat}(hk:k<xs.length):xs.flatten=(xs.take k).flatten++(xs[k]++(xs.drop (k+1)).flatten)/\(xs.take k).flatten.length=k*size:=by
 constructor
 ·conv=>lhs;rw[<-zz1 k xs,zz2 hk]
  rw[List.flatten_append,List.flatten_cons]
 ·rw[zL8 (fun x hx=>h x (List.mem_of_mem_take hx)),zzq,Nat.min_eq_left (by omega)]
theorem Lie.set{W:World}{base size g n cap:Nat}{xs:List (List Value)}(h:Lie W base size (.slice (some ⟨g,0,none⟩) n cap) xs){k:Nat}(hk:k<xs.length){c:List Value}(hc:c.length=size):Lie (W.setCells g (k*size) c) base size (.slice (some ⟨g,0,none⟩) n cap) (xs.set k c):=by
 rcases h with ⟨h0,_⟩ | ⟨g',cap',hv,hb,hg,hnc,hcm,hr,ht,hl⟩
 ·cases h0
 ·simp only[zzh,zzj,zye,and_true,true_and]at hv
  obtain⟨rfl,rfl,rfl⟩:=hv
  obtain⟨e1,e2⟩:=zJw hl hk
  have hkc:k*size+size<=cap*size:=by
   have:(k+1)*size<=cap*size:=Nat.mul_le_mul_right _ (by omega)
   rwa[Nat.add_mul,Nat.one_mul]at this
  have hl':∀ x∈xs.set k c,x.length=size:=fun x hx=>by
   rcases List.mem_or_eq_of_mem_set hx with h | h
   ·exact hl x h
   ·rw[h];exact hc
  have hk':k<(xs.set k c).length:=by rw[List.length_set];exact hk
  obtain⟨f1,f2⟩:=zJw hl' hk'
  refine .inr ⟨g,cap,by rw[List.length_set],hb,by rw[zH7];exact hg,by rw[List.length_set];exact hnc,hcm,?_,zzd ht _ _ _,hl'⟩
  rw[f1,List.take_set_of_le (zzc k),List.getElem_set_self,List.drop_set_of_lt (by omega)]
  rw[e1]at hr
  obtain⟨r1,r2⟩:=zD9.1 hr
  obtain⟨r3,r4⟩:=zD9.1 r2
  rw[hl xs[k] (List.getElem_mem hk)]at r4
  rw[zzn,e2]at r4
  refine zD9.2 ⟨zzz r1 _ _ _ (.inr (.inl (by rw[e2];omega))),zD9.2 ⟨?_,?_⟩⟩
  ·rw[e2,zzn]
   refine zDd _ _ _ _ (zzd (fun j hj=>?_) _ _ _)
   have:=ht (k*size+j) (by omega)
   rwa[zzn]at this
  ·rw[e2,zzn,hc]
   exact zzz r4 _ _ _ (.inr (.inr (by rw[hc];exact zzc _)))
theorem Lie.front{W:World}{base size n m cap:Nat}{a:Option Addr}{xs ys:List (List Value)}(h:Lie W base size (.slice a (n+m) cap) (xs++ys))(hn:xs.length=n):Lie W base size (.slice a n cap) xs:=by
 rcases h with ⟨h0,h1⟩ | ⟨g,cap',hv,hb,hg,hnc,hcm,hr,ht,hl⟩
 ·obtain⟨rfl,rfl⟩:=List.append_eq_nil_iff.1 h1
  simp only[zzh]at h0
  obtain⟨rfl,h2,rfl⟩:=h0
  exact .inl ⟨by congr 1;exact hn.symm,rfl⟩
 ·simp only[zzh]at hv
  obtain⟨rfl,hnm,rfl⟩:=hv
  rw[zzi]at hnc hnm
  rw[List.flatten_append]at hr
  exact .inr ⟨g,cap,by rw[hn],hb,hg,by omega,hcm,(zD9.1 hr).1,ht,fun x hx=>hl x (by simp[hx])⟩
theorem zNk{W:World}{base size n:Nat}{e:TypeId}{v:Value}{xs:List (List Value)}(h:W.ownsRow base e size v n xs.flatten)(hn:xs.length=n)(hl:∀ x∈xs,x.length=size):Lie W base size v xs:=by
 rcases h.2 with ⟨rfl,h0⟩ | ⟨g,cap,cur,rfl,hb,hg,hnc,hcm,hsz,htk⟩
 ·exact .inl ⟨rfl,List.eq_nil_of_length_eq_zero (by omega)⟩
 ·refine .inr ⟨g,cap,by rw[hn],hb,(zzv.1 hg).1,by omega,hcm,fun j v hj=>?_,fun j hj=>⟨?_,frozen_of_row W g _ _ _ hg⟩,hl⟩
  ·rw[cell_of_row W g _ cur e (0,0) hg,zzn]
   rw[<-htk,List.getElem?_take]at hj
   split at hj
   ·simpa using hj
   ·cases hj
  ·rw[cell_of_row W g (0+j) _ _ (0,0) hg,zzn,zz9 (by omega)]
   rfl
structure zF0(W:World)(base size B:Nat)(v0:Value)(xs:List (List Value))(v:Value)(ys:List (List Value)):Prop where
 now:Lie W base size v (xs++ys)
 old:Lie W base size v0 xs
 lo:∀ k,v0.ownBlock=some k->k<B
 how:(∃ a cap,v0=.slice a xs.length cap/\v=.slice a (xs.length+ys.length) cap)∨∃ b,v.ownBlock=some b/\B<=b
theorem zF0.start{W:World}{base size B:Nat}{v:Value}{xs:List (List Value)}(h:Lie W base size v xs)(hB:W.heap.size<=B):zF0 W base size B v xs v []:=by
 obtain⟨a,cap,hv⟩:=h.form
 exact⟨by rw[List.append_nil];exact h,h,fun k hk=>zzF (h.lt k hk).2 hB,.inl ⟨a,cap,hv,hv⟩⟩
theorem zF0.keep{X:Nat->Prop}{W W':World}{base size B:Nat}{v0 v:Value}{xs ys:List (List Value)}(h:zF0 W base size B v0 xs v ys)(hk:zDj X W W')(h0:∀ k,v0.ownBlock=some k->¬X k)(h1:∀ k,v.ownBlock=some k->¬X k):zF0 W' base size B v0 xs v ys :=
 ⟨h.now.keep hk h1,h.old.keep hk h0,h.lo,h.how⟩
theorem zF0.below{W W':World}{base size B:Nat}{v0 v:Value}{xs ys:List (List Value)}(h:zF0 W base size B v0 xs v ys)(hb:Below W.heap.size W W'):zF0 W' base size B v0 xs v ys :=
 h.keep (zK hb) (fun _ _ h=>h) (fun _ _ h=>h)
theorem zF0.block{W:World}{base size B:Nat}{v0 v:Value}{xs ys:List (List Value)}(h:zF0 W base size B v0 xs v ys):∀ k,v.ownBlock=some k->v0.ownBlock=some k∨B<=k:=by
 intro k hk
 rcases h.how with ⟨a,cap,h0,h1⟩ | ⟨b,h1,h2⟩
 ·left
  rw[h0]
  rw[h1]at hk
  cases a with
  | none=>cases hk
  | some a=>exact hk
 ·rw[h1]at hk
  right
  simp only[zzj]at hk
  omega
section
variable {P : Program}
theorem zIp{w:World}{o:Oper}{a:Act}{K:Act->World->Prop}{Q:Exit->Act->World->Prop}(s x:Operand)(t:TypeId)
  (ho:o.op=.call { callee:=.builtin .append,args:=#[s,x],argTypes:=#[t,t] })
  (e:TypeId) (i:TypeInfo) (z:Value) (size bytes:Nat) (ht:P.underlying t=some (.slice e)) (hi:P.info? e=some i) (hz:i.zero=some z)
  (hsize:i.size=size) (hby:i.bytes=bytes) (hzs:z.cells.size=size) (hsz:0<size) (hb2:bytes<=1000000)
  {base B:Nat} {v0 v:Value} {xs ys:List (List Value)} (hs:a.eval s=v) (hG:zF0 w base size B v0 xs v ys) (hbB:base<=B) (hB:B<=w.heap.size)
  (ad:Addr) (c:Nat) (y:List Value) (hx:a.eval x=.slice (some ad) 1 c) (hy:y.length=size) (hc:∀ j u,y[j]? = some u->w.cell? (ad.add j)=some u) (h1:∀ u∈y,u.oneCell'=true)
  (hl:xs.length+ys.length<1000000)
  (h:∀ v' w',zF0 w' base size B v0 xs v' (ys++[y])->zDj (fun k=>v0.ownBlock=some k∨B<=k) w w'->(∃ a c,v'=.slice a (xs.length+ys.length+1) c)->K (a.put o.dst v') w'):o.wp P a w K Q:=by
 have hlY:∀ z∈xs++(ys++[y]),z.length=size:=fun z hz=>by
  rw[<-List.append_assoc]at hz
  rcases zzL.1 hz with h | h
  ·exact hG.now.each z h
  ·rw[zzw.1 h];exact hy
 have hfl:((xs++(ys++[y])).flatten)=(xs++ys).flatten++y:=by simp
 have hlen:(xs++ys).length=xs.length+ys.length:=zzi
 have hlf:=zL8 hG.now.each
 have new:∀ v' w',w'.ownsRow w.heap.size e size v' ((xs++ys).length+1) ((xs++ys).flatten++y)->w.grownBy w' none->K (a.put o.dst v') w':=by
  intro v' w' r1 r2
  have hk:zDj (fun _=>False) w w':=zDj.of_grown r2 (fun k hk=>by cases hk)
  rw[<-hfl]at r1
  have hlie:=zNk r1 (by simp;omega) hlY
  have hform:∃ a c,v'=.slice a (xs.length+ys.length+1) c:=by
   obtain⟨a,c,h⟩:=hlie.form
   exact⟨a,c,by rw[h];congr 1;simp;omega⟩
  have hblk:∃ b,v'.ownBlock=some b/\w.heap.size<=b:=by
   rcases r1.2 with ⟨_,h0⟩ | ⟨g,cap,cur,rfl,hb,_⟩
   ·omega
   ·exact⟨g,rfl,hb⟩
  obtain⟨b,hb,hb'⟩:=hblk
  exact h v' w' ⟨hlie.mono (zzk hbB hB),hG.old.keep hk (fun _ _ h=>h),hG.lo,.inr ⟨b,hb,zzk hB hb'⟩⟩ (hk.mono fun _ h=>h.elim) hform
 have hm1:(xs++ys).length+1<=maxLen:=by rw[hlen];unfold maxLen;omega
 have hm2:((xs++ys).length+1)*bytes<=140737488355328:=by
  have:((xs++ys).length+1)*bytes<=1000000*1000000:=Nat.mul_le_mul (by omega) hb2
  omega
 rcases hG.now with ⟨hv,h0⟩ | ⟨g,cap,hv,hb,hg,hnc,hcm,hr,hth,hle⟩
 ·obtain⟨v',w',hrun,r1,r2,_⟩:=run_append_own (P:=P) w w.heap.size t o.type e i z size bytes ht hi hz hsize hby hzs hsz (.slice none 0 0) 0 [] (World.ownsRow_nil w _ e size) ad 1 c y (by omega) hc h1 (by unfold maxLen;omega) (by omega) (zzc _)
  rw[hv]at hs
  unfold Oper.wp
  simp[execOp,ho,resolve,invoke,builtin,hs,hx,hrun,Result.andThen]
  rw[h0]at new
  exact new v' w' (by simpa using r1) r2
 ·by_cases hroom:(xs++ys).length+1<=cap
  ·subst hsize
   have hkc:(xs++ys).length*i.size+i.size<=cap*i.size:=by
    have:((xs++ys).length+1)*i.size<=cap*i.size:=Nat.mul_le_mul_right _ hroom
    rwa[Nat.add_mul,Nat.one_mul]at this
   have hrun:=run_append_room_cells (P:=P) w t o.type e i ht hi g 0 (xs++ys).length cap ad 1 c y (by rw[hy,Nat.one_mul]) hc h1 hroom
    (fun j hj=>by have:=(hth ((xs++ys).length*i.size+j) (by omega)).1;rwa[<-Nat.add_assoc]at this) (fun j hj=>by have:=(hth ((xs++ys).length*i.size+j) (by omega)).2;rwa[<-Nat.add_assoc]at this)
   have hs':=hs
   rw[hv]at hs'
   unfold Oper.wp
   simp only[execOp,ho,resolve,invoke,builtin,List.map_toArray,zz6,zyc,hs',hx,Sem.run_bind,Sem.run_pure,Result.andThen_ok,hrun]
   rw[zzn]
   have hk:zDj (fun k=>k=g) w (w.setCells g ((xs++ys).length*i.size) y):=by
    have:∀ (vs:List Value) (o:Nat) (w:World),zDj (fun k=>k=g) w (w.setCells g o vs):=by
     intro vs
     induction vs with
     | nil=>intro o w;exact zDj.refl _ _
     | cons v r ih =>
      intro o w
      rw[World.setCells]
      exact ((zDj.refl (fun k=>k=g) w).setCell (p:=⟨g,o,none⟩) (.inl rfl) v).trans (ih (o+1) _)
    exact this _ _ _
   have hnow:Lie (w.setCells g ((xs++ys).length*i.size) y) base i.size (.slice (some ⟨g,0,none⟩) ((xs++ys).length+1) cap) (xs++(ys++[y])):=by
    refine .inr ⟨g,cap,by congr 1;simp;omega,hb,by rw[zH7];exact hg,by simp;simp at hroom;omega,hcm,?_,zzd hth _ _ _,hlY⟩
    rw[hfl]
    refine zD9.2 ⟨zzz hr _ _ _ (.inr (.inl (by rw[hlf];omega))),?_⟩
    rw[zzn,hlf]
    refine zDd _ _ _ _ (zzd (fun j hj=>?_) _ _ _)
    have:=hth ((xs++ys).length*i.size+j) (by omega)
    rwa[zzn]at this
   have hg0:v0.ownBlock=some g∨B<=g:=hG.block g (by rw[hv];rfl)
   refine h _ _ ⟨hnow,?_,hG.lo,?_⟩ (hk.mono fun k hk=>by subst hk;exact hg0) ⟨_,_,by rw[hlen]⟩
   ·rcases hG.how with ⟨a',cap',e0,e1⟩ | ⟨b,e1,e2⟩
    ·rw[hv]at e1
     simp only[zzh]at e1
     obtain⟨rfl,_,rfl⟩:=e1
     rw[e0]
     refine Lie.front (m:=ys.length+1) (ys:=ys++[y]) ?_ rfl
     have e:(xs++ys).length+1=xs.length+(ys.length+1):=by rw[hlen,Nat.add_assoc]
     rw[<-e]
     exact hnow
    ·refine hG.old.keep hk (fun k hk2 e=>?_)
     subst e
     have hlt:=hG.lo _ hk2
     rw[hv]at e1
     simp only[Value.ownBlock,zzj]at e1
     omega
   ·rcases hG.how with ⟨a',cap',e0,e1⟩ | ⟨b,e1,e2⟩
    ·rw[hv]at e1
     simp only[zzh]at e1
     obtain⟨rfl,_,rfl⟩:=e1
     exact .inl ⟨_,_,e0,by rw[hlen,zzi,zzx,Nat.add_assoc]⟩
    ·exact .inr ⟨b,by rw[<-e1,hv];rfl,e2⟩
  ·obtain⟨v',w',hrun,r1,r2⟩:=run_append_arg_grows (P:=P) w t o.type e i z size bytes ht hi hz hsize hby hzs hsz ⟨g,0,none⟩ (xs++ys).length cap (xs++ys).flatten hlf (fun j u hj=>by rw[Addr.add_lit];exact hr j u hj) ad 1 c y (by rw[hy,Nat.one_mul]) hc (by omega) hm1 hm2
   rw[hv]at hs
   unfold Oper.wp
   simp only[execOp,ho,resolve,invoke,builtin,List.map_toArray,zz6,zyc,hs,hx,Sem.run_bind,Sem.run_pure,Result.andThen_ok,hrun]
   exact new v' w' r1 r2
end
end Alm
namespace Alm
abbrev zEw:=Value×Value×Nat
def zDw(h:zEw):List Value:=[h.1,h.2.1,.int .i64 ((h.2.2:Nat):Int)]
def zEv(l:List zEw):List Value:=l.flatMap zDw
theorem zFn(h:zEw):(zDw h).length=3:=rfl
theorem zP3(l:List zEw):(zEv l).length=3*l.length:=by
 induction l with
 | nil=>rfl
 | cons x l ih=>rw[zEv,List.flatMap_cons,zzi,zFn];rw[zEv]at ih;rw[ih,zzA];omega
theorem zJg(a b:List zEw):zEv (a++b)=zEv a++zEv b:=by simp[zEv]
theorem zMb(h:zEw):zEv [h]=zDw h:=by simp[zEv]
theorem zHs(b:Nat):∀ (vs:List Value) (o:Nat) (w:World),zDj (·=b) w (w.setCells b o vs)
 | [],_,_=>zDj.refl _ _
 | v::r,o,w=>by
  rw[World.setCells]
  exact ((zDj.refl (·=b) w).setCell (p:=⟨b,o,none⟩) (.inl rfl) v).trans (zHs b r (o+1) _)
theorem zM9{W:World}{b o:Nat}{v:Value}(h:W.cell? ⟨b,o,none⟩=some v):W.rangeAt b o [v]:=fun j u hj=>by
 cases j with
 | zero =>
  simp only[List.getElem?_cons_zero,zzj]at hj
  rw[<-hj];exact h
 | succ j=>simp at hj
structure zGx(W:World)(q n:Nat)(F:Nat->Value):Prop where
 th:W.there q 0 10
 cn:W.cell? ⟨q,0,none⟩=some (.int .i64 ((n:Nat):Int))
 cs:∀ j,1<=j->j<10->W.cell? ⟨q,j,none⟩=some (F j)
theorem zGx.lt{W:World}{q n:Nat}{F:Nat->Value}(h:zGx W q n F):q<W.heap.size:=zFi h.th (by omega)
theorem zGx.keep{X:Nat->Prop}{W W':World}{q n:Nat}{F:Nat->Value}(h:zGx W q n F)(hk:zDj X W W')(hq:¬X q):zGx W' q n F :=
 ⟨hk.there h.th (by decide) hq,hk.cell h.cn hq,fun j h1 h2=>hk.cell (h.cs j h1 h2) hq⟩
theorem zGx.below{W W':World}{q n:Nat}{F:Nat->Value}(h:zGx W q n F)(hb:Below W.heap.size W W'):zGx W' q n F:=h.keep (zK hb) id
theorem zGx.count{W:World}{q n:Nat}{F:Nat->Value}(h:zGx W q n F)(m:Nat):zGx (W.setCell ⟨q,0,none⟩ (.int .i64 ((m:Nat):Int))) q m F:=by
 have ht:=zzd h.th q 0 [.int .i64 ((m:Nat):Int)]
 refine⟨ht,?_,fun j h1 h2=>?_⟩
 ·exact zDd q [.int .i64 ((m:Nat):Int)] 0 W (fun j hj=>by have:=ht j (by simp at hj;omega);exact this) 0 _ rfl
 ·exact zzz (zM9 (h.cs j h1 h2)) q 0 [.int .i64 ((m:Nat):Int)] (by right;right;simpa using h1) 0 _ rfl
def put(F:Nat->Value)(k:Nat)(v:Value):Nat->Value:=fun j=>if j=k then v else F j
theorem zJ6(F:Nat->Value)(k:Nat)(v:Value):put F k v k=v:=zzS rfl
theorem zHt(F:Nat->Value){j k:Nat}(v:Value)(h:j≠k):put F k v j=F j:=zzT h
theorem zGx.list{W:World}{q n:Nat}{F:Nat->Value}(h:zGx W q n F){k:Nat}(h1:1<=k)(h2:k<10)(v:Value):zGx (W.setCell ⟨q,k,none⟩ v) q n (put F k v):=by
 have ht:=zzd h.th q k [v]
 refine⟨ht,?_,fun j h3 h4=>?_⟩
 ·exact zzz (zM9 h.cn) q k [v] (by right;left;simpa using h1) 0 _ rfl
 ·by_cases e:j=k
  ·subst e
   rw[zJ6]
   exact zDd q [v] j W (fun i hi=>by have:=ht (j+i) (by simp at hi;omega);rwa[zzn]at this) 0 _ rfl
  ·rw[zHt F v e]
   exact zzz (zM9 (h.cs j h3 h4)) q k [v] (by right;simp;omega) 0 _ rfl
def hd(H:List zEw)(i:Nat):zEw:=H.getD i (.slice none 0 0,.slice none 0 0,0)
def lst(H:List zEw)(i:Nat):Value:=(hd H i).1
def lng(H:List zEw)(i:Nat):Value:=(hd H i).2.1
def num(H:List zEw)(i:Nat):Nat:=(hd H i).2.2
def zIw(W:World)(t:TypeId)(base q:Nat)(hv:Value)(H:List zEw):Prop:=W.ownsRow base t 3 hv H.length (zEv H)/\hv.ownBlock≠some q
theorem zIw.keep{X:Nat->Prop}{W W':World}{t:TypeId}{base q:Nat}{hv:Value}{H:List zEw}(h:zIw W t base q hv H)(hk:zDj X W W')(hx:∀ k,hv.ownBlock=some k->¬X k):zIw W' t base q hv H:=⟨hk.owns h.1 hx,h.2⟩
theorem zIw.below{W W':World}{t:TypeId}{base q:Nat}{hv:Value}{H:List zEw}(h:zIw W t base q hv H)(hb:Below W.heap.size W W'):zIw W' t base q hv H:=h.keep (zK hb) (fun _ _ h=>h)
theorem zIw.form{W:World}{t:TypeId}{base q:Nat}{hv:Value}{H:List zEw}(h:zIw W t base q hv H):∃ a c,hv=.slice a H.length c:=by
 rcases h.1.2 with ⟨h1,h2⟩ | ⟨g,cap,cur,h1,_⟩
 ·exact⟨none,0,by rw[h2];exact h1⟩
 ·exact⟨_,_,h1⟩
theorem yGk{w:World}{base:Nat}{e:TypeId}{size:Nat}{v:Value}{n:Nat}{xs:List Value}(h:w.ownsRow base e size v n xs)(hn:1<=n):∃ g cap,v=.slice (some ⟨g,0,none⟩) n cap/\n<=cap/\cap<=maxLen/\base<=g/\g<w.heap.size/\w.rangeAt g 0 xs:=by
 rcases h.2 with ⟨rfl,h0⟩ | ⟨g,cap,cur,rfl,h4,hg,hnc,hcm,hsz,htk⟩
 ·omega
 ·refine⟨g,cap,rfl,hnc,hcm,h4,(zzv.1 hg).1,fun j v hj=>?_⟩
  rw[cell_of_row w g _ cur e (0,0) hg,zzn]
  rw[<-htk,List.getElem?_take]at hj
  split at hj
  ·simpa using hj
  ·cases hj
theorem yDs{W:World}{g o:Nat}:∀ {H:List zEw} {i:Nat},W.rangeAt g o (zEv H)->i<H.length->W.rangeAt g (o+i*3) (zDw (hd H i))
 | [],i,_,hi=>by simp at hi
 | h::H,0,hr,_=>(zD9.1 (show W.rangeAt g o (zDw h++zEv H) from hr)).1
 | h::H,i+1,hr,hi=>by
  have h1:=(zD9.1 (show W.rangeAt g o (zDw h++zEv H) from hr)).2
  rw[zFn]at h1
  have h2:=yDs (i:=i) h1 (by simpa using hi)
  rw[show o+(i+1)*3=o+3+i*3 by omega]
  exact h2
theorem zIw.at{W:World}{t:TypeId}{base q:Nat}{hv:Value}{H:List zEw}(h:zIw W t base q hv H){i:Nat}(hi:i<H.length):∃ g c,hv=.slice (some ⟨g,0,none⟩) H.length c/\base<=g/\g<W.heap.size/\g≠q/\W.rangeAt g (i*3) (zDw (hd H i)):=by
 obtain⟨g,c,hv',_,_,hb,hg,hr⟩:=yGk h.1 (by omega)
 refine⟨g,c,hv',hb,hg,fun e=>h.2 (by rw[hv',e];rfl),?_⟩
 have:=yDs hr hi
 rwa[zzn]at this
def zJq(W:World)(base size:Nat)(H:List zEw)(S:Nat->List (List Value)):Prop:=∀ i,i<H.length->Lie W base size (lst H i) (S i)
def zI5(H:List zEw)(q:Nat)(hv:Value):Prop:=∀ i,i<H.length->∀ g,(lst H i).ownBlock=some g->g≠q/\hv.ownBlock≠some g/\∀ j,j<H.length->j≠i->(lst H j).ownBlock≠some g
def InH(H:List zEw)(k:Nat):Prop:=∃ i,i<H.length/\(lst H i).ownBlock=some k
def zFe(mk:Nat->List Value)(H:List zEw)(S:Nat->List (List Value))(i k:Nat):Nat->List (List Value):=fun j=>if j<i then List.replicate (S j).length (mk (num H j)) else if j=i then List.replicate k (mk (num H i))++(S i).drop k else S j
theorem zPa(mk:Nat->List Value)(H:List zEw)(S:Nat->List (List Value)):zFe mk H S 0 0=S:=by
 funext j
 unfold zFe
 rw[zzT (by omega)]
 by_cases h:j=0
 ·rw[zzS h,h];rfl
 ·rw[zzT h]
theorem zO7(mk:Nat->List Value)(H:List zEw)(S:Nat->List (List Value))(i:Nat):zFe mk H S i (S i).length=zFe mk H S (i+1) 0:=by
 funext j
 unfold zFe
 by_cases h:j<i
 ·rw[zzS h,zzS (by omega)]
 ·by_cases e:j=i
  ·rw[zzT h,zzS e,zzS (by omega),e,List.drop_length,List.append_nil]
  ·rw[zzT h,zzT e,zzT (by omega)]
   by_cases e2:j=i+1
   ·rw[zzS e2,e2];rfl
   ·rw[zzT e2]
theorem zJ8(mk:Nat->List Value)(H:List zEw)(S:Nat->List (List Value))(i k j:Nat)(hk:k<=(S i).length):(zFe mk H S i k j).length=(S j).length:=by
 unfold zFe
 by_cases h:j<i
 ·rw[zzS h,zzN]
 ·by_cases e:j=i
  ·rw[zzT h,zzS e,zzi,zzN,zz0,e];omega
  ·rw[zzT h,zzT e]
theorem zYt(mk:Nat->List Value)(H:List zEw)(S:Nat->List (List Value))(i k:Nat)(hk:k<(S i).length):(zFe mk H S i k i).set k (mk (num H i))=zFe mk H S i (k+1) i:=by
 unfold zFe
 rw[zzT (Nat.lt_irrefl i),zzS rfl,zzT (Nat.lt_irrefl i),zzS rfl]
 rw[List.set_append_right _ _ (by simp),zzN,Nat.sub_self,zz2 hk,List.set_cons_zero,List.replicate_succ',List.append_assoc]
 rfl
theorem zS3(mk:Nat->List Value)(H:List zEw)(S:Nat->List (List Value))(i k j:Nat)(hj:j≠i):zFe mk H S i k j=zFe mk H S i (k+1) j:=by
 unfold zFe
 by_cases h:j<i
 ·rw[zzS h,zzS h]
 ·rw[zzT h,zzT h,zzT hj,zzT hj]
def zLy(mk:Nat->List Value)(H:List zEw)(S:Nat->List (List Value)):Nat->List (List Value):=fun j=>List.replicate (S j).length (mk (num H j))
theorem zOv{W:World}{base size:Nat}{mk:Nat->List Value}{H:List zEw}{S:Nat->List (List Value)}(h:zJq W base size H (zFe mk H S H.length 0)):zJq W base size H (zLy mk H S):=fun i hi=>by
 have:=h i hi
 rwa[zFe,zzS hi]at this
theorem zJq.keep{X:Nat->Prop}{W W':World}{base size:Nat}{H:List zEw}{S:Nat->List (List Value)}(h:zJq W base size H S)(hk:zDj X W W')(hx:∀ k,InH H k->¬X k):zJq W' base size H S:=fun i hi=>(h i hi).keep hk fun k hk2=>hx k ⟨i,hi,hk2⟩
theorem zJq.below{W W':World}{base size:Nat}{H:List zEw}{S:Nat->List (List Value)}(h:zJq W base size H S)(hb:Below W.heap.size W W'):zJq W' base size H S:=h.keep (zK hb) (fun _ _ h=>h)
theorem zW5{W:World}{base size:Nat}{mk:Nat->List Value}{H:List zEw}{S:Nat->List (List Value)}{i k q:Nat}{hv:Value}(h:zJq W base size H (zFe mk H S i k))(ha:zI5 H q hv)(hi:i<H.length)(hk:k<(S i).length)(hm:(mk (num H i)).length=size){g n cap:Nat}(hl:lst H i=.slice (some ⟨g,0,none⟩) n cap):zJq (W.setCells g (k*size) (mk (num H i))) base size H (zFe mk H S i (k+1)):=fun j hj=>by
 have hb:(lst H i).ownBlock=some g:=by rw[hl];rfl
 by_cases e:j=i
 ·subst e
  have h1:=h j hj
  rw[hl]at h1 ⊢
  have h2:=Lie.set h1 (k:=k) (by rw[zJ8 mk H S j k j (by omega)];exact hk) hm
  rwa[zYt mk H S j k hk]at h2
 ·have h1:=(h j hj).keep (zHs g (mk (num H i)) (k*size) W) (fun b hb2 e2=>(ha i hi g hb).2.2 j hj e (by rw[hb2,e2]))
  rwa[zS3 mk H S i k j e]at h1
def zF4(H:List zEw)(L:Nat->Value)(i:Nat):List zEw:=H.mapIdx fun j h=>if j<i then (h.1,L j,h.2.2) else h
theorem zEl(H:List zEw)(L:Nat->Value)(i:Nat):(zF4 H L i).length=H.length:=List.length_mapIdx
theorem zHu(H:List zEw)(L:Nat->Value)(i j:Nat)(hj:j<H.length):hd (zF4 H L i) j=if j<i then (lst H j,L j,num H j) else hd H j:=by
 unfold hd lst num hd zF4
 simp only[zzg,List.getElem?_mapIdx,zzf hj,Option.map_some,Option.getD_some]
theorem zPj(H:List zEw)(L:Nat->Value):zF4 H L 0=H:=by
 apply List.ext_getElem
 ·exact zEl H L 0
 ·intro j h1 h2;simp[zF4]
theorem zP6(H:List zEw)(L:Nat->Value)(i:Nat)(v:Value)(hi:i<H.length):zF4 H (fun j=>if j=i then v else L j) (i+1)=(zF4 H L i).set i (lst H i,v,num H i):=by
 apply List.ext_getElem
 ·rw[List.length_set,zEl,zEl]
 ·intro j h1 h2
  rw[zEl]at h1
  rw[List.getElem_set]
  unfold zF4
  simp only[List.getElem_mapIdx]
  by_cases e:i=j
  ·subst e
   rw[zzS (by omega),zzS rfl,zzS rfl]
   simp[lst,num,hd,zzg,zzf hi]
  ·rw[zzT e]
   by_cases h:j<i
   ·rw[zzS (by omega),zzS h,zzT (by omega)]
   ·rw[zzT (by omega),zzT h]
theorem zO2{H:List zEw}{i:Nat}(hi:i<H.length)(h:zEw):zEv (H.set i h)=(zEv H).take (i*3)++(zDw h++(zEv H).drop (i*3+3)):=by
 have hl:∀ x∈H.map zDw,x.length=3:=fun x hx=>by
  obtain⟨y,_,rfl⟩:=zzM.1 hx
  rfl
 have e:∀ l:List zEw,zEv l=(l.map zDw).flatten:=fun l=>List.flatMap_def
 rw[e,e,List.map_set]
 obtain⟨f1,f2⟩:=zJw (xs:=(H.map zDw).set i (zDw h)) (size:=3) (fun x hx=>by
  rcases List.mem_or_eq_of_mem_set hx with h1 | h1
  ·exact hl x h1
  ·rw[h1];rfl) (k:=i) (by simpa using hi)
 obtain⟨g1,g2⟩:=zJw hl (k:=i) (by simpa using hi)
 rw[f1,List.take_set_of_le (zzc i),List.getElem_set_self,List.drop_set_of_lt (by omega)]
 congr 1
 ·rw[g1,<-g2,List.take_left]
 ·congr 1
  have g3:i*3+3=((List.take i (List.map zDw H)).flatten++(List.map zDw H)[i]'(by simpa using hi)).length:=by rw[zzi,g2,hl _ (List.getElem_mem _)]
  conv=>rhs;rw[g1,<-List.append_assoc,g3,List.drop_left]
theorem zU0{w:World}{base:Nat}{e:TypeId}{size g n cap:Nat}{xs:List Value}(h:w.ownsRow base e size (.slice (some ⟨g,0,none⟩) n cap) n xs)(k:Nat)(u:Value):(w.setCell ⟨g,k,none⟩ u).ownsRow base e size (.slice (some ⟨g,0,none⟩) n cap) n (xs.set k u):=by
 refine⟨by rw[List.length_set];exact h.1,?_⟩
 rcases h.2 with ⟨h0,_⟩ | ⟨g',cap',cur,he,hb,hg,hnc,hcm,hsz,htk⟩
 ·cases h0
 ·simp only[zzh,zzj,zye,and_true,true_and]at he
  obtain⟨rfl,rfl⟩:=he
  exact .inr ⟨g,cap,cur.setIfInBounds k u,rfl,hb,heap_setCell_same w g k _ _ u hg,hnc,hcm,by simpa using hsz,by rw[<-htk,Array.toList_setIfInBounds,List.take_set]⟩
theorem zIw.long{W:World}{t:TypeId}{base q:Nat}{hv:Value}{H:List zEw}(h:zIw W t base q hv H){i:Nat}(hi:i<H.length){g n c:Nat}(hg:hv=.slice (some ⟨g,0,none⟩) n c)(v:Value):zIw (W.setCell ⟨g,i*3+1,none⟩ v) t base q hv (H.set i (lst H i,v,num H i)):=by
 refine⟨?_,h.2⟩
 subst hg
 have hn:n=H.length:=by
  obtain⟨a,c',e⟩:=h.form
  simp only[zzh]at e
  exact e.2.1
 subst hn
 rw[List.length_set]
 have h1:=zU0 h.1 (i*3+1) v
 have e:(zEv H).set (i*3+1) v=zEv (H.set i (lst H i,v,num H i)):=by
  have hl:=zP3 H
  rw[zO2 hi]
  have e2:H=H.set i (hd H i):=by
   unfold hd
   rw[zzg,zzf hi,Option.getD_some,List.set_getElem_self]
  conv=>lhs;rw[e2,zO2 hi]
  have h3:((zEv H).take (i*3)).length=i*3:=by rw[zzq,hl];omega
  rw[List.set_append_right _ _ (by omega),h3,show i*3+1 - i*3=1 by omega]
  rfl
 rwa[e]at h1
end Alm
