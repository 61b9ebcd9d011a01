/- Joined: BK2, BL1, BL2, BL3. -/
import Derived.Test.YtfmgoehnbaiamaaGreatDoorZAS
import Derived.ArgAppend
import Derived.Deep.AppendLies
import Derived.WalkMore
import Derived.Great.BuildSlice
set_option maxRecDepth 100000
set_option maxHeartbeats 1000000
open Go Go.RowKit Alm
namespace Go.Proofs.YtfmgoehnbaiamaaGreatDoor
theorem yGk{q:Int}{b:UInt8}(h:q=((b.toNat:Nat):Int)):(Value.agg #[.int .u8 q,.int .u8 0,.int .u8 0,.int .u8 0,.int .u8 0,.int .u8 0,.int .u8 0,.int .u8 0,.int .u8 0,.int .u8 0,.int .u8 0,.int .u8 0,.int .u8 0,.int .u8 0,.int .u8 0,.int .u8 0,.int .u8 0,.int .u8 0,.int .u8 0,.int .u8 0,.int .u8 0,.int .u8 0,.int .u8 0,.int .u8 0,.int .u8 0,.int .u8 0,.int .u8 0,.int .u8 0,.int .u8 0,.int .u8 0,.int .u8 0,.int .u8 0])=sv (mkS b):=by rw[h];exact yNd b
theorem zRc(b:UInt8)(w:World):Calls Tryz.prog 130 #[.int .i64 ((b.toNat:Nat):Int)] w fun e w'=>e=.returned (sv (mkS b))/\Below w.heap.size w w':=by
 obtain⟨q,hq⟩:∃ q,q=((b.toNat:Nat):Int):=⟨_,rfl⟩
 have hm:q%256=q:=by
  have:=b.toNat_lt
  rw[hq]
  omega
 rw[<-hq]
 have HQ:=zzb hq
 have HB:=zAI (al (zze w.heap.size w) (.cells #[.int .u8 0,.int .u8 0,.int .u8 0,.int .u8 0,.int .u8 0,.int .u8 0,.int .u8 0,.int .u8 0,.int .u8 0,.int .u8 0,.int .u8 0,.int .u8 0,.int .u8 0,.int .u8 0,.int .u8 0,.int .u8 0,.int .u8 0,.int .u8 0,.int .u8 0,.int .u8 0,.int .u8 0,.int .u8 0,.int .u8 0,.int .u8 0,.int .u8 0,.int .u8 0,.int .u8 0,.int .u8 0,.int .u8 0,.int .u8 0,.int .u8 0,.int .u8 0] 24)) (zD5 w #[.int .u8 0,.int .u8 0,.int .u8 0,.int .u8 0,.int .u8 0,.int .u8 0,.int .u8 0,.int .u8 0,.int .u8 0,.int .u8 0,.int .u8 0,.int .u8 0,.int .u8 0,.int .u8 0,.int .u8 0,.int .u8 0,.int .u8 0,.int .u8 0,.int .u8 0,.int .u8 0,.int .u8 0,.int .u8 0,.int .u8 0,.int .u8 0,.int .u8 0,.int .u8 0,.int .u8 0,.int .u8 0,.int .u8 0,.int .u8 0,.int .u8 0,.int .u8 0] 24)
 clear hq
 go_enter Tryz.func130,Tryz.ntmps130
 go_wp2_with (refine zDm rfl _ _ rfl w.heap.size 0 (mkS b) rfl (yGk HQ.out) HB.out.2 ?_)
 exact zzM (zEe Tryz.results130 _ _ _ _ rfl (zzd HB.out.2 _ _ _)) rfl ⟨rfl,zDc _ (zzc _) _ _ _ _ HB.out.1⟩
theorem yGr(s:Sum)(b:UInt8)(w:World):Calls Tryz.prog 139 #[sv s,.int .i64 ((b.toNat:Nat):Int)] w fun e w'=>e=.returned (.bool (decide (s=mkS b)))/\Below w.heap.size w w':=by
 obtain⟨q,hq⟩:∃ q,q=((b.toNat:Nat):Int):=⟨_,rfl⟩
 have hm:q%256=q:=by
  have:=b.toNat_lt
  rw[hq]
  omega
 rw[<-hq]
 have HB:=zAI (al (zze w.heap.size w) (.cells (cellsOf s).toArray 24)) (zDh w (cellsOf s).toArray 24 _ rfl)
 have heq:=fun w=>zYp s (mkS b) w
 have hvq:=yGk hq
 obtain⟨V,hV⟩:∃ V,V=Value.agg #[.int .u8 q,.int .u8 0,.int .u8 0,.int .u8 0,.int .u8 0,.int .u8 0,.int .u8 0,.int .u8 0,.int .u8 0,.int .u8 0,.int .u8 0,.int .u8 0,.int .u8 0,.int .u8 0,.int .u8 0,.int .u8 0,.int .u8 0,.int .u8 0,.int .u8 0,.int .u8 0,.int .u8 0,.int .u8 0,.int .u8 0,.int .u8 0,.int .u8 0,.int .u8 0,.int .u8 0,.int .u8 0,.int .u8 0,.int .u8 0,.int .u8 0,.int .u8 0]:=⟨_,rfl⟩
 obtain⟨d,hd⟩:∃ d,d=decide (s=mkS b):=⟨_,rfl⟩
 rw[<-hd]
 rw[<-hd]at heq
 have heq2:∀ w,(Op.equalIn 10000 24 (.agg (cellsOf s).toArray) (Value.agg #[.int .u8 q,.int .u8 0,.int .u8 0,.int .u8 0,.int .u8 0,.int .u8 0,.int .u8 0,.int .u8 0,.int .u8 0,.int .u8 0,.int .u8 0,.int .u8 0,.int .u8 0,.int .u8 0,.int .u8 0,.int .u8 0,.int .u8 0,.int .u8 0,.int .u8 0,.int .u8 0,.int .u8 0,.int .u8 0,.int .u8 0,.int .u8 0,.int .u8 0,.int .u8 0,.int .u8 0,.int .u8 0,.int .u8 0,.int .u8 0,.int .u8 0,.int .u8 0])).run Tryz.prog w=.ok d w:=fun w=>by rw[hvq];exact heq w
 clear hq hvq hd heq
 go_enter Tryz.func139,Tryz.ntmps139
 go_wp2_with (refine zDb rfl _ rfl w.heap.size 0 rfl s HB.out.2 ?_)
 exact zzM (zzN rfl _ _ _) rfl ⟨rfl,HB.out.1⟩
end Go.Proofs.YtfmgoehnbaiamaaGreatDoor
open Go Go.RowKit
namespace Alm
def Lie(W:World)(base size:Nat)(v:Value)(xs:List (List Value)):Prop :=
 (v=.slice none 0 0/\xs=[])∨∃ g cap,v=.slice (some ⟨g,0,none⟩) xs.length cap/\base<=g/\g<W.heap.size/\xs.length<=cap/\cap<=maxLen/\W.rangeAt g 0 xs.flatten/\W.there g 0 (cap*size)/\∀ x∈xs,x.length=size
theorem Lie.form{W:World}{base size:Nat}{v:Value}{xs:List (List Value)}(h:Lie W base size v xs):∃ a cap,v=.slice a xs.length cap:=by
 rcases h with ⟨rfl,rfl⟩ | ⟨g,cap,rfl,_⟩
 ·exact⟨none,0,rfl⟩
 ·exact⟨_,_,rfl⟩
theorem Lie.lt{W:World}{base size:Nat}{v:Value}{xs:List (List Value)}(h:Lie W base size v xs):∀ k,v.ownBlock=some k->base<=k/\k<W.heap.size:=by
 intro k hk
 rcases h with ⟨rfl,_⟩ | ⟨g,cap,rfl,hb,hg,_⟩
 ·cases hk
 ·obtain rfl:g=k:=by simpa[Value.ownBlock]using hk
  exact⟨hb,hg⟩
theorem Lie.each{W:World}{base size:Nat}{v:Value}{xs:List (List Value)}(h:Lie W base size v xs):∀ x∈xs,x.length=size:=by
 rcases h with ⟨_,rfl⟩ | ⟨g,cap,_,_,_,_,_,_,_,hl⟩
 ·intro x hx;cases hx
 ·exact hl
theorem zNd{size:Nat}:∀ {xs:List (List Value)},(∀ x∈xs,x.length=size)->xs.flatten.length=xs.length*size
 | [],_=>by simp
 | x::xs,h=>by
  rw[List.flatten_cons,zzi,h x (by simp),zNd (fun y hy=>h y (by simp[hy])),zzB,Nat.add_mul,Nat.one_mul,Nat.add_comm]
theorem Lie.keep{X:Nat->Prop}{W W':World}{base size:Nat}{v:Value}{xs:List (List Value)}(h:Lie W base size v xs)(hk:zDj X W W')(hx:∀ k,v.ownBlock=some k->¬X k):Lie W' base size v xs:=by
 rcases h with h | ⟨g,cap,hv,hb,hg,hnc,hcm,hr,ht,hl⟩
 ·exact .inl h
 ·have hxg:¬X g:=hx g (by rw[hv];rfl)
  refine .inr ⟨g,cap,hv,hb,zzH hg hk.size,hnc,hcm,hk.range hr hxg,?_,hl⟩
  rcases Nat.eq_zero_or_pos (cap*size)with h0 | h0
  ·rw[h0];intro j hj;omega
  ·exact hk.there ht h0 hxg
theorem Lie.below{W W':World}{base size:Nat}{v:Value}{xs:List (List Value)}(h:Lie W base size v xs)(hb:Below W.heap.size W W'):Lie W' base size v xs:=h.keep (zK hb) (fun _ _ h=>h)
theorem Lie.mono{W:World}{base base' size:Nat}{v:Value}{xs:List (List Value)}(h:Lie W base size v xs)(hb:base'<=base):Lie W base' size v xs:=by
 rcases h with h | ⟨g,cap,hv,h1,r⟩
 ·exact .inl h
 ·exact .inr ⟨g,cap,hv,zzk hb h1,r⟩
theorem zK7{size:Nat}{xs:List (List Value)}(h:∀ x∈xs,x.length=size){k:Nat}(hk:k<xs.length):xs.flatten=(xs.take k).flatten++(xs[k]++(xs.drop (k+1)).flatten)/\(xs.take k).flatten.length=k*size:=by
 constructor
 ·conv=>lhs;rw[<-zz8 k xs,zz9 hk]
  rw[List.flatten_append,List.flatten_cons]
 ·rw[zNd (fun x hx=>h x (List.mem_of_mem_take hx)),zzq,Nat.min_eq_left (by omega)]
theorem Lie.set{W:World}{base size g n cap:Nat}{xs:List (List Value)}(h:Lie W base size (.slice (some ⟨g,0,none⟩) n cap) xs){k:Nat}(hk:k<xs.length){c:List Value}(hc:c.length=size):Lie (W.setCells g (k*size) c) base size (.slice (some ⟨g,0,none⟩) n cap) (xs.set k c):=by
 rcases h with ⟨h0,_⟩ | ⟨g',cap',hv,hb,hg,hnc,hcm,hr,ht,hl⟩
 ·cases h0
 ·simp only[zzh,zzj,zyn,and_true]at hv
  obtain⟨rfl,rfl,rfl⟩:=hv
  obtain⟨e1,e2⟩:=zK7 hl hk
  have hkc:k*size+size<=cap*size:=by
   have:(k+1)*size<=cap*size:=Nat.mul_le_mul_right _ (by omega)
   rwa[Nat.add_mul,Nat.one_mul]at this
  have hl':∀ x∈xs.set k c,x.length=size:=fun x hx=>by
   rcases List.mem_or_eq_of_mem_set hx with h | h
   ·exact hl x h
   ·rw[h];exact hc
  have hk':k<(xs.set k c).length:=by rw[List.length_set];exact hk
  obtain⟨f1,f2⟩:=zK7 hl' hk'
  refine .inr ⟨g,cap,by rw[List.length_set],hb,by rw[zHe];exact hg,by rw[List.length_set];exact hnc,hcm,?_,zzd ht _ _ _,hl'⟩
  rw[f1,List.take_set_of_le (zzc k),List.getElem_set_self,List.drop_set_of_lt (by omega)]
  rw[e1]at hr
  obtain⟨r1,r2⟩:=zDt.1 hr
  obtain⟨r3,r4⟩:=zDt.1 r2
  rw[hl xs[k] (List.getElem_mem hk)]at r4
  rw[zzn,e2]at r4
  refine zDt.2 ⟨zzA r1 _ _ _ (.inr (.inl (by rw[e2];omega))),zDt.2 ⟨?_,?_⟩⟩
  ·rw[e2,zzn]
   refine zDf _ _ _ _ (zzd (fun j hj=>?_) _ _ _)
   have:=ht (k*size+j) (by omega)
   rwa[zzn]at this
  ·rw[e2,zzn,hc]
   exact zzA r4 _ _ _ (.inr (.inr (by rw[hc];exact zzc _)))
theorem Lie.front{W:World}{base size n m cap:Nat}{a:Option Addr}{xs ys:List (List Value)}(h:Lie W base size (.slice a (n+m) cap) (xs++ys))(hn:xs.length=n):Lie W base size (.slice a n cap) xs:=by
 rcases h with ⟨h0,h1⟩ | ⟨g,cap',hv,hb,hg,hnc,hcm,hr,ht,hl⟩
 ·obtain⟨rfl,rfl⟩:=List.append_eq_nil_iff.1 h1
  simp only[zzh]at h0
  obtain⟨rfl,h2,rfl⟩:=h0
  exact .inl ⟨by congr 1;exact hn.symm,rfl⟩
 ·simp only[zzh]at hv
  obtain⟨rfl,hnm,rfl⟩:=hv
  rw[zzi]at hnc hnm
  rw[List.flatten_append]at hr
  exact .inr ⟨g,cap,by rw[hn],hb,hg,by omega,hcm,(zDt.1 hr).1,ht,fun x hx=>hl x (by simp[hx])⟩
theorem zP5{W:World}{base size n:Nat}{e:TypeId}{v:Value}{xs:List (List Value)}(h:W.ownsRow base e size v n xs.flatten)(hn:xs.length=n)(hl:∀ x∈xs,x.length=size):Lie W base size v xs:=by
 rcases h.2 with ⟨rfl,h0⟩ | ⟨g,cap,cur,rfl,hb,hg,hnc,hcm,hsz,htk⟩
 ·exact .inl ⟨rfl,List.eq_nil_of_length_eq_zero (by omega)⟩
 ·refine .inr ⟨g,cap,by rw[hn],hb,(zzw.1 hg).1,by omega,hcm,fun j v hj=>?_,fun j hj=>⟨?_,frozen_of_row W g _ _ _ hg⟩,hl⟩
  ·rw[cell_of_row W g _ cur e (0,0) hg,zzn]
   rw[<-htk,List.getElem?_take]at hj
   split at hj
   ·simpa using hj
   ·cases hj
  ·rw[cell_of_row W g (0+j) _ _ (0,0) hg,zzn,zyg (by omega)]
   rfl
structure zHo(W:World)(base size B:Nat)(v0:Value)(xs:List (List Value))(v:Value)(ys:List (List Value)):Prop where
 now:Lie W base size v (xs++ys)
 old:Lie W base size v0 xs
 lo:∀ k,v0.ownBlock=some k->k<B
 how:(∃ a cap,v0=.slice a xs.length cap/\v=.slice a (xs.length+ys.length) cap)∨∃ b,v.ownBlock=some b/\B<=b
theorem zHo.start{W:World}{base size B:Nat}{v:Value}{xs:List (List Value)}(h:Lie W base size v xs)(hB:W.heap.size<=B):zHo W base size B v xs v []:=by
 obtain⟨a,cap,hv⟩:=h.form
 exact⟨by rw[List.append_nil];exact h,h,fun k hk=>zzH (h.lt k hk).2 hB,.inl ⟨a,cap,hv,hv⟩⟩
theorem zHo.keep{X:Nat->Prop}{W W':World}{base size B:Nat}{v0 v:Value}{xs ys:List (List Value)}(h:zHo W base size B v0 xs v ys)(hk:zDj X W W')(h0:∀ k,v0.ownBlock=some k->¬X k)(h1:∀ k,v.ownBlock=some k->¬X k):zHo W' base size B v0 xs v ys :=
 ⟨h.now.keep hk h1,h.old.keep hk h0,h.lo,h.how⟩
theorem zHo.below{W W':World}{base size B:Nat}{v0 v:Value}{xs ys:List (List Value)}(h:zHo W base size B v0 xs v ys)(hb:Below W.heap.size W W'):zHo W' base size B v0 xs v ys :=
 h.keep (zK hb) (fun _ _ h=>h) (fun _ _ h=>h)
theorem zHo.block{W:World}{base size B:Nat}{v0 v:Value}{xs ys:List (List Value)}(h:zHo W base size B v0 xs v ys):∀ k,v.ownBlock=some k->v0.ownBlock=some k∨B<=k:=by
 intro k hk
 rcases h.how with ⟨a,cap,h0,h1⟩ | ⟨b,h1,h2⟩
 ·left
  rw[h0]
  rw[h1]at hk
  cases a with
  | none=>cases hk
  | some a=>exact hk
 ·rw[h1]at hk
  right
  simp only[zzj]at hk
  omega
section
variable {P : Program}
theorem zJ8{w:World}{o:Oper}{a:Act}{K:Act->World->Prop}{Q:Exit->Act->World->Prop}(s x:Operand)(t:TypeId)
  (ho:o.op=.call { callee:=.builtin .append,args:=#[s,x],argTypes:=#[t,t] })
  (e:TypeId) (i:TypeInfo) (z:Value) (size bytes:Nat) (ht:P.underlying t=some (.slice e)) (hi:P.info? e=some i) (hz:i.zero=some z)
  (hsize:i.size=size) (hby:i.bytes=bytes) (hzs:z.cells.size=size) (hsz:0<size) (hb2:bytes<=1000000)
  {base B:Nat} {v0 v:Value} {xs ys:List (List Value)} (hs:a.eval s=v) (hG:zHo w base size B v0 xs v ys) (hbB:base<=B) (hB:B<=w.heap.size)
  (ad:Addr) (c:Nat) (y:List Value) (hx:a.eval x=.slice (some ad) 1 c) (hy:y.length=size) (hc:∀ j u,y[j]? = some u->w.cell? (ad.add j)=some u) (h1:∀ u∈y,u.oneCell'=true)
  (hl:xs.length+ys.length<1000000)
  (h:∀ v' w',zHo w' base size B v0 xs v' (ys++[y])->zDj (fun k=>v0.ownBlock=some k∨B<=k) w w'->(∃ a c,v'=.slice a (xs.length+ys.length+1) c)->K (a.put o.dst v') w'):o.wp P a w K Q:=by
 have hlY:∀ z∈xs++(ys++[y]),z.length=size:=fun z hz=>by
  rw[<-List.append_assoc]at hz
  rcases zzO.1 hz with h | h
  ·exact hG.now.each z h
  ·rw[zzx.1 h];exact hy
 have hfl:((xs++(ys++[y])).flatten)=(xs++ys).flatten++y:=by simp
 have hlen:(xs++ys).length=xs.length+ys.length:=zzi
 have hlf:=zNd hG.now.each
 have new:∀ v' w',w'.ownsRow w.heap.size e size v' ((xs++ys).length+1) ((xs++ys).flatten++y)->w.grownBy w' none->K (a.put o.dst v') w':=by
  intro v' w' r1 r2
  have hk:zDj (fun _=>False) w w':=zDj.of_grown r2 (fun k hk=>by cases hk)
  rw[<-hfl]at r1
  have hlie:=zP5 r1 (by simp;omega) hlY
  have hform:∃ a c,v'=.slice a (xs.length+ys.length+1) c:=by
   obtain⟨a,c,h⟩:=hlie.form
   exact⟨a,c,by rw[h];congr 1;simp;omega⟩
  have hblk:∃ b,v'.ownBlock=some b/\w.heap.size<=b:=by
   rcases r1.2 with ⟨_,h0⟩ | ⟨g,cap,cur,rfl,hb,_⟩
   ·omega
   ·exact⟨g,rfl,hb⟩
  obtain⟨b,hb,hb'⟩:=hblk
  exact h v' w' ⟨hlie.mono (zzk hbB hB),hG.old.keep hk (fun _ _ h=>h),hG.lo,.inr ⟨b,hb,zzk hB hb'⟩⟩ (hk.mono fun _ h=>h.elim) hform
 have hm1:(xs++ys).length+1<=maxLen:=by rw[hlen];unfold maxLen;omega
 have hm2:((xs++ys).length+1)*bytes<=140737488355328:=by
  have:((xs++ys).length+1)*bytes<=1000000*1000000:=Nat.mul_le_mul (by omega) hb2
  omega
 rcases hG.now with ⟨hv,h0⟩ | ⟨g,cap,hv,hb,hg,hnc,hcm,hr,hth,hle⟩
 ·obtain⟨v',w',hrun,r1,r2,_⟩:=run_append_own (P:=P) w w.heap.size t o.type e i z size bytes ht hi hz hsize hby hzs hsz (.slice none 0 0) 0 [] (World.ownsRow_nil w _ e size) ad 1 c y (by omega) hc h1 (by unfold maxLen;omega) (by omega) (zzc _)
  rw[hv]at hs
  unfold Oper.wp
  simp[execOp,ho,resolve,invoke,builtin,hs,hx,hrun,Result.andThen]
  rw[h0]at new
  exact new v' w' (by simpa using r1) r2
 ·by_cases hroom:(xs++ys).length+1<=cap
  ·subst hsize
   have hkc:(xs++ys).length*i.size+i.size<=cap*i.size:=by
    have:((xs++ys).length+1)*i.size<=cap*i.size:=Nat.mul_le_mul_right _ hroom
    rwa[Nat.add_mul,Nat.one_mul]at this
   have hrun:=run_append_room_cells (P:=P) w t o.type e i ht hi g 0 (xs++ys).length cap ad 1 c y (by rw[hy,Nat.one_mul]) hc h1 hroom
    (fun j hj=>by have:=(hth ((xs++ys).length*i.size+j) (by omega)).1;rwa[<-Nat.add_assoc]at this) (fun j hj=>by have:=(hth ((xs++ys).length*i.size+j) (by omega)).2;rwa[<-Nat.add_assoc]at this)
   have hs':=hs
   rw[hv]at hs'
   unfold Oper.wp
   simp only[execOp,ho,resolve,invoke,builtin,List.map_toArray,zyd,zyj,hs',hx,Sem.run_bind,Sem.run_pure,Result.andThen_ok,hrun]
   rw[zzn]
   have hk:zDj (fun k=>k=g) w (w.setCells g ((xs++ys).length*i.size) y):=by
    have:∀ (vs:List Value) (o:Nat) (w:World),zDj (fun k=>k=g) w (w.setCells g o vs):=by
     intro vs
     induction vs with
     | nil=>intro o w;exact zDj.refl _ _
     | cons v r ih =>
      intro o w
      rw[World.setCells]
      exact ((zDj.refl (fun k=>k=g) w).setCell (p:=⟨g,o,none⟩) (.inl rfl) v).trans (ih (o+1) _)
    exact this _ _ _
   have hnow:Lie (w.setCells g ((xs++ys).length*i.size) y) base i.size (.slice (some ⟨g,0,none⟩) ((xs++ys).length+1) cap) (xs++(ys++[y])):=by
    refine .inr ⟨g,cap,by congr 1;simp;omega,hb,by rw[zHe];exact hg,by simp;simp at hroom;omega,hcm,?_,zzd hth _ _ _,hlY⟩
    rw[hfl]
    refine zDt.2 ⟨zzA hr _ _ _ (.inr (.inl (by rw[hlf];omega))),?_⟩
    rw[zzn,hlf]
    refine zDf _ _ _ _ (zzd (fun j hj=>?_) _ _ _)
    have:=hth ((xs++ys).length*i.size+j) (by omega)
    rwa[zzn]at this
   have hg0:v0.ownBlock=some g∨B<=g:=hG.block g (by rw[hv];rfl)
   refine h _ _ ⟨hnow,?_,hG.lo,?_⟩ (hk.mono fun k hk=>by subst hk;exact hg0) ⟨_,_,by rw[hlen]⟩
   ·rcases hG.how with ⟨a',cap',e0,e1⟩ | ⟨b,e1,e2⟩
    ·rw[hv]at e1
     simp only[zzh]at e1
     obtain⟨rfl,_,rfl⟩:=e1
     rw[e0]
     refine Lie.front (m:=ys.length+1) (ys:=ys++[y]) ?_ rfl
     have e:(xs++ys).length+1=xs.length+(ys.length+1):=by rw[hlen,Nat.add_assoc]
     rw[<-e]
     exact hnow
    ·refine hG.old.keep hk (fun k hk2 e=>?_)
     subst e
     have hlt:=hG.lo _ hk2
     rw[hv]at e1
     simp only[Value.ownBlock,zzj]at e1
     omega
   ·rcases hG.how with ⟨a',cap',e0,e1⟩ | ⟨b,e1,e2⟩
    ·rw[hv]at e1
     simp only[zzh]at e1
     obtain⟨rfl,_,rfl⟩:=e1
     exact .inl ⟨_,_,e0,by rw[hlen,zzi,zzy,Nat.add_assoc]⟩
    ·exact .inr ⟨b,by rw[<-e1,hv];rfl,e2⟩
  ·obtain⟨v',w',hrun,r1,r2⟩:=run_append_arg_grows (P:=P) w t o.type e i z size bytes ht hi hz hsize hby hzs hsz ⟨g,0,none⟩ (xs++ys).length cap (xs++ys).flatten hlf (fun j u hj=>by rw[Addr.add_lit];exact hr j u hj) ad 1 c y (by rw[hy,Nat.one_mul]) hc (by omega) hm1 hm2
   rw[hv]at hs
   unfold Oper.wp
   simp only[execOp,ho,resolve,invoke,builtin,List.map_toArray,zyd,zyj,hs,hx,Sem.run_bind,Sem.run_pure,Result.andThen_ok,hrun]
   exact new v' w' r1 r2
end
end Alm
namespace Alm
variable {xs:List Value}{base cap g i k n q size:Nat}{S:Nat->List (List Value)}{mk:Nat->List Value}{X:Nat->Prop}{F:Nat->Value}{e t:TypeId}{hv v:Value}{W W' w:World}
abbrev zFt:=Value×Value×Nat
def zDx(h:zFt):List Value:=[h.1,h.2.1,.int .i64 ((h.2.2:Nat):Int)]
def zE6(l:List zFt):List Value:=l.flatMap zDx
theorem zF9(h:zFt):(zDx h).length=3:=rfl
theorem zRw(l:List zFt):(zE6 l).length=3*l.length:=by
 induction l with
 | nil=>rfl
 | cons x l ih=>rw[zE6,List.flatMap_cons,zzi,zF9];rw[zE6]at ih;rw[ih,zzB];omega
theorem zKt(a b:List zFt):zE6 (a++b)=zE6 a++zE6 b:=by simp[zE6]
theorem zM9(h:zFt):zE6 [h]=zDx h:=by simp[zE6]
theorem zJ6(b:Nat):∀ (vs:List Value) (o:Nat) (w:World),zDj (·=b) w (w.setCells b o vs)
 | [],_,_=>zDj.refl _ _
 | v::r,o,w=>by
  rw[World.setCells]
  exact ((zDj.refl (·=b) w).setCell (p:=⟨b,o,none⟩) (.inl rfl) v).trans (zJ6 b r (o+1) _)
theorem zM1{b o:Nat}(h:W.cell? ⟨b,o,none⟩=some v):W.rangeAt b o [v]:=fun j u hj=>by
 cases j with
 | zero =>
  simp only[List.getElem?_cons_zero,zzj]at hj
  rw[<-hj];exact h
 | succ j=>simp at hj
structure zHw(W:World)(q n:Nat)(F:Nat->Value):Prop where
 th:W.there q 0 10
 cn:W.cell? ⟨q,0,none⟩=some (.int .i64 ((n:Nat):Int))
 cs:∀ j,1<=j->j<10->W.cell? ⟨q,j,none⟩=some (F j)
theorem zHw.lt(h:zHw W q n F):q<W.heap.size:=zEo h.th (by omega)
theorem zHw.keep(h:zHw W q n F)(hk:zDj X W W')(hq:¬X q):zHw W' q n F :=
 ⟨hk.there h.th (by decide) hq,hk.cell h.cn hq,fun j h1 h2=>hk.cell (h.cs j h1 h2) hq⟩
theorem zHw.below(h:zHw W q n F)(hb:Below W.heap.size W W'):zHw W' q n F:=h.keep (zK hb) id
theorem zHw.count(h:zHw W q n F)(m:Nat):zHw (W.setCell ⟨q,0,none⟩ (.int .i64 ((m:Nat):Int))) q m F:=by
 have ht:=zzd h.th q 0 [.int .i64 ((m:Nat):Int)]
 refine⟨ht,?_,fun j h1 h2=>?_⟩
 ·exact zDf q [.int .i64 ((m:Nat):Int)] 0 W (fun j hj=>by have:=ht j (by simp at hj;omega);exact this) 0 _ rfl
 ·exact zzA (zM1 (h.cs j h1 h2)) q 0 [.int .i64 ((m:Nat):Int)] (by right;right;simpa using h1) 0 _ rfl
def put(F:Nat->Value)(k:Nat)(v:Value):Nat->Value:=fun j=>if j=k then v else F j
theorem zLu(F:Nat->Value)(k:Nat)(v:Value):put F k v k=v:=zzY rfl
theorem zI1(F:Nat->Value){j:Nat}(v:Value)(h:j≠k):put F k v j=F j:=zzZ h
theorem zHw.list(h:zHw W q n F)(h1:1<=k)(h2:k<10)(v:Value):zHw (W.setCell ⟨q,k,none⟩ v) q n (put F k v):=by
 have ht:=zzd h.th q k [v]
 refine⟨ht,?_,fun j h3 h4=>?_⟩
 ·exact zzA (zM1 h.cn) q k [v] (by right;left;simpa using h1) 0 _ rfl
 ·by_cases e:j=k
  ·subst e
   rw[zLu]
   exact zDf q [v] j W (fun i hi=>by have:=ht (j+i) (by simp at hi;omega);rwa[zzn]at this) 0 _ rfl
  ·rw[zI1 F v e]
   exact zzA (zM1 (h.cs j h3 h4)) q k [v] (by right;simp;omega) 0 _ rfl
def hd(H:List zFt)(i:Nat):zFt:=H.getD i (.slice none 0 0,.slice none 0 0,0)
def lst(H:List zFt)(i:Nat):Value:=(hd H i).1
def lng(H:List zFt)(i:Nat):Value:=(hd H i).2.1
def num(H:List zFt)(i:Nat):Nat:=(hd H i).2.2
def zKz(W:World)(t:TypeId)(base q:Nat)(hv:Value)(H:List zFt):Prop:=W.ownsRow base t 3 hv H.length (zE6 H)/\hv.ownBlock≠some q
theorem zKz.keep{H:List zFt}(h:zKz W t base q hv H)(hk:zDj X W W')(hx:∀ k,hv.ownBlock=some k->¬X k):zKz W' t base q hv H:=⟨hk.owns h.1 hx,h.2⟩
theorem zKz.below{H:List zFt}(h:zKz W t base q hv H)(hb:Below W.heap.size W W'):zKz W' t base q hv H:=h.keep (zK hb) (fun _ _ h=>h)
theorem zKz.form{H:List zFt}(h:zKz W t base q hv H):∃ a c,hv=.slice a H.length c:=by
 rcases h.1.2 with ⟨h1,h2⟩ | ⟨g,cap,cur,h1,_⟩
 ·exact⟨none,0,by rw[h2];exact h1⟩
 ·exact⟨_,_,h1⟩
theorem yKp(h:w.ownsRow base e size v n xs)(hn:1<=n):∃ g cap,v=.slice (some ⟨g,0,none⟩) n cap/\n<=cap/\cap<=maxLen/\base<=g/\g<w.heap.size/\w.rangeAt g 0 xs:=by
 rcases h.2 with ⟨rfl,h0⟩ | ⟨g,cap,cur,rfl,h4,hg,hnc,hcm,hsz,htk⟩
 ·omega
 ·refine⟨g,cap,rfl,hnc,hcm,h4,(zzw.1 hg).1,fun j v hj=>?_⟩
  rw[cell_of_row w g _ cur e (0,0) hg,zzn]
  rw[<-htk,List.getElem?_take]at hj
  split at hj
  ·simpa using hj
  ·cases hj
theorem yGq{W:World}{g o:Nat}:∀ {H:List zFt} {i:Nat},W.rangeAt g o (zE6 H)->i<H.length->W.rangeAt g (o+i*3) (zDx (hd H i))
 | [],i,_,hi=>by simp at hi
 | h::H,0,hr,_=>(zDt.1 (show W.rangeAt g o (zDx h++zE6 H) from hr)).1
 | h::H,i+1,hr,hi=>by
  have h1:=(zDt.1 (show W.rangeAt g o (zDx h++zE6 H) from hr)).2
  rw[zF9]at h1
  have h2:=yGq (i:=i) h1 (by simpa using hi)
  rw[show o+(i+1)*3=o+3+i*3 by omega]
  exact h2
theorem zKz.at{H:List zFt}(h:zKz W t base q hv H)(hi:i<H.length):∃ g c,hv=.slice (some ⟨g,0,none⟩) H.length c/\base<=g/\g<W.heap.size/\g≠q/\W.rangeAt g (i*3) (zDx (hd H i)):=by
 obtain⟨g,c,hv',_,_,hb,hg,hr⟩:=yKp h.1 (by omega)
 refine⟨g,c,hv',hb,hg,fun e=>h.2 (by rw[hv',e];rfl),?_⟩
 have:=yGq hr hi
 rwa[zzn]at this
def zKa(W:World)(base size:Nat)(H:List zFt)(S:Nat->List (List Value)):Prop:=∀ i,i<H.length->Lie W base size (lst H i) (S i)
def zL3(H:List zFt)(q:Nat)(hv:Value):Prop:=∀ i,i<H.length->∀ g,(lst H i).ownBlock=some g->g≠q/\hv.ownBlock≠some g/\∀ j,j<H.length->j≠i->(lst H j).ownBlock≠some g
def InH(H:List zFt)(k:Nat):Prop:=∃ i,i<H.length/\(lst H i).ownBlock=some k
def zFk(mk:Nat->List Value)(H:List zFt)(S:Nat->List (List Value))(i k:Nat):Nat->List (List Value):=fun j=>if j<i then List.replicate (S j).length (mk (num H j)) else if j=i then List.replicate k (mk (num H i))++(S i).drop k else S j
theorem zM8(mk:Nat->List Value)(H:List zFt)(S:Nat->List (List Value)):zFk mk H S 0 0=S:=by
 funext j
 unfold zFk
 rw[zzZ (by omega)]
 by_cases h:j=0
 ·rw[zzY h,h];rfl
 ·rw[zzZ h]
theorem zNf(mk:Nat->List Value)(H:List zFt)(S:Nat->List (List Value))(i:Nat):zFk mk H S i (S i).length=zFk mk H S (i+1) 0:=by
 funext j
 unfold zFk
 by_cases h:j<i
 ·rw[zzY h,zzY (by omega)]
 ·by_cases e:j=i
  ·rw[zzZ h,zzY e,zzY (by omega),e,List.drop_length,List.append_nil]
  ·rw[zzZ h,zzZ e,zzZ (by omega)]
   by_cases e2:j=i+1
   ·rw[zzY e2,e2];rfl
   ·rw[zzZ e2]
theorem zJq(mk:Nat->List Value)(H:List zFt)(S:Nat->List (List Value))(i k j:Nat)(hk:k<=(S i).length):(zFk mk H S i k j).length=(S j).length:=by
 unfold zFk
 by_cases h:j<i
 ·rw[zzY h,zzR]
 ·by_cases e:j=i
  ·rw[zzZ h,zzY e,zzi,zzR,zz7,e];omega
  ·rw[zzZ h,zzZ e]
theorem yD1(mk:Nat->List Value)(H:List zFt)(S:Nat->List (List Value))(i k:Nat)(hk:k<(S i).length):(zFk mk H S i k i).set k (mk (num H i))=zFk mk H S i (k+1) i:=by
 unfold zFk
 rw[zzZ (Nat.lt_irrefl i),zzY rfl,zzZ (Nat.lt_irrefl i),zzY rfl]
 rw[List.set_append_right _ _ (by simp),zzR,Nat.sub_self,zz9 hk,List.set_cons_zero,List.replicate_succ',List.append_assoc]
 rfl
theorem zVm(mk:Nat->List Value)(H:List zFt)(S:Nat->List (List Value))(i k j:Nat)(hj:j≠i):zFk mk H S i k j=zFk mk H S i (k+1) j:=by
 unfold zFk
 by_cases h:j<i
 ·rw[zzY h,zzY h]
 ·rw[zzZ h,zzZ h,zzZ hj,zzZ hj]
def zLz(mk:Nat->List Value)(H:List zFt)(S:Nat->List (List Value)):Nat->List (List Value):=fun j=>List.replicate (S j).length (mk (num H j))
theorem zNb{H:List zFt}(h:zKa W base size H (zFk mk H S H.length 0)):zKa W base size H (zLz mk H S):=fun i hi=>by
 have:=h i hi
 rwa[zFk,zzY hi]at this
theorem zKa.keep{H:List zFt}(h:zKa W base size H S)(hk:zDj X W W')(hx:∀ k,InH H k->¬X k):zKa W' base size H S:=fun i hi=>(h i hi).keep hk fun k hk2=>hx k ⟨i,hi,hk2⟩
theorem zKa.below{H:List zFt}(h:zKa W base size H S)(hb:Below W.heap.size W W'):zKa W' base size H S:=h.keep (zK hb) (fun _ _ h=>h)
theorem zS3{H:List zFt}(h:zKa W base size H (zFk mk H S i k))(ha:zL3 H q hv)(hi:i<H.length)(hk:k<(S i).length)(hm:(mk (num H i)).length=size)(hl:lst H i=.slice (some ⟨g,0,none⟩) n cap):zKa (W.setCells g (k*size) (mk (num H i))) base size H (zFk mk H S i (k+1)):=fun j hj=>by
 have hb:(lst H i).ownBlock=some g:=by rw[hl];rfl
 by_cases e:j=i
 ·subst e
  have h1:=h j hj
  rw[hl]at h1 ⊢
  have h2:=Lie.set h1 (k:=k) (by rw[zJq mk H S j k j (by omega)];exact hk) hm
  rwa[yD1 mk H S j k hk]at h2
 ·have h1:=(h j hj).keep (zJ6 g (mk (num H i)) (k*size) W) (fun b hb2 e2=>(ha i hi g hb).2.2 j hj e (by rw[hb2,e2]))
  rwa[zVm mk H S i k j e]at h1
def zH0(H:List zFt)(L:Nat->Value)(i:Nat):List zFt:=H.mapIdx fun j h=>if j<i then (h.1,L j,h.2.2) else h
theorem zEu(H:List zFt)(L:Nat->Value)(i:Nat):(zH0 H L i).length=H.length:=List.length_mapIdx
theorem zLa(H:List zFt)(L:Nat->Value)(i j:Nat)(hj:j<H.length):hd (zH0 H L i) j=if j<i then (lst H j,L j,num H j) else hd H j:=by
 unfold hd lst num hd zH0
 simp only[zzg,List.getElem?_mapIdx,zzf hj,Option.map_some,Option.getD_some]
theorem zW1(H:List zFt)(L:Nat->Value):zH0 H L 0=H:=by
 apply List.ext_getElem
 ·exact zEu H L 0
 ·intro j h1 h2;simp[zH0]
theorem yDs(H:List zFt)(L:Nat->Value)(i:Nat)(v:Value)(hi:i<H.length):zH0 H (fun j=>if j=i then v else L j) (i+1)=(zH0 H L i).set i (lst H i,v,num H i):=by
 apply List.ext_getElem
 ·rw[List.length_set,zEu,zEu]
 ·intro j h1 h2
  rw[zEu]at h1
  rw[List.getElem_set]
  unfold zH0
  simp only[List.getElem_mapIdx]
  by_cases e:i=j
  ·subst e
   rw[zzY (by omega),zzY rfl,zzY rfl]
   simp[lst,num,hd,zzg,zzf hi]
  ·rw[zzZ e]
   by_cases h:j<i
   ·rw[zzY (by omega),zzY h,zzZ (by omega)]
   ·rw[zzZ (by omega),zzZ h]
theorem zP7{H:List zFt}(hi:i<H.length)(h:zFt):zE6 (H.set i h)=(zE6 H).take (i*3)++(zDx h++(zE6 H).drop (i*3+3)):=by
 have hl:∀ x∈H.map zDx,x.length=3:=fun x hx=>by
  obtain⟨y,_,rfl⟩:=zzQ.1 hx
  rfl
 have e:∀ l:List zFt,zE6 l=(l.map zDx).flatten:=fun l=>List.flatMap_def
 rw[e,e,List.map_set]
 obtain⟨f1,f2⟩:=zK7 (xs:=(H.map zDx).set i (zDx h)) (size:=3) (fun x hx=>by
  rcases List.mem_or_eq_of_mem_set hx with h1 | h1
  ·exact hl x h1
  ·rw[h1];rfl) (k:=i) (by simpa using hi)
 obtain⟨g1,g2⟩:=zK7 hl (k:=i) (by simpa using hi)
 rw[f1,List.take_set_of_le (zzc i),List.getElem_set_self,List.drop_set_of_lt (by omega)]
 congr 1
 ·rw[g1,<-g2,List.take_left]
 ·congr 1
  have g3:i*3+3=((List.take i (List.map zDx H)).flatten++(List.map zDx H)[i]'(by simpa using hi)).length:=by rw[zzi,g2,hl _ (List.getElem_mem _)]
  conv=>rhs;rw[g1,<-List.append_assoc,g3,List.drop_left]
theorem zW3(h:w.ownsRow base e size (.slice (some ⟨g,0,none⟩) n cap) n xs)(k:Nat)(u:Value):(w.setCell ⟨g,k,none⟩ u).ownsRow base e size (.slice (some ⟨g,0,none⟩) n cap) n (xs.set k u):=by
 refine⟨by rw[List.length_set];exact h.1,?_⟩
 rcases h.2 with ⟨h0,_⟩ | ⟨g',cap',cur,he,hb,hg,hnc,hcm,hsz,htk⟩
 ·cases h0
 ·simp only[zzh,zzj,zyn,and_true,true_and]at he
  obtain⟨rfl,rfl⟩:=he
  exact .inr ⟨g,cap,cur.setIfInBounds k u,rfl,hb,heap_setCell_same w g k _ _ u hg,hnc,hcm,by simpa using hsz,by rw[<-htk,Array.toList_setIfInBounds,List.take_set]⟩
theorem zKz.long{H:List zFt}(h:zKz W t base q hv H)(hi:i<H.length){c:Nat}(hg:hv=.slice (some ⟨g,0,none⟩) n c)(v:Value):zKz (W.setCell ⟨g,i*3+1,none⟩ v) t base q hv (H.set i (lst H i,v,num H i)):=by
 refine⟨?_,h.2⟩
 subst hg
 have hn:n=H.length:=by
  obtain⟨a,c',e⟩:=h.form
  simp only[zzh]at e
  exact e.2.1
 subst hn
 rw[List.length_set]
 have h1:=zW3 h.1 (i*3+1) v
 have e:(zE6 H).set (i*3+1) v=zE6 (H.set i (lst H i,v,num H i)):=by
  have hl:=zRw H
  rw[zP7 hi]
  have e2:H=H.set i (hd H i):=by
   unfold hd
   rw[zzg,zzf hi,Option.getD_some,List.set_getElem_self]
  conv=>lhs;rw[e2,zP7 hi]
  have h3:((zE6 H).take (i*3)).length=i*3:=by rw[zzq,hl];omega
  rw[List.set_append_right _ _ (by omega),h3,show i*3+1 - i*3=1 by omega]
  rfl
 rwa[e]at h1
end Alm
namespace Go.Proofs.YtfmgoehnbaiamaaGreatDoor
variable {a:Act}{K:Act->World->Prop}{Q:Exit->Act->World->Prop}{o:Oper}{w:World}
theorem zUt:∃ i z,Tryz.prog.info? 155=some i/\i.zero=some z/\i.size=3/\i.bytes=56/\z.cells.size=3:=by
 have h:(Tryz.prog.info? 155).map (fun i=>(i.zero.map fun z=>z.cells.size,i.size,i.bytes))=some (some 3,3,56):=by kernel_rfl
 obtain⟨i,hi,h2⟩:=zzv.1 h
 simp only[zyc]at h2
 obtain⟨z,hz,hz2⟩:=zzv.1 h2.1
 exact⟨i,z,hi,hz,h2.2.1,h2.2.2,hz2⟩
theorem zX5(x:Operand)(ho:o.op=.buildSlice 32 1 #[(0,x)])(s:zFt)(hx:a.eval x=.agg (zDx s).toArray)
  (h:K (a.put o.dst (.slice (some ⟨w.heap.size,0,none⟩) 1 1)) (w.alloc (.cells (zDx s).toArray 155))):o.wp Tryz.prog a w K Q:=by
 obtain⟨i,z,hi,hz,hs,hb,hzs⟩:=zUt
 refine wp_buildSlice _ 155 1 _ ho (zDx s).toArray i z Tryz.underlying32 hi hz (by rw[hs];omega) (by rw[hs];omega) ?_ h
 have hp:((#[(0,x)]:Array (Nat×Operand)).toList.map fun (i,x)=>(i,a.eval x))=(([(.agg (zDx s).toArray:Value)]).zipIdx 0).map fun x=>(x.2,x.1):=by simp[hx]
 rw[Array.toList_map,hp,hs,Great.fill_whole (s:=3) (by omega) [(.agg (zDx s).toArray:Value)] _ (fun v hv=>by rw[zzx.1 hv];simp[Value.cells,zF9]) (by simp)]
 simp[Value.cells]
theorem zRl(s x:Operand)
  (ho:o.op=.call { callee:=.builtin .append,args:=#[s,x],argTypes:=#[32,32] })
  (base:Nat) (v:Value) (l:List zFt) (n:Nat) (hn:l.length=n) (hs:a.eval s=v) (hown:w.ownsRow base 155 3 v n (zE6 l))
  (b off c:Nat) (y:zFt) (hy1:y.1.oneCell'=true) (hy2:y.2.1.oneCell'=true) (hx:a.eval x=.slice (some ⟨b,off,none⟩) 1 c) (hr:w.rangeAt b off (zDx y)) (hl:n<1000000) (hB:base<=w.heap.size)
  (h:∀ g cap w',w'.ownsRow base 155 3 (.slice (some ⟨g,0,none⟩) (n+1) cap) (n+1) (zE6 (l++[y]))->w.grownBy w' v.ownBlock->(v.ownBlock=some g∨g=w.heap.size)->g<w'.heap.size->K (a.put o.dst (.slice (some ⟨g,0,none⟩) (n+1) cap)) w'):o.wp Tryz.prog a w K Q:=by
 obtain⟨i,z,hi,hz,h1,h2,h3⟩:=zUt
 refine wp_append_lies w s x _ ho base _ i z 3 56 Tryz.underlying32 hi hz h1 h2 h3 (by omega) v n (zE6 l) hs hown ⟨b,off,none⟩ 1 c (zDx y) hx (by rw[zF9]) (fun j u hj=>by rw[Addr.add_mid];exact hr j u hj) (fun u hu=>by
  unfold zDx at hu
  simp only[zzK,List.not_mem_nil,or_false]at hu
  rcases hu with rfl | rfl | rfl
  ·exact hy1
  ·exact hy2
  ·rfl) (by omega) (by unfold maxLen;omega) (by omega) hB w.heap.size rfl ?_
 intro g cap w' ho' hg hat hlt
 refine h g cap w' ?_ hg hat hlt
 rw[zKt,zM9];exact ho'
theorem zXy(va:Option Addr)(vn vc:Nat)(hv:Value)(base q n:Nat)(F:Nat->Value)(H:List zFt)(w:World)(hb:zHw w q n F)(hF:F 5=hv)(hr:zKz w 155 base q hv H)(hbs:base<=w.heap.size)(hn:n<100000)(hH:H.length<100000):
  Calls Tryz.prog 147 #[.pointer (some ⟨q,0,none⟩),.slice va vn vc] w fun e w'=>e=.returned (.tuple #[])/\∃ hv',zHw w' q (n+1) (put F 5 hv')/\zKz w' 155 base q hv' (H++[(.slice va vn vc,.slice none 0 0,n+1)])/\(∀ k,hv'.ownBlock=some k->hv.ownBlock=some k∨w.heap.size<=k)/\zDj (fun i=>i=q∨hv.ownBlock=some i) w w':=by
 have g1:=hb.cn
 have hf:w.frozen? ⟨q,0,none⟩=false:=(hb.th 0 (by omega)).2
 obtain⟨m,hm⟩:∃ m:Int,m=((n+1:Nat):Int):=⟨_,rfl⟩
 have hw:wrap64 m=m:=by rw[hm];unfold wrap64;omega
 have hw2:(n:Int)+1=m:=by rw[hm];rfl
 have hb1:=hb.count (n+1)
 have hk1:=zJ6 q [.int .i64 ((n+1:Nat):Int)] 0 w
 rw[<-hm]at hb1 hk1
 change zDj _ _ (w.setCell ⟨q,0,none⟩ (.int .i64 m))at hk1
 have hr1:zKz (w.setCell ⟨q,0,none⟩ (.int .i64 m)) 155 base q hv H:=hr.keep hk1 (fun k hk e=>hr.2 (by rw[hk,e]))
 have H1:=zAI hb1 (zza (hk1.mono (Y:=fun i=>i=q∨hv.ownBlock=some i) fun k h=>.inl h) (zza hr1 (zzk hbs hk1.size)))
 have HM:=zzb hm
 have HV:=zAI hH (zza hr.2 hF)
 have HW0:=zzb hk1.size
 clear hb hb1 hk1 hm hH hn hr hr1 hF hbs
 go_enter Tryz.func147,Tryz.ntmps147
 go_wp2_with fail
 generalize w.setCell ⟨q,0,none⟩ (.int .i64 m)=w1 at *
 clear g1 hf hw hw2
 have hd:=(zze w1.heap.size w1).drew
 have H2:=zAI (H1.out.1.below hd) (zza (H1.out.2.1.trans (zDj.of_below hd)) (zza (H1.out.2.2.1.below hd) (zza H1.out.2.2.2 HW0.out)))
 clear hd H1 HW0
 refine zDd (fun V=>Below w1.drew.heap.size w1.drew V) [.t 0,.t 1,.t 2,.t 3,.t 5,.t 6,.t 7,.t 8,.s 4,.e 9 true,.t 10,.e 11 true,.e 12 false,.t 13,.t 14,.e 15 false] (by kernel_rfl) (by kernel_rfl) (by rintro _ _(_|_)_ _ h<;>exact h) ?_
 change wpS _ _ _ _ _ _ _ w1.drew
 have hsz:w1.drew.heap.size=w1.heap.size:=rfl
 rw[<-hsz]at H2
 clear hsz
 generalize w1.drew=V at *
 iterate 8
  refine zDp rfl (v:=?_) (by rfl) (fun W=>?_) ?_
  rotate_left
  ·go_simp
   try rfl
  try simp only[zU,zA,zB,zC]
 refine zEx (zze _ _) rfl (v:=hv) (by rfl) (fun W hW=>?_) ?_
 ·have g:W.cell? ⟨q,5,none⟩=some hv:=by rw[<-HV.out.2.2];exact (zK hW).cell (H2.out.1.cs 5 (by omega) (by omega)) id
  go_simp
 try simp only[zU,zA,zB,zC]
 refine zD8 rfl (by rfl) (fun K hK=>?_)
 have g:=H2.out.1.cn
 rw[<-HM.out]at g
 go_simp
 refine hK _ _ ⟨zze _ _,?_⟩;clear hK K
 try simp only[zU,zA,zB,zC]
 clear g
 refine zDp rfl (v:=?_) (by rfl) (fun W=>?_) ?_
 rotate_left
 ·go_simp
  try rfl
 try simp only[zU,zA,zB,zC]
 refine zD8 rfl (by rfl) (fun K hK=>?_)
 refine zX5 _ rfl (.slice va vn vc,.slice none 0 0,n+1) (by rw[zDx,<-HM.out];rfl) ?_
 have hb3:=al (zze V.heap.size V) (.cells (zDx (.slice va vn vc,.slice none 0 0,n+1)).toArray 155)
 have hr3:=zDh V (zDx (.slice va vn vc,.slice none 0 0,n+1)).toArray 155 _ rfl
 have H3:=zAI hb3 hr3
 clear hb3 hr3
 refine hK _ _ ⟨by exact H3.out.1,?_⟩;clear hK K
 try simp only[zU,zA,zB,zC]
 generalize V.alloc (.cells (zDx (.slice va vn vc,.slice none 0 0,n+1)).toArray 155)=V3 at *
 refine zEa rfl (by rfl) (fun K hK=>?_)
 have hown3:V3.ownsRow base 155 3 hv H.length (zE6 H):=(H2.out.2.2.1.below H3.out.1).1
 refine zRl _ _ (by rfl) base hv H H.length rfl (by rfl) hown3 V.heap.size 0 1 (.slice va vn vc,.slice none 0 0,n+1) rfl rfl (by rfl) H3.out.2 (by have:=HV.out.1;omega) (zzk (zzk H2.out.2.2.2.1 (zzc _)) H3.out.1.size) ?_
 intro g cap W4 ho hg hat hlt
 have hq3:q<V.heap.size:=H2.out.1.lt
 have hk4:zDj (fun i=>hv.ownBlock=some i) V3 W4:=zDj.of_grown hg (fun k hk=>hk)
 have hgq:g≠q:=by
  intro e
  rcases hat with h | h
  ·exact HV.out.2.1 (by rw[h,e])
  ·have:=H3.out.1.size
   omega
 have hgB:hv.ownBlock=some g∨V.heap.size<=g:=by
  rcases hat with h | h
  ·exact .inl h
  ·exact .inr (by rw[h];exact H3.out.1.size)
 have hkV:zDj (fun i=>hv.ownBlock=some i) V W4:=(zDj.of_below H3.out.1).trans hk4
 have hbk4:zHw W4 q (n+1) F:=H2.out.1.keep hkV (fun h=>HV.out.2.1 h)
 have H4:=zAI ho (zza hgq (zza hbk4 (zza hgB hkV)))
 clear hown3 hg hat hlt hq3 hk4 hgq hkV hbk4 hgB ho
 refine hK _ _ ?_;clear hK K
 try simp only[zU,zA,zB,zC]
 iterate 2
  refine zDp rfl (v:=?_) (by rfl) (fun W=>?_) ?_
  rotate_left
  ·go_simp
   try rfl
  try simp only[zU,zA,zB,zC]
 refine zEa rfl (by rfl) (fun K hK=>?_)
 have hf:W4.frozen? ⟨q,5,none⟩=false:=(H4.out.2.2.1.th 5 (by omega)).2
 have hu5:=H4.out.2.2.1.cs 5 (by omega) (by omega)
 go_simp
 refine hK _ _ ?_;clear hK K
 try simp only[zU,zA,zB,zC]
 clear hf hu5
 refine zDn ?_
 go_wp2_with fail
 have hbk:=H4.out.2.2.1.list (k:=5) (by omega) (by omega) (.slice (some ⟨g,0,none⟩) (H.length+1) cap)
 have hk5:=(H4.out.2.2.2.2.mono (Y:=fun i=>i=q∨hv.ownBlock=some i) fun k h=>.inr h).trans ((zJ6 q [.slice (some ⟨g,0,none⟩) (H.length+1) cap] 5 W4).mono fun k h=>.inl h)
 have hkq:=zJ6 q [.slice (some ⟨g,0,none⟩) (H.length+1) cap] 5 W4
 refine zz6 (zz5 rfl _ _ _) rfl ⟨rfl,_,hbk,⟨?_,fun h=>H4.out.2.1 (by simpa[Value.ownBlock]using h)⟩,fun k hk=>?_,H2.out.2.1.trans hk5⟩
 ·have ho5:=hkq.owns H4.out.1 (fun k hk e=>H4.out.2.1 (by rw[<-e];simpa[Value.ownBlock]using hk))
  rw[zzi]
  exact ho5
 ·obtain rfl:g=k:=by simpa[Value.ownBlock]using hk
  rcases H4.out.2.2.2.1 with h | h
  ·exact .inl h
  ·exact .inr (zzk H2.out.2.2.2.2 h)
end Go.Proofs.YtfmgoehnbaiamaaGreatDoor
