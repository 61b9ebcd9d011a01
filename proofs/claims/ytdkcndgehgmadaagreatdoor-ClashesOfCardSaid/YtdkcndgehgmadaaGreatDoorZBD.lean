/- Joined: N1, J6, H10, Args2, Args4, TW2, H11, G6, LK1. -/
import Derived.Test.YtdkcndgehgmadaaGreatDoorZBC
import Derived.Test.YtdkcndgehgmadaaGreatDoorZBA
import Derived.Deep.Strs
set_option maxRecDepth 100000
set_option maxHeartbeats 4000000
open Go Go.RowKit Alm
namespace Go.Proofs.YtdkcndgehgmadaaGreatDoor
def mkP(s:Bool×Sum)(v:Sum):Sum×Sum:=if s.1 then (v,s.2) else (s.2,v)
noncomputable def ndP(p:Sum×Sum):Sum:=nd p.1 p.2
noncomputable def zZl(a:Sum):List (Bool×Sum)->Sum
 | []=>a
 | s::T=>ndP (mkP s (zZl a T))
noncomputable def zE2(a:Sum):List (Bool×Sum)->List (Sum×Sum)
 | []=>[]
 | s::T=>mkP s (zZl a T)::zE2 a T
noncomputable def yD7(x:Sum):List (Bool×Sum)->Sum
 | []=>x
 | s::T=>if s.1 then yD7 x T else nd s.2 (yD7 x T)
noncomputable def zZz(x:Sum):List (Bool×Sum)->List (Sum×Sum)->Sum
 | s::T,p::th=>if s.1 then zZz x T th else nd p.1 (zZz x T th)
 | _,_=>x
noncomputable def upM(a:Sum):List (Bool×Sum)->List (Sum×Sum)
 | []=>[]
 | s::T=>mkP s a::upM (ndP (mkP s a)) T
noncomputable def upR(a:Sum):List (Bool×Sum)->Sum
 | []=>a
 | s::T=>upR (ndP (mkP s a)) T
theorem zW2(s:Bool×Sum):∀ (T:List (Bool×Sum)) (a:Sum),upM a (T++[s])=upM a T++[mkP s (upR a T)]/\upR a (T++[s])=ndP (mkP s (upR a T))
 | [],a=>⟨rfl,rfl⟩
 | t::T,a=>by
  have h:=zW2 s T (ndP (mkP t a))
  exact⟨by simp only[List.cons_append,upM,upR];rw[h.1],by simp only[List.cons_append,upR];exact h.2⟩
theorem zKe(a:Sum):∀ T:List (Bool×Sum),upM a T.reverse=(zE2 a T).reverse/\upR a T.reverse=zZl a T
 | []=>⟨rfl,rfl⟩
 | s::T=>by
  have h:=zKe a T
  have h2:=zW2 s T.reverse a
  rw[List.reverse_cons,h2.1,h2.2,h.1,h.2]
  exact⟨by simp[zE2],rfl⟩
theorem zEq(a:Sum):∀ T:List (Bool×Sum),(zE2 a T).length=T.length
 | []=>rfl
 | s::T=>by simp[zE2,zEq a T]
theorem zKx(s:Bool×Sum)(y:Sum):∀ T:List (Bool×Sum),zZl y (T++[s])=zZl (ndP (mkP s y)) T
 | []=>rfl
 | t::T=>by simp only[List.cons_append,zZl];rw[zKx s y T]
theorem zOp(s:Bool×Sum)(y:Sum):∀ T:List (Bool×Sum),yD7 y (T++[s])=yD7 (if s.1 then y else nd s.2 y) T
 | []=>by simp[yD7]
 | t::T=>by simp only[List.cons_append,yD7];rw[zOp s y T]
theorem zPo(s:Bool×Sum)(p:Sum×Sum)(y:Sum):∀ (T:List (Bool×Sum)) (th:List (Sum×Sum)),T.length=th.length->zZz y (T++[s]) (th++[p])=zZz (if s.1 then y else nd p.1 y) T th
 | [],[],_=>by simp[zZz]
 | t::T,q::th,h=>by
  simp only[List.cons_append,zZz]
  rw[zPo s p y T th (by simpa using h)]
 | [],_::_,h=>by simp at h
 | _::_,[],h=>by simp at h
theorem zSq(a x:Sum):∀ T:List (Bool×Sum),zZz x T (zE2 a T)=yD7 x T
 | []=>rfl
 | s::T=>by
  simp only[zE2,zZz,yD7]
  rw[zSq a x T]
  cases hs:s.1<;>simp[mkP,hs]
noncomputable abbrev sd(l:List (List UInt8)):Sum:=rt (l.map lf)
inductive zSe:List (List UInt8)->List (List UInt8)->List (Bool×Sum)->List (Sum×Sum)->Prop
 | nil (l):zSe l l [] []
 | left (l l' x T th):2<=l.length->zSe (l.take (cut l.length)) l' T th->zSe l l' ((true,x)::T) ((sd (l.take (cut l.length)),sd (l.drop (cut l.length)))::th)
 | right (l l' x T th):2<=l.length->zSe (l.drop (cut l.length)) l' T th->zSe l l' ((false,x)::T) ((sd (l.take (cut l.length)),sd (l.drop (cut l.length)))::th)
theorem zSe.lens{l l' T th}(h:zSe l l' T th):T.length=th.length:=by
 induction h with
 | nil=>rfl
 | left _ _ _ _ _ _ _ ih=>simp[ih]
 | right _ _ _ _ _ _ _ ih=>simp[ih]
theorem zSe.snocL{l l' T th}(h:zSe l l' T th)(x:Sum)(h2:2<=l'.length):zSe l (l'.take (cut l'.length)) (T++[(true,x)]) (th++[(sd (l'.take (cut l'.length)),sd (l'.drop (cut l'.length)))]):=by
 induction h with
 | nil=>exact .left _ _ _ _ _ h2 (.nil _)
 | left _ _ _ _ _ h3 _ ih=>exact .left _ _ _ _ _ h3 (ih h2)
 | right _ _ _ _ _ h3 _ ih=>exact .right _ _ _ _ _ h3 (ih h2)
theorem zSe.snocR{l l' T th}(h:zSe l l' T th)(x:Sum)(h2:2<=l'.length):zSe l (l'.drop (cut l'.length)) (T++[(false,x)]) (th++[(sd (l'.take (cut l'.length)),sd (l'.drop (cut l'.length)))]):=by
 induction h with
 | nil=>exact .right _ _ _ _ _ h2 (.nil _)
 | left _ _ _ _ _ h3 _ ih=>exact .left _ _ _ _ _ h3 (ih h2)
 | right _ _ _ _ _ h3 _ ih=>exact .right _ _ _ _ _ h3 (ih h2)
structure zWc(a:Sum)(l':List (List UInt8))(T:List (Bool×Sum))(th:List (Sum×Sum)):Prop where
 l:∃ l,zSe l l' T th/\sd l=zZl a T
theorem zWc.clash{a:Sum}{l':List (List UInt8)}{T:List (Bool×Sum)}{th:List (Sum×Sum)}(h:zWc a l' T th){p q:Sum×Sum}{th' sd':List (Sum×Sum)}(h1:th=p::th')(h2:zE2 a T=q::sd'):nd p.1 p.2=nd q.1 q.2:=by
 obtain⟨l,hd,he⟩:=h.l
 subst h1
 cases hd with
 | left _ _ x T _ h3 h4 =>
  rw[zE2]at h2
  obtain⟨rfl,rfl⟩:=List.cons.inj h2
  rw[zZl]at he
  exact (yE1 l h3).symm.trans he
 | right _ _ x T _ h3 h4 =>
  rw[zE2]at h2
  obtain⟨rfl,rfl⟩:=List.cons.inj h2
  rw[zZl]at he
  exact (yE1 l h3).symm.trans he
theorem zWc.step{a:Sum}{l':List (List UInt8)}{T:List (Bool×Sum)}{th:List (Sum×Sum)}(h:zWc a l' T th){p:Sum×Sum}{th' sd':List (Sum×Sum)}(h1:th=p::th')(h2:zE2 a T=p::sd'):∃ s T',T=s::T'/\sd'=zE2 a T'/\zWc a l' T' th':=by
 obtain⟨l,hd,he⟩:=h.l
 subst h1
 cases hd with
 | left _ _ x T _ h3 h4 =>
  rw[zE2]at h2
  obtain⟨h5,h6⟩:=List.cons.inj h2
  exact⟨_,T,rfl,h6.symm,⟨_,h4,((Prod.mk.inj h5).1).symm⟩⟩
 | right _ _ x T _ h3 h4 =>
  rw[zE2]at h2
  obtain⟨h5,h6⟩:=List.cons.inj h2
  exact⟨_,T,rfl,h6.symm,⟨_,h4,((Prod.mk.inj h5).2).symm⟩⟩
theorem zWc.end_{a:Sum}{l':List (List UInt8)}{T:List (Bool×Sum)}{th:List (Sum×Sum)}(h:zWc a l' T th)(h1:th=[]):sd l'=a:=by
 obtain⟨l,hd,he⟩:=h.l
 subst h1
 cases hd with
 | nil=>exact he
theorem zUy(a:Sum)(m n:Nat):∀ (p:List Sum) (s:Sum) (t:List Sum),zE7 nd a m n p=some (s,t)->∀ r,zE7 nd a m n (p++r)=some (s,t++r):=by
 induction m,n using zGy.induct with
 | case1 m n hn =>
  intro p s t h r
  rw[zE7,dif_pos hn]at h ⊢
  obtain⟨rfl,rfl⟩:=Prod.mk.inj (Option.some.inj h)
  rfl
 | case2 m n hn hk ih =>
  intro p s t h r
  rw[zGa a m n _ hn,zzS hk]at h ⊢
  rcases hr:zE7 nd a m (cut n) p with _ | ⟨z,_ | ⟨x,q⟩⟩
  ·rw[hr]at h;cases h
  ·rw[hr]at h;cases h
  ·rw[hr]at h
   rw[ih p z _ hr r]
   obtain⟨rfl,rfl⟩:=Prod.mk.inj (Option.some.inj h)
   rfl
 | case3 m n hn hk ih =>
  intro p s t h r
  rw[zGa a m n _ hn,zzT hk]at h ⊢
  rcases hr:zE7 nd a (m - cut n) (n - cut n) p with _ | ⟨z,_ | ⟨x,q⟩⟩
  ·rw[hr]at h;cases h
  ·rw[hr]at h;cases h
  ·rw[hr]at h
   rw[ih p z _ hr r]
   obtain⟨rfl,rfl⟩:=Prod.mk.inj (Option.some.inj h)
   rfl
theorem zT3(a:Sum)(m n:Nat)(q:List Sum)(y:Sum)(hn:¬n<=1)(h:zE7 nd a m n q.reverse=some (y,[])) :
  ∃ x r z,q=x::r/\y=ndP (mkP (decide (m<cut n),x) z)/\zE7 nd a (if m<cut n then m else m - cut n) (if m<cut n then cut n else n - cut n) r.reverse=some (z,[]):=by
 have frame:∀ (m n:Nat) (p:List Sum) (z x:Sum),zE7 nd a m n p=some (z,[x])->∃ r,p.reverse=x::r/\zE7 nd a m n r.reverse=some (z,[]):=by
  intro m n p z x h
  have hl:zGy m n<=p.length:=by
   rcases Nat.lt_or_ge p.length (zGy m n)with h1 | h1
   ·rw[zQs nd a m n p h1]at h;cases h
   ·exact h1
  obtain⟨s,hs⟩:=zIf nd a m n p hl
  rw[hs]at h
  obtain⟨rfl,hd⟩:=Prod.mk.inj (Option.some.inj h)
  have hp:p=p.take (zGy m n)++[x]:=by rw[<-hd,zz1]
  have hlt:(p.take (zGy m n)).length=zGy m n:=by rw[zzq,Nat.min_eq_left hl]
  refine⟨(p.take (zGy m n)).reverse,(congrArg List.reverse hp).trans (by simp),?_⟩
  rw[List.reverse_reverse]
  obtain⟨s',hs'⟩:=zIf nd a m n (p.take (zGy m n)) (by omega)
  have hs2:=zUy a m n (p.take (zGy m n)) s' _ hs' [x]
  rw[<-hp,hs]at hs2
  have h7:=(Prod.mk.inj (Option.some.inj hs2)).1
  rw[hs',List.drop_eq_nil_of_le (by omega),h7]
 rw[zGa a m n _ hn]at h
 by_cases hk:m<cut n
 ·rw[zzS hk]at h
  rw[zzS hk,zzS hk]
  rcases hr:zE7 nd a m (cut n) q.reverse with _ | ⟨z,_ | ⟨x,t⟩⟩
  ·rw[hr]at h;cases h
  ·rw[hr]at h;cases h
  ·rw[hr]at h
   obtain⟨rfl,rfl⟩:=Prod.mk.inj (Option.some.inj h)
   obtain⟨r,h1,h2⟩:=frame _ _ _ _ _ hr
   rw[List.reverse_reverse]at h1
   exact⟨x,r,z,h1,by simp[mkP,ndP,hk],h2⟩
 ·rw[zzT hk]at h
  rw[zzT hk,zzT hk]
  rcases hr:zE7 nd a (m - cut n) (n - cut n) q.reverse with _ | ⟨z,_ | ⟨x,t⟩⟩
  ·rw[hr]at h;cases h
  ·rw[hr]at h;cases h
  ·rw[hr]at h
   obtain⟨rfl,rfl⟩:=Prod.mk.inj (Option.some.inj h)
   obtain⟨r,h1,h2⟩:=frame _ _ _ _ _ hr
   rw[List.reverse_reverse]at h1
   exact⟨x,r,z,h1,by simp[mkP,ndP,hk],h2⟩
theorem zPg{a:Sum}{m n:Nat}{p:List Sum}{y:Sum}(hn:¬n<=1)(h:zE7 nd a m n p=some (y,[])):∃ p' x z,p=p'++[x]/\((m<cut n/\y=nd z x/\zE7 nd a m (cut n) p'=some (z,[]))∨(¬m<cut n/\y=nd x z/\zE7 nd a (m - cut n) (n - cut n) p'=some (z,[]))):=by
 obtain⟨x,r,z,hq,hy,hl⟩:=zT3 a m n p.reverse y hn (by rw[List.reverse_reverse];exact h)
 refine⟨r.reverse,x,z,by rw[<-List.reverse_reverse p,hq,List.reverse_cons],?_⟩
 by_cases hk:m<cut n
 ·rw[zzS hk,zzS hk]at hl
  exact .inl ⟨hk,by rw[hy];unfold ndP mkP;simp[hk],hl⟩
 ·rw[zzT hk,zzT hk]at hl
  exact .inr ⟨hk,by rw[hy];unfold ndP mkP;simp[hk],hl⟩
theorem yEt{a:Sum}{m n:Nat}{p:List Sum}{y:Sum}(hn:n<=1)(h:zE7 nd a m n p=some (y,[])):y=a/\p=[]:=by
 rw[zE7,dif_pos hn]at h
 simp only[zzj,zz5]at h
 exact⟨h.1.symm,h.2⟩
theorem yGo{m n k:Nat}(hk:¬m<k)(hm:m<n)(hn:n<1000000):decide (m<k)=false/\¬(m:Int)<(k:Int)/\IntKind.i64.wrap ((m:Int) - (k:Int))=((m - k:Nat):Int)/\IntKind.i64.wrap ((n:Int) - (k:Int))=((n - k:Nat):Int)/\wrap64 ((m:Int) - (k:Int))=((m - k:Nat):Int)/\wrap64 ((n:Int) - (k:Int))=((n - k:Nat):Int)/\decide ((m:Int)<(k:Int))=false:=by
 refine⟨zzU hk,by omega,by rw[zzr];omega,by rw[zzr];omega,by unfold wrap64;omega,by unfold wrap64;omega,zzU (by omega)⟩
theorem zRx{n k:Nat}(h2:2<=n)(hk:k<n)(hn:n<1000000):((n:Int) == 1)=false/\¬n=1/\decide (n=1)=false/\(n:Int)%18446744073709551616=(n:Int)/\IntKind.u64.wrap (n:Int)=(n:Int)/\n<18446744073709551616/\wrap64 (k:Int)=(k:Int)/\IntKind.i64.wrap (k:Int)=(k:Int)/\¬(n:Int)=1/\decide ((n:Int)=1)=false:=by
 refine⟨by rw[zzX];omega,by omega,zzU (by omega),by omega,by rw[IntKind.wrap_u64];omega,by omega,by unfold wrap64;omega,by rw[zzr];omega,by omega,zzU (by omega)⟩
theorem zTk(a:Sum)(m:Nat)(v:Value)(w:World):Calls Tryz.prog 147 #[sv a,.int .i64 (m:Int),.int .i64 1,v] w fun e w'=>e=.returned (sv a)/\Below w.heap.size w w':=by
 have HI:=zzb (zGh w a)
 go_enter Tryz.func147,Tryz.ntmps147
 refine Alm.wp_cut 1 ?_
 intro T hT
 dsimp only[zHd]
 replace hT:=zzb hT
 go_wp2_with fail
 refine hT.out _ _ ?_
 clear hT
 dsimp only[zEz]
 change Code.wp _ _ _ _ ((w.alloc (.cells (cellsOf a).toArray 24)).alloc (.cells (cellsOf zDq).toArray 24))
 have H2:=zzb (HI.out 24)
 generalize ((w.alloc (.cells (cellsOf a).toArray 24)).alloc (.cells (cellsOf zDq).toArray 24))=w2 at *
 clear HI
 go_wp2_with (first
  | (refine zDe rfl _ rfl w.heap.size 0 rfl a H2.out.leaf ?_)
  | (refine zDp rfl _ _ rfl (w.heap.size+1) 0 a rfl rfl H2.out.res ?_))
 exact zzJ (zEa Tryz.results147 _ _ _ _ rfl (zzd H2.out.res _ _ _)) rfl ⟨rfl,zDa _ (by omega) _ _ _ _ H2.out.below⟩
theorem zRy(a x z:Sum)(m n:Nat)(p:List Sum)(v:Value)(w:World)(hv:zD1 w v (p++[x]))(hn2:2<=n)(hm:m<n)(hn:n<1000000)
  (ih:∀ (m' n':Nat) (v':Value) (W:World),(m<cut n/\m'=m/\n'=cut n∨¬m<cut n/\m'=m - cut n/\n'=n - cut n)->zD1 W v' p->Calls Tryz.prog 147 #[sv a,.int .i64 (m':Int),.int .i64 (n':Int),v'] W fun e w'=>e=.returned (sv z)/\Below W.heap.size W w') :
  Calls Tryz.prog 147 #[sv a,.int .i64 (m:Int),.int .i64 (n:Int),v] w fun e w'=>e=.returned (sv (if m<cut n then nd z x else nd x z))/\Below w.heap.size w w':=by
 have h0:p++[x]≠[]:=by simp
 obtain⟨b,o,cap,rfl,hc1,hc2,hr⟩:=zFl hv h0
 have hsub:=zId hv rfl (i:=p.length) (by simp)
 rw[List.take_left]at hsub
 have hx:=zE8 hr (i:=p.length) (by simp)
 rw[List.getElem_concat_length rfl]at hx
 obtain⟨zl,hz⟩:∃ z,z=(p++[x]).length:=⟨_,rfl⟩
 obtain⟨y,hy⟩:∃ y,y=p.length:=⟨_,rfl⟩
 have hzy:zl=y+1:=by rw[hz,hy,zzi,zzx]
 rw[<-hz]at hc1 ⊢
 rw[<-hy]at hsub hx
 obtain⟨n1,n2,n3,n4,n5,n6,n7,n8,n9⟩:=zJi hzy hc1 hc2
 have hk1:=zE9 (n:=n) hn2
 obtain⟨q1,q2,q3,q4,q5,q6,q7,q8,q9,q10⟩:=zRx hn2 hk1 hn
 have hcut:=fun W=>zGr n W hn2 q6
 obtain⟨k,hkk⟩:∃ k,k=cut n:=⟨_,rfl⟩
 rw[<-hkk]at hk1 hcut ih q7 q8 ⊢
 obtain⟨t,ht⟩:∃ t,t=(if m<k then nd z x else nd x z):=⟨_,rfl⟩
 rw[<-ht]
 have HTT:=zzb ht
 have HS:=zAI hsub hx
 have HC:=zzb hcut
 have HIH:=zzb ih
 have HN:=zAI hm hn
 have HI:=zzb (zGh w a)
 clear hv hc1 hc2 hr h0 hsub hx hz hy hzy hcut ih hk1 hkk hm hn hn2 ht
 have HLR:Hid ((m<k)∨¬(m<k)):=zzb (Nat.lt_or_ge m k |>.imp id (fun h=>Nat.not_lt_of_le h))
 go_enter Tryz.func147,Tryz.ntmps147
 refine Alm.wp_cut 1 ?_
 intro T hT
 dsimp only[zHd]
 replace hT:=zzb hT
 go_wp2_with fail
 refine hT.out _ _ ?_
 clear hT
 dsimp only[zEz]
 change Code.wp _ _ _ _ ((w.alloc (.cells (cellsOf a).toArray 24)).alloc (.cells (cellsOf zDq).toArray 24))
 have H2:=zzb (HI.out 24)
 generalize ((w.alloc (.cells (cellsOf a).toArray 24)).alloc (.cells (cellsOf zDq).toArray 24))=w2 at *
 clear HI
 have HX2:=zzb (zEc H2.out.below HS.out.2 (zEp HS.out.2 (by intro h;have:=zDf x;rw[h]at this;cases this)))
 have HS2:=zzb (HS.out.1.below H2.out.below (zzc _))
 go_wp2_with (first
  | (refine zDe rfl _ rfl b (o+y*32) rfl x HX2.out ?_)
  | (refine zEd (by rfl) rfl _ _ rfl x rfl rfl ?_;intro W3 hb3 hr3 _ hlt3;refine Hid.out ?_))
 refine zzb ?_
 have H3:=zAI (H2.out.below.trans (hb3.mono H2.out.below.size)) (zza ((zK hb3).range H2.out.leaf id) (zza ((zK hb3).there H2.out.res (by decide) id) (zza hr3 (HS2.out.below hb3 (zzc _)))))
 clear hb3 hr3 hlt3 HX2 HS2
 obtain⟨g,hg⟩:∃ g,g=w2.heap.size:=⟨_,rfl⟩
 rw[<-hg]at H3 ⊢
 clear hg H2
 go_wp2_with (go_at_call 103;refine Hid.out ?_)
 refine zzb ?_
 refine (HC.out _).mono ?_
 rintro e w4 ⟨rfl,rfl⟩
 rcases HLR.out with hk | hk
 ·obtain⟨d1,d2,_,d3⟩:=zG1 hk
  have HK:=zzb hk
  have HT:=zzb (show t=nd z x by rw[HTT.out,zzS hk])
  clear HLR HTT hk
  go_wp2_with fail
  have hbd:=(zze W3.heap.size W3).drew
  have H4:=zzb (show Below w.heap.size w W3.drew/\W3.drew.there (w.heap.size+1) 0 32/\zD1 W3.drew (.slice (some ⟨b,o,none⟩) y cap) p/\W3.drew.rangeAt w.heap.size 0 (cellsOf a)/\W3.drew.rangeAt g 0 (cellsOf x) from ⟨H3.out.1.drew,(zK hbd).there H3.out.2.2.1 (by decide) id,H3.out.2.2.2.2.below hbd (zzc _),(zK hbd).range H3.out.2.1 id,(zK hbd).range H3.out.2.2.2.1 id⟩)
  clear H3
  refine zDb (fun V=>V.rangeAt w.heap.size 0 (cellsOf a)/\V.rangeAt g 0 (cellsOf x)) [.t 1,.t 2,.t 3,.s 0,.s 5,.e 4 true,.e 6 false,.e 7 false] (by kernel_rfl) (by kernel_rfl) (by rintro _ _(_|_)_ _ h<;>exact h) ?_
  generalize W3.drew=V at *
  clear hbd
  iterate 3
   refine zDi rfl (v:=?_) (by rfl) (fun W=>?_) ?_
   rotate_left
   ·go_simp
    try rfl
   try simp only[zU,zA,zB,zC]
  refine zD8 (by exact H4.out.2.2.2) rfl (by rfl) _ (by rfl) w.heap.size 0 (by rfl) a (fun V hV=>hV.1) ?_
  try simp only[zU,zA,zB,zC]
  refine zD8 (by exact H4.out.2.2.2) rfl (by rfl) _ (by rfl) g 0 (by rfl) x (fun V hV=>hV.2) ?_
  try simp only[zU,zA,zB,zC]
  refine zDx rfl (by rfl) (fun K hK=>?_)
  go_simp
  refine (HIH.out m k _ V (.inl ⟨HK.out,rfl,rfl⟩) H4.out.2.2.1).mono ?_
  rintro e V5 ⟨rfl,hb1⟩
  have H5:=zzb (show Below w.heap.size w V5/\V5.there (w.heap.size+1) 0 32/\V5.rangeAt w.heap.size 0 (cellsOf a)/\V5.rangeAt g 0 (cellsOf x) from ⟨H4.out.1.trans (hb1.mono H4.out.1.size),(zK hb1).there H4.out.2.1 (by decide) id,(zK hb1).range H4.out.2.2.2.1 id,(zK hb1).range H4.out.2.2.2.2 id⟩)
  clear hb1 H4
  refine hK _ _ ⟨by exact H5.out.2.2,?_⟩;clear hK K
  try simp only[zU,zA,zB,zC]
  refine zD7 rfl (by rfl) (fun K hK=>?_)
  go_simp
  refine (zGq z x V5).mono ?_
  rw[<-HT.out]
  rintro e V6 ⟨rfl,hb1⟩
  have H6:=zzb (show Below w.heap.size w V6/\V6.there (w.heap.size+1) 0 32 from ⟨H5.out.1.trans (hb1.mono H5.out.1.size),(zK hb1).there H5.out.2.1 (by decide) id⟩)
  clear hb1 H5
  refine hK _ _ ?_;clear hK K
  try simp only[zU,zA,zB,zC]
  refine zD7 rfl (by rfl) (fun K hK=>?_)
  refine zE5 _ _ (by rfl) (w.heap.size+1) 0 t (by rfl) (by rfl) H6.out.2 ?_
  refine hK _ _ ?_;clear hK K
  try simp only[zU,zA,zB,zC]
  refine zDn ?_
  go_wp2_with fail
  exact zzJ (zEa Tryz.results147 _ _ _ _ rfl (zzd H6.out.2 _ _ _)) rfl ⟨rfl,zDa _ (by omega) _ _ _ _ H6.out.1⟩
 ·obtain⟨d1,d2,d3,d4,d5,d6,d7⟩:=yGo hk HN.out.1 HN.out.2
  have HK:=zzb hk
  have HT:=zzb (show t=nd x z by rw[HTT.out,zzT hk])
  clear HLR HTT hk
  go_wp2_with fail
  have hbd:=(zze W3.heap.size W3).drew
  have H4:=zzb (show Below w.heap.size w W3.drew/\W3.drew.there (w.heap.size+1) 0 32/\zD1 W3.drew (.slice (some ⟨b,o,none⟩) y cap) p/\W3.drew.rangeAt w.heap.size 0 (cellsOf a)/\W3.drew.rangeAt g 0 (cellsOf x) from ⟨H3.out.1.drew,(zK hbd).there H3.out.2.2.1 (by decide) id,H3.out.2.2.2.2.below hbd (zzc _),(zK hbd).range H3.out.2.1 id,(zK hbd).range H3.out.2.2.2.1 id⟩)
  clear H3
  refine zDb (fun V=>V.rangeAt w.heap.size 0 (cellsOf a)/\V.rangeAt g 0 (cellsOf x)) [.t 2,.t 3,.t 4,.t 5,.t 6,.t 7,.t 8,.s 0,.e 1 true,.e 9 true,.e 10 false,.e 11 false] (by kernel_rfl) (by kernel_rfl) (by rintro _ _(_|_)_ _ h<;>exact h) ?_
  generalize W3.drew=V at *
  clear hbd
  iterate 7
   refine zDi rfl (v:=?_) (by rfl) (fun W=>?_) ?_
   rotate_left
   ·go_simp
    try rfl
   try simp only[zU,zA,zB,zC]
  refine zD8 (by exact H4.out.2.2.2) rfl (by rfl) _ (by rfl) g 0 (by rfl) x (fun V hV=>hV.2) ?_
  try simp only[zU,zA,zB,zC]
  refine zDx rfl (by rfl) (fun K hK=>?_)
  refine zFa _ (by rfl) w.heap.size 0 (by rfl) a H4.out.2.2.2.1 ?_
  refine hK _ _ ⟨by exact H4.out.2.2.2,?_⟩;clear hK K
  try simp only[zU,zA,zB,zC]
  refine zDx rfl (by rfl) (fun K hK=>?_)
  go_simp
  refine (HIH.out (m - k) (n - k) _ V (.inr ⟨HK.out,rfl,rfl⟩) H4.out.2.2.1).mono ?_
  rintro e V5 ⟨rfl,hb1⟩
  have H5:=zzb (show Below w.heap.size w V5/\V5.there (w.heap.size+1) 0 32/\V5.rangeAt w.heap.size 0 (cellsOf a)/\V5.rangeAt g 0 (cellsOf x) from ⟨H4.out.1.trans (hb1.mono H4.out.1.size),(zK hb1).there H4.out.2.1 (by decide) id,(zK hb1).range H4.out.2.2.2.1 id,(zK hb1).range H4.out.2.2.2.2 id⟩)
  clear hb1 H4
  refine hK _ _ ⟨by exact H5.out.2.2,?_⟩;clear hK K
  try simp only[zU,zA,zB,zC]
  refine zD7 rfl (by rfl) (fun K hK=>?_)
  go_simp
  refine (zGq x z V5).mono ?_
  rw[<-HT.out]
  rintro e V6 ⟨rfl,hb1⟩
  have H6:=zzb (show Below w.heap.size w V6/\V6.there (w.heap.size+1) 0 32 from ⟨H5.out.1.trans (hb1.mono H5.out.1.size),(zK hb1).there H5.out.2.1 (by decide) id⟩)
  clear hb1 H5
  refine hK _ _ ?_;clear hK K
  try simp only[zU,zA,zB,zC]
  refine zD7 rfl (by rfl) (fun K hK=>?_)
  refine zE5 _ _ (by rfl) (w.heap.size+1) 0 t (by rfl) (by rfl) H6.out.2 ?_
  refine hK _ _ ?_;clear hK K
  try simp only[zU,zA,zB,zC]
  refine zDn ?_
  go_wp2_with fail
  exact zzJ (zEa Tryz.results147 _ _ _ _ rfl (zzd H6.out.2 _ _ _)) rfl ⟨rfl,zDa _ (by omega) _ _ _ _ H6.out.1⟩
theorem zVo(a:Sum):∀ (d n m:Nat) (p:List Sum) (y:Sum) (v:Value) (w:World),n<=d->1<=n->n<1000000->m<n->zD1 w v p->zE7 nd a m n p=some (y,[])->Calls Tryz.prog 147 #[sv a,.int .i64 (m:Int),.int .i64 (n:Int),v] w fun e w'=>e=.returned (sv y)/\Below w.heap.size w w':=by
 intro d
 induction d with
 | zero=>intro n m p y v w h1 h2;omega
 | succ d ih =>
  intro n m p y v w hd h1 hn hm hv h
  by_cases h2:n<=1
  ·obtain⟨rfl,rfl⟩:=yEt h2 h
   obtain rfl:n=1:=by omega
   exact zTk y m v w
  ·obtain⟨p',x,z,rfl,hs⟩:=zPg h2 h
   have hc:=zE9 (n:=n) (by omega)
   have hc0:=zE3 n
   have hy:y=if m<cut n then nd z x else nd x z:=by
    rcases hs with ⟨hk,hy,_⟩ | ⟨hk,hy,_⟩
    ·rw[zzS hk,hy]
    ·rw[zzT hk,hy]
   rw[hy]
   refine zRy a x z m n p' v w hv (by omega) hm hn (fun m' n' v' W hmn hv'=>?_)
   rcases hs with ⟨hk,_,hl⟩ | ⟨hk,_,hl⟩
   ·rcases hmn with ⟨_,rfl,rfl⟩ | ⟨hk2,_⟩
    ·exact ih _ _ p' z v' W (by omega) hc0 (by omega) hk hv' hl
    ·exact absurd hk hk2
   ·rcases hmn with ⟨hk2,_⟩ | ⟨_,rfl,rfl⟩
    ·exact absurd hk2 hk
    ·exact ih _ _ p' z v' W (by omega) (by omega) (by omega) (by omega) hv' hl
theorem zNq(a:Sum)(n m:Nat)(p:List Sum)(y:Sum)(v:Value)(w:World)(h1:1<=n)(hn:n<1000000)(hm:m<n)(hv:zD1 w v p)(h:zE7 nd a m n p=some (y,[])):Calls Tryz.prog 147 #[sv a,.int .i64 (m:Int),.int .i64 (n:Int),v] w fun e w'=>e=.returned (sv y)/\Below w.heap.size w w' :=
 zVo a n n m p y v w (zzc _) h1 hn hm hv h
theorem zR5{m n:Nat}(h:¬n<=m):decide (n<=m)=false/\¬(n:Int)<=(m:Int):=⟨zzU h,by omega⟩
theorem zYs(a b:Sum)(m n:Nat)(v:Value)(p:List Sum)(w:World)(hv:zD1 w v p)(hn:n<18446744073709551616):Calls Tryz.prog 13 #[sv a,.int .u64 (m:Int),.int .u64 (n:Int),v,sv b] w fun e w'=>e=.returned (.bool (zFo a m n p b))/\Below w.heap.size w w':=by
 have HV:=zzb hv
 obtain⟨ad,cap,rfl,_,_,_⟩:=hv
 have b0:Below w.heap.size w (w.alloc (.cells (cellsOf a).toArray 24)):=al (zze _ _) _
 have b1:Below (w.alloc (.cells (cellsOf a).toArray 24)).heap.size (w.alloc (.cells (cellsOf a).toArray 24)) ((w.alloc (.cells (cellsOf a).toArray 24)).alloc (.cells (cellsOf b).toArray 24)):=al (zze _ _) _
 have ra:=(zK b1).range (zDl w (cellsOf a).toArray 24 _ rfl) id
 have rb:=zDl (w.alloc (.cells (cellsOf a).toArray 24)) (cellsOf b).toArray 24 _ rfl
 rw[zzp]at rb
 have HB:=zAI (b0.trans (b1.mono b0.size)) (zza ra rb)
 clear b0 b1 ra rb
 by_cases hmn:n<=m
 ·have hp:zFo a m n p b=false:=by unfold zFo;rw[zzU (by omega)];rfl
  rw[hp]
  obtain⟨d1,d2⟩:decide (n<=m)=true/\(n:Int)<=(m:Int):=⟨zzV hmn,by omega⟩
  clear hp hn
  go_enter Tryz.func13,Tryz.ntmps13
  go_wp2_with fail
  exact zzJ (zzK rfl _ _ _) rfl ⟨rfl,HB.out.1⟩
 ·obtain⟨d1,d2⟩:=zR5 hmn
  have hm:m<n:=by omega
  by_cases hl:64<p.length
  ·have hp:zFo a m n p b=false:=yG9 hn hl
   rw[hp]
   obtain⟨z,hz⟩:∃ z,z=p.length:=⟨_,rfl⟩
   rw[<-hz]at hl ⊢
   have d3:(64:Int)<(z:Int):=by omega
   clear hp hn hm hz
   go_enter Tryz.func13,Tryz.ntmps13
   go_wp2_with fail
   exact zzJ (zzK rfl _ _ _) rfl ⟨rfl,HB.out.1⟩
  ·have HBE:=zzb (fun s ok=>yJg (a:=a) (b:=b) (s:=s) (ok:=ok) (p:=p) hm)
   have HLD:=zzb (fun W hb=>zXd p.length a p m n _ W (zzc _) (by omega) hm hn (HV.out.below hb (zzc _)))
   obtain⟨z,hz⟩:∃ z,z=p.length:=⟨_,rfl⟩
   rw[<-hz]at hl HLD ⊢
   have d3:¬(64:Int)<(z:Int):=by omega
   have d4:decide (64<z)=false:=zzU hl
   clear hn hm hz HV hl hmn
   go_enter Tryz.func13,Tryz.ntmps13
   go_wp2_with (first
    | (refine zDe rfl _ rfl w.heap.size 0 rfl a HB.out.2.1 ?_)
    | (go_at_call 70;refine Hid.out ?_))
   refine zzb ?_
   refine (HLD.out _ HB.out.1).mono ?_
   rintro e w5 ⟨s,ok,rfl,hb5,hrl⟩
   have HE:=zzb (HBE.out s ok hrl)
   have H5:=zAI (HB.out.1.trans (hb5.mono HB.out.1.size)) ((zK hb5).range HB.out.2.2 id)
   clear hb5 hrl HB HBE HLD
   go_wp2_with (refine zEd (by rfl) rfl _ _ rfl s rfl rfl ?_;intro W6 hb6 hr6 _ hlt6;refine Hid.out ?_)
   refine zzb ?_
   have H6:=zAI (H5.out.1.trans (hb6.mono H5.out.1.size)) (zza ((zK hb6).range H5.out.2 id) hr6)
   obtain⟨g6,hg6⟩:∃ g,g=w5.heap.size:=⟨_,rfl⟩
   rw[<-hg6]at H6 ⊢
   clear hb6 hr6 hlt6 hg6 H5
   have hes:∀ w:World,(Op.equalIn 10000 24 (.agg (cellsOf s).toArray) (.agg (cellsOf b).toArray)).run Tryz.prog w=.ok (decide (s=b)) w:=fun w=>by rw[zG4]
   cases ok
   ·go_wp2_with fail
    exact zzJ (zzK rfl _ _ _) rfl ⟨by rw[HE.out];rfl,H6.out.1⟩
   ·go_wp2_with (first
     | (refine zEy (by rfl) _ rfl g6 0 rfl s H6.out.2.2 ?_)
     | (refine zEy (by rfl) _ rfl (w.heap.size+1) 0 rfl b H6.out.2.1 ?_))
    refine zzJ (zzK rfl _ _ _) rfl ⟨?_,H6.out.1⟩
    rw[HE.out];rfl
open Go Go.RowKit Go.ChangeShapes Go.WideShapes Go.ChangeAt Alm
section
variable {H : Type} {enc : TypeId × Value -> H} {P : Program} {w : World} {base : Nat} {spare : Nat -> Bool} {held : Bool}
end
section
variable {H : Type} {enc : TypeId × Value -> H} {W : World} {base : Nat} {spare : Nat -> Bool} {held : Bool} {r : Reach} {b2 : Nat}
theorem zXi:Tryz.prog.cellsOf 22=1:=by kernel_rfl
end
section
variable {H : Type} {enc : TypeId × Value -> H} {W : World} {base : Nat} {spare : Nat -> Bool} {held : Bool} {r : Reach} {b2 : Nat}
end
theorem zOo{n cap:Nat}(h:n<900000)(hc:n+1<=cap):wrap64 ((n:Int)+1)=((n+1:Nat):Int)/\(n:Int)<(cap:Int)/\¬(cap:Int)<=(n:Int)/\decide ((cap:Int)<=(n:Int))=false/\decide (cap<=n)=false/\((n+1:Nat):Int)<=(cap:Int)/\(0:Int)<=(n:Int)/\(n:Int)<((n+1:Nat):Int)/\¬cap<=n/\n+1<=cap:=by
 refine⟨by unfold wrap64;omega,by omega,by omega,by simp;omega,by simp;omega,by omega,by omega,by omega,by omega,hc⟩
theorem yEq(l:List Sum)(vt v:Value)(base:Nat)(w:World)(ht:zLw w base vt l)(hv:zD1 w v l)(hl:l.length<900000):Calls Tryz.prog 14 #[vt,v] w fun e w'=>e=.returned (.bool true)/\Below w.heap.size w w':=by
 have hv0:=hv
 obtain⟨va,vc,rfl,hc1,hc2,h3⟩:=hv
 have ht0:=ht
 obtain⟨g,cap,rfl,hlie⟩:=ht
 have hcp:l.length+1<=cap/\w.rangeAt g 0 (zDu (l++[mkS 77])):=by
  rcases hlie with ⟨h0,_⟩ | ⟨g',cap',hv4,_,_,hnc,_,hr,_⟩
  ·cases h0
  ·simp only[zzh,zzj,zye,and_true]at hv4
   obtain⟨rfl,_,rfl⟩:=hv4
   rw[zzm,zzi,zzx]at hnc
   rw[zQa]at hr
   exact⟨hnc,hr⟩
 obtain⟨n,hn⟩:∃ n,n=l.length:=⟨_,rfl⟩
 rw[<-hn]at hc1 hv0 hl hcp ⊢
 obtain⟨k1,k2,k3,k4,k5,k6,k7,k8,k9,k10⟩:=zOo hl hcp.1
 obtain⟨n1,hn1⟩:∃ m,m=n+1:=⟨_,rfl⟩
 rw[<-hn1]at k1 k6 k8 k10
 have HV:=zAI hv0 (zza hn (zza hc1 (zza hc2 (zza hl (zza hn1 hcp.2)))))
 clear hv0 hn hc1 hc2 hl hn1 hcp hlie ht0 h3
 have hes:=zNt
 go_enter Tryz.func14,Tryz.ntmps14
 go_wp2_with fail
 go_loopw [5] (fun iv W=>∃ i:Nat,i<=n/\iv=.int .i64 (i:Int)/\Below w.heap.size w W) (fun iv _=>n - (intOf iv).toNat)
 case atStart=>exact⟨0,zz7 _,rfl,zze _ _⟩
 case round =>
  obtain⟨i,hi,rfl,hB⟩:=hrel
  by_cases hlt:i<n
  ·obtain⟨d1,d2,d3,d4⟩:=zG1 hlt
   have hil:i<l.length:=by rw[<-HV.out.2.1];exact hlt
   have hne:l≠[]:=by intro h;rw[h]at hil;simp at hil
   obtain⟨b,o,cap',hvf,_,_,hr⟩:=zFl HV.out.1 hne
   simp only[zzh]at hvf
   obtain⟨rfl,-,rfl⟩:=hvf
   have hx:=zEc hB (zE8 hr hil) (zEp (zE8 hr hil) (by intro h;have:=zDf l[i];rw[h]at this;cases this))
   have hr2:=zE8 HV.out.2.2.2.2.2.2 (i:=i) (by rw[zzi,zzx];omega)
   rw[List.getElem_append_left hil,zzn]at hr2
   have hx2:=zEc hB hr2 (zEp hr2 (by intro h;have:=zDf l[i];rw[h]at this;cases this))
   have hd:=(zze wr.heap.size wr).drew
   generalize l[i]=s at *
   have HX:=zAI ((zK hd).range hx id) (zza ((zK hd).range hx2 id) hB.drew)
   clear hx hx2 hr hr2 hne hil hd hB
   go_wp2_with fail
   refine zDb (fun V=>V=wr.drew) [.t 0,.t 1,.t 2,.t 4,.t 5,.t 6,.s 3,.s 7,.t 8] (by kernel_rfl) (by kernel_rfl) (by rintro _ _(_|_)_ _ h<;>exact h) ?_
   generalize wr.drew=V at *
   iterate 6
    refine zDi rfl (v:=?_) (by rfl) (fun W=>?_) ?_
    rotate_left
    ·go_simp
     try rfl
    try simp only[zU,zA,zB,zC]
   refine zFc rfl rfl (by rfl) _ _ rfl g (i*32) (by rfl) (cellsOf s) _ (fun W hW=>by rw[hW];exact HX.out.2.1) Tryz.underlying24 rfl (by rw[zDf];exact zF2) ?_
   try simp only[zU,zA,zB,zC]
   refine zFc rfl rfl (by rfl) _ _ rfl b (o+i*32) (by rfl) (cellsOf s) _ (fun W hW=>by rw[hW];exact HX.out.1) Tryz.underlying24 rfl (by rw[zDf];exact zF2) ?_
   try simp only[zU,zA,zB,zC]
   refine zDi rfl (v:=?_) (by rfl) (fun W=>?_) ?_
   rotate_left
   ·go_simp
    try rfl
   try simp only[zU,zA,zB,zC]
   refine zDn ?_
   go_wp2_with fail
   have hwi:=yEo (k:=i) (by have:=HV.out;omega)
   try rw[hwi]
   have h9:=HX.out.2.2
   clear hwi HX HV hes k1 k2 k3 k4 k5 k6 k7 k8 k9 k10 d1 d2 d3 d4
   refine⟨⟨i+1,hlt,rfl,h9⟩,?_⟩
   clear h9
   simp only[intOf,zzD]
   omega
  ·obtain rfl:i=n:=by omega
   have hr2:=zE8 HV.out.2.2.2.2.2.2 (i:=i) (by rw[zzi,zzx,<-HV.out.2.1];omega)
   rw[List.getElem_append_right (by rw[<-HV.out.2.1];omega),zzn]at hr2
   simp only[List.getElem_singleton]at hr2
   have hx2:=zEc hB hr2 (zEp hr2 (by intro h;have:=zDf (mkS 77);rw[h]at this;cases this))
   have HX:=zAI hx2 hB
   clear hx2 hr2 hB
   go_wp2_with (first
    | (refine zDe rfl _ rfl g (i*32) rfl (mkS 77) HX.out.1 ?_)
    | (refine zEd (by rfl) rfl _ _ rfl (mkS 77) rfl rfl ?_;refine Hid.out ?_))
   refine zzb ?_
   intro W2 hb hr2 ht2 hlt2
   have H2:=zAI hr2 (HX.out.2.trans (hb.mono HX.out.2.size))
   clear hb hr2 ht2 hlt2
   go_wp2_with (first
    | (refine zDe rfl _ rfl wr.heap.size 0 rfl (mkS 77) H2.out.1 ?_)
    | (refine zK4 rfl rfl ?_))
   exact zzJ (zzK rfl _ _ _) rfl ⟨rfl,H2.out.2⟩
abbrev zHr(m n:Nat)(e:Bool)(A N L:Nat):Array Value:=#[.int .u64 (m:Int),.int .u64 (n:Int),.bool e,.pointer (some ⟨A,0,none⟩),.pointer (some ⟨N,0,none⟩),.pointer (some ⟨L,0,none⟩)]
theorem zQ1(B A N L c:Nat)(a:Sum)(n:Nat)(p:List Sum)(w:World)(hI:zJ2 w A N L c a)(hp:zFg B w c p):Calls Tryz.prog 108 (zHr n n true A N L) w (zGl B w c (some ((a,a),p))):=by
 have R0:Res w 64 (w.alloc (.cells (zDg (List.replicate 64 0)).toArray 114)):=Res.start _ _ _ _ (by rfl)
 have HA:=zzb (R0.range hI.sum)
 have hfin:zGl B w c (some ((a,a),p)) (.returned (.tuple #[bv a a,.nilIface])) ((w.alloc (.cells (zDg (List.replicate 64 0)).toArray 114)).setCells w.heap.size 0 (zD2 a a)) :=
  ⟨.of_below (R0.store _).below,rfl,hp.below (R0.store _).below⟩
 have HF:=zzb hfin;clear hfin hI hp
 go_enter Tryz.func108,Tryz.ntmps108
 go_wp2_with (first
   | (refine zDe rfl _ rfl A 0 rfl a HA.out ?_)
   | (refine zJu rfl _ rfl a a rfl ?_)
   | (refine zEs rfl _ _ rfl w.heap.size 0 a a rfl rfl R0.there ?_))
 refine zzJ (zDh Tryz.results108 _ _ w.heap.size 0 (zD2 a a) _ rfl (zDd _ _ _ _ (by rw[zDz];exact zzd R0.there _ _ _)) Tryz.underlying114 rfl (by rw[zDz];exact zHq)) rfl ?_
 exact HF.out
theorem zX6(B A N L c:Nat)(a:Sum)(n:Nat)(p:List Sum)(w:World)(hB:B<=w.heap.size)(hI:zJ2 w A N L c a)(hp:zFg B w c p):Calls Tryz.prog 108 (zHr n n false A N L) w (zGl B w c (told p)):=by
 have R0:Res w 64 (w.alloc (.cells (zDg (List.replicate 64 0)).toArray 114)):=Res.start _ _ _ _ (by rfl)
 have HN:=zzb (R0.cell hI.next)
 have hp0:=hp.below R0.below
 have hbw:=R0.below
 have hc:=hp.lt
 have ht:=R0.there
 have HBz:=zzb hB;clear hB
 have HW:=zAI hp0 (zza hbw (zza hc ht))
 clear hI hp hp0 hbw hc ht R0
 go_enter Tryz.func108,Tryz.ntmps108
 go_wp2_with (first
   | (refine zH4 rfl _ rfl N (zMx c) rfl HN.out ?_))
 refine (zR6 B (w.alloc (.cells (zDg (List.replicate 64 0)).toArray 114)) c p HW.out.1).mono ?_
 intro e1 w1 hn
 have hk1:=hn.keeps
 obtain⟨s,ev,he,hl⟩:=hn.form
 subst he
 have hbw:=HW.out.2.1
 have hc:=HW.out.2.2.1
 have ht:=HW.out.2.2.2
 have hne:w.heap.size≠c:=Nat.ne_of_gt hc
 have ht1:w1.there w.heap.size 0 64:=hk1.there ht (by decide) hne
 have hsz:w.heap.size<w1.heap.size:=zFi ht1 (by decide)
 have hk0:zDj (·=c) w w1:=(zDj.of_below hbw).trans hk1
 have R1:Res w1 32 (w1.alloc (.cells (zDg (List.replicate 32 0)).toArray 24)):=Res.start _ _ _ _ (by rfl)
 have HT1:=zzb R1.there
 have hR:=R1.store (cellsOf s)
 have HR2:=zzb (zDd w1.heap.size (cellsOf s) 0 _ (by rw[zDf];exact hR.there))
 have ht2:=zE4 (hR.below.block _ hsz) ht1
 have HT2:=zzb ht2
 have hk3:=zDt w.heap.size (zD2 s s) 0 ((w1.alloc (.cells (zDg (List.replicate 32 0)).toArray 24)).setCells w1.heap.size 0 (cellsOf s))
 have HF:=zzb (hl.end_ ((hk0.trans (.of_below hR.below)).trans' hk3 (fun i hi=>.inr (Nat.le_of_eq hi.symm))) (fun r h=>(h.below hR.below).keep hk3 (fun e=>hne e.symm) (fun k hk _=>hk ▸ HBz.out)))
 have HX:=zzb (zDd w.heap.size (zD2 s s) 0 _ (by rw[zDz];exact zzd ht2 w.heap.size 0 (zD2 s s)))
 clear hn hl hbw hc ht hne ht1 hsz hk0 R1 hR hk1 hk3 ht2
 go_wp2_with (first
   | (refine zDe rfl _ rfl w1.heap.size 0 rfl s HR2.out ?_)
   | (refine zJu rfl _ rfl s s rfl ?_)
   | (refine zDp rfl _ _ rfl w1.heap.size 0 s rfl rfl HT1.out ?_)
   | (refine zEs rfl _ _ rfl w.heap.size 0 s s rfl rfl HT2.out ?_))
 refine zzJ (zDh Tryz.results108 _ _ w.heap.size 0 (zD2 s s) _ rfl HX.out Tryz.underlying114 rfl (by rw[zDz];exact zHq)) rfl ?_
 exact HF.out
theorem zNu(n:Nat)(w:World)(h2:2<=n)(hn:n<18446744073709551616):Calls Tryz.prog 105 #[.int .u64 (n:Int)] w fun e w'=>e=.returned (.int .u64 (cut n:Int))/\w=w':=by
 obtain⟨q,hq⟩:∃ q,q=(n - 1).log2:=⟨_,rfl⟩
 have hE:(((n:Int) - 1).toNat).log2=q:=by rw[hq];congr 1;omega
 have q62:q<64:=by
  rw[hq]
  exact (Nat.log2_lt (by omega)).2 (by omega)
 have q62':(q:Int)<64:=by omega
 have q0:(0:Int)<=(q:Int):=by omega
 have m1:1<=(n:Int) - 1:=by omega
 have m2:(n:Int) - 1<=18446744073709551615:=by omega
 have hk:cut n=2 ^ q:=by rw[hq];rfl
 have hkl:cut n<n:=zE9 h2
 obtain⟨k,hkd⟩:∃ k,k=cut n:=⟨_,rfl⟩
 rw[<-hkd]at hk hkl ⊢
 have HE:=zzb hE;clear hE hq
 have M2:=zzb m2;clear m2
 have HK:=zzb hk;clear hk hkd
 go_enter Tryz.func105,Tryz.ntmps105
 go_wp2_with (go_at_call 151;refine (zS8 _ _ m1 M2.out).mono ?_;rw[HE.out];rintro e w1 ⟨rfl,rfl⟩)
 have pw:IntKind.u64.wrap ((2:Int) ^ q)=(k:Int):=by
  have h1:(2:Int) ^ q=(k:Int):=by rw[HK.out];push_cast;rfl
  rw[h1]
  simp only[IntKind.wrap,IntKind.bits,IntKind.signed,Bool.false_and,Bool.false_eq_true,if_false]
  omega
 exact zzJ (zzK rfl _ _ _) rfl ⟨by rw[<-pw];rfl,rfl⟩
end Go.Proofs.YtdkcndgehgmadaaGreatDoor
