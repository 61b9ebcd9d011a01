/- Joined: N9, LK6, LK7. -/
import Derived.Test.YtdkcndgehgmadaaGreatDoorZBF
set_option maxRecDepth 100000
set_option maxHeartbeats 1000000
open Go Go.RowKit Alm
namespace Go.Proofs.YtdkcndgehgmadaaGreatDoor
theorem yDr(n:Nat)(h:2<=n):n<=2*cut n:=by
 exact zQb h
theorem zMr(l:List (List UInt8))(m:Nat)(h2:2<=l.length)(h1:cut l.length<m)(hm:m<=l.length):sd (l.take m)=nd (sd (l.take (cut l.length))) (sd ((l.drop (cut l.length)).take (m - cut l.length))):=by
 obtain⟨j,hj⟩:=zYq l.length
 have ht:=yDr l.length h2
 have hsplit:(l.take m).map lf=(l.take (cut l.length)).map lf++((l.drop (cut l.length)).take (m - cut l.length)).map lf:=by
  rw[<-zya]
  congr 1
  have h9:m=cut l.length+(m - cut l.length):=by omega
  conv=>lhs;rw[h9]
  rw[List.take_add]
 unfold sd
 rw[hsplit,zTi]
 exact zVe nd e0 (j:=j) (by rw[zzm,zzq,hj];omega) (by rw[zzm,zzq,zz0];omega) (by rw[zzm,zzq,zz0];omega)
theorem zT2(a:Sum)(m n:Nat)(e:Bool):∀ (p:List Sum) (s:Sum×Sum) (t:List Sum),1<=m->zEg nd a m n e p=some (s,t)->∀ r,zEg nd a m n e (p++r)=some (s,t++r):=by
 induction m,n,e using zJ1.induct with
 | case1 m n hn =>
  intro p s t hm h r
  rw[zEg,dif_pos hn,zzS rfl]at h ⊢
  obtain⟨rfl,rfl⟩:=Prod.mk.inj (Option.some.inj h)
  rfl
 | case2 m n e hn he =>
  intro p s t hm h r
  rw[zEg,dif_pos hn,zzT he]at h ⊢
  cases p with
  | nil=>cases h
  | cons x q =>
   obtain⟨rfl,rfl⟩:=Prod.mk.inj (Option.some.inj h)
   rfl
 | case3 m n e hn h1=>intro p s t hm;omega
 | case4 m n e hn h1 hk ih =>
  intro p s t hm h r
  rw[zIb a m n e _ hn h1,zzS hk]at h ⊢
  rcases hr:zEg nd a m (cut n) e p with _ | ⟨⟨x,y⟩,_ | ⟨z,q⟩⟩
  ·rw[hr]at h;cases h
  ·rw[hr]at h;cases h
  ·rw[hr]at h
   rw[ih p (x,y) _ hm hr r]
   obtain⟨rfl,rfl⟩:=Prod.mk.inj (Option.some.inj h)
   rfl
 | case5 m n e hn h1 hk ih =>
  intro p s t hm h r
  rw[zIb a m n e _ hn h1,zzT hk]at h ⊢
  rcases hr:zEg nd a (m - cut n) (n - cut n) false p with _ | ⟨⟨x,y⟩,_ | ⟨z,q⟩⟩
  ·rw[hr]at h;cases h
  ·rw[hr]at h;cases h
  ·rw[hr]at h
   rw[ih p (x,y) _ (by omega) hr r]
   obtain⟨rfl,rfl⟩:=Prod.mk.inj (Option.some.inj h)
   rfl
theorem zQ0(a:Sum)(m n:Nat)(e:Bool)(p:List Sum)(z:Sum×Sum)(x:Sum)(hm:1<=m)(h:zEg nd a m n e p=some (z,[x])):∃ r,p.reverse=x::r/\zEg nd a m n e r.reverse=some (z,[]):=by
 have hl:zJ1 m n e<=p.length:=by
  rcases Nat.lt_or_ge p.length (zJ1 m n e)with h1 | h1
  ·rw[zU7 nd a m n e p hm h1]at h;cases h
  ·exact h1
 obtain⟨s,hs⟩:=zKd nd a m n e p hm hl
 rw[hs]at h
 obtain⟨rfl,hd⟩:=Prod.mk.inj (Option.some.inj h)
 have hp:p=p.take (zJ1 m n e)++[x]:=by rw[<-hd,zz1]
 have hlt:(p.take (zJ1 m n e)).length=zJ1 m n e:=by rw[zzq,Nat.min_eq_left hl]
 refine⟨(p.take (zJ1 m n e)).reverse,(congrArg List.reverse hp).trans (by simp),?_⟩
 rw[List.reverse_reverse]
 obtain⟨s',hs'⟩:=zKd nd a m n e (p.take (zJ1 m n e)) hm (by omega)
 have hs2:=zT2 a m n e (p.take (zJ1 m n e)) s' _ hm hs' [x]
 rw[<-hp,hs]at hs2
 have h7:=(Prod.mk.inj (Option.some.inj hs2)).1
 rw[hs',List.drop_eq_nil_of_le (by omega),h7]
theorem zTf(a:Sum)(m n:Nat)(e:Bool)(q:List Sum)(x y:Sum)(hm:1<=m)(hn:m<n)(h:zEg nd a m n e q.reverse=some ((x,y),[])) :
  ∃ s r x' y',q=s::r/\y=ndP (mkP (decide (m<=cut n),s) y')/\x=(if m<=cut n then x' else nd s x')/\zEg nd a (if m<=cut n then m else m - cut n) (if m<=cut n then cut n else n - cut n) (if m<=cut n then e else false) r.reverse=some ((x',y'),[]):=by
 rw[zIb a m n e _ (by omega) (by omega)]at h
 by_cases hk:m<=cut n
 ·rw[zzS hk]at h
  rw[zzS hk,zzS hk,zzS hk]
  rcases hr:zEg nd a m (cut n) e q.reverse with _ | ⟨⟨x',y'⟩,_ | ⟨s,t⟩⟩
  ·rw[hr]at h;cases h
  ·rw[hr]at h;cases h
  ·rw[hr]at h
   obtain⟨h1,rfl⟩:=Prod.mk.inj (Option.some.inj h)
   obtain⟨rfl,rfl⟩:=Prod.mk.inj h1
   obtain⟨r,h1,h2⟩:=zQ0 _ _ _ _ _ _ _ hm hr
   rw[List.reverse_reverse]at h1
   exact⟨s,r,x',y',h1,by simp[mkP,ndP,hk],by rw[zzS hk],h2⟩
 ·rw[zzT hk]at h
  rw[zzT hk,zzT hk,zzT hk]
  rcases hr:zEg nd a (m - cut n) (n - cut n) false q.reverse with _ | ⟨⟨x',y'⟩,_ | ⟨s,t⟩⟩
  ·rw[hr]at h;cases h
  ·rw[hr]at h;cases h
  ·rw[hr]at h
   obtain⟨h1,rfl⟩:=Prod.mk.inj (Option.some.inj h)
   obtain⟨rfl,rfl⟩:=Prod.mk.inj h1
   obtain⟨r,h1,h2⟩:=zQ0 _ _ _ _ _ _ _ (by omega) hr
   rw[List.reverse_reverse]at h1
   exact⟨s,r,x',y',h1,by simp[mkP,ndP,hk],by rw[zzT hk],h2⟩
structure zK0(a:Sum)(l:List (List UInt8))(m:Nat)(p:List Sum)(lj:List (List UInt8))(mj:Nat)(ej:Bool)(q:List Sum)(T:List (Bool×Sum))(th:List (Sum×Sum)):Prop where
 py:∃ x y,zEg nd a mj lj.length ej q.reverse=some ((x,y),[])/\sd l=zZl y T/\a=yD7 x T
 pd:zSe l lj T th
 pq:∃ r,p.reverse=r++q
 pm:1<=mj/\mj<=lj.length
 po:sd (l.take m)=zZz (sd (lj.take mj)) T th
 pn:lj.length<=l.length
 pz:∀ x∈lj,x∈l
theorem zK0.start{a:Sum}{l:List (List UInt8)}{m:Nat}{p:List Sum}(h:zIh m l.length a (sd l) p=true):zK0 a l m p l m true p.reverse [] []:=by
 unfold zIh at h
 rw[Bool.and_eq_true,Bool.and_eq_true]at h
 have h0:=zzW h.1.1
 have h1:=zzW h.1.2
 have h2:=h.2
 rcases hr:zEg nd a m l.length true p with _ | ⟨⟨x,y⟩,_ | ⟨s,t⟩⟩
 ·rw[hr]at h2;cases h2
 ·rw[hr]at h2
  simp only[Bool.and_eq_true,beq_iff_eq]at h2
  exact⟨⟨x,y,by rw[List.reverse_reverse];exact hr,h2.2.symm,h2.1.symm⟩,.nil _,⟨[],rfl⟩,⟨h0,h1⟩,rfl,zzc _,fun _ h=>h⟩
 ·rw[hr]at h2;cases h2
theorem zK0.step{a:Sum}{l:List (List UInt8)}{m:Nat}{p:List Sum}{lj:List (List UInt8)}{mj:Nat}{ej:Bool}{q:List Sum}{T:List (Bool×Sum)}{th:List (Sum×Sum)}(h:zK0 a l m p lj mj ej q T th)(h2:mj<lj.length) :
  ∃ x r,q=x::r/\p[r.length]? = some x/\r.length<p.length /\
   (mj<=cut lj.length->zK0 a l m p (lj.take (cut lj.length)) mj ej r (T++[(true,x)]) (th++[(sd (lj.take (cut lj.length)),sd (lj.drop (cut lj.length)))])) /\
   (¬mj<=cut lj.length->zK0 a l m p (lj.drop (cut lj.length)) (mj - cut lj.length) false r (T++[(false,x)]) (th++[(sd (lj.take (cut lj.length)),sd (lj.drop (cut lj.length)))])):=by
 obtain⟨x,y,hy,hv,ho⟩:=h.py
 obtain⟨s,r,x',y',hq,hyz,hxz,hl⟩:=zTf a mj lj.length ej q x y h.pm.1 h2 hy
 have hm1:=h.pm.1
 have hc:=zE9 (n:=lj.length) (by omega)
 have hp:=zE3 lj.length
 obtain⟨rr,hr⟩:=h.pq
 have hpx:p=r.reverse++s::rr.reverse:=by
  have:=congrArg List.reverse hr
  rw[List.reverse_reverse,hq]at this
  rw[this];simp
 have hr2:p.reverse=(rr++[s])++r:=by rw[hr,hq];simp
 refine⟨s,r,hq,?_,by rw[hpx];simp,fun hm=>?_,fun hm=>?_⟩
 ·rw[hpx,zzo (by simp)];simp
 ·rw[zzS hm,zzS hm,zzS hm]at hl
  rw[zzS hm]at hxz
  have hlen:(lj.take (cut lj.length)).length=cut lj.length:=by rw[zzq];omega
  refine⟨⟨x',y',by rw[hlen];exact hl,?_,?_⟩,h.pd.snocL s (by omega),⟨_,hr2⟩,by rw[hlen];exact⟨hm1,hm⟩,?_,by rw[hlen];have:=h.pn;omega,fun x hx=>h.pz x (List.mem_of_mem_take hx)⟩
  ·rw[zKx,hv,hyz,zzV hm]
  ·rw[zOp,ho,hxz];rfl
  ·rw[zPo _ _ _ _ _ h.pd.lens,h.po,List.take_take,Nat.min_eq_left hm];rfl
 ·rw[zzT hm,zzT hm,zzT hm]at hl
  rw[zzT hm]at hxz
  have hlen:(lj.drop (cut lj.length)).length=lj.length - cut lj.length:=zz0
  refine⟨⟨x',y',by rw[hlen];exact hl,?_,?_⟩,h.pd.snocR s (by omega),⟨_,hr2⟩,by rw[hlen];omega,?_,by rw[hlen];have:=h.pn;omega,fun x hx=>h.pz x (List.mem_of_mem_drop hx)⟩
  ·rw[zKx,hv,hyz,zzU hm]
  ·rw[zOp,ho,hxz];rfl
  ·rw[zPo _ _ _ _ _ h.pd.lens,h.po,zMr lj mj (by omega) (by omega) h.pm.2];rfl
theorem zK0.fin{a:Sum}{l:List (List UInt8)}{m:Nat}{p:List Sum}{lj:List (List UInt8)}{mj:Nat}{ej:Bool}{q:List Sum}{T:List (Bool×Sum)}{th:List (Sum×Sum)}(h:zK0 a l m p lj mj ej q T th)(h2:¬mj<lj.length) :
  ∃ f,(ej=true->f=a)/\(ej=false->p[0]? = some f)/\zWc f lj T th/\a=yD7 f T/\sd (l.take m)=zZz (sd lj) T th:=by
 obtain⟨x,y,hy,hv,ho⟩:=h.py
 have hm:=h.pm
 rw[zEg,dif_pos (by omega)]at hy
 have hpo:=h.po
 rw[show lj.take mj=lj from zzB (by omega)]at hpo
 cases ej with
 | true =>
  rw[zzS rfl]at hy
  obtain⟨h1,_⟩:=Prod.mk.inj (Option.some.inj hy)
  obtain⟨rfl,rfl⟩:=Prod.mk.inj h1
  exact⟨a,fun _=>rfl,(fun h=>by cases h),⟨l,h.pd,hv⟩,ho,hpo⟩
 | false =>
  rw[zzT (by simp)]at hy
  rcases hq:q.reverse with _ | ⟨z,t⟩
  ·rw[hq]at hy;cases hy
  ·rw[hq]at hy
   obtain⟨h1,rfl⟩:=Prod.mk.inj (Option.some.inj hy)
   obtain⟨rfl,rfl⟩:=Prod.mk.inj h1
   obtain⟨rr,hr⟩:=h.pq
   have hpx:p=z::rr.reverse:=by
    have:=congrArg List.reverse hr
    rw[List.reverse_reverse,List.reverse_append,hq]at this
    rw[this];rfl
   exact⟨z,fun h=>(by cases h),fun _=>by rw[hpx];rfl,⟨l,h.pd,hv⟩,ho,hpo⟩
theorem zW0{a f:Sum}{l lj:List (List UInt8)}{m:Nat}{T:List (Bool×Sum)}{th:List (Sum×Sum)}(h1:a=yD7 f T)(h2:sd (l.take m)=zZz (sd lj) T th)(h3:th=zE2 f T)(h4:sd lj=f):a=sd (l.take m):=by
 rw[h2,h3,zSq,h4];exact h1
theorem zW4{m n:Nat}(h:m<n):((m:Int) == (n:Int))=false/\decide (m=n)=false/\¬m=n/\decide ((m:Int)=(n:Int))=false/\¬(m:Int)=(n:Int)/\(m == n)=false:=by
 refine⟨by rw[zzX];omega,zzU (by omega),by omega,zzU (by omega),by omega,by rw[zzX];omega⟩
theorem yHt{m n k:Nat}(hk:¬m<=k)(hm:m<n)(hn:n<18446744073709551616):IntKind.u64.wrap ((m:Int) - (k:Int))=((m - k:Nat):Int)/\IntKind.u64.wrap ((n:Int) - (k:Int))=((n - k:Nat):Int):=by
 refine⟨by rw[IntKind.wrap_u64];omega,by rw[IntKind.wrap_u64];omega⟩
theorem yG2(B:Nat)(a:Sum)(m n:Nat)(ed:Bool)(v:Value)(p:List Sum)(r:Option ((Sum×Sum)×List Sum))(w:World)(hv:zD1 w v p)(hB:B<=w.heap.size)(hmn:m<n)(hn2:2<=n)(hn:n<18446744073709551616)(hk:m<=cut n)
  (ih:∀ W,Below w.heap.size w W->Calls Tryz.prog 110 #[.int .u64 (m:Int),.int .u64 (cut n:Int),sv a,v,.bool ed] W (yGq B W r)) :
  Calls Tryz.prog 110 #[.int .u64 (m:Int),.int .u64 (n:Int),sv a,v,.bool ed] w (yGq B w (zP7 r)):=by
 obtain⟨ad,cap,rfl,_,_,_⟩:=hv
 obtain⟨pl,hpl⟩:∃ k,k=p.length:=⟨_,rfl⟩
 rw[<-hpl]at ih ⊢
 clear hpl
 have hcut:=fun W=>zGr n W hn2 hn
 obtain⟨k,hkk⟩:∃ k,k=cut n:=⟨_,rfl⟩
 rw[<-hkk]at hcut hk ih
 obtain⟨e1,e2,e3,e4,e5,e6⟩:=zW4 hmn
 obtain⟨d1,d2,d3⟩:=zZp hk
 have HC:=zzb hcut
 have HIH:=zzb ih
 have HB:=zzb hB
 have HI:=zzb (zJs w a)
 have hb0:=zMa
 clear hcut ih hB hkk hn2 hn hmn hk
 go_enter Tryz.func110,Tryz.ntmps110
 refine Alm.wp_cut 1 ?_
 intro T hT
 dsimp only[zHd]
 replace hT:=zzb hT
 go_wp2_with fail
 refine hT.out _ _ ?_
 clear hT
 dsimp only[zEz]
 change Code.wp _ _ _ _ ((w.alloc (.cells (cellsOf a).toArray 24)).alloc (.cells (zD2 zDq zDq).toArray 119))
 have H2:=zzb (HI.out 119)
 generalize ((w.alloc (.cells (cellsOf a).toArray 24)).alloc (.cells (zD2 zDq zDq).toArray 119))=w2 at *
 clear HI
 go_wp2_with (go_at_call 103;refine Hid.out ?_)
 refine zzb ?_
 refine (HC.out _).mono ?_
 rintro e w4 ⟨rfl,rfl⟩
 go_wp2_with (first
  | (refine zDe rfl _ rfl w.heap.size 0 rfl a H2.out.leaf ?_)
  | (go_at_call 110;refine Hid.out ?_))
 refine zzb ?_
 refine (HIH.out w2 H2.out.below).mono ?_
 rintro e w5 ⟨hb5,hr5⟩
 have H5:=zAI (H2.out.below.trans (hb5.mono H2.out.below.size)) (zza ((zK hb5).there H2.out.res (by decide) id) (show w.heap.size+2<=w5.heap.size by have:=hb5.size;have:=H2.out.size;omega))
 clear hb5 HC HIH
 rcases r with _ | ⟨⟨x,y⟩,q⟩
 ·obtain⟨x,y,rfl⟩:=hr5
  go_wp2_with (refine zEx (by rfl) rfl _ _ rfl x y rfl rfl ?_;intro W6 hb6 hr6 hlt6;refine Hid.out ?_)
  refine zzb ?_
  have H6:=zAI (H5.out.1.trans (hb6.mono H5.out.1.size)) ((zK hb6).there H5.out.2.1 (by decide) id)
  clear hb6 hr6 hlt6
  go_wp2_with (refine zE0 rfl _ _ rfl (w.heap.size+1) 0 zDq zDq rfl rfl H6.out.2 ?_)
  refine zzJ (zFp Tryz.results110 _ _ _ _ _ rfl H6.out.2) rfl ?_
  exact⟨zDa (w.heap.size+1) (by omega) (zD2 zDq zDq) 0 _ _ H6.out.1,_,_,rfl⟩
 ·obtain⟨v5,rfl,hs5,ho5⟩:=hr5
  rcases q with _ | ⟨s,q⟩
  ·obtain⟨a5,c5,rfl,_,_,_⟩:=hs5
   go_wp2_with (refine zEx (by rfl) rfl _ _ rfl x y rfl rfl ?_;intro W6 hb6 hr6 hlt6;refine Hid.out ?_)
   refine zzb ?_
   have H6:=zAI (H5.out.1.trans (hb6.mono H5.out.1.size)) ((zK hb6).there H5.out.2.1 (by decide) id)
   clear hb6 hr6 hlt6
   go_wp2_with (refine zE0 rfl _ _ rfl (w.heap.size+1) 0 zDq zDq rfl rfl H6.out.2 ?_)
   refine zzJ (zFp Tryz.results110 _ _ _ _ _ rfl H6.out.2) rfl ?_
   exact⟨zDa (w.heap.size+1) (by omega) (zD2 zDq zDq) 0 _ _ H6.out.1,_,_,rfl⟩
  ·obtain⟨b,o,cq,z,n9,o1,rfl,⟨hz1,hz2,hz3,hz4⟩,hs,hsl,hrest⟩:=zIg hs5
   have HBB:=zzb (ho5 (by simp) b rfl)
   have HS:=zzb hs
   have HR:=zzb hrest
   have HSL:=zzb hsl
   clear hs hsl hrest ho5 hs5
   go_wp2_with (refine zEx (by rfl) rfl _ _ rfl x y rfl rfl ?_;intro W6 hb6 hr6 hlt6;refine Hid.out ?_)
   refine zzb ?_
   have H6:=zAI (H5.out.1.trans (hb6.mono H5.out.1.size)) (zza ((zK hb6).there H5.out.2.1 (by decide) id) (zza (brq hb6 HS.out) (zza hr6 hb6)))
   obtain⟨g,hg⟩:∃ g,g=w5.heap.size:=⟨_,rfl⟩
   rw[<-hg]at H6 ⊢
   have HG:=zzb hg
   clear hb6 hr6 hlt6 hg
   go_wp2_with fail
   have hd:=(zze W6.heap.size W6).drew
   have HD:=zAI (H6.out.1.trans (hd.mono H6.out.1.size)) (zza ((zK hd).there H6.out.2.1 (by decide) id) (zza (brq hd H6.out.2.2.1) (zza (brq hd H6.out.2.2.2.1) (show Below w5.heap.size w5 W6.drew by have h6:=H6.out.2.2.2.2;rw[HG.out]at h6;exact h6.trans (hd.mono h6.size)))))
   clear hd H6 H5
   refine zDb (fun V=>V.rangeAt g 0 (zD2 x y)) [.t 0,.t 2,.t 4,.t 5,.t 9,.t 10,.s 1,.s 3,.e 6 true,.e 7 true,.t 8,.e 11 false,.t 12,.t 13] (by kernel_rfl) (by kernel_rfl) (by rintro _ _(_|_)_ _ h<;>exact h) ?_
   generalize W6.drew=V at *
   iterate 5
    refine zDi rfl (v:=?_) (by rfl) (fun W=>?_) ?_
    rotate_left
    ·go_simp
     try rfl
    try simp only[zU,zA,zB,zC]
   have hsl:=HSL.out
   refine zDi rfl (v:=?_) (by rfl) (fun W=>?_) ?_
   rotate_left
   ·go_simp
    try rfl
   try simp only[zU,zA,zB,zC]
   clear hsl
   refine zD8 (by exact HD.out.2.2.2.1) rfl (by rfl) _ (by rfl) g 0 (by rfl) x (fun V hV=>zIi hV) ?_
   try simp only[zU,zA,zB,zC]
   refine zD8 (by exact HD.out.2.2.2.1) rfl (by rfl) _ (by rfl) g 32 (by rfl) y (fun V hV=>by have:=zHv hV;rw[zDf,zzn]at this;exact this) ?_
   try simp only[zU,zA,zB,zC]
   refine zDx rfl (by rfl) (fun K hK=>?_)
   refine zFa _ (by rfl) b o (by rfl) s HD.out.2.2.1 ?_
   refine hK _ _ ⟨by exact HD.out.2.2.2.1,?_⟩;clear hK K
   try simp only[zU,zA,zB,zC]
   refine zDx rfl (by rfl) (fun K hK=>?_)
   go_simp
   refine (zGq y s V).mono ?_
   rintro e V7 ⟨rfl,hb7⟩
   have H7:=zAI (HD.out.1.trans (hb7.mono HD.out.1.size)) (zza ((zK hb7).there HD.out.2.1 (by decide) id) (zza (brq hb7 HD.out.2.2.2.1) (HD.out.2.2.2.2.trans (hb7.mono HD.out.2.2.2.2.size))))
   clear hb7
   refine hK _ _ ⟨by exact H7.out.2.2.1,?_⟩;clear hK K
   try simp only[zU,zA,zB,zC]
   obtain⟨t,ht⟩:∃ t,t=nd y s:=⟨_,rfl⟩
   rw[<-ht]
   have HTt:=zzb ht
   clear ht
   refine zDi rfl (v:=bv x t) (by rfl) (fun W=>zH1 _ rfl x t (by rfl) W) ?_
   try simp only[zU,zA,zB,zC]
   refine zD7 rfl (by rfl) (fun K hK=>?_)
   refine zJd _ _ (by rfl) (w.heap.size+1) 0 x t (by rfl) (by rfl) H7.out.2.1 ?_
   refine hK _ _ ?_;clear hK K
   try simp only[zU,zA,zB,zC]
   iterate 2
    refine zDi rfl (v:=?_) (by rfl) (fun W=>?_) ?_
    rotate_left
    ·go_simp
     try rfl
    try simp only[zU,zA,zB,zC]
   refine zDn ?_
   go_wp2_with fail
   refine zzJ (zFp Tryz.results110 _ _ _ _ _ rfl H7.out.2.1) rfl ?_
   have hb:=zDa (w.heap.size+1) (by omega) (zD2 x t) 0 _ _ H7.out.1
   have hkp:=(zDj.of_below (X:=(·=w.heap.size+1)) H7.out.2.2.2).trans (zDt (w.heap.size+1) (zD2 x t) 0 _)
   exact⟨hb,_,by obtain rfl:=HTt.out;rfl,HR.out _ _ hkp (by have:=HBB.out;have:=HB.out;omega),fun _ k hk=>by
    obtain rfl:b=k:=by simpa[Value.ownBlock]using hk
    exact HBB.out⟩
theorem yEv(B:Nat)(a:Sum)(m n:Nat)(ed:Bool)(v:Value)(p:List Sum)(r:Option ((Sum×Sum)×List Sum))(w:World)(hv:zD1 w v p)(hB:B<=w.heap.size)(hmn:m<n)(hn2:2<=n)(hn:n<18446744073709551616)(hk:¬m<=cut n)
  (ih:∀ W,Below w.heap.size w W->Calls Tryz.prog 110 #[.int .u64 ((m - cut n:Nat):Int),.int .u64 ((n - cut n:Nat):Int),sv a,v,.bool false] W (yGq B W r)) :
  Calls Tryz.prog 110 #[.int .u64 (m:Int),.int .u64 (n:Int),sv a,v,.bool ed] w (yGq B w (zNg r)):=by
 obtain⟨ad,cap,rfl,_,_,_⟩:=hv
 obtain⟨pl,hpl⟩:∃ k,k=p.length:=⟨_,rfl⟩
 rw[<-hpl]at ih ⊢
 clear hpl
 have hcut:=fun W=>zGr n W hn2 hn
 obtain⟨k,hkk⟩:∃ k,k=cut n:=⟨_,rfl⟩
 rw[<-hkk]at hcut hk ih
 obtain⟨e1,e2,e3,e4,e5,e6⟩:=zW4 hmn
 obtain⟨d1,d2,d3⟩:=zU3 hk
 obtain⟨d4,d5⟩:=yHt hk hmn hn
 have HC:=zzb hcut
 have HIH:=zzb ih
 have HB:=zzb hB
 have HI:=zzb (zJs w a)
 have hb0:=zMa
 clear hcut ih hB hkk hn2 hn hmn hk
 go_enter Tryz.func110,Tryz.ntmps110
 refine Alm.wp_cut 1 ?_
 intro T hT
 dsimp only[zHd]
 replace hT:=zzb hT
 go_wp2_with fail
 refine hT.out _ _ ?_
 clear hT
 dsimp only[zEz]
 change Code.wp _ _ _ _ ((w.alloc (.cells (cellsOf a).toArray 24)).alloc (.cells (zD2 zDq zDq).toArray 119))
 have H2:=zzb (HI.out 119)
 generalize ((w.alloc (.cells (cellsOf a).toArray 24)).alloc (.cells (zD2 zDq zDq).toArray 119))=w2 at *
 clear HI
 go_wp2_with (go_at_call 103;refine Hid.out ?_)
 refine zzb ?_
 refine (HC.out _).mono ?_
 rintro e w4 ⟨rfl,rfl⟩
 go_wp2_with (first
  | (refine zDe rfl _ rfl w.heap.size 0 rfl a H2.out.leaf ?_)
  | (go_at_call 110;refine Hid.out ?_))
 refine zzb ?_
 refine (HIH.out w2 H2.out.below).mono ?_
 rintro e w5 ⟨hb5,hr5⟩
 have H5:=zAI (H2.out.below.trans (hb5.mono H2.out.below.size)) (zza ((zK hb5).there H2.out.res (by decide) id) (show w.heap.size+2<=w5.heap.size by have:=hb5.size;have:=H2.out.size;omega))
 clear hb5 HC HIH
 rcases r with _ | ⟨⟨x,y⟩,q⟩
 ·obtain⟨x,y,rfl⟩:=hr5
  go_wp2_with (refine zEx (by rfl) rfl _ _ rfl x y rfl rfl ?_;intro W6 hb6 hr6 hlt6;refine Hid.out ?_)
  refine zzb ?_
  have H6:=zAI (H5.out.1.trans (hb6.mono H5.out.1.size)) ((zK hb6).there H5.out.2.1 (by decide) id)
  clear hb6 hr6 hlt6
  go_wp2_with (refine zE0 rfl _ _ rfl (w.heap.size+1) 0 zDq zDq rfl rfl H6.out.2 ?_)
  refine zzJ (zFp Tryz.results110 _ _ _ _ _ rfl H6.out.2) rfl ?_
  exact⟨zDa (w.heap.size+1) (by omega) (zD2 zDq zDq) 0 _ _ H6.out.1,_,_,rfl⟩
 ·obtain⟨v5,rfl,hs5,ho5⟩:=hr5
  rcases q with _ | ⟨s,q⟩
  ·obtain⟨a5,c5,rfl,_,_,_⟩:=hs5
   go_wp2_with (refine zEx (by rfl) rfl _ _ rfl x y rfl rfl ?_;intro W6 hb6 hr6 hlt6;refine Hid.out ?_)
   refine zzb ?_
   have H6:=zAI (H5.out.1.trans (hb6.mono H5.out.1.size)) ((zK hb6).there H5.out.2.1 (by decide) id)
   clear hb6 hr6 hlt6
   go_wp2_with (refine zE0 rfl _ _ rfl (w.heap.size+1) 0 zDq zDq rfl rfl H6.out.2 ?_)
   refine zzJ (zFp Tryz.results110 _ _ _ _ _ rfl H6.out.2) rfl ?_
   exact⟨zDa (w.heap.size+1) (by omega) (zD2 zDq zDq) 0 _ _ H6.out.1,_,_,rfl⟩
  ·obtain⟨b,o,cq,z,n9,o1,rfl,⟨hz1,hz2,hz3,hz4⟩,hs,hsl,hrest⟩:=zIg hs5
   have HBB:=zzb (ho5 (by simp) b rfl)
   have HS:=zzb hs
   have HR:=zzb hrest
   have HSL:=zzb hsl
   clear hs hsl hrest ho5 hs5
   go_wp2_with (refine zEx (by rfl) rfl _ _ rfl x y rfl rfl ?_;intro W6 hb6 hr6 hlt6;refine Hid.out ?_)
   refine zzb ?_
   have H6:=zAI (H5.out.1.trans (hb6.mono H5.out.1.size)) (zza ((zK hb6).there H5.out.2.1 (by decide) id) (zza (brq hb6 HS.out) (zza hr6 hb6)))
   obtain⟨g,hg⟩:∃ g,g=w5.heap.size:=⟨_,rfl⟩
   rw[<-hg]at H6 ⊢
   have HG:=zzb hg
   clear hb6 hr6 hlt6 hg
   go_wp2_with fail
   have hd:=(zze W6.heap.size W6).drew
   have HD:=zAI (H6.out.1.trans (hd.mono H6.out.1.size)) (zza ((zK hd).there H6.out.2.1 (by decide) id) (zza (brq hd H6.out.2.2.1) (zza (brq hd H6.out.2.2.2.1) (show Below w5.heap.size w5 W6.drew by have h6:=H6.out.2.2.2.2;rw[HG.out]at h6;exact h6.trans (hd.mono h6.size)))))
   clear hd H6 H5
   refine zDb (fun V=>V.rangeAt g 0 (zD2 x y)/\V.rangeAt b o (cellsOf s)) [.t 0,.t 1,.t 3,.t 6,.t 7,.t 9,.t 13,.t 14,.s 2,.s 4,.s 8,.s 10,.e 5 true,.e 11 false,.t 12,.e 15 false,.t 16,.t 17] (by kernel_rfl) (by kernel_rfl) (by rintro _ _(_|_)_ _ h<;>exact h) ?_
   generalize W6.drew=V at *
   iterate 7
    refine zDi rfl (v:=?_) (by rfl) (fun W=>?_) ?_
    rotate_left
    ·go_simp
     try rfl
    try simp only[zU,zA,zB,zC]
   have hsl:=HSL.out
   refine zDi rfl (v:=?_) (by rfl) (fun W=>?_) ?_
   rotate_left
   ·go_simp
    try rfl
   try simp only[zU,zA,zB,zC]
   clear hsl
   have HSS:=zAI HD.out.2.2.2.1 HD.out.2.2.1
   refine zD8 (by exact HSS.out) rfl (by rfl) _ (by rfl) b o (by rfl) s (fun V hV=>hV.2) ?_
   try simp only[zU,zA,zB,zC]
   refine zD8 (by exact HSS.out) rfl (by rfl) _ (by rfl) g 0 (by rfl) x (fun V hV=>zIi hV.1) ?_
   try simp only[zU,zA,zB,zC]
   refine zD8 (by exact HSS.out) rfl (by rfl) _ (by rfl) b o (by rfl) s (fun V hV=>hV.2) ?_
   try simp only[zU,zA,zB,zC]
   refine zD8 (by exact HSS.out) rfl (by rfl) _ (by rfl) g 32 (by rfl) y (fun V hV=>by have:=zHv hV.1;rw[zDf,zzn]at this;exact this) ?_
   try simp only[zU,zA,zB,zC]
   refine zDx rfl (by rfl) (fun K hK=>?_)
   go_simp
   refine (zGq s x V).mono ?_
   rintro e V6 ⟨rfl,hb6⟩
   have H6:=zAI (HD.out.1.trans (hb6.mono HD.out.1.size)) (zza ((zK hb6).there HD.out.2.1 (by decide) id) (zza (brq hb6 HSS.out.1) (zza (brq hb6 HSS.out.2) (HD.out.2.2.2.2.trans (hb6.mono HD.out.2.2.2.2.size)))))
   clear hb6
   refine hK _ _ ⟨by exact⟨H6.out.2.2.1,H6.out.2.2.2.1⟩,?_⟩;clear hK K
   try simp only[zU,zA,zB,zC]
   refine zD7 rfl (by rfl) (fun K hK=>?_)
   go_simp
   refine (zGq s y V6).mono ?_
   rintro e V7 ⟨rfl,hb7⟩
   have H7:=zAI (H6.out.1.trans (hb7.mono H6.out.1.size)) (zza ((zK hb7).there H6.out.2.1 (by decide) id) (zza (brq hb7 H6.out.2.2.1) (H6.out.2.2.2.2.trans (hb7.mono H6.out.2.2.2.2.size))))
   clear hb7 H6
   refine hK _ _ ?_;clear hK K
   try simp only[zU,zA,zB,zC]
   obtain⟨t0,ht0⟩:∃ t,t=nd s x:=⟨_,rfl⟩
   rw[<-ht0]
   have HTt0:=zzb ht0
   clear ht0
   obtain⟨t,ht⟩:∃ t,t=nd s y:=⟨_,rfl⟩
   rw[<-ht]
   have HTt:=zzb ht
   clear ht
   refine zDi rfl (v:=bv t0 t) (by rfl) (fun W=>zH1 _ rfl t0 t (by rfl) W) ?_
   try simp only[zU,zA,zB,zC]
   refine zD7 rfl (by rfl) (fun K hK=>?_)
   refine zJd _ _ (by rfl) (w.heap.size+1) 0 t0 t (by rfl) (by rfl) H7.out.2.1 ?_
   refine hK _ _ ?_;clear hK K
   try simp only[zU,zA,zB,zC]
   iterate 2
    refine zDi rfl (v:=?_) (by rfl) (fun W=>?_) ?_
    rotate_left
    ·go_simp
     try rfl
    try simp only[zU,zA,zB,zC]
   refine zDn ?_
   go_wp2_with fail
   refine zzJ (zFp Tryz.results110 _ _ _ _ _ rfl H7.out.2.1) rfl ?_
   have hb:=zDa (w.heap.size+1) (by omega) (zD2 t0 t) 0 _ _ H7.out.1
   have hkp:=(zDj.of_below (X:=(·=w.heap.size+1)) H7.out.2.2.2).trans (zDt (w.heap.size+1) (zD2 t0 t) 0 _)
   exact⟨hb,_,by obtain rfl:=HTt0.out;obtain rfl:=HTt.out;rfl,HR.out _ _ hkp (by have:=HBB.out;have:=HB.out;omega),fun _ k hk=>by
    obtain rfl:b=k:=by simpa[Value.ownBlock]using hk
    exact HBB.out⟩
theorem yH9(B:Nat)(a:Sum):∀ (d n m:Nat) (ed:Bool) (p:List Sum) (v:Value) (w:World),n<=d->1<=m->m<=n->n<18446744073709551616->B<=w.heap.size->zD1 w v p->(p≠[]->∀ k,v.ownBlock=some k->k<B) ->
  Calls Tryz.prog 110 #[.int .u64 (m:Int),.int .u64 (n:Int),sv a,v,.bool ed] w (yGq B w (zEg nd a m n ed p)):=by
 intro d
 induction d with
 | zero=>intro n m ed p v w h0 h1 h2;omega
 | succ d ih =>
  intro n m ed p v w h0 h1 h2 h3 hB hv hk
  by_cases hmn:m=n
  ·subst hmn
   rw[zEg,dif_pos (zzc m)]
   cases ed
   ·rw[zzT (by simp)]
    cases p with
    | nil=>exact yI1 B a m v w hv
    | cons s r=>exact yG8 B a s r m v w hv hk
   ·rw[zzS rfl]
    exact yH5 B a m p v w hv hk
  ·have hn2:2<=n:=by omega
   have c1:=zE9 hn2
   have c2:=zE3 n
   rw[zIb a m n ed p (by omega) (by omega)]
   by_cases hc:m<=cut n
   ·rw[zzS hc]
    exact yG2 B a m n ed v p _ w hv hB (by omega) hn2 h3 hc fun W hb=>ih (cut n) m ed p v W (by omega) h1 hc (by omega) (zzk hB hb.size) (hv.below hb (zzc _)) hk
   ·rw[zzT hc]
    exact yEv B a m n ed v p _ w hv hB (by omega) hn2 h3 hc fun W hb=>ih (n - cut n) (m - cut n) false p v W (by omega) (by omega) (by omega) (by omega) (zzk hB hb.size) (hv.below hb (zzc _)) hk
theorem zRe{w:World}{v:Value}{p:List Sum}(hv:zD1 w v p):p≠[]->∀ k,v.ownBlock=some k->k<w.heap.size:=by
 intro h0 k hk
 obtain⟨b,o,cap,rfl,_,_,hr⟩:=zFl hv h0
 obtain rfl:b=k:=by simpa[Value.ownBlock]using hk
 exact zEp hr (by
  intro h
  have h3:=congrArg List.length h
  rw[zE6]at h3
  have:p.length=0:=by simp only[zzO]at h3;omega
  exact h0 (zzt.1 this))
theorem zWt(x a:Sum):(x == a)=decide (x=a):=by
 by_cases h:x=a
 ·rw[zzV h,h];simp
 ·rw[zzU h,zzX];exact h
theorem zZf{m n:Nat}(h1:1<=m)(h2:m<=n):¬(m:Int)<1/\decide ((m:Int)<1)=false/\¬(n:Int)<(m:Int)/\decide (n<m)=false/\¬n<m/\decide ((n:Int)<(m:Int))=false:=by
 refine⟨by omega,zzU (by omega),by omega,zzU (by omega),by omega,zzU (by omega)⟩
theorem zVg(m n:Nat)(a b:Sum)(v:Value)(p:List Sum)(w:World)(hv:zD1 w v p)(hn:n<18446744073709551616):Calls Tryz.prog 27 #[.int .u64 (m:Int),.int .u64 (n:Int),sv a,sv b,v] w fun e w'=>e=.returned (.bool (zIh m n a b p))/\Below w.heap.size w w':=by
 have HV:=zzb hv
 have b0:Below w.heap.size w (w.alloc (.cells (cellsOf a).toArray 24)):=Alm.al (zze _ _) _
 have b1:Below (w.alloc (.cells (cellsOf a).toArray 24)).heap.size (w.alloc (.cells (cellsOf a).toArray 24)) ((w.alloc (.cells (cellsOf a).toArray 24)).alloc (.cells (cellsOf b).toArray 24)):=Alm.al (zze _ _) _
 have ra:=(zK b1).range (zDl w (cellsOf a).toArray 24 _ rfl) id
 have rb:=zDl (w.alloc (.cells (cellsOf a).toArray 24)) (cellsOf b).toArray 24 _ rfl
 rw[zzp]at rb
 have HB:=zAI (b0.trans (b1.mono b0.size)) (zza ra rb)
 clear b0 b1 ra rb
 by_cases hmn:1<=m/\m<=n
 ·have hld:=fun W (hb:Below w.heap.size w W)=>yH9 w.heap.size a n n m true p v W (zzc _) hmn.1 hmn.2 hn hb.size (hv.below hb (zzc _)) (zRe hv)
  have hbe:zIh m n a b p=(match zEg nd a m n true p with
    | some ((x,y),[])=>x == a && y == b
    | _=>false):=by
   unfold zIh
   rw[zzV hmn.1,zzV hmn.2];rfl
  obtain⟨e1,e2,e3,e4,e5,e6⟩:=zZf hmn.1 hmn.2
  rw[hbe]
  generalize zEg nd a m n true p=r at *
  have HLD:=zzb hld
  clear hld hbe hn hmn
  obtain⟨ad,cap,rfl,_,_,_⟩:=hv
  go_enter Tryz.func27,Tryz.ntmps27
  go_wp2_with (first
   | (refine zDe rfl _ rfl w.heap.size 0 rfl a HB.out.2.1 ?_)
   | (go_at_call 110;refine Hid.out ?_))
  refine zzb ?_
  refine (HLD.out _ HB.out.1).mono ?_
  rintro e w5 ⟨hb5,hr5⟩
  have H5:=zAI (HB.out.1.trans (hb5.mono HB.out.1.size)) (zza (brq hb5 HB.out.2.1) (brq hb5 HB.out.2.2))
  clear hb5 HB HLD
  rcases r with _ | ⟨⟨x,y⟩,q⟩
  ·obtain⟨x,y,rfl⟩:=hr5
   go_wp2_with (refine zEx (by rfl) rfl _ _ rfl x y rfl rfl ?_;intro W6 hb6 hr6 hlt6;refine Hid.out ?_)
   refine zzb ?_
   have H6:=zzb (H5.out.1.trans (hb6.mono H5.out.1.size))
   clear hb6 hr6 hlt6
   go_wp2_with fail
   exact zzJ (zzK rfl _ _ _) rfl ⟨rfl,H6.out⟩
  ·obtain⟨v5,rfl,hs5,-⟩:=hr5
   rcases q with _ | ⟨s,q⟩
   ·obtain⟨a5,c5,rfl,_,_,_⟩:=hs5
    go_wp2_with (refine zEx (by rfl) rfl _ _ rfl x y rfl rfl ?_;intro W6 hb6 hr6 hlt6;refine Hid.out ?_)
    refine zzb ?_
    have hry:W6.rangeAt w5.heap.size 32 (cellsOf y):=by have:=zHv hr6;rw[zDf,zzn]at this;exact this
    have H6:=zAI (H5.out.1.trans (hb6.mono H5.out.1.size)) (zza (brq hb6 H5.out.2.1) (zza (brq hb6 H5.out.2.2) (zza (zIi hr6) hry)))
    obtain⟨g,hg⟩:∃ g,g=w5.heap.size:=⟨_,rfl⟩
    rw[<-hg]at H6 ⊢
    clear hb6 hr6 hlt6 hry hg H5
    have he1:∀ w:World,(Op.equalIn 10000 24 (.agg (cellsOf x).toArray) (.agg (cellsOf a).toArray)).run Tryz.prog w=.ok (x == a) w:=fun w=>by rw[zG4,zWt]
    have he2:∀ w:World,(Op.equalIn 10000 24 (.agg (cellsOf y).toArray) (.agg (cellsOf b).toArray)).run Tryz.prog w=.ok (y == b) w:=fun w=>by rw[zG4,zWt]
    obtain⟨r1,hr1⟩:∃ r,r=(x == a):=⟨_,rfl⟩
    rw[<-hr1]at he1
    obtain⟨r2,hr2⟩:∃ r,r=(y == b):=⟨_,rfl⟩
    rw[<-hr2]at he2
    have HRR:=zAI hr1 hr2
    clear hr1 hr2
    cases r1
    ·go_wp2_with (first
      | (refine zEy (by rfl) _ rfl g 0 rfl x H6.out.2.2.2.1 ?_)
      | (refine zEy (by rfl) _ rfl w.heap.size 0 rfl a H6.out.2.1 ?_))
     exact zzJ (zzK rfl _ _ _) rfl ⟨by simp only[<-HRR.out.1,Bool.false_and];rfl,H6.out.1⟩
    ·go_wp2_with (first
      | (refine zEy (by rfl) _ rfl g 0 rfl x H6.out.2.2.2.1 ?_)
      | (refine zEy (by rfl) _ rfl w.heap.size 0 rfl a H6.out.2.1 ?_)
      | (refine zEy (by rfl) _ rfl g 32 rfl y H6.out.2.2.2.2 ?_)
      | (refine zEy (by rfl) _ rfl (w.heap.size+1) 0 rfl b H6.out.2.2.1 ?_))
     refine zzJ (zzK rfl _ _ _) rfl ⟨?_,H6.out.1⟩
     simp only[<-HRR.out.1,<-HRR.out.2,Bool.true_and]
     rfl
   ·obtain⟨b9,o,cq,z,n9,o1,rfl,⟨hz1,hz2,hz3,hz4⟩,-,-,-⟩:=zIg hs5
    go_wp2_with (refine zEx (by rfl) rfl _ _ rfl x y rfl rfl ?_;intro W6 hb6 hr6 hlt6;refine Hid.out ?_)
    refine zzb ?_
    have H6:=zzb (H5.out.1.trans (hb6.mono H5.out.1.size))
    clear hb6 hr6 hlt6 hs5
    go_wp2_with fail
    exact zzJ (zzK rfl _ _ _) rfl ⟨rfl,H6.out⟩
 ·have hp:zIh m n a b p=false:=by
   unfold zIh
   by_cases h1:1<=m
   ·rw[zzV h1,zzU (fun h2=>hmn ⟨h1,h2⟩)];rfl
   ·rw[zzU h1];rfl
  rw[hp]
  obtain⟨ad,cap,rfl,_,_,_⟩:=hv
  clear hp hn
  by_cases h1:m<1
  ·have k1:decide ((m:Int)<1)=true:=zzV (by omega)
   have k2:(m:Int)<1:=by omega
   clear hmn
   go_enter Tryz.func27,Tryz.ntmps27
   go_wp2_with fail
   exact zzJ (zzK rfl _ _ _) rfl ⟨rfl,HB.out.1⟩
  ·have k1:decide ((m:Int)<1)=false:=zzU (by omega)
   have k2:¬(m:Int)<1:=by omega
   have k3:decide (n<m)=true:=zzV (by omega)
   have k4:n<m:=by omega
   have k5:(n:Int)<(m:Int):=by omega
   clear hmn
   go_enter Tryz.func27,Tryz.ntmps27
   go_wp2_with fail
   exact zzJ (zzK rfl _ _ _) rfl ⟨rfl,HB.out.1⟩
end Go.Proofs.YtdkcndgehgmadaaGreatDoor
