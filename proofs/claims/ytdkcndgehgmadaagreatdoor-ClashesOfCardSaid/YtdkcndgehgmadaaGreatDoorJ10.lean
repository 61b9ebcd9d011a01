/- Walks: the document's way down a link (almonerref13.down). -/
import Derived.Test.YtdkcndgehgmadaaGreatDoorJ8
import Derived.Test.YtdkcndgehgmadaaGreatDoorZBO
set_option maxRecDepth 100000
set_option maxHeartbeats 8000000
open Go Go.RowKit Alm
namespace Go.Proofs.YtdkcndgehgmadaaGreatDoor
structure DN(w w2:World)(a:Sum):Prop where
 leaf:w2.rangeAt w.heap.size 0 (cellsOf a)
 res:w2.there (w.heap.size+1) 0 2
 below:Below w.heap.size w w2
theorem zRt(w:World)(a:Sum):DN w ((w.alloc (.cells (cellsOf a).toArray 24)).alloc (.cells #[.slice none 0 0,.slice none 0 0] 82)) a:=by
 have b0:Below w.heap.size w (w.alloc (.cells (cellsOf a).toArray 24)):=al (zze _ _) _
 have b1:Below (w.alloc (.cells (cellsOf a).toArray 24)).heap.size (w.alloc (.cells (cellsOf a).toArray 24)) ((w.alloc (.cells (cellsOf a).toArray 24)).alloc (.cells #[.slice none 0 0,.slice none 0 0] 82)):=al (zze _ _) _
 refine⟨(zK b1).range (zDl w _ _ _ rfl) id,?_,b0.trans (b1.mono b0.size)⟩
 have:=zD0 (w.alloc (.cells (cellsOf a).toArray 24)) #[.slice none 0 0,.slice none 0 0] 82
 rw[zzp]at this
 exact this
def zV4(w:World)(P:Prop)(e:Ending)(w':World):Prop:=∃ t:Bool,zFr w t e w'/\(t=false->P)
theorem zV7{a:Sum}{m n:Nat}{e:Bool}{p:List Sum}{x y:Sum}(hm:1<=m)(hn:m<n)(h:zEg nd a m n e p=some ((x,y),[])):∃ p' s x' y',p=p'++[s]/\((m<=cut n/\zEg nd a m (cut n) e p'=some ((x',y'),[])/\x=x'/\y=nd y' s)∨(¬m<=cut n/\zEg nd a (m - cut n) (n - cut n) false p'=some ((x',y'),[])/\x=nd s x'/\y=nd s y')):=by
 obtain⟨s,r,x',y',hq,hy,hx,hl⟩:=zTf a m n e p.reverse x y hm hn (by rw[List.reverse_reverse];exact h)
 refine⟨r.reverse,s,x',y',by rw[<-List.reverse_reverse p,hq,List.reverse_cons],?_⟩
 by_cases hk:m<=cut n
 ·rw[zzS hk,zzS hk,zzS hk]at hl
  rw[zzS hk]at hx
  exact .inl ⟨hk,hl,hx,by rw[hy];unfold ndP mkP;simp[hk]⟩
 ·rw[zzT hk,zzT hk,zzT hk]at hl
  rw[zzT hk]at hx
  exact .inr ⟨hk,hl,hx,by rw[hy];unfold ndP mkP;simp[hk]⟩
theorem zZ5(P:Prop)(l:List (List UInt8))(a:Sum)(ed:Bool)(vl v:Value)(w:World)(hl:zDk w vl l)(hP:P):Calls Tryz.prog 149 #[.int .i64 (l.length:Int),vl,sv a,v,.bool ed] w (zV4 w P):=by
 obtain⟨a1,c1,rfl,-,-,-⟩:=hl
 generalize l.length=n at *
 have HP:=zzb hP
 clear hP
 have HI:=zzb (zRt w a)
 go_enter Tryz.func149,Tryz.ntmps149
 refine Alm.wp_cut 1 ?_
 intro T hT
 dsimp only[zHd]
 replace hT:=zzb hT
 go_wp2_with fail
 refine hT.out _ _ ?_
 clear hT
 dsimp only[zEz]
 change Code.wp _ _ _ _ ((w.alloc (.cells (cellsOf a).toArray 24)).alloc (.cells #[.slice none 0 0,.slice none 0 0] 82))
 generalize ((w.alloc (.cells (cellsOf a).toArray 24)).alloc (.cells #[.slice none 0 0,.slice none 0 0] 82))=W2 at *
 go_wp2_with (refine zDs rfl _ _ rfl (w.heap.size+1) 0 rfl rfl HI.out.res ?_)
 refine zzJ (zDh Tryz.results149 _ _ (w.heap.size+1) 0 zNj _ rfl (zDd _ _ _ _ (by exact zzd HI.out.res _ _ _)) Tryz.underlying82 rfl zDy) rfl ?_
 exact⟨false,⟨_,_,rfl,⟨_,_,_,rfl⟩,⟨_,_,_,rfl⟩,zDa _ (by omega) _ _ _ _ HI.out.below⟩,fun _=>HP.out⟩
theorem yDe{m n k:Nat}(hk:¬m<=k)(hm:m<n)(hn:n<1000000):IntKind.i64.wrap ((m:Int) - (k:Int))=((m - k:Nat):Int):=by rw[zzr];omega
theorem zYv(P:Prop)(l:List (List UInt8))(m n:Nat)(a s x y:Sum)(ed:Bool)(p:List Sum)(vl v:Value)(w:World)(hnl:n=l.length)(hl:zDk w vl l)(hn:n<1000000)(hs:SZ l)(hp:zD1 w v (p++[s]))(hm1:1<=m)(hm:m<n)(h2:2<=n)(hk:m<=cut n)(hz:zEg nd a m (cut n) ed p=some ((x,y),[]))
  (ih:∀ (vl' v':Value) (V:World),Below w.heap.size w V->zDk V vl' (l.take (cut n))->zD1 V v' p->sd (l.take (cut n))=y->Calls Tryz.prog 149 #[.int .i64 ((m:Nat):Int),vl',sv a,v',.bool ed] V (zV4 V P)):Calls Tryz.prog 149 #[.int .i64 (m:Int),vl,sv a,v,.bool ed] w (zV4 w P):=by
 subst hnl
 obtain⟨ba,oa,ca,rfl,g1,g2⟩:=hl.form (by intro h;rw[h]at hm;simp at hm)
 have hha:=fun k hk=>zJk (k:=k) hl g1 g2 hk hn hs
 obtain⟨bp,op,cp,rfl,hc1,hc2,hr⟩:=zFl hp (by simp)
 have hsub:=zId hp rfl (i:=p.length) (by simp)
 rw[List.take_left]at hsub
 have hxr:=zE8 hr (i:=p.length) (by simp)
 rw[List.getElem_concat_length rfl]at hxr
 obtain⟨zl,hzl⟩:∃ z,z=(p++[s]).length:=⟨_,rfl⟩
 obtain⟨yl,hy⟩:∃ y,y=p.length:=⟨_,rfl⟩
 have hzy:zl=yl+1:=by rw[hzl,hy,zzi,zzx]
 rw[<-hzl]at hc1 ⊢
 rw[<-hy]at hsub hxr
 obtain⟨w1,w2,w3,w4,w5,w6,w7,w8,w9⟩:=zJi hzy hc1 hc2
 obtain⟨n,hnn⟩:∃ n,n=l.length:=⟨_,rfl⟩
 rw[<-hnn]at hha hm hn h2 hk hz ih g1 ⊢
 obtain⟨e1,e2,e3,e4,e5⟩:=zSa hm
 have hk1:=zE9 (n:=n) h2
 have hk0:=zE3 n
 obtain⟨n1,n2,n3,n4,n5,n6,n7,n8,n9,n10,n11,n12,n13⟩:=zIs h2 hk1 hk0 g1 g2
 have hcut:=fun W=>zGr n W h2 n7
 obtain⟨k,hkk⟩:∃ k,k=cut n:=⟨_,rfl⟩
 rw[<-hkk]at hk1 hk0 hcut hk hz ih n8 n9 n10 n11
 have KW:=zzb (show wrap64 (k:Int)=(k:Int) from zJv hk1 hn)
 obtain⟨d1,d2,d3⟩:=zZp hk
 obtain⟨r1,hr1⟩:∃ r,r=sd (l.take k):=⟨_,rfl⟩
 obtain⟨r2,hr2⟩:∃ r,r=sd (l.drop k):=⟨_,rfl⟩
 obtain⟨dd,hdd⟩:∃ d,d=decide ((1::(r1.toList++r2.toList):List UInt8)=1::(y.toList++s.toList)):=⟨_,rfl⟩
 have HDD:=zzb hdd
 have HRT:=zAI (show zHf (.slice (some ⟨ba,oa,none⟩) k ca) w r1 from by rw[hr1];exact (hha k hk1).rt_) (show zHf (.slice (some ⟨ba,oa+k,none⟩) (n - k) (ca - k)) w r2 from by rw[hr2];exact (hha k hk1).rd)
 have HL:=zzb (hha k hk1)
 have HEQ:=zzb (show dd=true->sd (l.take k)=y from fun h=>by
  have e:=zMs.1 (zzW (hdd.symm.trans h))
  exact hr1.symm.trans e.1)
 have HU:=zAI hsub hxr
 have HC:=zzb hcut
 have IH:=zzb ih
 have HNW:=zzb (show ∀ W,Below w.heap.size w W->Calls Tryz.prog 187 #[.int .i64 ((m:Nat):Int),.int .i64 ((k:Nat):Int),sv a,.slice (some ⟨bp,op,none⟩) yl cp,.bool ed] W (NW w.heap.size W y []) from fun W hW=>zUj w.heap.size a k k m ed p [] x y _ W (zzc _) hm1 hk (Nat.lt_trans hk1 hn) hW.size (hsub.below hW (zzc _)) (zRe hsub) hz)
 clear hl hs hp g1 g2 hz ih hha hc1 hc2 hr hsub hxr hzl hy hzy hnn hk0 hkk hcut hr1 hr2 hdd h2 hk hk1 hm hn hm1
 have HI:=zzb (zRt w a)
 go_enter Tryz.func149,Tryz.ntmps149
 refine Alm.wp_cut 1 ?_
 intro T hT
 dsimp only[zHd]
 replace hT:=zzb hT
 go_wp2_with fail
 refine hT.out _ _ ?_
 clear hT
 dsimp only[zEz]
 change Code.wp _ _ _ _ ((w.alloc (.cells (cellsOf a).toArray 24)).alloc (.cells #[.slice none 0 0,.slice none 0 0] 82))
 generalize ((w.alloc (.cells (cellsOf a).toArray 24)).alloc (.cells #[.slice none 0 0,.slice none 0 0] 82))=W2 at *
 go_wp2_with (first
  | (refine zDe rfl _ rfl bp (op+yl*32) rfl s ((zK HI.out.below).range HU.out.2 id) ?_;refine Hid.out ?_))
 refine zzb ?_
 clear e1 e2 e3 e4 e5 n1 n2 n3 n4 n12 n13
 go_wp2_with (first
  | (refine zEd (by rfl) rfl _ _ rfl s rfl rfl ?_;intro W5 hb5 hr5 _ hlt5;refine Hid.out ?_))
 refine zzb ?_
 obtain⟨g,hg⟩:∃ g,g=W2.heap.size:=⟨_,rfl⟩
 rw[<-hg]at hr5 ⊢
 have H5:=zzb (show Below w.heap.size w W5/\W5.there (w.heap.size+1) 0 2/\W5.rangeAt w.heap.size 0 (cellsOf a)/\W5.rangeAt g 0 (cellsOf s) from ⟨HI.out.below.trans (hb5.mono HI.out.below.size),(zK hb5).there HI.out.res (by decide) id,(zK hb5).range HI.out.leaf id,hr5⟩)
 clear hb5 hr5 hlt5 hg HI
 go_wp2_with (go_at_call 103;refine Hid.out ?_)
 refine zzb ?_
 refine (HC.out _).mono ?_
 rintro e w4' ⟨rfl,rfl⟩
 clear w1 w2 w3 w4 w5 w6 w7 w8 w9
 go_wp2_with fail
 rw[KW.out]
 have hb1:=(zze W5.heap.size W5).drew
 have Hx0:=zzb (show Below w.heap.size w W5.drew/\W5.drew.there (w.heap.size+1) 0 2/\W5.drew.rangeAt w.heap.size 0 (cellsOf a)/\W5.drew.rangeAt g 0 (cellsOf s) from ⟨H5.out.1.trans (hb1.mono H5.out.1.size),(zK hb1).there H5.out.2.1 (by decide) id,(zK hb1).range H5.out.2.2.1 id,(zK hb1).range H5.out.2.2.2 id⟩)
 clear H5
 refine zDb (fun _=>True) [.t 0,.t 1,.t 2,.t 4,.t 5,.t 6,.e 3 false,.e 7 false,.e 8 false,.t 9] (by kernel_rfl) (by kernel_rfl) (by rintro _ _(_|_)_ _ h<;>exact h) ?_
 generalize W5.drew=Ux0 at *
 have hbd:=hb1
 clear hb1
 clear hbd
 iterate 6
  refine zDi rfl (v:=?_) (by rfl) (fun W=>?_) ?_
  rotate_left
  ·go_simp
   try rfl
  try simp only[zU,zA,zB,zC]
 refine zD7 rfl (by rfl) (fun K hK=>?_)
 go_simp
 refine (HRT.out.1 Ux0 Hx0.out.1).mono ?_
 rintro e Ux1 ⟨rfl,hb1⟩
 have Hx1:=zzb (show Below w.heap.size w Ux1/\Ux1.there (w.heap.size+1) 0 2/\Ux1.rangeAt w.heap.size 0 (cellsOf a)/\Ux1.rangeAt g 0 (cellsOf s) from ⟨Hx0.out.1.trans (hb1.mono Hx0.out.1.size),(zK hb1).there Hx0.out.2.1 (by decide) id,(zK hb1).range Hx0.out.2.2.1 id,(zK hb1).range Hx0.out.2.2.2 id⟩)
 clear hb1 Hx0
 refine hK _ _ ?_;clear hK K
 try simp only[zU,zA,zB,zC]
 refine zD7 rfl (by rfl) (fun K hK=>?_)
 go_simp
 refine (HRT.out.2 Ux1 Hx1.out.1).mono ?_
 rintro e Ux2 ⟨rfl,hb1⟩
 have Hx2:=zzb (show Below w.heap.size w Ux2/\Ux2.there (w.heap.size+1) 0 2/\Ux2.rangeAt w.heap.size 0 (cellsOf a)/\Ux2.rangeAt g 0 (cellsOf s) from ⟨Hx1.out.1.trans (hb1.mono Hx1.out.1.size),(zK hb1).there Hx1.out.2.1 (by decide) id,(zK hb1).range Hx1.out.2.2.1 id,(zK hb1).range Hx1.out.2.2.2 id⟩)
 clear hb1 Hx1
 refine hK _ _ ?_;clear hK K
 try simp only[zU,zA,zB,zC]
 refine zD7 rfl (by rfl) (fun K hK=>?_)
 go_simp
 refine (zFq r1 r2 Ux2).mono ?_
 rintro e Ux3 ⟨v,rfl,hv,hb1⟩
 have Hx3:=zzb (show Below w.heap.size w Ux3/\Ux3.there (w.heap.size+1) 0 2/\Ux3.rangeAt w.heap.size 0 (cellsOf a)/\Ux3.rangeAt g 0 (cellsOf s) from ⟨Hx2.out.1.trans (hb1.mono Hx2.out.1.size),(zK hb1).there Hx2.out.2.1 (by decide) id,(zK hb1).range Hx2.out.2.2.1 id,(zK hb1).range Hx2.out.2.2.2 id⟩)
 clear hb1 Hx2
 obtain⟨ax,cx,rfl,-,-,-⟩:=id hv
 obtain⟨lx,hlx⟩:∃ l,l=(1::(r1.toList++r2.toList):List UInt8).length:=⟨_,rfl⟩
 rw[<-hlx]at hv ⊢
 have HXx:=zzb hv
 clear hv hlx
 refine hK _ _ ?_;clear hK K
 try simp only[zU,zA,zB,zC]
 refine zDi rfl (v:=?_) (by rfl) (fun W=>?_) ?_
 rotate_left
 ·go_simp
  try rfl
 try simp only[zU,zA,zB,zC]
 refine zDn ?_
 go_wp2_with (first
  | (have _:=Hx3;refine zDe rfl _ rfl w.heap.size 0 rfl a Hx3.out.2.2.1 ?_)
  | (go_at_call 187;refine Hid.out ?_))
 refine zzb ?_
 refine (HNW.out Ux3 Hx3.out.1).mono ?_
 rintro e W7 ⟨hb1,v7,rfl,-,-⟩
 have H7:=zzb (show Below w.heap.size w W7/\W7.there (w.heap.size+1) 0 2/\W7.rangeAt w.heap.size 0 (cellsOf a)/\W7.rangeAt g 0 (cellsOf s) from ⟨Hx3.out.1.trans (hb1.mono Hx3.out.1.size),(zK hb1).there Hx3.out.2.1 (by decide) id,(zK hb1).range Hx3.out.2.2.1 id,(zK hb1).range Hx3.out.2.2.2 id⟩)
 have HR7:=zzb (zDc HXx.out hb1 (zzc _))
 clear hb1 Hx3 HXx HNW
 go_wp2_with (first
  | (refine zEd (by rfl) rfl _ _ rfl y rfl rfl ?_;intro W8 hb1 hr8 _ hlt8;refine Hid.out ?_))
 refine zzb ?_
 obtain⟨g8,hg8⟩:∃ g,g=W7.heap.size:=⟨_,rfl⟩
 rw[<-hg8]at hr8 ⊢
 have H8:=zzb (show Below w.heap.size w W8/\W8.there (w.heap.size+1) 0 2/\W8.rangeAt w.heap.size 0 (cellsOf a)/\W8.rangeAt g 0 (cellsOf s) from ⟨H7.out.1.trans (hb1.mono H7.out.1.size),(zK hb1).there H7.out.2.1 (by decide) id,(zK hb1).range H7.out.2.2.1 id,(zK hb1).range H7.out.2.2.2 id⟩)
 have HR8:=zzb (zDc HR7.out hb1 (zzc _))
 have HY8:=zzb hr8
 clear hb1 hr8 hlt8 hg8 H7 HR7
 go_wp2_with (first
  | (refine zDe rfl _ rfl g8 0 rfl y HY8.out ?_)
  | (refine zDe rfl _ rfl g 0 rfl s H8.out.2.2.2 ?_)
  | (go_at_call 136;refine Hid.out ?_))
 refine zzb ?_
 refine (zFq y s W8).mono ?_
 rintro e Y3 ⟨v9,rfl,hv,hb1⟩
 have H9:=zzb (show Below w.heap.size w Y3/\Y3.there (w.heap.size+1) 0 2/\Y3.rangeAt w.heap.size 0 (cellsOf a)/\Y3.rangeAt g 0 (cellsOf s) from ⟨H8.out.1.trans (hb1.mono H8.out.1.size),(zK hb1).there H8.out.2.1 (by decide) id,(zK hb1).range H8.out.2.2.1 id,(zK hb1).range H8.out.2.2.2 id⟩)
 have HR9:=zzb (zDc HR8.out hb1 (zzc _))
 clear hb1 H8 HR8 HY8
 obtain⟨ay,cy,rfl,-,-,-⟩:=id hv
 obtain⟨ly,hly⟩:∃ l,l=(1::(y.toList++s.toList):List UInt8).length:=⟨_,rfl⟩
 rw[<-hly]at hv ⊢
 have HSM:=zzb (zHy _ _ _ _ Y3 HR9.out hv)
 rw[<-HDD.out]at HSM
 clear hv hly HR9 HDD
 go_wp2_with (first
  | (go_at_call 137;refine Hid.out ?_))
 refine zzb ?_
 refine HSM.out.mono ?_
 rintro e Y4 ⟨rfl,rfl⟩
 cases dd with
 | false =>
  go_wp2_with (refine zEf rfl _ _ rfl (w.heap.size+1) 0 ax ay lx cx ly cy rfl rfl H9.out.2.1 ?_)
  refine zzJ (zDh Tryz.results149 _ _ (w.heap.size+1) 0 [.slice ax lx cx,.slice ay ly cy] _ rfl (zDd _ _ _ _ (by exact zzd H9.out.2.1 _ _ _)) Tryz.underlying82 rfl zDy) rfl ?_
  exact⟨true,⟨_,_,rfl,⟨_,_,_,rfl⟩,⟨_,_,_,rfl⟩,zDa _ (by omega) _ _ _ _ H9.out.1⟩,fun h=>by cases h⟩
 | true =>
  have HE:=zzb (HEQ.out rfl)
  clear HEQ HSM
  go_wp2_with fail
  have hb1:=(zze Y3.heap.size Y3).drew
  have Hz0:=zzb (show Below w.heap.size w Y3.drew/\Y3.drew.there (w.heap.size+1) 0 2/\Y3.drew.rangeAt w.heap.size 0 (cellsOf a)/\Y3.drew.rangeAt g 0 (cellsOf s) from ⟨H9.out.1.trans (hb1.mono H9.out.1.size),(zK hb1).there H9.out.2.1 (by decide) id,(zK hb1).range H9.out.2.2.1 id,(zK hb1).range H9.out.2.2.2 id⟩)
  clear H9
  refine zDb (fun _=>True) [.t 0,.t 1,.t 2,.t 3,.t 5,.t 6,.e 4 false,.e 7 false,.t 8,.t 9,.e 10 false,.t 11] (by kernel_rfl) (by kernel_rfl) (by rintro _ _(_|_)_ _ h<;>exact h) ?_
  generalize Y3.drew=Z0 at *
  have hbd:=hb1
  clear hb1
  clear hbd
  iterate 6
   refine zDi rfl (v:=?_) (by rfl) (fun W=>?_) ?_
   rotate_left
   ·go_simp
    try rfl
   try simp only[zU,zA,zB,zC]
  refine zD7 rfl (by rfl) (fun K hK=>?_)
  refine zFa _ (by rfl) w.heap.size 0 (by rfl) a Hz0.out.2.2.1 ?_
  refine hK _ _ ?_;clear hK K
  try simp only[zU,zA,zB,zC]
  refine zD7 rfl (by rfl) (fun K hK=>?_)
  go_simp
  refine (IH.out _ _ Z0 Hz0.out.1 (HL.out.t.below Hz0.out.1) (HU.out.1.below Hz0.out.1 (zzc _)) HE.out).mono ?_
  rintro e X1 ⟨tt,⟨rx,ry,rfl,⟨xa1,xn1,xc1,rfl⟩,⟨ya1,yn1,yc1,rfl⟩,hb1⟩,hP⟩
  have Hr1:=zzb (show Below w.heap.size w X1/\X1.there (w.heap.size+1) 0 2/\X1.rangeAt w.heap.size 0 (cellsOf a)/\X1.rangeAt g 0 (cellsOf s) from ⟨Hz0.out.1.trans (hb1.mono Hz0.out.1.size),(zK hb1).there Hz0.out.2.1 (by decide) id,(zK hb1).range Hz0.out.2.2.1 id,(zK hb1).range Hz0.out.2.2.2 id⟩)
  have HPP:=zzb hP
  clear hb1 Hz0 hP
  refine hK _ _ ?_;clear hK K
  try simp only[zU,zA,zB,zC]
  iterate 2
   refine zDi rfl (v:=?_) (by rfl) (fun W=>?_) ?_
   rotate_left
   ·go_simp
    try rfl
   try simp only[zU,zA,zB,zC]
  refine zD7 rfl (by rfl) (fun K hK=>?_)
  refine zHi _ _ (by rfl) (w.heap.size+1) xa1 ya1 xn1 xc1 yn1 yc1 (by rfl) (by rfl) Hr1.out.2.1 ?_
  refine hK _ _ ?_;clear hK K
  try simp only[zU,zA,zB,zC]
  refine zDi rfl (v:=?_) (by rfl) (fun W=>?_) ?_
  rotate_left
  ·go_simp
   try rfl
  try simp only[zU,zA,zB,zC]
  refine zDn ?_
  go_wp2_with fail
  refine zzJ (zDh Tryz.results149 _ _ (w.heap.size+1) 0 [.slice xa1 xn1 xc1,.slice ya1 yn1 yc1] _ rfl (zDd _ _ _ _ (by exact zzd Hr1.out.2.1 _ _ _)) Tryz.underlying82 rfl zDy) rfl ?_
  exact⟨tt,⟨_,_,rfl,⟨_,_,_,rfl⟩,⟨_,_,_,rfl⟩,zDa _ (by omega) _ _ _ _ Hr1.out.1⟩,HPP.out⟩
theorem zWd(P:Prop)(l:List (List UInt8))(m n:Nat)(a s x y:Sum)(ed:Bool)(p:List Sum)(vl v:Value)(w:World)(hnl:n=l.length)(hl:zDk w vl l)(hn:n<1000000)(hs:SZ l)(hp:zD1 w v (p++[s]))(hm1:1<=m)(hm:m<n)(h2:2<=n)(hk:¬m<=cut n)(hz:zEg nd a (m - cut n) (n - cut n) false p=some ((x,y),[]))
  (ih:∀ (vl' v':Value) (V:World),Below w.heap.size w V->zDk V vl' (l.drop (cut n))->zD1 V v' p->sd (l.drop (cut n))=y->sd (l.take (cut n))=s->Calls Tryz.prog 149 #[.int .i64 (((m - cut n):Nat):Int),vl',sv a,v',.bool false] V (zV4 V P)):Calls Tryz.prog 149 #[.int .i64 (m:Int),vl,sv a,v,.bool ed] w (zV4 w P):=by
 subst hnl
 obtain⟨ba,oa,ca,rfl,g1,g2⟩:=hl.form (by intro h;rw[h]at hm;simp at hm)
 have hha:=fun k hk=>zJk (k:=k) hl g1 g2 hk hn hs
 obtain⟨bp,op,cp,rfl,hc1,hc2,hr⟩:=zFl hp (by simp)
 have hsub:=zId hp rfl (i:=p.length) (by simp)
 rw[List.take_left]at hsub
 have hxr:=zE8 hr (i:=p.length) (by simp)
 rw[List.getElem_concat_length rfl]at hxr
 obtain⟨zl,hzl⟩:∃ z,z=(p++[s]).length:=⟨_,rfl⟩
 obtain⟨yl,hy⟩:∃ y,y=p.length:=⟨_,rfl⟩
 have hzy:zl=yl+1:=by rw[hzl,hy,zzi,zzx]
 rw[<-hzl]at hc1 ⊢
 rw[<-hy]at hsub hxr
 obtain⟨w1,w2,w3,w4,w5,w6,w7,w8,w9⟩:=zJi hzy hc1 hc2
 obtain⟨n,hnn⟩:∃ n,n=l.length:=⟨_,rfl⟩
 rw[<-hnn]at hha hm hn h2 hk hz ih g1 ⊢
 obtain⟨e1,e2,e3,e4,e5⟩:=zSa hm
 have hk1:=zE9 (n:=n) h2
 have hk0:=zE3 n
 obtain⟨n1,n2,n3,n4,n5,n6,n7,n8,n9,n10,n11,n12,n13⟩:=zIs h2 hk1 hk0 g1 g2
 have hcut:=fun W=>zGr n W h2 n7
 obtain⟨k,hkk⟩:∃ k,k=cut n:=⟨_,rfl⟩
 rw[<-hkk]at hk1 hk0 hcut hk hz ih n8 n9 n10 n11
 have KW:=zzb (show wrap64 (k:Int)=(k:Int) from zJv hk1 hn)
 obtain⟨d1,d2,d3⟩:=zU3 hk
 have HSD:=zzb (zSr hk hm hn)
 have HSI:=zzb (yDe hk hm hn)
 obtain⟨r1,hr1⟩:∃ r,r=sd (l.take k):=⟨_,rfl⟩
 obtain⟨r2,hr2⟩:∃ r,r=sd (l.drop k):=⟨_,rfl⟩
 obtain⟨dd,hdd⟩:∃ d,d=decide ((1::(r1.toList++r2.toList):List UInt8)=1::(s.toList++y.toList)):=⟨_,rfl⟩
 have HDD:=zzb hdd
 have HRT:=zAI (show zHf (.slice (some ⟨ba,oa,none⟩) k ca) w r1 from by rw[hr1];exact (hha k hk1).rt_) (show zHf (.slice (some ⟨ba,oa+k,none⟩) (n - k) (ca - k)) w r2 from by rw[hr2];exact (hha k hk1).rd)
 have HL:=zzb (hha k hk1)
 have HEQ:=zzb (show dd=true->sd (l.drop k)=y/\sd (l.take k)=s from fun h=>by
  have e:=zMs.1 (zzW (hdd.symm.trans h))
  exact⟨hr2.symm.trans e.2,hr1.symm.trans e.1⟩)
 have HU:=zAI hsub hxr
 have HC:=zzb hcut
 have IH:=zzb ih
 have HNW:=zzb (show ∀ W,Below w.heap.size w W->Calls Tryz.prog 187 #[.int .i64 (((m - k):Nat):Int),.int .i64 (((n - k):Nat):Int),sv a,.slice (some ⟨bp,op,none⟩) yl cp,.bool false] W (NW w.heap.size W y []) from fun W hW=>zUj w.heap.size a (n - k) (n - k) (m - k) false p [] x y _ W (zzc _) (Nat.sub_pos_of_lt (Nat.lt_of_not_le hk)) (Nat.sub_le_sub_right (zzQ hm) k) (zzy (Nat.sub_le n k) hn) hW.size (hsub.below hW (zzc _)) (zRe hsub) hz)
 clear hl hs hp g1 g2 hz ih hha hc1 hc2 hr hsub hxr hzl hy hzy hnn hk0 hkk hcut hr1 hr2 hdd h2 hk hk1 hm hn hm1
 have HI:=zzb (zRt w a)
 go_enter Tryz.func149,Tryz.ntmps149
 refine Alm.wp_cut 1 ?_
 intro T hT
 dsimp only[zHd]
 replace hT:=zzb hT
 go_wp2_with fail
 refine hT.out _ _ ?_
 clear hT
 dsimp only[zEz]
 change Code.wp _ _ _ _ ((w.alloc (.cells (cellsOf a).toArray 24)).alloc (.cells #[.slice none 0 0,.slice none 0 0] 82))
 generalize ((w.alloc (.cells (cellsOf a).toArray 24)).alloc (.cells #[.slice none 0 0,.slice none 0 0] 82))=W2 at *
 go_wp2_with (first
  | (refine zDe rfl _ rfl bp (op+yl*32) rfl s ((zK HI.out.below).range HU.out.2 id) ?_;refine Hid.out ?_))
 refine zzb ?_
 clear e1 e2 e3 e4 e5 n1 n2 n3 n4 n12 n13
 go_wp2_with (first
  | (refine zEd (by rfl) rfl _ _ rfl s rfl rfl ?_;intro W5 hb5 hr5 _ hlt5;refine Hid.out ?_))
 refine zzb ?_
 obtain⟨g,hg⟩:∃ g,g=W2.heap.size:=⟨_,rfl⟩
 rw[<-hg]at hr5 ⊢
 have H5:=zzb (show Below w.heap.size w W5/\W5.there (w.heap.size+1) 0 2/\W5.rangeAt w.heap.size 0 (cellsOf a)/\W5.rangeAt g 0 (cellsOf s) from ⟨HI.out.below.trans (hb5.mono HI.out.below.size),(zK hb5).there HI.out.res (by decide) id,(zK hb5).range HI.out.leaf id,hr5⟩)
 clear hb5 hr5 hlt5 hg HI
 go_wp2_with (go_at_call 103;refine Hid.out ?_)
 refine zzb ?_
 refine (HC.out _).mono ?_
 rintro e w4' ⟨rfl,rfl⟩
 clear w1 w2 w3 w4 w5 w6 w7 w8 w9
 go_wp2_with fail
 rw[KW.out]
 have hb1:=(zze W5.heap.size W5).drew
 have Hx0:=zzb (show Below w.heap.size w W5.drew/\W5.drew.there (w.heap.size+1) 0 2/\W5.drew.rangeAt w.heap.size 0 (cellsOf a)/\W5.drew.rangeAt g 0 (cellsOf s) from ⟨H5.out.1.trans (hb1.mono H5.out.1.size),(zK hb1).there H5.out.2.1 (by decide) id,(zK hb1).range H5.out.2.2.1 id,(zK hb1).range H5.out.2.2.2 id⟩)
 clear H5
 refine zDb (fun _=>True) [.t 0,.t 1,.t 2,.t 4,.t 5,.t 6,.e 3 false,.e 7 false,.e 8 false,.t 9] (by kernel_rfl) (by kernel_rfl) (by rintro _ _(_|_)_ _ h<;>exact h) ?_
 generalize W5.drew=Ux0 at *
 have hbd:=hb1
 clear hb1
 clear hbd
 iterate 6
  refine zDi rfl (v:=?_) (by rfl) (fun W=>?_) ?_
  rotate_left
  ·go_simp
   try rfl
  try simp only[zU,zA,zB,zC]
 refine zD7 rfl (by rfl) (fun K hK=>?_)
 go_simp
 refine (HRT.out.1 Ux0 Hx0.out.1).mono ?_
 rintro e Ux1 ⟨rfl,hb1⟩
 have Hx1:=zzb (show Below w.heap.size w Ux1/\Ux1.there (w.heap.size+1) 0 2/\Ux1.rangeAt w.heap.size 0 (cellsOf a)/\Ux1.rangeAt g 0 (cellsOf s) from ⟨Hx0.out.1.trans (hb1.mono Hx0.out.1.size),(zK hb1).there Hx0.out.2.1 (by decide) id,(zK hb1).range Hx0.out.2.2.1 id,(zK hb1).range Hx0.out.2.2.2 id⟩)
 clear hb1 Hx0
 refine hK _ _ ?_;clear hK K
 try simp only[zU,zA,zB,zC]
 refine zD7 rfl (by rfl) (fun K hK=>?_)
 go_simp
 refine (HRT.out.2 Ux1 Hx1.out.1).mono ?_
 rintro e Ux2 ⟨rfl,hb1⟩
 have Hx2:=zzb (show Below w.heap.size w Ux2/\Ux2.there (w.heap.size+1) 0 2/\Ux2.rangeAt w.heap.size 0 (cellsOf a)/\Ux2.rangeAt g 0 (cellsOf s) from ⟨Hx1.out.1.trans (hb1.mono Hx1.out.1.size),(zK hb1).there Hx1.out.2.1 (by decide) id,(zK hb1).range Hx1.out.2.2.1 id,(zK hb1).range Hx1.out.2.2.2 id⟩)
 clear hb1 Hx1
 refine hK _ _ ?_;clear hK K
 try simp only[zU,zA,zB,zC]
 refine zD7 rfl (by rfl) (fun K hK=>?_)
 go_simp
 refine (zFq r1 r2 Ux2).mono ?_
 rintro e Ux3 ⟨v,rfl,hv,hb1⟩
 have Hx3:=zzb (show Below w.heap.size w Ux3/\Ux3.there (w.heap.size+1) 0 2/\Ux3.rangeAt w.heap.size 0 (cellsOf a)/\Ux3.rangeAt g 0 (cellsOf s) from ⟨Hx2.out.1.trans (hb1.mono Hx2.out.1.size),(zK hb1).there Hx2.out.2.1 (by decide) id,(zK hb1).range Hx2.out.2.2.1 id,(zK hb1).range Hx2.out.2.2.2 id⟩)
 clear hb1 Hx2
 obtain⟨ax,cx,rfl,-,-,-⟩:=id hv
 obtain⟨lx,hlx⟩:∃ l,l=(1::(r1.toList++r2.toList):List UInt8).length:=⟨_,rfl⟩
 rw[<-hlx]at hv ⊢
 have HXx:=zzb hv
 clear hv hlx
 refine hK _ _ ?_;clear hK K
 try simp only[zU,zA,zB,zC]
 refine zDi rfl (v:=?_) (by rfl) (fun W=>?_) ?_
 rotate_left
 ·go_simp
  try rfl
 try simp only[zU,zA,zB,zC]
 refine zDn ?_
 have d5:=HSD.out.1
 have d6:=HSD.out.2
 go_wp2_with (first
  | (have _:=Hx3;refine zDe rfl _ rfl w.heap.size 0 rfl a Hx3.out.2.2.1 ?_)
  | (go_at_call 187;refine Hid.out ?_))
 refine zzb ?_
 clear d5 d6
 refine (HNW.out Ux3 Hx3.out.1).mono ?_
 rintro e W7 ⟨hb1,v7,rfl,-,-⟩
 have H7:=zzb (show Below w.heap.size w W7/\W7.there (w.heap.size+1) 0 2/\W7.rangeAt w.heap.size 0 (cellsOf a)/\W7.rangeAt g 0 (cellsOf s) from ⟨Hx3.out.1.trans (hb1.mono Hx3.out.1.size),(zK hb1).there Hx3.out.2.1 (by decide) id,(zK hb1).range Hx3.out.2.2.1 id,(zK hb1).range Hx3.out.2.2.2 id⟩)
 have HR7:=zzb (zDc HXx.out hb1 (zzc _))
 clear hb1 Hx3 HXx HNW
 go_wp2_with (first
  | (refine zEd (by rfl) rfl _ _ rfl y rfl rfl ?_;intro W8 hb1 hr8 _ hlt8;refine Hid.out ?_))
 refine zzb ?_
 obtain⟨g8,hg8⟩:∃ g,g=W7.heap.size:=⟨_,rfl⟩
 rw[<-hg8]at hr8 ⊢
 have H8:=zzb (show Below w.heap.size w W8/\W8.there (w.heap.size+1) 0 2/\W8.rangeAt w.heap.size 0 (cellsOf a)/\W8.rangeAt g 0 (cellsOf s) from ⟨H7.out.1.trans (hb1.mono H7.out.1.size),(zK hb1).there H7.out.2.1 (by decide) id,(zK hb1).range H7.out.2.2.1 id,(zK hb1).range H7.out.2.2.2 id⟩)
 have HR8:=zzb (zDc HR7.out hb1 (zzc _))
 have HY8:=zzb hr8
 clear hb1 hr8 hlt8 hg8 H7 HR7
 go_wp2_with (first
  | (refine zDe rfl _ rfl g8 0 rfl y HY8.out ?_)
  | (refine zDe rfl _ rfl g 0 rfl s H8.out.2.2.2 ?_)
  | (go_at_call 136;refine Hid.out ?_))
 refine zzb ?_
 refine (zFq s y W8).mono ?_
 rintro e Y3 ⟨v9,rfl,hv,hb1⟩
 have H9:=zzb (show Below w.heap.size w Y3/\Y3.there (w.heap.size+1) 0 2/\Y3.rangeAt w.heap.size 0 (cellsOf a)/\Y3.rangeAt g 0 (cellsOf s) from ⟨H8.out.1.trans (hb1.mono H8.out.1.size),(zK hb1).there H8.out.2.1 (by decide) id,(zK hb1).range H8.out.2.2.1 id,(zK hb1).range H8.out.2.2.2 id⟩)
 have HR9:=zzb (zDc HR8.out hb1 (zzc _))
 clear hb1 H8 HR8 HY8
 obtain⟨ay,cy,rfl,-,-,-⟩:=id hv
 obtain⟨ly,hly⟩:∃ l,l=(1::(s.toList++y.toList):List UInt8).length:=⟨_,rfl⟩
 rw[<-hly]at hv ⊢
 have HSM:=zzb (zHy _ _ _ _ Y3 HR9.out hv)
 rw[<-HDD.out]at HSM
 clear hv hly HR9 HDD
 go_wp2_with (first
  | (go_at_call 137;refine Hid.out ?_))
 refine zzb ?_
 refine HSM.out.mono ?_
 rintro e Y4 ⟨rfl,rfl⟩
 cases dd with
 | false =>
  go_wp2_with (refine zEf rfl _ _ rfl (w.heap.size+1) 0 ax ay lx cx ly cy rfl rfl H9.out.2.1 ?_)
  refine zzJ (zDh Tryz.results149 _ _ (w.heap.size+1) 0 [.slice ax lx cx,.slice ay ly cy] _ rfl (zDd _ _ _ _ (by exact zzd H9.out.2.1 _ _ _)) Tryz.underlying82 rfl zDy) rfl ?_
  exact⟨true,⟨_,_,rfl,⟨_,_,_,rfl⟩,⟨_,_,_,rfl⟩,zDa _ (by omega) _ _ _ _ H9.out.1⟩,fun h=>by cases h⟩
 | true =>
  have HE:=zzb (HEQ.out rfl)
  clear HEQ HSM
  go_wp2_with fail
  have d5:=HSI.out
  have hb1:=(zze Y3.heap.size Y3).drew
  have Hz0:=zzb (show Below w.heap.size w Y3.drew/\Y3.drew.there (w.heap.size+1) 0 2/\Y3.drew.rangeAt w.heap.size 0 (cellsOf a)/\Y3.drew.rangeAt g 0 (cellsOf s) from ⟨H9.out.1.trans (hb1.mono H9.out.1.size),(zK hb1).there H9.out.2.1 (by decide) id,(zK hb1).range H9.out.2.2.1 id,(zK hb1).range H9.out.2.2.2 id⟩)
  clear H9
  refine zDb (fun _=>True) [.t 0,.t 1,.t 2,.t 3,.t 4,.t 5,.t 7,.e 6 false,.e 8 false,.t 9,.t 10,.e 11 false,.t 12] (by kernel_rfl) (by kernel_rfl) (by rintro _ _(_|_)_ _ h<;>exact h) ?_
  generalize Y3.drew=Z0 at *
  have hbd:=hb1
  clear hb1
  clear hbd
  iterate 7
   refine zDi rfl (v:=?_) (by rfl) (fun W=>?_) ?_
   rotate_left
   ·go_simp
    try rfl
   try simp only[zU,zA,zB,zC]
  clear d5
  refine zD7 rfl (by rfl) (fun K hK=>?_)
  refine zFa _ (by rfl) w.heap.size 0 (by rfl) a Hz0.out.2.2.1 ?_
  refine hK _ _ ?_;clear hK K
  try simp only[zU,zA,zB,zC]
  refine zD7 rfl (by rfl) (fun K hK=>?_)
  go_simp
  refine (IH.out _ _ Z0 Hz0.out.1 (HL.out.d.below Hz0.out.1) (HU.out.1.below Hz0.out.1 (zzc _)) HE.out.1 HE.out.2).mono ?_
  rintro e X1 ⟨tt,⟨rx,ry,rfl,⟨xa1,xn1,xc1,rfl⟩,⟨ya1,yn1,yc1,rfl⟩,hb1⟩,hP⟩
  have Hr1:=zzb (show Below w.heap.size w X1/\X1.there (w.heap.size+1) 0 2/\X1.rangeAt w.heap.size 0 (cellsOf a)/\X1.rangeAt g 0 (cellsOf s) from ⟨Hz0.out.1.trans (hb1.mono Hz0.out.1.size),(zK hb1).there Hz0.out.2.1 (by decide) id,(zK hb1).range Hz0.out.2.2.1 id,(zK hb1).range Hz0.out.2.2.2 id⟩)
  have HPP:=zzb hP
  clear hb1 Hz0 hP
  refine hK _ _ ?_;clear hK K
  try simp only[zU,zA,zB,zC]
  iterate 2
   refine zDi rfl (v:=?_) (by rfl) (fun W=>?_) ?_
   rotate_left
   ·go_simp
    try rfl
   try simp only[zU,zA,zB,zC]
  refine zD7 rfl (by rfl) (fun K hK=>?_)
  refine zHi _ _ (by rfl) (w.heap.size+1) xa1 ya1 xn1 xc1 yn1 yc1 (by rfl) (by rfl) Hr1.out.2.1 ?_
  refine hK _ _ ?_;clear hK K
  try simp only[zU,zA,zB,zC]
  refine zDi rfl (v:=?_) (by rfl) (fun W=>?_) ?_
  rotate_left
  ·go_simp
   try rfl
  try simp only[zU,zA,zB,zC]
  refine zDn ?_
  go_wp2_with fail
  refine zzJ (zDh Tryz.results149 _ _ (w.heap.size+1) 0 [.slice xa1 xn1 xc1,.slice ya1 yn1 yc1] _ rfl (zDd _ _ _ _ (by exact zzd Hr1.out.2.1 _ _ _)) Tryz.underlying82 rfl zDy) rfl ?_
  exact⟨tt,⟨_,_,rfl,⟨_,_,_,rfl⟩,⟨_,_,_,rfl⟩,zDa _ (by omega) _ _ _ _ Hr1.out.1⟩,HPP.out⟩
theorem yDv(a:Sum):∀ (d:Nat) (l:List (List UInt8)) (m:Nat) (ed:Bool) (p:List Sum) (x:Sum) (vl v:Value) (w:World),l.length<=d->zDk w vl l->1<=m->m<=l.length->l.length<1000000->SZ l->zD1 w v p->zEg nd a m l.length ed p=some ((x,sd l),[]) ->
  Calls Tryz.prog 149 #[.int .i64 (m:Int),vl,sv a,v,.bool ed] w (zV4 w (x=sd (l.take m))):=by
 intro d
 induction d with
 | zero=>intro l m ed p x vl v w h1 _ h2 h3;omega
 | succ d ih =>
  intro l m ed p x vl v w hd hl hm1 hmn hn hs hp h
  by_cases he:m=l.length
  ·subst he
   refine zZ5 _ l a ed vl v w hl ?_
   rw[zzB (zzc _)]
   rcases zQi (zzc _) h with ⟨_,h1,h2,_⟩ | ⟨_,h1,_⟩
   ·rw[h1,h2]
   ·exact h1
  ·have hn2:2<=l.length:=by omega
   have hc:=zE9 (n:=l.length) hn2
   have hc0:=zE3 l.length
   obtain⟨p',s,x',y',rfl,⟨hk,hl2,rfl,hy⟩ | ⟨hk,hl2,rfl,hy⟩⟩:=zV7 hm1 (by omega) h
   ·refine zYv _ l m l.length a s x y' ed p' vl v w rfl hl hn hs hp hm1 (by omega) hn2 hk hl2 (fun vl' v' V hV hl' hp' hsd=>?_)
    have hlen:(l.take (cut l.length)).length=cut l.length:=by rw[zzq];omega
    have h7:=ih (l.take (cut l.length)) m ed p' x vl' v' V (by omega) hl' hm1 (by omega) (by omega) (zOk hs _) hp' (by rw[hlen,hsd];exact hl2)
    rw[List.take_take,Nat.min_eq_left hk]at h7
    exact h7
   ·refine zWd _ l m l.length a s x' y' ed p' vl v w rfl hl hn hs hp hm1 (by omega) hn2 hk hl2 (fun vl' v' V hV hl' hp' hsd hss=>?_)
    have hlen:(l.drop (cut l.length)).length=l.length - cut l.length:=zz0
    have h7:=ih (l.drop (cut l.length)) (m - cut l.length) false p' x' vl' v' V (by omega) hl' (by omega) (by omega) (by omega) (zRn hs _) hp' (by rw[hlen,hsd];exact hl2)
    refine h7.mono fun e w' ⟨t,h8,h9⟩=>⟨t,h8,fun ht=>?_⟩
    rw[zMr l m hn2 (by omega) hmn,<-h9 ht,hss]
end Go.Proofs.YtdkcndgehgmadaaGreatDoor
