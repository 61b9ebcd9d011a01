/- Walks: the document's clash of a path (almonerref13.Path), where one is told. -/
import Derived.Test.YtdkcndgehgmadaaGreatDoorJ7
set_option maxRecDepth 100000
set_option maxHeartbeats 8000000
open Go Go.RowKit Alm
namespace Go.Proofs.YtdkcndgehgmadaaGreatDoor
theorem yEg(l:List (List UInt8))(b:List UInt8)(p:List Sum)(vl vb vp:Value)(w:World)(hl:zDk w vl l)(hs:SZ l)(hb:zDo w vb b)(hlb:b.length<800000)(hp:zD1 w vp p)(h1:l.length=1)(hx:¬l[0]? = some b)(hk:zFo (lf b) 0 l.length p (sd l)=true):Calls Tryz.prog 51 #[vl,.int .i64 0,vb,vp] w (zFr w true):=by
 have hm:0<l.length:=by omega
 obtain⟨ba,oa,ca,ua,uc,rfl,g1,g2,hu1,hu2⟩:=zK9 hl hm
 have hq:=zZ7 l 0 b p _ _ vb vp w hl (by omega) hs hb hlb hp _ hu2
 rw[zzU (show ¬l[0]=b from fun e=>hx (by rw[zzf hm,e])),hk]at hq
 rw[Nat.add_zero]at hu1
 have hly:(l[0]).length<900000:=zM7 hs _ (List.getElem_mem _)
 obtain⟨y,hy⟩:∃ y,y=l[0]:=⟨_,rfl⟩
 rw[<-hy]at hq hu1 hu2 hly
 obtain⟨ul,hul⟩:∃ x,x=y.length:=⟨_,rfl⟩
 have HLY:=zAI hly (Nat.lt_trans hlb (by decide:800000<900000))
 rw[<-hul]at hq hu1 hu2
 have HQ:=zzb hq
 have HU:=zAI hu1 (zza hu2 hb)
 obtain⟨va,vc,rfl,-,-,-⟩:=id hb
 clear hq hl hs hb hlb hp hu1 hu2 g1 g2 hul hm hx hk hy hly
 rw[h1]at HQ ⊢
 generalize hbl:b.length=bl at HU HQ ⊢
 clear h1
 generalize sd l=r at *
 obtain⟨a,ha⟩:∃ a,a=lf b:=⟨_,rfl⟩
 rw[<-ha]at HQ
 clear ha
 have HBL:=zzb hbl
 clear hbl
 have hbw:=al (zze w.heap.size w) (.cells #[.slice none 0 0,.slice none 0 0] 82)
 have hth:=zD0 w #[.slice none 0 0,.slice none 0 0] 82
 obtain⟨W,hW⟩:∃ x,x=w.alloc (.cells #[.slice none 0 0,.slice none 0 0] 82):=⟨_,rfl⟩
 rw[<-hW]at hbw hth
 have H0:=zzb (show Below w.heap.size w W/\W.there w.heap.size 0 2 from ⟨hbw,hth⟩)
 have HW:=zzb hW
 clear hbw hth hW
 go_enter Tryz.func51,Tryz.ntmps51
 refine Alm.wp_cut 1 ?_
 intro T hT
 dsimp only[zHd]
 replace hT:=zzb hT
 go_wp2_with fail
 refine hT.out _ _ ?_
 clear hT
 dsimp only[zEz]
 change Code.wp _ _ _ _ (w.alloc (.cells #[.slice none 0 0,.slice none 0 0] 82))
 rw[<-HW.out]
 clear HW
 have hcell:=bc HU.out.1 H0.out.1
 go_wp2_with (first
  | (have _:=H0;go_at_call 137;refine (HQ.out.s W H0.out.1).mono ?_;rintro e V1 ⟨rfl,hb1⟩;have H1:=zzb (show Below w.heap.size w V1/\V1.there w.heap.size 0 2 from ⟨H0.out.1.trans (hb1.mono H0.out.1.size),(zK hb1).there H0.out.2 (by decide) id⟩);clear hb1 H0)
  | (have _:=H1;go_at_call 128;refine (HQ.out.lf_ V1 H1.out.1).mono ?_;rintro e V2 ⟨rfl,hb1⟩;have H2:=zzb (show Below w.heap.size w V2/\V2.there w.heap.size 0 2 from ⟨H1.out.1.trans (hb1.mono H1.out.1.size),(zK hb1).there H1.out.2 (by decide) id⟩);clear hb1 H1)
  | (have _:=H2;go_at_call 44;refine (HQ.out.rt_ V2 H2.out.1).mono ?_;rintro e V3 ⟨rfl,hb1⟩;have H3:=zzb (show Below w.heap.size w V3/\V3.there w.heap.size 0 2 from ⟨H2.out.1.trans (hb1.mono H2.out.1.size),(zK hb1).there H2.out.2 (by decide) id⟩);clear hb1 H2)
  | (have _:=H3;go_at_call 13;refine (HQ.out.ck V3 H3.out.1).mono ?_;rintro e V4 ⟨rfl,hb1⟩;have H4:=zzb (show Below w.heap.size w V4/\V4.there w.heap.size 0 2 from ⟨H3.out.1.trans (hb1.mono H3.out.1.size),(zK hb1).there H3.out.2 (by decide) id⟩);clear hb1 H3 hcell;have hcell:=bc HU.out.1 H4.out.1)
  | (have _:=H4;go_at_call 135;refine (zJ5 y _ V4 (zDc HU.out.2.1 H4.out.1 (zzc _)) HLY.out.1).mono ?_;rintro e V5 ⟨v5,rfl,hv5,hb1⟩;obtain⟨a5,c5,rfl,-,-,-⟩:=hv5;generalize (0::y).length=n5;have H5:=zzb (show Below w.heap.size w V5/\V5.there w.heap.size 0 2 from ⟨H4.out.1.trans (hb1.mono H4.out.1.size),(zK hb1).there H4.out.2 (by decide) id⟩);clear hb1 H4)
  | (have _:=H5;go_at_call 135;refine (zJ5 b _ V5 (zDc HU.out.2.2 H5.out.1 (zzc _)) HLY.out.2).mono ?_;rintro e V6 ⟨v6,rfl,hv6,hb1⟩;obtain⟨a6,c6,rfl,-,-,-⟩:=hv6;generalize (0::b).length=n6;have H6:=zzb (show Below w.heap.size w V6/\V6.there w.heap.size 0 2 from ⟨H5.out.1.trans (hb1.mono H5.out.1.size),(zK hb1).there H5.out.2 (by decide) id⟩);clear hb1 H5)
  | (have _:=H6;refine zEf rfl _ _ rfl w.heap.size 0 a5 a6 n5 c5 n6 c6 rfl rfl H6.out.2 ?_))
 exact zzJ (zDh Tryz.results51 _ _ w.heap.size 0 [.slice a5 n5 c5,.slice a6 n6 c6] _ rfl (zDd _ _ _ _ (by exact zzd H6.out.2 _ _ _)) Tryz.underlying82 rfl zDy) rfl ⟨_,_,rfl,⟨_,_,_,rfl⟩,⟨_,_,_,rfl⟩,zDa _ (zzc _) _ _ _ _ H6.out.1⟩
theorem zYc(l:List (List UInt8))(m n:Nat)(b:List UInt8)(p:List Sum)(x z:Sum)(vl vb vp:Value)(w:World)(hnl:n=l.length)(hl:zDk w vl l)(hn:n<1000000)(hs:SZ l)(hb:zDo w vb b)(hlb:b.length<800000)(hp:zD1 w vp (p++[x]))(hm:m<n)(h2:2<=n)(hk:m<cut n)(hx:¬l[m]? = some b)(hpb:zFo (lf b) m n (p++[x]) (sd l)=true)(hz:zE7 nd (lf b) m (cut n) p=some (z,[]))
  (ih:∀ (vl' vp':Value) (V:World),Below w.heap.size w V->zDk V vl' (l.take (cut n))->zD1 V vp' p->sd (l.take (cut n))=z->Calls Tryz.prog 51 #[vl',.int .i64 ((m:Nat):Int),vb,vp'] V (zFr V true)):Calls Tryz.prog 51 #[vl,.int .i64 (m:Int),vb,vp] w (zFr w true):=by
 subst hnl
 obtain⟨ba,oa,ca,ua,uc,rfl,g1,g2,hu1,hu2⟩:=zK9 hl hm
 have hq:=zZ7 l m b (p++[x]) _ _ vb vp w hl hn hs hb hlb hp _ hu2
 rw[zzU (show ¬l[m]=b from fun e=>hx (by rw[zzf hm,e])),hpb]at hq
 obtain⟨q1,q2,q3,q4,q5,q6,q7,q8,q9,q10,q11,q12⟩:=zN8 hm hn
 have hha:=fun k hk=>zJk (k:=k) hl g1 g2 hk hn hs
 obtain⟨bp,op,cp,rfl,hc1,hc2,hr⟩:=zFl hp (by simp)
 have hsub:=zId hp rfl (i:=p.length) (by simp)
 rw[List.take_left]at hsub
 have hxr:=zE8 hr (i:=p.length) (by simp)
 rw[List.getElem_concat_length rfl]at hxr
 obtain⟨zl,hzl⟩:∃ z,z=(p++[x]).length:=⟨_,rfl⟩
 obtain⟨y,hy⟩:∃ y,y=p.length:=⟨_,rfl⟩
 have hzy:zl=y+1:=by rw[hzl,hy,zzi,zzx]
 rw[<-hzl]at hc1 hq ⊢
 rw[<-hy]at hsub hxr
 obtain⟨w1,w2,w3,w4,w5,w6,w7,w8,w9⟩:=zJi hzy hc1 hc2
 obtain⟨ul,hul⟩:∃ x,x=(l[m]).length:=⟨_,rfl⟩
 rw[<-hul]at hq hu1
 obtain⟨n,hnn⟩:∃ n,n=l.length:=⟨_,rfl⟩
 rw[<-hnn]at hq hha hm hn h2 hk hz ih g1 q3 q4 q5 q7 q10 q11 q12 ⊢
 have hk1:=zE9 (n:=n) h2
 have hk0:=zE3 n
 obtain⟨n1,n2,n3,n4,n5,n6,n7,n8,n9,n10,n11,n12,n13⟩:=zIs h2 hk1 hk0 g1 g2
 have hcut:=fun W=>zGr n W h2 n7
 obtain⟨k,hkk⟩:∃ k,k=cut n:=⟨_,rfl⟩
 rw[<-hkk]at hk1 hk0 hcut hk hz ih n8 n9 n10 n11
 have KW:=zzb (show wrap64 (k:Int)=(k:Int) from zJv hk1 hn)
 obtain⟨d1,d2,_,d3⟩:=zG1 hk
 obtain⟨r1,hr1⟩:∃ r,r=sd (l.take k):=⟨_,rfl⟩
 obtain⟨r2,hr2⟩:∃ r,r=sd (l.drop k):=⟨_,rfl⟩
 obtain⟨dd,hdd⟩:∃ d,d=decide ((1::(r1.toList++r2.toList):List UInt8)=1::(z.toList++x.toList)):=⟨_,rfl⟩
 have HDD:=zzb hdd
 have HRT:=zAI (show zHf (.slice (some ⟨ba,oa,none⟩) k ca) w r1 from by rw[hr1];exact (hha k hk1).rt_) (show zHf (.slice (some ⟨ba,oa+k,none⟩) (n - k) (ca - k)) w r2 from by rw[hr2];exact (hha k hk1).rd)
 have HL:=zzb (hha k hk1)
 have HEQ:=zzb (show dd=true->sd (l.take k)=z from fun h=>by
  have e:=zMs.1 (zzW (hdd.symm.trans h))
  exact hr1.symm.trans e.1)
 have HQ:=zzb hq
 have HU:=zAI hu1 (zza hsub (zza hxr hb))
 have HC:=zzb hcut
 have IH:=zzb ih
 have HZ:=zAI hz (zza (show 1<=k from hk0) (zza (Nat.lt_trans hk1 hn) hk))
 obtain⟨va,vc,rfl,-,-,-⟩:=id hb
 clear hq hl hs hlb hp hu1 hu2 g1 g2 hul hx hpb hz ih hha hc1 hc2 hr hsub hxr hzl hy hzy hnn hk0 hkk hcut hr1 hr2 hdd hb h2 hk hk1 hm hn
 generalize sd l=rr at *
 obtain⟨a,ha⟩:∃ a,a=lf b:=⟨_,rfl⟩
 rw[<-ha]at HQ HZ
 clear ha
 obtain⟨bl,hbl⟩:∃ bl,bl=b.length:=⟨_,rfl⟩
 rw[<-hbl]at HU HQ IH ⊢
 clear hbl
 have hbw:=al (zze w.heap.size w) (.cells #[.slice none 0 0,.slice none 0 0] 82)
 have hth:=zD0 w #[.slice none 0 0,.slice none 0 0] 82
 obtain⟨W,hW⟩:∃ x,x=w.alloc (.cells #[.slice none 0 0,.slice none 0 0] 82):=⟨_,rfl⟩
 rw[<-hW]at hbw hth
 have H0:=zzb (show Below w.heap.size w W/\W.there w.heap.size 0 2 from ⟨hbw,hth⟩)
 have HW:=zzb hW
 clear hbw hth hW
 go_enter Tryz.func51,Tryz.ntmps51
 refine Alm.wp_cut 1 ?_
 intro T hT
 dsimp only[zHd]
 replace hT:=zzb hT
 go_wp2_with fail
 refine hT.out _ _ ?_
 clear hT
 dsimp only[zEz]
 change Code.wp _ _ _ _ (w.alloc (.cells #[.slice none 0 0,.slice none 0 0] 82))
 rw[<-HW.out]
 clear HW
 have hcell:=bc HU.out.1 H0.out.1
 go_wp2_with (first
  | (have _:=H0;go_at_call 137;refine (HQ.out.s W H0.out.1).mono ?_;rintro e V1 ⟨rfl,hb1⟩;have H1:=zzb (show Below w.heap.size w V1/\V1.there w.heap.size 0 2 from ⟨H0.out.1.trans (hb1.mono H0.out.1.size),(zK hb1).there H0.out.2 (by decide) id⟩);clear hb1 H0)
  | (have _:=H1;go_at_call 128;refine (HQ.out.lf_ V1 H1.out.1).mono ?_;rintro e V2 ⟨rfl,hb1⟩;have H2:=zzb (show Below w.heap.size w V2/\V2.there w.heap.size 0 2 from ⟨H1.out.1.trans (hb1.mono H1.out.1.size),(zK hb1).there H1.out.2 (by decide) id⟩);clear hb1 H1)
  | (have _:=H2;go_at_call 44;refine (HQ.out.rt_ V2 H2.out.1).mono ?_;rintro e V3 ⟨rfl,hb1⟩;have H3:=zzb (show Below w.heap.size w V3/\V3.there w.heap.size 0 2 from ⟨H2.out.1.trans (hb1.mono H2.out.1.size),(zK hb1).there H2.out.2 (by decide) id⟩);clear hb1 H2)
  | (have _:=H3;go_at_call 13;refine (HQ.out.ck V3 H3.out.1).mono ?_;rintro e V4 ⟨rfl,hb1⟩;have H4:=zzb (show Below w.heap.size w V4/\V4.there w.heap.size 0 2 from ⟨H3.out.1.trans (hb1.mono H3.out.1.size),(zK hb1).there H3.out.2 (by decide) id⟩);clear hb1 H3 hcell)
  | (have _:=H4;refine zDe rfl _ rfl bp (op+y*32) rfl x ((zK H4.out.1).range HU.out.2.2.1 id) ?_;refine Hid.out ?_))
 refine zzb ?_
 clear q1 q2 q3 q4 q5 q6 q7 q8 q9 q10 q11 q12 n1 n2 n3 n4 n12 n13
 go_wp2_with (first
  | (have _:=H4;refine zEd (by rfl) rfl _ _ rfl x rfl rfl ?_;intro W5 hb5 hr5 _ hlt5;refine Hid.out ?_))
 refine zzb ?_
 obtain⟨g,hg⟩:∃ g,g=V4.heap.size:=⟨_,rfl⟩
 rw[<-hg]at hr5 ⊢
 have H5:=zzb (show Below w.heap.size w W5/\W5.there w.heap.size 0 2/\W5.rangeAt g 0 (cellsOf x) from ⟨H4.out.1.trans (hb5.mono H4.out.1.size),(zK hb5).there H4.out.2 (by decide) id,hr5⟩)
 clear hb5 hr5 hlt5 hg H4
 go_wp2_with (go_at_call 103;refine Hid.out ?_)
 refine zzb ?_
 refine (HC.out _).mono ?_
 rintro e w4 ⟨rfl,rfl⟩
 clear w1 w2 w3 w4 w5 w6 w7 w8 w9
 go_wp2_with fail
 rw[KW.out]
 have hb1:=(zze W5.heap.size W5).drew
 have Hx0:=zzb (show Below w.heap.size w W5.drew/\W5.drew.there w.heap.size 0 2/\W5.drew.rangeAt g 0 (cellsOf x) from ⟨H5.out.1.trans (hb1.mono H5.out.1.size),(zK hb1).there H5.out.2.1 (by decide) id,(zK hb1).range H5.out.2.2 id⟩)
 clear H5
 refine zDb (fun _=>True) [.t 0,.t 1,.t 2,.t 4,.t 5,.t 6,.e 3 false,.e 7 false,.e 8 false,.t 9] (by kernel_rfl) (by kernel_rfl) (by rintro _ _(_|_)_ _ h<;>exact h) ?_
 generalize W5.drew=Ux0 at *
 have hbd:=hb1
 clear hb1
 clear hbd
 iterate 6
  refine zDi rfl (v:=?_) (by rfl) (fun W=>?_) ?_
  rotate_left
  ·go_simp
   try rfl
  try simp only[zU,zA,zB,zC]
 refine zD7 rfl (by rfl) (fun K hK=>?_)
 go_simp
 refine (HRT.out.1 Ux0 Hx0.out.1).mono ?_
 rintro e Ux1 ⟨rfl,hb1⟩
 have Hx1:=zzb (show Below w.heap.size w Ux1/\Ux1.there w.heap.size 0 2/\Ux1.rangeAt g 0 (cellsOf x) from ⟨Hx0.out.1.trans (hb1.mono Hx0.out.1.size),(zK hb1).there Hx0.out.2.1 (by decide) id,(zK hb1).range Hx0.out.2.2 id⟩)
 clear hb1 Hx0
 refine hK _ _ ?_;clear hK K
 try simp only[zU,zA,zB,zC]
 refine zD7 rfl (by rfl) (fun K hK=>?_)
 go_simp
 refine (HRT.out.2 Ux1 Hx1.out.1).mono ?_
 rintro e Ux2 ⟨rfl,hb1⟩
 have Hx2:=zzb (show Below w.heap.size w Ux2/\Ux2.there w.heap.size 0 2/\Ux2.rangeAt g 0 (cellsOf x) from ⟨Hx1.out.1.trans (hb1.mono Hx1.out.1.size),(zK hb1).there Hx1.out.2.1 (by decide) id,(zK hb1).range Hx1.out.2.2 id⟩)
 clear hb1 Hx1
 refine hK _ _ ?_;clear hK K
 try simp only[zU,zA,zB,zC]
 refine zD7 rfl (by rfl) (fun K hK=>?_)
 go_simp
 refine (zFq r1 r2 Ux2).mono ?_
 rintro e Ux3 ⟨v,rfl,hv,hb1⟩
 have Hx3:=zzb (show Below w.heap.size w Ux3/\Ux3.there w.heap.size 0 2/\Ux3.rangeAt g 0 (cellsOf x) from ⟨Hx2.out.1.trans (hb1.mono Hx2.out.1.size),(zK hb1).there Hx2.out.2.1 (by decide) id,(zK hb1).range Hx2.out.2.2 id⟩)
 clear hb1 Hx2
 obtain⟨ax,cx,rfl,-,-,-⟩:=id hv
 obtain⟨lx,hlx⟩:∃ l,l=(1::(r1.toList++r2.toList):List UInt8).length:=⟨_,rfl⟩
 rw[<-hlx]at hv ⊢
 have HXx:=zzb hv
 clear hv hlx
 refine hK _ _ ?_;clear hK K
 try simp only[zU,zA,zB,zC]
 refine zDi rfl (v:=?_) (by rfl) (fun W=>?_) ?_
 rotate_left
 ·go_simp
  try rfl
 try simp only[zU,zA,zB,zC]
 refine zDn ?_
 go_wp2_with fail
 have HR0:=zzb (zDc HXx.out (zze Ux3.heap.size Ux3).drew (zzc _))
 clear HXx
 have hb1:=(zze Ux3.heap.size Ux3).drew
 have Hy0:=zzb (show Below w.heap.size w Ux3.drew/\Ux3.drew.there w.heap.size 0 2/\Ux3.drew.rangeAt g 0 (cellsOf x) from ⟨Hx3.out.1.trans (hb1.mono Hx3.out.1.size),(zK hb1).there Hx3.out.2.1 (by decide) id,(zK hb1).range Hx3.out.2.2 id⟩)
 clear Hx3
 refine zDb (fun V=>V.rangeAt g 0 (cellsOf x)) [.t 0,.t 2,.t 3,.t 4,.s 6,.e 1 true,.e 5 true,.e 7 false,.t 8] (by kernel_rfl) (by kernel_rfl) (by rintro _ _(_|_)_ _ h<;>exact h) ?_
 generalize Ux3.drew=Y0 at *
 have hbd:=hb1
 clear hb1
 clear hbd
 iterate 4
  refine zDi rfl (v:=?_) (by rfl) (fun W=>?_) ?_
  rotate_left
  ·go_simp
   try rfl
  try simp only[zU,zA,zB,zC]
 refine zD8 (by exact Hy0.out.2.2) rfl (by rfl) _ (by rfl) g 0 (by rfl) x (fun V hV=>hV) ?_
 try simp only[zU,zA,zB,zC]
 refine zDx rfl (by rfl) (fun K hK=>?_)
 go_simp
 refine (HQ.out.lf_ Y0 Hy0.out.1).mono ?_
 rintro e Y1 ⟨rfl,hb1⟩
 have Hy1:=zzb (show Below w.heap.size w Y1/\Y1.there w.heap.size 0 2/\Y1.rangeAt g 0 (cellsOf x) from ⟨Hy0.out.1.trans (hb1.mono Hy0.out.1.size),(zK hb1).there Hy0.out.2.1 (by decide) id,(zK hb1).range Hy0.out.2.2 id⟩)
 have HR1:=zzb (zDc HR0.out hb1 (zzc _))
 clear hb1 Hy0 HR0
 refine hK _ _ ⟨by exact Hy1.out.2.2,?_⟩;clear hK K
 try simp only[zU,zA,zB,zC]
 refine zDx rfl (by rfl) (fun K hK=>?_)
 go_simp
 refine (zNq a k m p z _ Y1 HZ.out.2.1 HZ.out.2.2.1 HZ.out.2.2.2 (HU.out.2.1.below Hy1.out.1 (zzc _)) HZ.out.1).mono ?_
 rintro e Y2 ⟨rfl,hb1⟩
 have Hy2:=zzb (show Below w.heap.size w Y2/\Y2.there w.heap.size 0 2/\Y2.rangeAt g 0 (cellsOf x) from ⟨Hy1.out.1.trans (hb1.mono Hy1.out.1.size),(zK hb1).there Hy1.out.2.1 (by decide) id,(zK hb1).range Hy1.out.2.2 id⟩)
 have HR2:=zzb (zDc HR1.out hb1 (zzc _))
 clear hb1 Hy1 HR1
 refine hK _ _ ⟨by exact Hy2.out.2.2,?_⟩;clear hK K
 try simp only[zU,zA,zB,zC]
 refine zD7 rfl (by rfl) (fun K hK=>?_)
 go_simp
 refine (zFq z x Y2).mono ?_
 rintro e Y3 ⟨v,rfl,hv,hb1⟩
 have Hy3:=zzb (show Below w.heap.size w Y3/\Y3.there w.heap.size 0 2/\Y3.rangeAt g 0 (cellsOf x) from ⟨Hy2.out.1.trans (hb1.mono Hy2.out.1.size),(zK hb1).there Hy2.out.2.1 (by decide) id,(zK hb1).range Hy2.out.2.2 id⟩)
 have HR3:=zzb (zDc HR2.out hb1 (zzc _))
 clear hb1 Hy2 HR2
 obtain⟨ay,cy,rfl,-,-,-⟩:=id hv
 obtain⟨ly,hly⟩:∃ l,l=(1::(z.toList++x.toList):List UInt8).length:=⟨_,rfl⟩
 rw[<-hly]at hv ⊢
 have HSM:=zzb (zHy _ _ _ _ Y3 HR3.out hv)
 rw[<-HDD.out]at HSM
 clear hv hly HR3 HDD
 refine hK _ _ ?_;clear hK K
 try simp only[zU,zA,zB,zC]
 refine zDi rfl (v:=?_) (by rfl) (fun W=>?_) ?_
 rotate_left
 ·go_simp
  try rfl
 try simp only[zU,zA,zB,zC]
 refine zDn ?_
 go_wp2_with (first
  | (go_at_call 137;refine Hid.out ?_))
 refine zzb ?_
 refine HSM.out.mono ?_
 rintro e Y4 ⟨rfl,rfl⟩
 cases dd with
 | false =>
  go_wp2_with (refine zEf rfl _ _ rfl w.heap.size 0 ax ay lx cx ly cy rfl rfl Hy3.out.2.1 ?_)
  exact zzJ (zDh Tryz.results51 _ _ w.heap.size 0 [.slice ax lx cx,.slice ay ly cy] _ rfl (zDd _ _ _ _ (by exact zzd Hy3.out.2.1 _ _ _)) Tryz.underlying82 rfl zDy) rfl ⟨_,_,rfl,⟨_,_,_,rfl⟩,⟨_,_,_,rfl⟩,zDa _ (zzc _) _ _ _ _ Hy3.out.1⟩
 | true =>
  have HE:=zzb (HEQ.out rfl)
  clear HEQ HSM
  go_wp2_with (first
   | (have _:=Hy3;go_at_call 51;refine (IH.out _ _ Y3 Hy3.out.1 (HL.out.t.below Hy3.out.1) (HU.out.2.1.below Hy3.out.1 (zzc _)) HE.out).mono ?_;rintro e X1 ⟨rx,ry,rfl,⟨xa1,xn1,xc1,rfl⟩,⟨ya1,yn1,yc1,rfl⟩,hb1⟩;have Hr1:=zzb (show Below w.heap.size w X1/\X1.there w.heap.size 0 2/\X1.rangeAt g 0 (cellsOf x) from ⟨Hy3.out.1.trans (hb1.mono Hy3.out.1.size),(zK hb1).there Hy3.out.2.1 (by decide) id,(zK hb1).range Hy3.out.2.2 id⟩);clear hb1 Hy3)
   | (have _:=Hr1;refine zEf rfl _ _ rfl w.heap.size 0 xa1 ya1 xn1 xc1 yn1 yc1 rfl rfl Hr1.out.2.1 ?_))
  exact zzJ (zDh Tryz.results51 _ _ w.heap.size 0 [.slice xa1 xn1 xc1,.slice ya1 yn1 yc1] _ rfl (zDd _ _ _ _ (by exact zzd Hr1.out.2.1 _ _ _)) Tryz.underlying82 rfl zDy) rfl ⟨_,_,rfl,⟨_,_,_,rfl⟩,⟨_,_,_,rfl⟩,zDa _ (zzc _) _ _ _ _ Hr1.out.1⟩
theorem zV9(l:List (List UInt8))(m n:Nat)(b:List UInt8)(p:List Sum)(x z:Sum)(vl vb vp:Value)(w:World)(hnl:n=l.length)(hl:zDk w vl l)(hn:n<1000000)(hs:SZ l)(hb:zDo w vb b)(hlb:b.length<800000)(hp:zD1 w vp (p++[x]))(hm:m<n)(h2:2<=n)(hk:¬m<cut n)(hx:¬l[m]? = some b)(hpb:zFo (lf b) m n (p++[x]) (sd l)=true)(hz:zE7 nd (lf b) (m - cut n) (n - cut n) p=some (z,[]))
  (ih:∀ (vl' vp':Value) (V:World),Below w.heap.size w V->zDk V vl' (l.drop (cut n))->zD1 V vp' p->sd (l.drop (cut n))=z->Calls Tryz.prog 51 #[vl',.int .i64 (((m - cut n):Nat):Int),vb,vp'] V (zFr V true)):Calls Tryz.prog 51 #[vl,.int .i64 (m:Int),vb,vp] w (zFr w true):=by
 subst hnl
 obtain⟨ba,oa,ca,ua,uc,rfl,g1,g2,hu1,hu2⟩:=zK9 hl hm
 have hq:=zZ7 l m b (p++[x]) _ _ vb vp w hl hn hs hb hlb hp _ hu2
 rw[zzU (show ¬l[m]=b from fun e=>hx (by rw[zzf hm,e])),hpb]at hq
 obtain⟨q1,q2,q3,q4,q5,q6,q7,q8,q9,q10,q11,q12⟩:=zN8 hm hn
 have hha:=fun k hk=>zJk (k:=k) hl g1 g2 hk hn hs
 obtain⟨bp,op,cp,rfl,hc1,hc2,hr⟩:=zFl hp (by simp)
 have hsub:=zId hp rfl (i:=p.length) (by simp)
 rw[List.take_left]at hsub
 have hxr:=zE8 hr (i:=p.length) (by simp)
 rw[List.getElem_concat_length rfl]at hxr
 obtain⟨zl,hzl⟩:∃ z,z=(p++[x]).length:=⟨_,rfl⟩
 obtain⟨y,hy⟩:∃ y,y=p.length:=⟨_,rfl⟩
 have hzy:zl=y+1:=by rw[hzl,hy,zzi,zzx]
 rw[<-hzl]at hc1 hq ⊢
 rw[<-hy]at hsub hxr
 obtain⟨w1,w2,w3,w4,w5,w6,w7,w8,w9⟩:=zJi hzy hc1 hc2
 obtain⟨ul,hul⟩:∃ x,x=(l[m]).length:=⟨_,rfl⟩
 rw[<-hul]at hq hu1
 obtain⟨n,hnn⟩:∃ n,n=l.length:=⟨_,rfl⟩
 rw[<-hnn]at hq hha hm hn h2 hk hz ih g1 q3 q4 q5 q7 q10 q11 q12 ⊢
 have hk1:=zE9 (n:=n) h2
 have hk0:=zE3 n
 obtain⟨n1,n2,n3,n4,n5,n6,n7,n8,n9,n10,n11,n12,n13⟩:=zIs h2 hk1 hk0 g1 g2
 have hcut:=fun W=>zGr n W h2 n7
 obtain⟨k,hkk⟩:∃ k,k=cut n:=⟨_,rfl⟩
 rw[<-hkk]at hk1 hk0 hcut hk hz ih n8 n9 n10 n11
 have KW:=zzb (show wrap64 (k:Int)=(k:Int) from zJv hk1 hn)
 obtain⟨d1,d2,d3,d4,d5,d6,d7⟩:=yGo hk hm hn
 obtain⟨r1,hr1⟩:∃ r,r=sd (l.take k):=⟨_,rfl⟩
 obtain⟨r2,hr2⟩:∃ r,r=sd (l.drop k):=⟨_,rfl⟩
 obtain⟨dd,hdd⟩:∃ d,d=decide ((1::(r1.toList++r2.toList):List UInt8)=1::(x.toList++z.toList)):=⟨_,rfl⟩
 have HDD:=zzb hdd
 have HRT:=zAI (show zHf (.slice (some ⟨ba,oa,none⟩) k ca) w r1 from by rw[hr1];exact (hha k hk1).rt_) (show zHf (.slice (some ⟨ba,oa+k,none⟩) (n - k) (ca - k)) w r2 from by rw[hr2];exact (hha k hk1).rd)
 have HL:=zzb (hha k hk1)
 have HEQ:=zzb (show dd=true->sd (l.drop k)=z from fun h=>by
  have e:=zMs.1 (zzW (hdd.symm.trans h))
  exact hr2.symm.trans e.2)
 have HQ:=zzb hq
 have HU:=zAI hu1 (zza hsub (zza hxr hb))
 have HC:=zzb hcut
 have IH:=zzb ih
 have HZ:=zAI hz (zza (show 1<=n - k from Nat.sub_pos_of_lt hk1) (zza (zzy (Nat.sub_le n k) hn) (show m - k<n - k from Nat.sub_lt_sub_right (Nat.le_of_not_lt hk) hm)))
 obtain⟨va,vc,rfl,-,-,-⟩:=id hb
 clear hq hl hs hlb hp hu1 hu2 g1 g2 hul hx hpb hz ih hha hc1 hc2 hr hsub hxr hzl hy hzy hnn hk0 hkk hcut hr1 hr2 hdd hb h2 hk hk1 hm hn
 generalize sd l=rr at *
 obtain⟨a,ha⟩:∃ a,a=lf b:=⟨_,rfl⟩
 rw[<-ha]at HQ HZ
 clear ha
 obtain⟨bl,hbl⟩:∃ bl,bl=b.length:=⟨_,rfl⟩
 rw[<-hbl]at HU HQ IH ⊢
 clear hbl
 have hbw:=al (zze w.heap.size w) (.cells #[.slice none 0 0,.slice none 0 0] 82)
 have hth:=zD0 w #[.slice none 0 0,.slice none 0 0] 82
 obtain⟨W,hW⟩:∃ x,x=w.alloc (.cells #[.slice none 0 0,.slice none 0 0] 82):=⟨_,rfl⟩
 rw[<-hW]at hbw hth
 have H0:=zzb (show Below w.heap.size w W/\W.there w.heap.size 0 2 from ⟨hbw,hth⟩)
 have HW:=zzb hW
 clear hbw hth hW
 go_enter Tryz.func51,Tryz.ntmps51
 refine Alm.wp_cut 1 ?_
 intro T hT
 dsimp only[zHd]
 replace hT:=zzb hT
 go_wp2_with fail
 refine hT.out _ _ ?_
 clear hT
 dsimp only[zEz]
 change Code.wp _ _ _ _ (w.alloc (.cells #[.slice none 0 0,.slice none 0 0] 82))
 rw[<-HW.out]
 clear HW
 have hcell:=bc HU.out.1 H0.out.1
 go_wp2_with (first
  | (have _:=H0;go_at_call 137;refine (HQ.out.s W H0.out.1).mono ?_;rintro e V1 ⟨rfl,hb1⟩;have H1:=zzb (show Below w.heap.size w V1/\V1.there w.heap.size 0 2 from ⟨H0.out.1.trans (hb1.mono H0.out.1.size),(zK hb1).there H0.out.2 (by decide) id⟩);clear hb1 H0)
  | (have _:=H1;go_at_call 128;refine (HQ.out.lf_ V1 H1.out.1).mono ?_;rintro e V2 ⟨rfl,hb1⟩;have H2:=zzb (show Below w.heap.size w V2/\V2.there w.heap.size 0 2 from ⟨H1.out.1.trans (hb1.mono H1.out.1.size),(zK hb1).there H1.out.2 (by decide) id⟩);clear hb1 H1)
  | (have _:=H2;go_at_call 44;refine (HQ.out.rt_ V2 H2.out.1).mono ?_;rintro e V3 ⟨rfl,hb1⟩;have H3:=zzb (show Below w.heap.size w V3/\V3.there w.heap.size 0 2 from ⟨H2.out.1.trans (hb1.mono H2.out.1.size),(zK hb1).there H2.out.2 (by decide) id⟩);clear hb1 H2)
  | (have _:=H3;go_at_call 13;refine (HQ.out.ck V3 H3.out.1).mono ?_;rintro e V4 ⟨rfl,hb1⟩;have H4:=zzb (show Below w.heap.size w V4/\V4.there w.heap.size 0 2 from ⟨H3.out.1.trans (hb1.mono H3.out.1.size),(zK hb1).there H3.out.2 (by decide) id⟩);clear hb1 H3 hcell)
  | (have _:=H4;refine zDe rfl _ rfl bp (op+y*32) rfl x ((zK H4.out.1).range HU.out.2.2.1 id) ?_;refine Hid.out ?_))
 refine zzb ?_
 clear q1 q2 q3 q4 q5 q6 q7 q8 q9 q10 q11 q12 n1 n2 n3 n4 n12 n13
 go_wp2_with (first
  | (have _:=H4;refine zEd (by rfl) rfl _ _ rfl x rfl rfl ?_;intro W5 hb5 hr5 _ hlt5;refine Hid.out ?_))
 refine zzb ?_
 obtain⟨g,hg⟩:∃ g,g=V4.heap.size:=⟨_,rfl⟩
 rw[<-hg]at hr5 ⊢
 have H5:=zzb (show Below w.heap.size w W5/\W5.there w.heap.size 0 2/\W5.rangeAt g 0 (cellsOf x) from ⟨H4.out.1.trans (hb5.mono H4.out.1.size),(zK hb5).there H4.out.2 (by decide) id,hr5⟩)
 clear hb5 hr5 hlt5 hg H4
 go_wp2_with (go_at_call 103;refine Hid.out ?_)
 refine zzb ?_
 refine (HC.out _).mono ?_
 rintro e w4 ⟨rfl,rfl⟩
 clear w1 w2 w3 w4 w5 w6 w7 w8 w9
 go_wp2_with fail
 rw[KW.out]
 have hb1:=(zze W5.heap.size W5).drew
 have Hx0:=zzb (show Below w.heap.size w W5.drew/\W5.drew.there w.heap.size 0 2/\W5.drew.rangeAt g 0 (cellsOf x) from ⟨H5.out.1.trans (hb1.mono H5.out.1.size),(zK hb1).there H5.out.2.1 (by decide) id,(zK hb1).range H5.out.2.2 id⟩)
 clear H5
 refine zDb (fun _=>True) [.t 0,.t 1,.t 2,.t 4,.t 5,.t 6,.e 3 false,.e 7 false,.e 8 false,.t 9] (by kernel_rfl) (by kernel_rfl) (by rintro _ _(_|_)_ _ h<;>exact h) ?_
 generalize W5.drew=Ux0 at *
 have hbd:=hb1
 clear hb1
 clear hbd
 iterate 6
  refine zDi rfl (v:=?_) (by rfl) (fun W=>?_) ?_
  rotate_left
  ·go_simp
   try rfl
  try simp only[zU,zA,zB,zC]
 refine zD7 rfl (by rfl) (fun K hK=>?_)
 go_simp
 refine (HRT.out.1 Ux0 Hx0.out.1).mono ?_
 rintro e Ux1 ⟨rfl,hb1⟩
 have Hx1:=zzb (show Below w.heap.size w Ux1/\Ux1.there w.heap.size 0 2/\Ux1.rangeAt g 0 (cellsOf x) from ⟨Hx0.out.1.trans (hb1.mono Hx0.out.1.size),(zK hb1).there Hx0.out.2.1 (by decide) id,(zK hb1).range Hx0.out.2.2 id⟩)
 clear hb1 Hx0
 refine hK _ _ ?_;clear hK K
 try simp only[zU,zA,zB,zC]
 refine zD7 rfl (by rfl) (fun K hK=>?_)
 go_simp
 refine (HRT.out.2 Ux1 Hx1.out.1).mono ?_
 rintro e Ux2 ⟨rfl,hb1⟩
 have Hx2:=zzb (show Below w.heap.size w Ux2/\Ux2.there w.heap.size 0 2/\Ux2.rangeAt g 0 (cellsOf x) from ⟨Hx1.out.1.trans (hb1.mono Hx1.out.1.size),(zK hb1).there Hx1.out.2.1 (by decide) id,(zK hb1).range Hx1.out.2.2 id⟩)
 clear hb1 Hx1
 refine hK _ _ ?_;clear hK K
 try simp only[zU,zA,zB,zC]
 refine zD7 rfl (by rfl) (fun K hK=>?_)
 go_simp
 refine (zFq r1 r2 Ux2).mono ?_
 rintro e Ux3 ⟨v,rfl,hv,hb1⟩
 have Hx3:=zzb (show Below w.heap.size w Ux3/\Ux3.there w.heap.size 0 2/\Ux3.rangeAt g 0 (cellsOf x) from ⟨Hx2.out.1.trans (hb1.mono Hx2.out.1.size),(zK hb1).there Hx2.out.2.1 (by decide) id,(zK hb1).range Hx2.out.2.2 id⟩)
 clear hb1 Hx2
 obtain⟨ax,cx,rfl,-,-,-⟩:=id hv
 obtain⟨lx,hlx⟩:∃ l,l=(1::(r1.toList++r2.toList):List UInt8).length:=⟨_,rfl⟩
 rw[<-hlx]at hv ⊢
 have HXx:=zzb hv
 clear hv hlx
 refine hK _ _ ?_;clear hK K
 try simp only[zU,zA,zB,zC]
 refine zDi rfl (v:=?_) (by rfl) (fun W=>?_) ?_
 rotate_left
 ·go_simp
  try rfl
 try simp only[zU,zA,zB,zC]
 refine zDn ?_
 go_wp2_with fail
 have HR0:=zzb (zDc HXx.out (zze Ux3.heap.size Ux3).drew (zzc _))
 clear HXx
 have hb1:=(zze Ux3.heap.size Ux3).drew
 have Hy0:=zzb (show Below w.heap.size w Ux3.drew/\Ux3.drew.there w.heap.size 0 2/\Ux3.drew.rangeAt g 0 (cellsOf x) from ⟨Hx3.out.1.trans (hb1.mono Hx3.out.1.size),(zK hb1).there Hx3.out.2.1 (by decide) id,(zK hb1).range Hx3.out.2.2 id⟩)
 clear Hx3
 refine zDb (fun V=>V.rangeAt g 0 (cellsOf x)) [.t 1,.t 3,.t 4,.t 5,.t 6,.t 7,.t 8,.t 9,.t 10,.s 0,.e 2 true,.e 11 true,.e 12 false,.t 13] (by kernel_rfl) (by kernel_rfl) (by rintro _ _(_|_)_ _ h<;>exact h) ?_
 generalize Ux3.drew=Y0 at *
 have hbd:=hb1
 clear hb1
 clear hbd
 iterate 9
  refine zDi rfl (v:=?_) (by rfl) (fun W=>?_) ?_
  rotate_left
  ·go_simp
   try rfl
  try simp only[zU,zA,zB,zC]
 refine zD8 (by exact Hy0.out.2.2) rfl (by rfl) _ (by rfl) g 0 (by rfl) x (fun V hV=>hV) ?_
 try simp only[zU,zA,zB,zC]
 refine zDx rfl (by rfl) (fun K hK=>?_)
 go_simp
 refine (HQ.out.lf_ Y0 Hy0.out.1).mono ?_
 rintro e Y1 ⟨rfl,hb1⟩
 have Hy1:=zzb (show Below w.heap.size w Y1/\Y1.there w.heap.size 0 2/\Y1.rangeAt g 0 (cellsOf x) from ⟨Hy0.out.1.trans (hb1.mono Hy0.out.1.size),(zK hb1).there Hy0.out.2.1 (by decide) id,(zK hb1).range Hy0.out.2.2 id⟩)
 have HR1:=zzb (zDc HR0.out hb1 (zzc _))
 clear hb1 Hy0 HR0
 refine hK _ _ ⟨by exact Hy1.out.2.2,?_⟩;clear hK K
 try simp only[zU,zA,zB,zC]
 refine zDx rfl (by rfl) (fun K hK=>?_)
 go_simp
 refine (zNq a (n - k) (m - k) p z _ Y1 HZ.out.2.1 HZ.out.2.2.1 HZ.out.2.2.2 (HU.out.2.1.below Hy1.out.1 (zzc _)) HZ.out.1).mono ?_
 rintro e Y2 ⟨rfl,hb1⟩
 have Hy2:=zzb (show Below w.heap.size w Y2/\Y2.there w.heap.size 0 2/\Y2.rangeAt g 0 (cellsOf x) from ⟨Hy1.out.1.trans (hb1.mono Hy1.out.1.size),(zK hb1).there Hy1.out.2.1 (by decide) id,(zK hb1).range Hy1.out.2.2 id⟩)
 have HR2:=zzb (zDc HR1.out hb1 (zzc _))
 clear hb1 Hy1 HR1
 refine hK _ _ ⟨by exact Hy2.out.2.2,?_⟩;clear hK K
 try simp only[zU,zA,zB,zC]
 refine zD7 rfl (by rfl) (fun K hK=>?_)
 go_simp
 refine (zFq x z Y2).mono ?_
 rintro e Y3 ⟨v,rfl,hv,hb1⟩
 have Hy3:=zzb (show Below w.heap.size w Y3/\Y3.there w.heap.size 0 2/\Y3.rangeAt g 0 (cellsOf x) from ⟨Hy2.out.1.trans (hb1.mono Hy2.out.1.size),(zK hb1).there Hy2.out.2.1 (by decide) id,(zK hb1).range Hy2.out.2.2 id⟩)
 have HR3:=zzb (zDc HR2.out hb1 (zzc _))
 clear hb1 Hy2 HR2
 obtain⟨ay,cy,rfl,-,-,-⟩:=id hv
 obtain⟨ly,hly⟩:∃ l,l=(1::(x.toList++z.toList):List UInt8).length:=⟨_,rfl⟩
 rw[<-hly]at hv ⊢
 have HSM:=zzb (zHy _ _ _ _ Y3 HR3.out hv)
 rw[<-HDD.out]at HSM
 clear hv hly HR3 HDD
 refine hK _ _ ?_;clear hK K
 try simp only[zU,zA,zB,zC]
 refine zDi rfl (v:=?_) (by rfl) (fun W=>?_) ?_
 rotate_left
 ·go_simp
  try rfl
 try simp only[zU,zA,zB,zC]
 refine zDn ?_
 go_wp2_with (first
  | (go_at_call 137;refine Hid.out ?_))
 refine zzb ?_
 refine HSM.out.mono ?_
 rintro e Y4 ⟨rfl,rfl⟩
 cases dd with
 | false =>
  go_wp2_with (refine zEf rfl _ _ rfl w.heap.size 0 ax ay lx cx ly cy rfl rfl Hy3.out.2.1 ?_)
  exact zzJ (zDh Tryz.results51 _ _ w.heap.size 0 [.slice ax lx cx,.slice ay ly cy] _ rfl (zDd _ _ _ _ (by exact zzd Hy3.out.2.1 _ _ _)) Tryz.underlying82 rfl zDy) rfl ⟨_,_,rfl,⟨_,_,_,rfl⟩,⟨_,_,_,rfl⟩,zDa _ (zzc _) _ _ _ _ Hy3.out.1⟩
 | true =>
  have HE:=zzb (HEQ.out rfl)
  clear HEQ HSM
  go_wp2_with (first
   | (have _:=Hy3;go_at_call 51;refine (IH.out _ _ Y3 Hy3.out.1 (HL.out.d.below Hy3.out.1) (HU.out.2.1.below Hy3.out.1 (zzc _)) HE.out).mono ?_;rintro e X1 ⟨rx,ry,rfl,⟨xa1,xn1,xc1,rfl⟩,⟨ya1,yn1,yc1,rfl⟩,hb1⟩;have Hr1:=zzb (show Below w.heap.size w X1/\X1.there w.heap.size 0 2/\X1.rangeAt g 0 (cellsOf x) from ⟨Hy3.out.1.trans (hb1.mono Hy3.out.1.size),(zK hb1).there Hy3.out.2.1 (by decide) id,(zK hb1).range Hy3.out.2.2 id⟩);clear hb1 Hy3)
   | (have _:=Hr1;refine zEf rfl _ _ rfl w.heap.size 0 xa1 ya1 xn1 xc1 yn1 yc1 rfl rfl Hr1.out.2.1 ?_))
  exact zzJ (zDh Tryz.results51 _ _ w.heap.size 0 [.slice xa1 xn1 xc1,.slice ya1 yn1 yc1] _ rfl (zDd _ _ _ _ (by exact zzd Hr1.out.2.1 _ _ _)) Tryz.underlying82 rfl zDy) rfl ⟨_,_,rfl,⟨_,_,_,rfl⟩,⟨_,_,_,rfl⟩,zDa _ (zzc _) _ _ _ _ Hr1.out.1⟩
theorem zYu(b:List UInt8)(vb:Value)(hlb:b.length<800000):∀ (d:Nat) (l:List (List UInt8)) (m:Nat) (p:List Sum) (vl vp:Value) (w:World),l.length<=d->zDk w vl l->m<l.length->l.length<1000000->SZ l->zDo w vb b->zD1 w vp p->¬l[m]? = some b->zE7 nd (lf b) m l.length p=some (sd l,[])->Calls Tryz.prog 51 #[vl,.int .i64 (m:Int),vb,vp] w (zFr w true):=by
 intro d
 induction d with
 | zero=>intro l m p vl vp w h1 _ h2;omega
 | succ d ih =>
  intro l m p vl vp w hd hl hm hn hs hb hp hx h
  have hpb:zFo (lf b) m l.length p (sd l)=true:=by unfold zFo;rw[h,zzV hm];simp
  by_cases h1:l.length=1
  ·obtain rfl:m=0:=by omega
   exact yEg l b p vl vb vp w hl hs hb hlb hp h1 hx hpb
  ·obtain⟨p',x,z,rfl,hsp⟩:=zPg (by omega) h
   have hc:=zE9 (n:=l.length) (by omega)
   have hc0:=zE3 l.length
   rcases hsp with ⟨hk,_,hz⟩ | ⟨hk,_,hz⟩
   ·refine zYc l m l.length b p' x z vl vb vp w rfl hl hn hs hb hlb hp hm (by omega) hk hx hpb hz (fun vl' vp' V hV hl' hp' hsd=>?_)
    have hlen:(l.take (cut l.length)).length=cut l.length:=by rw[zzq];omega
    refine ih (l.take (cut l.length)) m p' vl' vp' V (by omega) hl' (by omega) (by omega) (zOk hs _) (zDc hb hV (zzc _)) hp' ?_ ?_
    ·rw[List.getElem?_take_of_lt hk];exact hx
    ·rw[hlen,hsd];exact hz
   ·refine zV9 l m l.length b p' x z vl vb vp w rfl hl hn hs hb hlb hp hm (by omega) hk hx hpb hz (fun vl' vp' V hV hl' hp' hsd=>?_)
    have hlen:(l.drop (cut l.length)).length=l.length - cut l.length:=zz0
    refine ih (l.drop (cut l.length)) (m - cut l.length) p' vl' vp' V (by omega) hl' (by omega) (by omega) (zRn hs _) (zDc hb hV (zzc _)) hp' ?_ ?_
    ·rw[List.getElem?_drop,show cut l.length+(m - cut l.length)=m by omega];exact hx
    ·rw[hlen,hsd];exact hz
theorem zTs{a:Sum}{m n:Nat}{p:List Sum}{s:Sum}(h:zFo a m n p s=true):m<n/\zE7 nd a m n p=some (s,[]):=by
 unfold zFo at h
 rw[Bool.and_eq_true]at h
 refine⟨zzW h.1,?_⟩
 have h2:=h.2
 split at h2
 ·rename_i s' hs'
  rw[hs',zzW h2]
 ·cases h2
theorem zVc(l:List (List UInt8))(a:Int)(b:List UInt8)(p:List Sum)(vl vb vp:Value)(w:World)(hl:zDk w vl l)(hb:zDo w vb b)(hp:zD1 w vp p)(hn:l.length<1000000)(hs:SZ l)(hsb:b.length<800000):Calls Tryz.prog 51 #[vl,.int .i64 a,vb,vp] w (zFr w (PF l a b p)):=by
 unfold PF
 by_cases hr:0<=a/\a<(l.length:Int)
 ·obtain⟨k,rfl⟩:∃ k:Nat,a=(k:Int):=⟨a.toNat,by omega⟩
  have hk:k<l.length:=by omega
  rw[zzD,zzV hr]
  by_cases hx:l[k]? = some b
  ·rw[zzV hx]
   simp only[Bool.true_and,Bool.not_true,Bool.and_false]
   exact zX0 l k b p vl vb vp w hl hn hs hb hsb hp hk hx
  ·rw[zzU hx]
   rcases hpb:zFo (lf b) k l.length p (sd l)with _ | _
   ·simp only[Bool.and_false,Bool.false_and]
    exact yDt l k b p vl vb vp w hl hn hs hb hsb hp hk hx hpb
   ·simp only[Bool.true_and,Bool.not_false]
    exact zYu b vb hsb l.length l k p vl vp w (zzc _) hl hk hn hs hb hp hx (zTs hpb).2
 ·rw[zzU hr]
  simp only[Bool.false_and]
  exact zZw l a vl vb vp w hl (by omega)
end Go.Proofs.YtdkcndgehgmadaaGreatDoor
