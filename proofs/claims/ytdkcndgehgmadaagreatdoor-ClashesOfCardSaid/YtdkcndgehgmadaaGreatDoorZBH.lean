/- Joined: J4, J5. -/
import Derived.Test.YtdkcndgehgmadaaGreatDoorZBG
set_option maxRecDepth 100000
set_option maxHeartbeats 8000000
open Go Go.RowKit Alm
namespace Go.Proofs.YtdkcndgehgmadaaGreatDoor
theorem zXr(a b:List (List UInt8))(va vb:Value)(w:World)(ha:zDk w va a)(hb:zDk w vb b)(hsa:SZ a)(hsb:SZ b)(h1:a.length=1)(h2:b.length=1)(hab:¬a=b)(hr:rt (a.map lf)=rt (b.map lf)):Calls Tryz.prog 49 #[va,vb] w (zFr w true):=by
 have hq:=yH2 a b va vb w ha hb (by omega) (by omega) hsa hsb 0
 rw[zzU hab]at hq
 obtain⟨ra,hra⟩:∃ r,r=rt (a.map lf):=⟨_,rfl⟩
 rw[<-hr,<-hra]at hq
 have hes:∀ w:World,(Op.equalIn 10000 24 (.agg (cellsOf ra).toArray) (.agg (cellsOf ra).toArray)).run Tryz.prog w=.ok true w:=fun w=>by rw[zG4];simp
 obtain⟨ba,oa,ca,rfl,g1,g2⟩:=ha.form (by intro h;rw[h]at h1;simp at h1)
 obtain⟨bb,ob,cb,rfl,g3,g4⟩:=hb.form (by intro h;rw[h]at h2;simp at h2)
 obtain⟨u,hu1,hu2⟩:=ha.cell (sp:=none) (j:=0) (by omega)
 obtain⟨x,hx1,hx2⟩:=hb.cell (sp:=none) (j:=0) (by omega)
 rw[Nat.add_zero]at hu1 hx1
 obtain⟨y,hy⟩:∃ y,y=a[0]:=⟨_,rfl⟩
 obtain⟨z,hz⟩:∃ z,z=b[0]:=⟨_,rfl⟩
 have hly:y.length<900000:=by rw[hy];exact zM7 hsa _ (List.getElem_mem _)
 have hlz:z.length<900000:=by rw[hz];exact zM7 hsb _ (List.getElem_mem _)
 rw[<-hy]at hu2
 rw[<-hz]at hx2
 have HQ:=zzb hq
 have HU:=zAI hu1 (zza hu2 (zza hx1 hx2))
 have HYL:=zAI hly hlz
 obtain⟨ua,uc,rfl,-,-,-⟩:=id hu2
 obtain⟨xa,xc,rfl,-,-,-⟩:=id hx2
 rw[h1,h2]at HQ ⊢
 obtain⟨yl,hyl⟩:∃ l,l=y.length:=⟨_,rfl⟩
 obtain⟨zl,hzl⟩:∃ l,l=z.length:=⟨_,rfl⟩
 have HYZ:=zAI hyl hzl
 rw[<-hyl,<-hzl]at HU
 clear hsa hsb hab hr hra hq ha hb hu1 hu2 hx1 hx2 hy hz hly hlz hyl hzl h1 h2 g1 g2 g3 g4
 have hbw:=al (zze w.heap.size w) (.cells #[.slice none 0 0,.slice none 0 0] 82)
 have hth:=zD0 w #[.slice none 0 0,.slice none 0 0] 82
 obtain⟨W,hW⟩:∃ x,x=w.alloc (.cells #[.slice none 0 0,.slice none 0 0] 82):=⟨_,rfl⟩
 rw[<-hW]at hbw hth
 have H0:=zzb (show Below w.heap.size w W/\W.there w.heap.size 0 2 from ⟨hbw,hth⟩)
 have HW:=zzb hW
 clear hbw hth hW
 go_enter Tryz.func49,Tryz.ntmps49
 refine Alm.wp_cut 1 ?_
 intro T hT
 dsimp only[zHd]
 replace hT:=zzb hT
 go_wp2_with fail
 refine hT.out _ _ ?_
 clear hT
 dsimp only[zEz]
 change Code.wp _ _ _ _ (w.alloc (.cells #[.slice none 0 0,.slice none 0 0] 82))
 rw[<-HW.out]
 clear HW
 go_wp2_with (first
  | (go_at_call 134;refine (HQ.out.s W H0.out.1).mono ?_;rintro e V1 ⟨rfl,hb1⟩;have H1:=zzb (show Below w.heap.size w V1/\V1.there w.heap.size 0 2 from ⟨H0.out.1.trans (hb1.mono H0.out.1.size),(zK hb1).there H0.out.2 (by decide) id⟩);clear hb1 H0)
  | (have _:=H1;go_at_call 44;refine (HQ.out.a V1 H1.out.1).mono ?_;rintro e V2 ⟨rfl,hb1⟩;have H2:=zzb (show Below w.heap.size w V2/\V2.there w.heap.size 0 2 from ⟨H1.out.1.trans (hb1.mono H1.out.1.size),(zK hb1).there H1.out.2 (by decide) id⟩);clear hb1 H1)
  | (have _:=H2;go_at_call 44;refine (HQ.out.b V2 H2.out.1).mono ?_;rintro e V3 ⟨rfl,hb1⟩;have H3:=zzb (show Below w.heap.size w V3/\V3.there w.heap.size 0 2 from ⟨H2.out.1.trans (hb1.mono H2.out.1.size),(zK hb1).there H2.out.2 (by decide) id⟩);clear hb1 H2))
 have hbd:=(zze V3.heap.size V3).drew
 have HB:=zzb (show Below w.heap.size w V3.drew/\V3.drew.there w.heap.size 0 2 from ⟨H3.out.1.drew,(zK hbd).there H3.out.2 (by decide) id⟩)
 have HS:=zzb (show V3.drew.cell? ⟨ba,oa,none⟩=some (.slice ua yl uc)/\V3.drew.cell? ⟨bb,ob,none⟩=some (.slice xa zl xc) from ⟨bc HU.out.1 HB.out.1,bc HU.out.2.2.1 HB.out.1⟩)
 clear hbd H3
 refine zDb (fun V=>V.cell? ⟨ba,oa,none⟩=some (.slice ua yl uc)/\V.cell? ⟨bb,ob,none⟩=some (.slice xa zl xc)) [.t 0,.t 1,.t 4,.t 5,.s 2,.s 6,.e 3 true,.e 7 false,.t 8,.e 9 false,.t 10] (by kernel_rfl) (by kernel_rfl) (by rintro _ _(_|_)_ _ h<;>exact h) ?_
 generalize V3.drew=V at *
 iterate 4
  refine zDi rfl (v:=?_) (by rfl) (fun W=>?_) ?_
  rotate_left
  ·go_simp
   try rfl
  try simp only[zU,zA,zB,zC]
 refine zD6 (by exact HS.out) rfl (v:=?_) (by rfl) (fun W hSW=>?_) ?_
 rotate_left
 ·go_simp
  try rfl
 try simp only[zU,zA,zB,zC]
 refine zD6 (by exact HS.out) rfl (v:=?_) (by rfl) (fun W hSW=>?_) ?_
 rotate_left
 ·go_simp
  try rfl
 try simp only[zU,zA,zB,zC]
 refine zDx rfl (by rfl) (fun K hK=>?_)
 go_simp
 refine (zJ5 y _ V (zDc HU.out.2.1 HB.out.1 (zzc _)) HYL.out.1).mono ?_
 rintro e V4 ⟨v4,rfl,hv4,hb1⟩
 have HS4:=zzb (show V4.cell? ⟨ba,oa,none⟩=some (.slice ua yl uc)/\V4.cell? ⟨bb,ob,none⟩=some (.slice xa zl xc) from ⟨bc HS.out.1 hb1,bc HS.out.2 hb1⟩)
 have H4:=zzb (show Below w.heap.size w V4/\V4.there w.heap.size 0 2 from ⟨HB.out.1.trans (hb1.mono HB.out.1.size),(zK hb1).there HB.out.2 (by decide) id⟩)
 obtain⟨a4,c4,rfl,-,-,-⟩:=hv4
 generalize (0::y).length=n4
 clear hb1
 refine hK _ _ ⟨by exact HS4.out,?_⟩;clear hK K
 try simp only[zU,zA,zB,zC]
 refine zD7 rfl (by rfl) (fun K hK=>?_)
 go_simp
 refine (zJ5 z _ V4 (zDc HU.out.2.2.2 H4.out.1 (zzc _)) HYL.out.2).mono ?_
 rintro e V5 ⟨v5,rfl,hv5,hb1⟩
 have H5:=zzb (show Below w.heap.size w V5/\V5.there w.heap.size 0 2 from ⟨H4.out.1.trans (hb1.mono H4.out.1.size),(zK hb1).there H4.out.2 (by decide) id⟩)
 obtain⟨a5,c5,rfl,-,-,-⟩:=hv5
 generalize (0::z).length=n5
 clear hb1
 refine hK _ _ ?_;clear hK K
 try simp only[zU,zA,zB,zC]
 refine zDi rfl (v:=?_) (by rfl) (fun W=>?_) ?_
 rotate_left
 ·go_simp
  try rfl
 try simp only[zU,zA,zB,zC]
 refine zD7 rfl (by rfl) (fun K hK=>?_)
 refine zHi _ _ (by rfl) w.heap.size a4 a5 n4 c4 n5 c5 (by rfl) (by rfl) H5.out.2 ?_
 refine hK _ _ ?_;clear hK K
 try simp only[zU,zA,zB,zC]
 refine zDi rfl (v:=?_) (by rfl) (fun W=>?_) ?_
 rotate_left
 ·go_simp
  try rfl
 try simp only[zU,zA,zB,zC]
 refine zDn ?_
 go_wp2_with fail
 exact zzJ (zDh Tryz.results49 _ _ w.heap.size 0 [.slice a4 n4 c4,.slice a5 n5 c5] _ rfl (zDd _ _ _ _ (by exact zzd H5.out.2 _ _ _)) Tryz.underlying82 rfl zDy) rfl ⟨_,_,rfl,⟨_,_,_,rfl⟩,⟨_,_,_,rfl⟩,zDa _ (zzc _) _ _ _ _ H5.out.1⟩
def zHf(v:Value)(w:World)(r:Sum):Prop:=∀ V,Below w.heap.size w V->Calls Tryz.prog 44 #[v] V fun e w'=>e=.returned (sv r)/\Below V.heap.size V w'
theorem zKy{l:List (List UInt8)}{v:Value}{w:World}(hv:zDk w v l)(hn:l.length<1000000)(hs:SZ l):zHf v w (rt (l.map lf)):=fun V h=>zL5 l v V (hv.below h) hn (zM7 hs)
theorem zOk{l:List (List UInt8)}(h:SZ l)(k:Nat):SZ (l.take k):=fun x hx=>h x (List.mem_of_mem_take hx)
theorem zRn{l:List (List UInt8)}(h:SZ l)(k:Nat):SZ (l.drop k):=fun x hx=>h x (List.mem_of_mem_drop hx)
structure yIh(w:World)(b o n c k:Nat)(l:List (List UInt8)):Prop where
 t:zDk w (.slice (some ⟨b,o,none⟩) k c) (l.take k)
 d:zDk w (.slice (some ⟨b,o+k,none⟩) (n - k) (c - k)) (l.drop k)
 rt_:zHf (.slice (some ⟨b,o,none⟩) k c) w (rt ((l.take k).map lf))
 rd:zHf (.slice (some ⟨b,o+k,none⟩) (n - k) (c - k)) w (rt ((l.drop k).map lf))
 st_:SZ (l.take k)
 sd_:SZ (l.drop k)
theorem zJk{w:World}{b o c k:Nat}{l:List (List UInt8)}(h:zDk w (.slice (some ⟨b,o,none⟩) l.length c) l)(hc:l.length<=c)(hm:c<=maxLen)(hk:k<l.length)(hn:l.length<1000000)(hs:SZ l):yIh w b o l.length c k l:=by
 have h1:=h.take k (by omega)
 have h2:=h.drop k (c - k) (by omega) (by omega) (by omega)
 exact⟨h1,h2,zKy h1 (by rw[zzq];omega) (zOk hs k),zKy h2 (by rw[zz0];omega) (zRn hs k),zOk hs k,zRn hs k⟩
theorem zXq{a b:List (List UInt8)}{n k:Nat}(ha:n=a.length)(hb:n=b.length)(hk:k<n)(h0:0<k)(hn:n<1000000):(a.take k).length<n/\(a.drop k).length<n/\(a.take k).length=(b.take k).length/\(a.drop k).length=(b.drop k).length/\(a.take k).length<1000000:=by
 rw[zzq,zzq,zz0,zz0,<-ha,<-hb];omega
theorem zJv{k n:Nat}(h:k<n)(hn:n<1000000):wrap64 (k:Int)=(k:Int):=by unfold wrap64;omega
theorem zX2(a b:List (List UInt8))(va vb:Value)(w:World)(ha:zDk w va a)(hb:zDk w vb b)(hn:a.length<1000000)(hsa:SZ a)(hsb:SZ b)(h2:2<=a.length)(hl:a.length=b.length)(hab:¬a=b)(hr:rt (a.map lf)=rt (b.map lf))
  (ih:∀ (a' b':List (List UInt8)) (va' vb':Value) (V:World),a'.length<a.length->zDk V va' a'->zDk V vb' b'->a'.length=b'.length->¬a'=b'->rt (a'.map lf)=rt (b'.map lf)->SZ a'->SZ b'->Calls Tryz.prog 49 #[va',vb'] V (zFr V true)):Calls Tryz.prog 49 #[va,vb] w (zFr w true):=by
 have hq:=yH2 a b va vb w ha hb hn (by omega) hsa hsb 0
 rw[zzU hab]at hq
 obtain⟨ra,hra⟩:∃ r,r=rt (a.map lf):=⟨_,rfl⟩
 rw[<-hr,<-hra]at hq
 have hes:∀ w:World,(Op.equalIn 10000 24 (.agg (cellsOf ra).toArray) (.agg (cellsOf ra).toArray)).run Tryz.prog w=.ok true w:=fun w=>by rw[zG4];simp
 obtain⟨ba,oa,ca,rfl,g1,g2⟩:=ha.form (by intro h;rw[h]at h2;simp at h2)
 obtain⟨bb,ob,cb,rfl,g3,g4⟩:=hb.form (by intro h;rw[h]at hl;rw[hl]at h2;simp at h2)
 have hha:=fun k hk=>zJk (k:=k) ha g1 g2 hk hn hsa
 have hhb:=fun k hk=>zJk (k:=k) hb g3 g4 hk (by omega) hsb
 rw[<-hl]at hq hhb g3 ⊢
 obtain⟨n,hnn⟩:∃ n,n=a.length:=⟨_,rfl⟩
 have hnb:n=b.length:=by rw[hnn,hl]
 rw[<-hnn]at hq hha hhb hn h2 ih g1 g3 ⊢
 obtain⟨k,hkk⟩:∃ k,k=cut n:=⟨_,rfl⟩
 have hk:k<n:=by rw[hkk];exact zE9 h2
 have hk0:0<k:=by rw[hkk];exact zE3 n
 obtain⟨n1,n2,n3,n4,n5,n6,n7,n8,n9,n10,n11,n12,n13⟩:=zIs h2 hk hk0 g1 g2
 obtain⟨-,-,-,-,-,-,-,-,m9,-,m11,-,-⟩:=zIs h2 hk hk0 g3 g4
 have hcut:=fun W=>zGr n W h2 n7
 rw[<-hkk]at hcut
 obtain⟨r1,hr1⟩:∃ r,r=rt ((a.take k).map lf):=⟨_,rfl⟩
 obtain⟨r2,hr2⟩:∃ r,r=rt ((a.drop k).map lf):=⟨_,rfl⟩
 obtain⟨s1,hs1⟩:∃ r,r=rt ((b.take k).map lf):=⟨_,rfl⟩
 obtain⟨s2,hs2⟩:∃ r,r=rt ((b.drop k).map lf):=⟨_,rfl⟩
 obtain⟨dd,hdd⟩:∃ d,d=decide ((1::(r1.toList++r2.toList):List UInt8)=1::(s1.toList++s2.toList)):=⟨_,rfl⟩
 obtain⟨dt,hdt⟩:∃ d,d=decide (a.take k=b.take k):=⟨_,rfl⟩
 have kw:wrap64 (k:Int)=(k:Int):=zJv hk hn
 have HDD:=zzb hdd
 have HA:=zzb (hha k hk)
 have HB:=zzb (hhb k hk)
 have HRT:=zAI (show zHf (.slice (some ⟨ba,oa,none⟩) k ca) w r1 from by rw[hr1];exact (hha k hk).rt_) (zza (show zHf (.slice (some ⟨ba,oa+k,none⟩) (n - k) (ca - k)) w r2 from by rw[hr2];exact (hha k hk).rd) (zza (show zHf (.slice (some ⟨bb,ob,none⟩) k cb) w s1 from by rw[hs1];exact (hhb k hk).rt_) (show zHf (.slice (some ⟨bb,ob+k,none⟩) (n - k) (cb - k)) w s2 from by rw[hs2];exact (hhb k hk).rd)))
 have HLT:=zzb (zXq hnn hnb hk hk0 hn)
 have HEQ:=zzb (show dd=true->rt ((a.take k).map lf)=rt ((b.take k).map lf)/\rt ((a.drop k).map lf)=rt ((b.drop k).map lf) from fun h=>by
  rw[<-hr1,<-hr2,<-hs1,<-hs2]
  exact zMs.1 (zzW (hdd.symm.trans h)))
 have HNE:=zzb (show (dt=false->¬a.take k=b.take k)/\(dt=true->¬a.drop k=b.drop k) from ⟨fun h=>of_decide_eq_false (hdt.symm.trans h),fun h e=>hab (by
  have e1:a.take k=b.take k:=zzW (hdt.symm.trans h)
  rw[<-zz1 k a,<-zz1 k b,e1,e])⟩)
 have HSA:=zzb (show ∀ V,Below w.heap.size w V->Calls Tryz.prog 134 #[.slice (some ⟨ba,oa,none⟩) k ca,.slice (some ⟨bb,ob,none⟩) k cb] V fun e w'=>e=.returned (.bool dt)/\Below V.heap.size V w' from fun V h=>by
  rw[hdt];exact zIx _ _ _ _ V (HA.out.t.below h) (HB.out.t.below h) HLT.out.2.2.2.2)
 have HQ:=zzb hq
 have HC:=zzb hcut
 have IH:=zzb ih
 clear hsa hsb hab hr hra hq ha hb ih hha hhb hr1 hr2 hs1 hs2 hdd hdt hcut hkk hnn hnb hl hn h2 hk hk0 g1 g2 g3 g4
 have hbw:=al (zze w.heap.size w) (.cells #[.slice none 0 0,.slice none 0 0] 82)
 have hth:=zD0 w #[.slice none 0 0,.slice none 0 0] 82
 obtain⟨W,hW⟩:∃ x,x=w.alloc (.cells #[.slice none 0 0,.slice none 0 0] 82):=⟨_,rfl⟩
 rw[<-hW]at hbw hth
 have H0:=zzb (show Below w.heap.size w W/\W.there w.heap.size 0 2 from ⟨hbw,hth⟩)
 have HW:=zzb hW
 clear hbw hth hW
 go_enter Tryz.func49,Tryz.ntmps49
 refine Alm.wp_cut 1 ?_
 intro T hT
 dsimp only[zHd]
 replace hT:=zzb hT
 go_wp2_with fail
 refine hT.out _ _ ?_
 clear hT
 dsimp only[zEz]
 change Code.wp _ _ _ _ (w.alloc (.cells #[.slice none 0 0,.slice none 0 0] 82))
 rw[<-HW.out]
 clear HW
 go_wp2_with (first
  | (go_at_call 134;refine (HQ.out.s W H0.out.1).mono ?_;rintro e V1 ⟨rfl,hb1⟩;have H1:=zzb (show Below w.heap.size w V1/\V1.there w.heap.size 0 2 from ⟨H0.out.1.trans (hb1.mono H0.out.1.size),(zK hb1).there H0.out.2 (by decide) id⟩);clear hb1 H0)
  | (have _:=H1;go_at_call 44;refine (HQ.out.a V1 H1.out.1).mono ?_;rintro e V2 ⟨rfl,hb1⟩;have H2:=zzb (show Below w.heap.size w V2/\V2.there w.heap.size 0 2 from ⟨H1.out.1.trans (hb1.mono H1.out.1.size),(zK hb1).there H1.out.2 (by decide) id⟩);clear hb1 H1)
  | (have _:=H2;go_at_call 44;refine (HQ.out.b V2 H2.out.1).mono ?_;rintro e V3 ⟨rfl,hb1⟩;have H3:=zzb (show Below w.heap.size w V3/\V3.there w.heap.size 0 2 from ⟨H2.out.1.trans (hb1.mono H2.out.1.size),(zK hb1).there H2.out.2 (by decide) id⟩);clear hb1 H2)
  | (have _:=H3;go_at_call 103;refine (HC.out V3).mono ?_;rintro e V4 ⟨rfl,rfl⟩))
 have hbd:=(zze V3.heap.size V3).drew
 have Hx0:=zzb (show Below w.heap.size w V3.drew/\V3.drew.there w.heap.size 0 2 from ⟨H3.out.1.drew,(zK hbd).there H3.out.2 (by decide) id⟩)
 clear H3
 refine zDb (fun _=>True) [.t 0,.t 1,.t 2,.t 4,.t 5,.t 6,.e 3 false,.e 7 false,.e 8 false,.t 9] (by kernel_rfl) (by kernel_rfl) (by rintro _ _(_|_)_ _ h<;>exact h) ?_
 generalize V3.drew=Ux0 at *
 clear hbd
 iterate 6
  refine zDi rfl (v:=?_) (by rfl) (fun W=>?_) ?_
  rotate_left
  ·go_simp
   try rfl
  try simp only[zU,zA,zB,zC]
 refine zD7 rfl (by rfl) (fun K hK=>?_)
 go_simp
 refine (HRT.out.1 Ux0 Hx0.out.1).mono ?_
 rintro e Ux1 ⟨rfl,hb1⟩
 have Hx1:=zzb (show Below w.heap.size w Ux1/\Ux1.there w.heap.size 0 2 from ⟨Hx0.out.1.trans (hb1.mono Hx0.out.1.size),(zK hb1).there Hx0.out.2 (by decide) id⟩)
 clear hb1 Hx0
 refine hK _ _ ?_;clear hK K
 try simp only[zU,zA,zB,zC]
 refine zD7 rfl (by rfl) (fun K hK=>?_)
 go_simp
 refine (HRT.out.2.1 Ux1 Hx1.out.1).mono ?_
 rintro e Ux2 ⟨rfl,hb1⟩
 have Hx2:=zzb (show Below w.heap.size w Ux2/\Ux2.there w.heap.size 0 2 from ⟨Hx1.out.1.trans (hb1.mono Hx1.out.1.size),(zK hb1).there Hx1.out.2 (by decide) id⟩)
 clear hb1 Hx1
 refine hK _ _ ?_;clear hK K
 try simp only[zU,zA,zB,zC]
 refine zD7 rfl (by rfl) (fun K hK=>?_)
 go_simp
 refine (zFq r1 r2 Ux2).mono ?_
 rintro e Ux3 ⟨v,rfl,hv,hb1⟩
 have Hx3:=zzb (show Below w.heap.size w Ux3/\Ux3.there w.heap.size 0 2 from ⟨Hx2.out.1.trans (hb1.mono Hx2.out.1.size),(zK hb1).there Hx2.out.2 (by decide) id⟩)
 clear hb1 Hx2
 obtain⟨ax,cx,rfl,-,-,-⟩:=id hv
 obtain⟨lx,hlx⟩:∃ l,l=(1::(r1.toList++r2.toList):List UInt8).length:=⟨_,rfl⟩
 rw[<-hlx]at hv ⊢
 have HXx:=zzb hv
 clear hv hlx
 refine hK _ _ ?_;clear hK K
 try simp only[zU,zA,zB,zC]
 refine zDi rfl (v:=?_) (by rfl) (fun W=>?_) ?_
 rotate_left
 ·go_simp
  try rfl
 try simp only[zU,zA,zB,zC]
 refine zDn ?_
 go_wp2_with fail
 have hbd:=(zze Ux3.heap.size Ux3).drew
 have Hy0:=zzb (show Below w.heap.size w Ux3.drew/\Ux3.drew.there w.heap.size 0 2 from ⟨Hx3.out.1.drew,(zK hbd).there Hx3.out.2 (by decide) id⟩)
 clear Hx3
 refine zDb (fun _=>True) [.t 0,.t 1,.t 2,.t 4,.t 5,.t 6,.e 3 false,.e 7 false,.e 8 false,.t 9] (by kernel_rfl) (by kernel_rfl) (by rintro _ _(_|_)_ _ h<;>exact h) ?_
 generalize Ux3.drew=Uy0 at *
 have HR0y:=zzb (zDc HXx.out hbd (zzc _))
 clear hbd HXx
 iterate 6
  refine zDi rfl (v:=?_) (by rfl) (fun W=>?_) ?_
  rotate_left
  ·go_simp
   try rfl
  try simp only[zU,zA,zB,zC]
 refine zD7 rfl (by rfl) (fun K hK=>?_)
 go_simp
 refine (HRT.out.2.2.1 Uy0 Hy0.out.1).mono ?_
 rintro e Uy1 ⟨rfl,hb1⟩
 have Hy1:=zzb (show Below w.heap.size w Uy1/\Uy1.there w.heap.size 0 2 from ⟨Hy0.out.1.trans (hb1.mono Hy0.out.1.size),(zK hb1).there Hy0.out.2 (by decide) id⟩)
 have HR1y:=zzb (zDc HR0y.out hb1 (zzc _))
 clear hb1 HR0y Hy0
 refine hK _ _ ?_;clear hK K
 try simp only[zU,zA,zB,zC]
 refine zD7 rfl (by rfl) (fun K hK=>?_)
 go_simp
 refine (HRT.out.2.2.2 Uy1 Hy1.out.1).mono ?_
 rintro e Uy2 ⟨rfl,hb1⟩
 have Hy2:=zzb (show Below w.heap.size w Uy2/\Uy2.there w.heap.size 0 2 from ⟨Hy1.out.1.trans (hb1.mono Hy1.out.1.size),(zK hb1).there Hy1.out.2 (by decide) id⟩)
 have HR2y:=zzb (zDc HR1y.out hb1 (zzc _))
 clear hb1 HR1y Hy1
 refine hK _ _ ?_;clear hK K
 try simp only[zU,zA,zB,zC]
 refine zD7 rfl (by rfl) (fun K hK=>?_)
 go_simp
 refine (zFq s1 s2 Uy2).mono ?_
 rintro e Uy3 ⟨v,rfl,hv,hb1⟩
 have Hy3:=zzb (show Below w.heap.size w Uy3/\Uy3.there w.heap.size 0 2 from ⟨Hy2.out.1.trans (hb1.mono Hy2.out.1.size),(zK hb1).there Hy2.out.2 (by decide) id⟩)
 have HR3y:=zzb (zDc HR2y.out hb1 (zzc _))
 clear hb1 HR2y Hy2
 obtain⟨ay,cy,rfl,-,-,-⟩:=id hv
 obtain⟨ly,hly⟩:∃ l,l=(1::(s1.toList++s2.toList):List UInt8).length:=⟨_,rfl⟩
 rw[<-hly]at hv ⊢
 have HXy:=zzb hv
 clear hv hly
 refine hK _ _ ?_;clear hK K
 try simp only[zU,zA,zB,zC]
 refine zDi rfl (v:=?_) (by rfl) (fun W=>?_) ?_
 rotate_left
 ·go_simp
  try rfl
 try simp only[zU,zA,zB,zC]
 refine zDn ?_
 have HSM:=zzb (zHy _ _ _ _ Uy3 HR3y.out HXy.out)
 rw[<-HDD.out]at HSM
 clear HR3y HXy HDD
 go_wp2_with (first
  | (go_at_call 137;refine Hid.out ?_))
 refine zzb ?_
 refine HSM.out.mono ?_
 rintro e Uy4 ⟨rfl,rfl⟩
 cases dd with
 | false =>
  go_wp2_with (refine zEf rfl _ _ rfl w.heap.size 0 ax ay lx cx ly cy rfl rfl Hy3.out.2 ?_)
  exact zzJ (zDh Tryz.results49 _ _ w.heap.size 0 [.slice ax lx cx,.slice ay ly cy] _ rfl (zDd _ _ _ _ (by exact zzd Hy3.out.2 _ _ _)) Tryz.underlying82 rfl zDy) rfl ⟨_,_,rfl,⟨_,_,_,rfl⟩,⟨_,_,_,rfl⟩,zDa _ (zzc _) _ _ _ _ Hy3.out.1⟩
 | true =>
  have HE:=zzb (HEQ.out rfl)
  clear HEQ HSM
  go_wp2_with fail
  have hbd:=(zze Uy3.heap.size Uy3).drew
  have Hz0:=zzb (show Below w.heap.size w Uy3.drew/\Uy3.drew.there w.heap.size 0 2 from ⟨Hy3.out.1.drew,(zK hbd).there Hy3.out.2 (by decide) id⟩)
  clear Hy3
  refine zDb (fun _=>True) [.t 0,.t 1,.t 2,.t 3,.t 4,.t 5,.e 6 false,.t 7] (by kernel_rfl) (by kernel_rfl) (by rintro _ _(_|_)_ _ h<;>exact h) ?_
  generalize Uy3.drew=Z0 at *
  clear hbd
  iterate 6
   refine zDi rfl (v:=?_) (by rfl) (fun W=>?_) ?_
   rotate_left
   ·go_simp
    try rfl
   try simp only[zU,zA,zB,zC]
  refine zD7 rfl (by rfl) (fun K hK=>?_)
  go_simp
  refine (HSA.out Z0 Hz0.out.1).mono ?_
  rintro e Z1 ⟨rfl,hb1⟩
  have Hz1:=zzb (show Below w.heap.size w Z1/\Z1.there w.heap.size 0 2 from ⟨Hz0.out.1.trans (hb1.mono Hz0.out.1.size),(zK hb1).there Hz0.out.2 (by decide) id⟩)
  clear hb1 Hz0
  refine hK _ _ ?_;clear hK K
  try simp only[zU,zA,zB,zC]
  refine zDi rfl (v:=?_) (by rfl) (fun W=>?_) ?_
  rotate_left
  ·go_simp
   try rfl
  try simp only[zU,zA,zB,zC]
  refine zDn ?_
  cases dt with
  | false =>
   have HN:=zzb (HNE.out.1 rfl)
   clear HNE
   go_wp2_with fail
   have hbd:=(zze Z1.heap.size Z1).drew
   have Hr0:=zzb (show Below w.heap.size w Z1.drew/\Z1.drew.there w.heap.size 0 2 from ⟨Hz1.out.1.drew,(zK hbd).there Hz1.out.2 (by decide) id⟩)
   clear Hz1
   refine zDb (fun _=>True) [.t 0,.t 1,.t 2,.t 3,.t 4,.t 5,.e 6 false,.t 7,.t 8,.e 9 false,.t 10] (by kernel_rfl) (by kernel_rfl) (by rintro _ _(_|_)_ _ h<;>exact h) ?_
   generalize Z1.drew=X0 at *
   clear hbd
   iterate 6
    refine zDi rfl (v:=?_) (by rfl) (fun W=>?_) ?_
    rotate_left
    ·go_simp
     try rfl
    try simp only[zU,zA,zB,zC]
   refine zD7 rfl (by rfl) (fun K hK=>?_)
   go_simp
   refine (IH.out (a.take k) (b.take k) _ _ X0 HLT.out.1 (HA.out.t.below Hr0.out.1) (HB.out.t.below Hr0.out.1) HLT.out.2.2.1 HN.out HE.out.1 HA.out.st_ HB.out.st_).mono ?_
   rintro e X1 ⟨rx,ry,rfl,⟨xa1,xn1,xc1,rfl⟩,⟨ya1,yn1,yc1,rfl⟩,hb1⟩
   have Hr1:=zzb (show Below w.heap.size w X1/\X1.there w.heap.size 0 2 from ⟨Hr0.out.1.trans (hb1.mono Hr0.out.1.size),(zK hb1).there Hr0.out.2 (by decide) id⟩)
   clear hb1 Hr0
   refine hK _ _ ?_;clear hK K
   try simp only[zU,zA,zB,zC]
   iterate 2
    refine zDi rfl (v:=?_) (by rfl) (fun W=>?_) ?_
    rotate_left
    ·go_simp
     try rfl
    try simp only[zU,zA,zB,zC]
   refine zD7 rfl (by rfl) (fun K hK=>?_)
   refine zHi _ _ (by rfl) w.heap.size xa1 ya1 xn1 xc1 yn1 yc1 (by rfl) (by rfl) Hr1.out.2 ?_
   refine hK _ _ ?_;clear hK K
   try simp only[zU,zA,zB,zC]
   refine zDi rfl (v:=?_) (by rfl) (fun W=>?_) ?_
   rotate_left
   ·go_simp
    try rfl
   try simp only[zU,zA,zB,zC]
   refine zDn ?_
   go_wp2_with fail
   exact zzJ (zDh Tryz.results49 _ _ w.heap.size 0 [.slice xa1 xn1 xc1,.slice ya1 yn1 yc1] _ rfl (zDd _ _ _ _ (by exact zzd Hr1.out.2 _ _ _)) Tryz.underlying82 rfl zDy) rfl ⟨_,_,rfl,⟨_,_,_,rfl⟩,⟨_,_,_,rfl⟩,zDa _ (zzc _) _ _ _ _ Hr1.out.1⟩
  | true =>
   have HN:=zzb (HNE.out.2 rfl)
   clear HNE
   go_wp2_with fail
   have hbd:=(zze Z1.heap.size Z1).drew
   have Hr0:=zzb (show Below w.heap.size w Z1.drew/\Z1.drew.there w.heap.size 0 2 from ⟨Hz1.out.1.drew,(zK hbd).there Hz1.out.2 (by decide) id⟩)
   clear Hz1
   refine zDb (fun _=>True) [.t 0,.t 1,.t 2,.t 3,.t 4,.t 5,.e 6 false,.t 7,.t 8,.e 9 false,.t 10] (by kernel_rfl) (by kernel_rfl) (by rintro _ _(_|_)_ _ h<;>exact h) ?_
   generalize Z1.drew=X0 at *
   clear hbd
   iterate 6
    refine zDi rfl (v:=?_) (by rfl) (fun W=>?_) ?_
    rotate_left
    ·go_simp
     try rfl
    try simp only[zU,zA,zB,zC]
   refine zD7 rfl (by rfl) (fun K hK=>?_)
   go_simp
   refine (IH.out (a.drop k) (b.drop k) _ _ X0 HLT.out.2.1 (HA.out.d.below Hr0.out.1) (HB.out.d.below Hr0.out.1) HLT.out.2.2.2.1 HN.out HE.out.2 HA.out.sd_ HB.out.sd_).mono ?_
   rintro e X1 ⟨rx,ry,rfl,⟨xa1,xn1,xc1,rfl⟩,⟨ya1,yn1,yc1,rfl⟩,hb1⟩
   have Hr1:=zzb (show Below w.heap.size w X1/\X1.there w.heap.size 0 2 from ⟨Hr0.out.1.trans (hb1.mono Hr0.out.1.size),(zK hb1).there Hr0.out.2 (by decide) id⟩)
   clear hb1 Hr0
   refine hK _ _ ?_;clear hK K
   try simp only[zU,zA,zB,zC]
   iterate 2
    refine zDi rfl (v:=?_) (by rfl) (fun W=>?_) ?_
    rotate_left
    ·go_simp
     try rfl
    try simp only[zU,zA,zB,zC]
   refine zD7 rfl (by rfl) (fun K hK=>?_)
   refine zHi _ _ (by rfl) w.heap.size xa1 ya1 xn1 xc1 yn1 yc1 (by rfl) (by rfl) Hr1.out.2 ?_
   refine hK _ _ ?_;clear hK K
   try simp only[zU,zA,zB,zC]
   refine zDi rfl (v:=?_) (by rfl) (fun W=>?_) ?_
   rotate_left
   ·go_simp
    try rfl
   try simp only[zU,zA,zB,zC]
   refine zDn ?_
   go_wp2_with fail
   exact zzJ (zDh Tryz.results49 _ _ w.heap.size 0 [.slice xa1 xn1 xc1,.slice ya1 yn1 yc1] _ rfl (zDd _ _ _ _ (by exact zzd Hr1.out.2 _ _ _)) Tryz.underlying82 rfl zDy) rfl ⟨_,_,rfl,⟨_,_,_,rfl⟩,⟨_,_,_,rfl⟩,zDa _ (zzc _) _ _ _ _ Hr1.out.1⟩
theorem zSp:∀ (d:Nat) (a b:List (List UInt8)) (va vb:Value) (w:World),a.length<=d->zDk w va a->zDk w vb b->a.length=b.length->¬a=b->rt (a.map lf)=rt (b.map lf)->a.length<1000000->SZ a->SZ b->Calls Tryz.prog 49 #[va,vb] w (zFr w true):=by
 intro d
 induction d with
 | zero =>
  intro a b va vb w h _ _ h2 h3 _ _ _ _
  exact absurd (by rw[zzt.1 (Nat.le_zero.1 h),zzt.1 (h2.symm.trans (Nat.le_zero.1 h))]) h3
 | succ d ih =>
  intro a b va vb w hd ha hb hl hab hr hn hsa hsb
  by_cases h1:a.length=1
  ·exact zXr a b va vb w ha hb hsa hsb h1 (by omega) hab hr
  ·by_cases h0:a.length=0
   ·exact absurd (by rw[zzt.1 h0,zzt.1 (hl.symm.trans h0)]) hab
   ·exact zX2 a b va vb w ha hb hn hsa hsb (by omega) hl hab hr (fun a' b' va' vb' V h1 h2 h3 h4 h5 h6 h7 h8=>ih a' b' va' vb' V (by omega) h2 h3 h4 h5 h6 (by omega) h7 h8)
theorem zYo(a b:List (List UInt8))(va vb:Value)(w:World)(ha:zDk w va a)(hb:zDk w vb b)(hla:a.length<1000000)(hlb:b.length<1000000)(hsa:SZ a)(hsb:SZ b):Calls Tryz.prog 49 #[va,vb] w (zFr w (LF a b)):=by
 by_cases hl:a.length=b.length
 ·by_cases hab:a=b
  ·rw[yHm hab];exact zVm a b va vb w ha hb hla hab
  ·by_cases hr:rt (a.map lf)=rt (b.map lf)
   ·rw[yI3 hl hab hr];exact zSp a.length a b va vb w (zzc _) ha hb hl hab hr hla hsa hsb
   ·rw[yHg hr];exact zV0 a b va vb w ha hb hla hlb hsa hsb hl hab hr
 ·rw[yIe hl];exact zXw a b va vb w ha hb hl
end Go.Proofs.YtdkcndgehgmadaaGreatDoor
