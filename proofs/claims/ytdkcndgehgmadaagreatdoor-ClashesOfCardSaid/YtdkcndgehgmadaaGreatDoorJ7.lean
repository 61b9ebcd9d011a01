/- Walks: the document's clash of a path (almonerref13.Path): where none is told. -/
import Derived.Test.YtdkcndgehgmadaaGreatDoorZBH
import Derived.Test.YtdkcndgehgmadaaGreatDoorZBL
set_option maxRecDepth 100000
set_option maxHeartbeats 2000000
open Go Go.RowKit Alm
namespace Go.Proofs.YtdkcndgehgmadaaGreatDoor
noncomputable def PF(l:List (List UInt8))(a:Int)(b:List UInt8)(p:List Sum):Bool:=decide (0<=a/\a<(l.length:Int)) && zFo (lf b) a.toNat l.length p (sd l) && !decide (l[a.toNat]? = some b)
theorem zUo{z:Int}{n:Nat}(h:z<0∨(n:Int)<=z):(z<0/\decide (z<0)=true)∨(¬z<0/\decide (z<0)=false/\(n:Int)<=z/\decide ((n:Int)<=z)=true):=by
 by_cases hz:z<0
 ·exact .inl ⟨hz,zzV hz⟩
 ·exact .inr ⟨hz,zzU hz,h.resolve_left hz,zzV (h.resolve_left hz)⟩
theorem zN8{m n:Nat}(h:m<n)(hn:n<1000000):¬(m:Int)<0/\decide ((m:Int)<0)=false/\¬(n:Int)<=(m:Int)/\decide ((n:Int)<=(m:Int))=false/\decide (n<=m)=false/\(0:Int)<=(m:Int)/\(m:Int)<(n:Int)/\(m:Int)%18446744073709551616=(m:Int)/\IntKind.u64.wrap (m:Int)=(m:Int)/\(n:Int)%18446744073709551616=(n:Int)/\IntKind.u64.wrap (n:Int)=(n:Int)/\¬n<=m:=by
 refine⟨by omega,zzU (by omega),by omega,zzU (by omega),zzU (by omega),by omega,by omega,by omega,by rw[IntKind.wrap_u64];omega,by omega,by rw[IntKind.wrap_u64];omega,by omega⟩
theorem zZw(l:List (List UInt8))(z:Int)(vl vb vp:Value)(w:World)(hl:zDk w vl l)(h:z<0∨(l.length:Int)<=z):Calls Tryz.prog 51 #[vl,.int .i64 z,vb,vp] w (zFr w false):=by
 obtain⟨a1,c1,rfl,-,-,-⟩:=hl
 generalize l.length=n at *
 rcases zUo h with ⟨q1,q2⟩ | ⟨q1,q2,q3,q4⟩
 ·clear h
  have hbw:=al (zze w.heap.size w) (.cells #[.slice none 0 0,.slice none 0 0] 82)
  have hth:=zD0 w #[.slice none 0 0,.slice none 0 0] 82
  obtain⟨W,hW⟩:∃ x,x=w.alloc (.cells #[.slice none 0 0,.slice none 0 0] 82):=⟨_,rfl⟩
  rw[<-hW]at hbw hth
  have H0:=zzb (show Below w.heap.size w W/\W.there w.heap.size 0 2 from ⟨hbw,hth⟩)
  have HW:=zzb hW
  clear hbw hth hW
  go_enter Tryz.func51,Tryz.ntmps51
  refine Alm.wp_cut 1 ?_
  intro T hT
  dsimp only[zHd]
  replace hT:=zzb hT
  go_wp2_with fail
  refine hT.out _ _ ?_
  clear hT
  dsimp only[zEz]
  change Code.wp _ _ _ _ (w.alloc (.cells #[.slice none 0 0,.slice none 0 0] 82))
  rw[<-HW.out]
  clear HW
  go_wp2_with (refine zDs rfl _ _ rfl w.heap.size 0 rfl rfl H0.out.2 ?_)
  exact zzJ (zDh Tryz.results51 _ _ w.heap.size 0 zNj _ rfl (zDd _ _ _ _ (by exact zzd H0.out.2 _ _ _)) Tryz.underlying82 rfl zDy) rfl ⟨_,_,rfl,⟨_,_,_,rfl⟩,⟨_,_,_,rfl⟩,zDa _ (zzc _) _ _ _ _ H0.out.1⟩
 ·clear h
  have hbw:=al (zze w.heap.size w) (.cells #[.slice none 0 0,.slice none 0 0] 82)
  have hth:=zD0 w #[.slice none 0 0,.slice none 0 0] 82
  obtain⟨W,hW⟩:∃ x,x=w.alloc (.cells #[.slice none 0 0,.slice none 0 0] 82):=⟨_,rfl⟩
  rw[<-hW]at hbw hth
  have H0:=zzb (show Below w.heap.size w W/\W.there w.heap.size 0 2 from ⟨hbw,hth⟩)
  have HW:=zzb hW
  clear hbw hth hW
  go_enter Tryz.func51,Tryz.ntmps51
  refine Alm.wp_cut 1 ?_
  intro T hT
  dsimp only[zHd]
  replace hT:=zzb hT
  go_wp2_with fail
  refine hT.out _ _ ?_
  clear hT
  dsimp only[zEz]
  change Code.wp _ _ _ _ (w.alloc (.cells #[.slice none 0 0,.slice none 0 0] 82))
  rw[<-HW.out]
  clear HW
  go_wp2_with (refine zDs rfl _ _ rfl w.heap.size 0 rfl rfl H0.out.2 ?_)
  exact zzJ (zDh Tryz.results51 _ _ w.heap.size 0 zNj _ rfl (zDd _ _ _ _ (by exact zzd H0.out.2 _ _ _)) Tryz.underlying82 rfl zDy) rfl ⟨_,_,rfl,⟨_,_,_,rfl⟩,⟨_,_,_,rfl⟩,zDa _ (zzc _) _ _ _ _ H0.out.1⟩
structure PQ(w:World)(u vb vl vp:Value)(m n:Nat)(sa ck_:Bool)(a r:Sum):Prop where
 s:∀ V,Below w.heap.size w V->Calls Tryz.prog 137 #[u,vb] V fun e w'=>e=.returned (.bool sa)/\Below V.heap.size V w'
 lf_:∀ V,Below w.heap.size w V->Calls Tryz.prog 128 #[vb] V fun e w'=>e=.returned (sv a)/\Below V.heap.size V w'
 rt_:zHf vl w r
 ck:∀ V,Below w.heap.size w V->Calls Tryz.prog 13 #[sv a,.int .u64 (m:Int),.int .u64 (n:Int),vp,sv r] V fun e w'=>e=.returned (.bool ck_)/\Below V.heap.size V w'
theorem zZ7(l:List (List UInt8))(m:Nat)(b:List UInt8)(p:List Sum)(u vl vb vp:Value)(w:World)(hl:zDk w vl l)(hn:l.length<1000000)(hs:SZ l)(hb:zDo w vb b)(hlb:b.length<800000)(hp:zD1 w vp p)(y:List UInt8)(hu:zDo w u y):PQ w u vb vl vp m l.length (decide (y=b)) (zFo (lf b) m l.length p (sd l)) (lf b) (sd l) :=
 ⟨fun V h=>(zHy y b u vb V (zDc hu h (zzc _)) (zDc hb h (zzc _))).mono fun e w' ⟨h1,h2⟩=>⟨h1,by subst h2;exact zze _ _⟩,fun V h=>zTh b vb V (zDc hb h (zzc _)) (Nat.lt_trans hlb (by decide)),zKy hl hn hs,fun V h=>zYs (lf b) (sd l) m l.length vp p V (hp.below h (zzc _)) (by omega)⟩
theorem zK9{w:World}{l:List (List UInt8)}{m:Nat}{vl:Value}(hl:zDk w vl l)(hm:m<l.length):∃ ba oa ca ua uc,vl=.slice (some ⟨ba,oa,none⟩) l.length ca/\l.length<=ca/\ca<=maxLen/\w.cell? ⟨ba,oa+m,none⟩=some (.slice ua (l[m]'hm).length uc)/\zDo w (.slice ua (l[m]'hm).length uc) (l[m]'hm):=by
 obtain⟨ba,oa,ca,rfl,g1,g2⟩:=hl.form (by intro h;rw[h]at hm;simp at hm)
 obtain⟨u,hu1,hu2⟩:=hl.cell (sp:=none) hm
 obtain⟨ua,uc,rfl,-,-,-⟩:=id hu2
 exact⟨ba,oa,ca,ua,uc,rfl,g1,g2,hu1,hu2⟩
theorem zX0(l:List (List UInt8))(m:Nat)(b:List UInt8)(p:List Sum)(vl vb vp:Value)(w:World)(hl:zDk w vl l)(hn:l.length<1000000)(hs:SZ l)(hb:zDo w vb b)(hlb:b.length<800000)(hp:zD1 w vp p)(hm:m<l.length)(hx:l[m]? = some b):Calls Tryz.prog 51 #[vl,.int .i64 (m:Int),vb,vp] w (zFr w false):=by
 obtain⟨ba,oa,ca,ua,uc,rfl,g1,g2,hu1,hu2⟩:=zK9 hl hm
 have hq:=zZ7 l m b p _ _ vb vp w hl hn hs hb hlb hp _ hu2
 rw[zzV (show l[m]=b by rw[zzf hm]at hx;simpa using hx)]at hq
 clear hx
 have HQ:=zzb hq
 obtain⟨q1,q2,q3,q4,q5,q6,q7,q8,q9,q10,q11,q12⟩:=zN8 hm hn
 have HU:=zzb hu1
 obtain⟨ul,hul⟩:∃ x,x=(l[m]).length:=⟨_,rfl⟩
 rw[<-hul]at HQ HU
 clear hq hl hs hb hlb hp hu1 hu2 g1 g2 hul hm hn
 generalize l.length=n at *
 generalize lf b=a at *
 generalize sd l=r at *
 have hbw:=al (zze w.heap.size w) (.cells #[.slice none 0 0,.slice none 0 0] 82)
 have hth:=zD0 w #[.slice none 0 0,.slice none 0 0] 82
 obtain⟨W,hW⟩:∃ x,x=w.alloc (.cells #[.slice none 0 0,.slice none 0 0] 82):=⟨_,rfl⟩
 rw[<-hW]at hbw hth
 have H0:=zzb (show Below w.heap.size w W/\W.there w.heap.size 0 2 from ⟨hbw,hth⟩)
 have HW:=zzb hW
 clear hbw hth hW
 go_enter Tryz.func51,Tryz.ntmps51
 refine Alm.wp_cut 1 ?_
 intro T hT
 dsimp only[zHd]
 replace hT:=zzb hT
 go_wp2_with fail
 refine hT.out _ _ ?_
 clear hT
 dsimp only[zEz]
 change Code.wp _ _ _ _ (w.alloc (.cells #[.slice none 0 0,.slice none 0 0] 82))
 rw[<-HW.out]
 clear HW
 have hcell:=bc HU.out H0.out.1
 go_wp2_with (first
  | (have _:=H0;go_at_call 137;refine (HQ.out.s W H0.out.1).mono ?_;rintro e V1 ⟨rfl,hb1⟩;have H1:=zzb (show Below w.heap.size w V1/\V1.there w.heap.size 0 2 from ⟨H0.out.1.trans (hb1.mono H0.out.1.size),(zK hb1).there H0.out.2 (by decide) id⟩);clear hb1 H0)
  | (refine zDs rfl _ _ rfl w.heap.size 0 rfl rfl H1.out.2 ?_))
 exact zzJ (zDh Tryz.results51 _ _ w.heap.size 0 zNj _ rfl (zDd _ _ _ _ (by exact zzd H1.out.2 _ _ _)) Tryz.underlying82 rfl zDy) rfl ⟨_,_,rfl,⟨_,_,_,rfl⟩,⟨_,_,_,rfl⟩,zDa _ (zzc _) _ _ _ _ H1.out.1⟩
theorem yDt(l:List (List UInt8))(m:Nat)(b:List UInt8)(p:List Sum)(vl vb vp:Value)(w:World)(hl:zDk w vl l)(hn:l.length<1000000)(hs:SZ l)(hb:zDo w vb b)(hlb:b.length<800000)(hp:zD1 w vp p)(hm:m<l.length)(hx:¬l[m]? = some b)(hk:zFo (lf b) m l.length p (sd l)=false):Calls Tryz.prog 51 #[vl,.int .i64 (m:Int),vb,vp] w (zFr w false):=by
 obtain⟨ba,oa,ca,ua,uc,rfl,g1,g2,hu1,hu2⟩:=zK9 hl hm
 have hq:=zZ7 l m b p _ _ vb vp w hl hn hs hb hlb hp _ hu2
 rw[zzU (show ¬l[m]=b from fun e=>hx (by rw[zzf hm,e])),hk]at hq
 clear hx hk
 have HQ:=zzb hq
 obtain⟨q1,q2,q3,q4,q5,q6,q7,q8,q9,q10,q11,q12⟩:=zN8 hm hn
 have HU:=zzb hu1
 obtain⟨ul,hul⟩:∃ x,x=(l[m]).length:=⟨_,rfl⟩
 rw[<-hul]at HQ HU
 clear hq hl hs hb hlb hp hu1 hu2 g1 g2 hul hm hn
 generalize l.length=n at *
 generalize lf b=a at *
 generalize sd l=r at *
 have hbw:=al (zze w.heap.size w) (.cells #[.slice none 0 0,.slice none 0 0] 82)
 have hth:=zD0 w #[.slice none 0 0,.slice none 0 0] 82
 obtain⟨W,hW⟩:∃ x,x=w.alloc (.cells #[.slice none 0 0,.slice none 0 0] 82):=⟨_,rfl⟩
 rw[<-hW]at hbw hth
 have H0:=zzb (show Below w.heap.size w W/\W.there w.heap.size 0 2 from ⟨hbw,hth⟩)
 have HW:=zzb hW
 clear hbw hth hW
 go_enter Tryz.func51,Tryz.ntmps51
 refine Alm.wp_cut 1 ?_
 intro T hT
 dsimp only[zHd]
 replace hT:=zzb hT
 go_wp2_with fail
 refine hT.out _ _ ?_
 clear hT
 dsimp only[zEz]
 change Code.wp _ _ _ _ (w.alloc (.cells #[.slice none 0 0,.slice none 0 0] 82))
 rw[<-HW.out]
 clear HW
 have hcell:=bc HU.out H0.out.1
 go_wp2_with (first
  | (have _:=H0;go_at_call 137;refine (HQ.out.s W H0.out.1).mono ?_;rintro e V1 ⟨rfl,hb1⟩;have H1:=zzb (show Below w.heap.size w V1/\V1.there w.heap.size 0 2 from ⟨H0.out.1.trans (hb1.mono H0.out.1.size),(zK hb1).there H0.out.2 (by decide) id⟩);clear hb1 H0)
  | (have _:=H1;go_at_call 128;refine (HQ.out.lf_ V1 H1.out.1).mono ?_;rintro e V2 ⟨rfl,hb1⟩;have H2:=zzb (show Below w.heap.size w V2/\V2.there w.heap.size 0 2 from ⟨H1.out.1.trans (hb1.mono H1.out.1.size),(zK hb1).there H1.out.2 (by decide) id⟩);clear hb1 H1)
  | (have _:=H2;go_at_call 44;refine (HQ.out.rt_ V2 H2.out.1).mono ?_;rintro e V3 ⟨rfl,hb1⟩;have H3:=zzb (show Below w.heap.size w V3/\V3.there w.heap.size 0 2 from ⟨H2.out.1.trans (hb1.mono H2.out.1.size),(zK hb1).there H2.out.2 (by decide) id⟩);clear hb1 H2)
  | (have _:=H3;go_at_call 13;refine (HQ.out.ck V3 H3.out.1).mono ?_;rintro e V4 ⟨rfl,hb1⟩;have H4:=zzb (show Below w.heap.size w V4/\V4.there w.heap.size 0 2 from ⟨H3.out.1.trans (hb1.mono H3.out.1.size),(zK hb1).there H3.out.2 (by decide) id⟩);clear hb1 H3)
  | (refine zDs rfl _ _ rfl w.heap.size 0 rfl rfl H4.out.2 ?_))
 exact zzJ (zDh Tryz.results51 _ _ w.heap.size 0 zNj _ rfl (zDd _ _ _ _ (by exact zzd H4.out.2 _ _ _)) Tryz.underlying82 rfl zDy) rfl ⟨_,_,rfl,⟨_,_,_,rfl⟩,⟨_,_,_,rfl⟩,zDa _ (zzc _) _ _ _ _ H4.out.1⟩
end Go.Proofs.YtdkcndgehgmadaaGreatDoor
