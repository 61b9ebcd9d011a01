/- Joined: J11, CZT1, JT1. -/
import Derived.Test.YtdkcndgehgmadaaGreatDoorJ10
set_option maxRecDepth 100000
set_option maxHeartbeats 4000000
open Go Go.RowKit Alm
namespace Go.Proofs.YtdkcndgehgmadaaGreatDoor
theorem yFw{n m:Nat}(h:n<1∨m<n):((n:Int)<1/\decide ((n:Int)<1)=true)∨(¬(n:Int)<1/\decide ((n:Int)<1)=false/\(m:Int)<(n:Int)/\decide ((m:Int)<(n:Int))=true/\m<n/\decide (m<n)=true):=by
 by_cases h0:n<1
 ·exact .inl ⟨by omega,zzV (by omega)⟩
 ·exact .inr ⟨by omega,zzU (by omega),by omega,zzV (by omega),by omega,zzV (by omega)⟩
theorem zZe(a b:List (List UInt8))(va vb vp:Value)(w:World)(ha:zDk w va a)(hb:zDk w vb b)(h:a.length<1∨b.length<a.length):Calls Tryz.prog 53 #[va,vb,vp] w (zFr w false):=by
 obtain⟨aa,ca,rfl,-,-,-⟩:=ha
 obtain⟨ab,cb,rfl,-,-,-⟩:=hb
 generalize a.length=n at *
 generalize b.length=m at *
 rcases yFw h with ⟨q1,q2⟩ | ⟨q1,q2,q3,q4,q5,q6⟩
 ·clear h
  have hbw:=al (zze w.heap.size w) (.cells #[.slice none 0 0,.slice none 0 0] 82)
  have hth:=zD0 w #[.slice none 0 0,.slice none 0 0] 82
  obtain⟨W,hW⟩:∃ x,x=w.alloc (.cells #[.slice none 0 0,.slice none 0 0] 82):=⟨_,rfl⟩
  rw[<-hW]at hbw hth
  have H0:=zzb (show Below w.heap.size w W/\W.there w.heap.size 0 2 from ⟨hbw,hth⟩)
  have HW:=zzb hW
  clear hbw hth hW
  go_enter Tryz.func53,Tryz.ntmps53
  refine Alm.wp_cut 1 ?_
  intro T hT
  dsimp only[zHd]
  replace hT:=zzb hT
  go_wp2_with fail
  refine hT.out _ _ ?_
  clear hT
  dsimp only[zEz]
  change Code.wp _ _ _ _ (w.alloc (.cells #[.slice none 0 0,.slice none 0 0] 82))
  rw[<-HW.out]
  clear HW
  go_wp2_with (have _:=H0;refine zDs rfl _ _ rfl w.heap.size 0 rfl rfl H0.out.2 ?_)
  exact zzJ (zDh Tryz.results53 _ _ w.heap.size 0 zNj _ rfl (zDd _ _ _ _ (by exact zzd H0.out.2 _ _ _)) Tryz.underlying82 rfl zDy) rfl ⟨_,_,rfl,⟨_,_,_,rfl⟩,⟨_,_,_,rfl⟩,zDa _ (zzc _) _ _ _ _ H0.out.1⟩
 ·clear h
  have hbw:=al (zze w.heap.size w) (.cells #[.slice none 0 0,.slice none 0 0] 82)
  have hth:=zD0 w #[.slice none 0 0,.slice none 0 0] 82
  obtain⟨W,hW⟩:∃ x,x=w.alloc (.cells #[.slice none 0 0,.slice none 0 0] 82):=⟨_,rfl⟩
  rw[<-hW]at hbw hth
  have H0:=zzb (show Below w.heap.size w W/\W.there w.heap.size 0 2 from ⟨hbw,hth⟩)
  have HW:=zzb hW
  clear hbw hth hW
  go_enter Tryz.func53,Tryz.ntmps53
  refine Alm.wp_cut 1 ?_
  intro T hT
  dsimp only[zHd]
  replace hT:=zzb hT
  go_wp2_with fail
  refine hT.out _ _ ?_
  clear hT
  dsimp only[zEz]
  change Code.wp _ _ _ _ (w.alloc (.cells #[.slice none 0 0,.slice none 0 0] 82))
  rw[<-HW.out]
  clear HW
  go_wp2_with (have _:=H0;refine zDs rfl _ _ rfl w.heap.size 0 rfl rfl H0.out.2 ?_)
  exact zzJ (zDh Tryz.results53 _ _ w.heap.size 0 zNj _ rfl (zDd _ _ _ _ (by exact zzd H0.out.2 _ _ _)) Tryz.underlying82 rfl zDy) rfl ⟨_,_,rfl,⟨_,_,_,rfl⟩,⟨_,_,_,rfl⟩,zDa _ (zzc _) _ _ _ _ H0.out.1⟩
structure KQ(w:World)(va vt vb vp:Value)(n m:Nat)(sa ck_:Bool)(x y:Sum):Prop where
 s:∀ V,Below w.heap.size w V->Calls Tryz.prog 134 #[va,vt] V fun e w'=>e=.returned (.bool sa)/\Below V.heap.size V w'
 ra:zHf va w x
 rb:zHf vb w y
 ck:∀ V,Below w.heap.size w V->Calls Tryz.prog 27 #[.int .u64 (n:Int),.int .u64 (m:Int),sv x,sv y,vp] V fun e w'=>e=.returned (.bool ck_)/\Below V.heap.size V w'
theorem zUr{n m cl:Nat}(h1:1<=n)(h2:n<=m)(hn:m<1000000)(c1:m<=cl):(0:Int)<=(n:Int)/\(n:Int)<=(cl:Int)/\(n:Int)<=(m:Int)/\decide (m<n)=false/\¬m<n/\decide ((n:Int)<1)=false/\¬((n:Int)<1)/\IntKind.u64.wrap (n:Int)=(n:Int)/\IntKind.u64.wrap (m:Int)=(m:Int)/\decide ((m:Int)<(n:Int))=false/\¬(m:Int)<(n:Int) :=
 ⟨by omega,by omega,by omega,zzU (by omega),by omega,zzU (by omega),by omega,by rw[IntKind.wrap_u64];omega,by rw[IntKind.wrap_u64];omega,zzU (by omega),by omega⟩
theorem zYk(n m cl bl ol ca:Nat)(aa:Option Addr)(vp:Value)(x y:Sum)(ck_:Bool)(w:World)(hq:KQ w (.slice aa n ca) (.slice (some ⟨bl,ol,none⟩) n cl) (.slice (some ⟨bl,ol,none⟩) m cl) vp n m true ck_ x y)(h1:1<=n)(h2:n<=m)(hn:m<1000000)(c1:m<=cl)(c2:cl<=maxLen):Calls Tryz.prog 53 #[.slice aa n ca,.slice (some ⟨bl,ol,none⟩) m cl,vp] w (zFr w false):=by
 obtain⟨k1,k2,k3,k4,k5,k6,k7,k8,k9,k10,k11⟩:=zUr h1 h2 hn c1
 unfold maxLen at c2
 have HQ:=zzb hq
 clear hq
 have hbw:=al (zze w.heap.size w) (.cells #[.slice none 0 0,.slice none 0 0] 82)
 have hth:=zD0 w #[.slice none 0 0,.slice none 0 0] 82
 obtain⟨W,hW⟩:∃ x,x=w.alloc (.cells #[.slice none 0 0,.slice none 0 0] 82):=⟨_,rfl⟩
 rw[<-hW]at hbw hth
 have H0:=zzb (show Below w.heap.size w W/\W.there w.heap.size 0 2 from ⟨hbw,hth⟩)
 have HW:=zzb hW
 clear hbw hth hW
 go_enter Tryz.func53,Tryz.ntmps53
 refine Alm.wp_cut 1 ?_
 intro T hT
 dsimp only[zHd]
 replace hT:=zzb hT
 go_wp2_with fail
 refine hT.out _ _ ?_
 clear hT
 dsimp only[zEz]
 change Code.wp _ _ _ _ (w.alloc (.cells #[.slice none 0 0,.slice none 0 0] 82))
 rw[<-HW.out]
 clear HW
 go_wp2_with (first
  | (have _:=H0;go_at_call 134;refine (HQ.out.s W H0.out.1).mono ?_;rintro e V1 ⟨rfl,hb1⟩;have H1:=zzb (show Below w.heap.size w V1/\V1.there w.heap.size 0 2 from ⟨H0.out.1.trans (hb1.mono H0.out.1.size),(zK hb1).there H0.out.2 (by decide) id⟩);clear hb1 H0)
  | (have _:=H1;refine zDs rfl _ _ rfl w.heap.size 0 rfl rfl H1.out.2 ?_))
 exact zzJ (zDh Tryz.results53 _ _ w.heap.size 0 zNj _ rfl (zDd _ _ _ _ (by exact zzd H1.out.2 _ _ _)) Tryz.underlying82 rfl zDy) rfl ⟨_,_,rfl,⟨_,_,_,rfl⟩,⟨_,_,_,rfl⟩,zDa _ (zzc _) _ _ _ _ H1.out.1⟩
theorem zZ4(n m cl bl ol ca:Nat)(aa:Option Addr)(vp:Value)(x y:Sum)(w:World)(hq:KQ w (.slice aa n ca) (.slice (some ⟨bl,ol,none⟩) n cl) (.slice (some ⟨bl,ol,none⟩) m cl) vp n m false false x y)(h1:1<=n)(h2:n<=m)(hn:m<1000000)(c1:m<=cl)(c2:cl<=maxLen):Calls Tryz.prog 53 #[.slice aa n ca,.slice (some ⟨bl,ol,none⟩) m cl,vp] w (zFr w false):=by
 obtain⟨k1,k2,k3,k4,k5,k6,k7,k8,k9,k10,k11⟩:=zUr h1 h2 hn c1
 unfold maxLen at c2
 have HQ:=zzb hq
 clear hq
 have hbw:=al (zze w.heap.size w) (.cells #[.slice none 0 0,.slice none 0 0] 82)
 have hth:=zD0 w #[.slice none 0 0,.slice none 0 0] 82
 obtain⟨W,hW⟩:∃ x,x=w.alloc (.cells #[.slice none 0 0,.slice none 0 0] 82):=⟨_,rfl⟩
 rw[<-hW]at hbw hth
 have H0:=zzb (show Below w.heap.size w W/\W.there w.heap.size 0 2 from ⟨hbw,hth⟩)
 have HW:=zzb hW
 clear hbw hth hW
 go_enter Tryz.func53,Tryz.ntmps53
 refine Alm.wp_cut 1 ?_
 intro T hT
 dsimp only[zHd]
 replace hT:=zzb hT
 go_wp2_with fail
 refine hT.out _ _ ?_
 clear hT
 dsimp only[zEz]
 change Code.wp _ _ _ _ (w.alloc (.cells #[.slice none 0 0,.slice none 0 0] 82))
 rw[<-HW.out]
 clear HW
 go_wp2_with (first
  | (have _:=H0;go_at_call 134;refine (HQ.out.s W H0.out.1).mono ?_;rintro e V1 ⟨rfl,hb1⟩;have H1:=zzb (show Below w.heap.size w V1/\V1.there w.heap.size 0 2 from ⟨H0.out.1.trans (hb1.mono H0.out.1.size),(zK hb1).there H0.out.2 (by decide) id⟩);clear hb1 H0)
  | (have _:=H1;go_at_call 44;refine (HQ.out.ra V1 H1.out.1).mono ?_;rintro e V2 ⟨rfl,hb1⟩;have H2:=zzb (show Below w.heap.size w V2/\V2.there w.heap.size 0 2 from ⟨H1.out.1.trans (hb1.mono H1.out.1.size),(zK hb1).there H1.out.2 (by decide) id⟩);clear hb1 H1)
  | (have _:=H2;go_at_call 44;refine (HQ.out.rb V2 H2.out.1).mono ?_;rintro e V3 ⟨rfl,hb1⟩;have H3:=zzb (show Below w.heap.size w V3/\V3.there w.heap.size 0 2 from ⟨H2.out.1.trans (hb1.mono H2.out.1.size),(zK hb1).there H2.out.2 (by decide) id⟩);clear hb1 H2)
  | (have _:=H3;go_at_call 27;refine (HQ.out.ck V3 H3.out.1).mono ?_;rintro e V4 ⟨rfl,hb1⟩;have H4:=zzb (show Below w.heap.size w V4/\V4.there w.heap.size 0 2 from ⟨H3.out.1.trans (hb1.mono H3.out.1.size),(zK hb1).there H3.out.2 (by decide) id⟩);clear hb1 H3)
  | (have _:=H4;refine zDs rfl _ _ rfl w.heap.size 0 rfl rfl H4.out.2 ?_))
 exact zzJ (zDh Tryz.results53 _ _ w.heap.size 0 zNj _ rfl (zDd _ _ _ _ (by exact zzd H4.out.2 _ _ _)) Tryz.underlying82 rfl zDy) rfl ⟨_,_,rfl,⟨_,_,_,rfl⟩,⟨_,_,_,rfl⟩,zDa _ (zzc _) _ _ _ _ H4.out.1⟩
theorem zX1(n m cl bl ol ca:Nat)(aa:Option Addr)(vp:Value)(x y:Sum)(P:Prop)(w:World)(hq:KQ w (.slice aa n ca) (.slice (some ⟨bl,ol,none⟩) n cl) (.slice (some ⟨bl,ol,none⟩) m cl) vp n m false true x y)(h1:1<=n)(h2:n<=m)(hn:m<1000000)(c1:m<=cl)(c2:cl<=maxLen)(hd:∀ V,Below w.heap.size w V->Calls Tryz.prog 149 #[.int .i64 (n:Int),.slice (some ⟨bl,ol,none⟩) m cl,sv x,vp,.bool true] V (zV4 V P))(hl:P->∀ V,Below w.heap.size w V->Calls Tryz.prog 49 #[.slice aa n ca,.slice (some ⟨bl,ol,none⟩) n cl] V (zFr V true)):Calls Tryz.prog 53 #[.slice aa n ca,.slice (some ⟨bl,ol,none⟩) m cl,vp] w (zFr w true):=by
 obtain⟨k1,k2,k3,k4,k5,k6,k7,k8,k9,k10,k11⟩:=zUr h1 h2 hn c1
 unfold maxLen at c2
 have HQ:=zzb hq
 clear hq
 have HD:=zzb hd
 have HL:=zzb hl
 clear hd hl
 have hbw:=al (zze w.heap.size w) (.cells #[.slice none 0 0,.slice none 0 0] 82)
 have hth:=zD0 w #[.slice none 0 0,.slice none 0 0] 82
 obtain⟨W,hW⟩:∃ x,x=w.alloc (.cells #[.slice none 0 0,.slice none 0 0] 82):=⟨_,rfl⟩
 rw[<-hW]at hbw hth
 have H0:=zzb (show Below w.heap.size w W/\W.there w.heap.size 0 2 from ⟨hbw,hth⟩)
 have HW:=zzb hW
 clear hbw hth hW
 go_enter Tryz.func53,Tryz.ntmps53
 refine Alm.wp_cut 1 ?_
 intro T hT
 dsimp only[zHd]
 replace hT:=zzb hT
 go_wp2_with fail
 refine hT.out _ _ ?_
 clear hT
 dsimp only[zEz]
 change Code.wp _ _ _ _ (w.alloc (.cells #[.slice none 0 0,.slice none 0 0] 82))
 rw[<-HW.out]
 clear HW
 go_wp2_with (first
  | (have _:=H0;go_at_call 134;refine (HQ.out.s W H0.out.1).mono ?_;rintro e V1 ⟨rfl,hb1⟩;have H1:=zzb (show Below w.heap.size w V1/\V1.there w.heap.size 0 2 from ⟨H0.out.1.trans (hb1.mono H0.out.1.size),(zK hb1).there H0.out.2 (by decide) id⟩);clear hb1 H0)
  | (have _:=H1;go_at_call 44;refine (HQ.out.ra V1 H1.out.1).mono ?_;rintro e V2 ⟨rfl,hb1⟩;have H2:=zzb (show Below w.heap.size w V2/\V2.there w.heap.size 0 2 from ⟨H1.out.1.trans (hb1.mono H1.out.1.size),(zK hb1).there H1.out.2 (by decide) id⟩);clear hb1 H1)
  | (have _:=H2;go_at_call 44;refine (HQ.out.rb V2 H2.out.1).mono ?_;rintro e V3 ⟨rfl,hb1⟩;have H3:=zzb (show Below w.heap.size w V3/\V3.there w.heap.size 0 2 from ⟨H2.out.1.trans (hb1.mono H2.out.1.size),(zK hb1).there H2.out.2 (by decide) id⟩);clear hb1 H2)
  | (have _:=H3;go_at_call 27;refine (HQ.out.ck V3 H3.out.1).mono ?_;rintro e V4 ⟨rfl,hb1⟩;have H4:=zzb (show Below w.heap.size w V4/\V4.there w.heap.size 0 2 from ⟨H3.out.1.trans (hb1.mono H3.out.1.size),(zK hb1).there H3.out.2 (by decide) id⟩);clear hb1 H3)
  | (have _:=H4;go_at_call 44;refine (HQ.out.ra V4 H4.out.1).mono ?_;rintro e V5 ⟨rfl,hb1⟩;have H5:=zzb (show Below w.heap.size w V5/\V5.there w.heap.size 0 2 from ⟨H4.out.1.trans (hb1.mono H4.out.1.size),(zK hb1).there H4.out.2 (by decide) id⟩);clear hb1 H4)
  | (go_at_call 149;refine Hid.out ?_))
 refine zzb ?_
 refine (HD.out V5 H5.out.1).mono ?_
 rintro e V6 ⟨t,⟨rx,ry,rfl,⟨xa,xn,xc,rfl⟩,⟨ya,yn,yc,rfl⟩,hb1⟩,hP⟩
 have H6:=zzb (show Below w.heap.size w V6/\V6.there w.heap.size 0 2 from ⟨H5.out.1.trans (hb1.mono H5.out.1.size),(zK hb1).there H5.out.2 (by decide) id⟩);clear hb1 H5
 cases t with
 | true =>
  clear hP HL HD HQ
  go_wp2_with (first
   | (have _:=H6;refine zMn rfl _ _ rfl _ _ _ _ _ _ rfl rfl ?_;intro V7 z hz hb1 ht;have H7:=zzb (show Below w.heap.size w V7/\V7.there w.heap.size 0 2 from ⟨H6.out.1.trans (hb1.mono H6.out.1.size),(zK hb1).there H6.out.2 (by decide) id⟩);clear hb1 H6;have HT:=zzb ht;clear ht;rw[<-hz];clear hz)
   | (have _:=HT;refine zLz (by rfl) _ rfl z rfl _ _ HT.out ?_;clear HT)
   | (have _:=H7;refine zEf rfl _ _ rfl w.heap.size 0 xa ya xn xc yn yc rfl rfl H7.out.2 ?_))
  exact zzJ (zDh Tryz.results53 _ _ w.heap.size 0 [.slice xa xn xc,.slice ya yn yc] _ rfl (zDd _ _ _ _ (by exact zzd H7.out.2 _ _ _)) Tryz.underlying82 rfl zDy) rfl ⟨_,_,rfl,⟨_,_,_,rfl⟩,⟨_,_,_,rfl⟩,zDa _ (zzc _) _ _ _ _ H7.out.1⟩
 | false =>
  have HP:=zzb (HL.out (hP rfl))
  clear hP HL HD HQ
  go_wp2_with (first
   | (have _:=H6;refine zMn rfl _ _ rfl _ _ _ _ _ _ rfl rfl ?_;intro V7 z hz hb1 ht;have H7:=zzb (show Below w.heap.size w V7/\V7.there w.heap.size 0 2 from ⟨H6.out.1.trans (hb1.mono H6.out.1.size),(zK hb1).there H6.out.2 (by decide) id⟩);clear hb1 H6;have HT:=zzb ht;clear ht;rw[<-hz];clear hz)
   | (have _:=H7;go_at_call 49;refine (HP.out V7 H7.out.1).mono ?_;rintro e V8 ⟨rx,ry,rfl,⟨ua,un,uc,rfl⟩,⟨va,vn,vc,rfl⟩,hb1⟩;have H8:=zzb (show Below w.heap.size w V8/\V8.there w.heap.size 0 2 from ⟨H7.out.1.trans (hb1.mono H7.out.1.size),(zK hb1).there H7.out.2 (by decide) id⟩);clear hb1 H7)
   | (have _:=H8;refine zEf rfl _ _ rfl w.heap.size 0 ua va un uc vn vc rfl rfl H8.out.2 ?_))
  exact zzJ (zDh Tryz.results53 _ _ w.heap.size 0 [.slice ua un uc,.slice va vn vc] _ rfl (zDd _ _ _ _ (by exact zzd H8.out.2 _ _ _)) Tryz.underlying82 rfl zDy) rfl ⟨_,_,rfl,⟨_,_,_,rfl⟩,⟨_,_,_,rfl⟩,zDa _ (zzc _) _ _ _ _ H8.out.1⟩
noncomputable def KF(a b:List (List UInt8))(p:List Sum):Bool:=decide (1<=a.length/\a.length<=b.length) && zIh a.length b.length (sd a) (sd b) p && !decide (a=b.take a.length)
theorem zWb{m n:Nat}{x y:Sum}{p:List Sum}(h:zIh m n x y p=true):zEg nd x m n true p=some ((x,y),[]):=by
 unfold zIh at h
 rw[Bool.and_eq_true]at h
 have h2:=h.2
 split at h2
 ·rename_i x' y' hs
  rw[Bool.and_eq_true]at h2
  rw[hs,eq_of_beq h2.1,eq_of_beq h2.2]
 ·cases h2
theorem zVk(a b:List (List UInt8))(p:List Sum)(va vb vp:Value)(w:World)(ha:zDk w va a)(hb:zDk w vb b)(hp:zD1 w vp p)(hn:b.length<1000000)(hsa:SZ a)(hsb:SZ b):Calls Tryz.prog 53 #[va,vb,vp] w (zFr w (KF a b p)):=by
 unfold KF
 by_cases hr:1<=a.length/\a.length<=b.length
 ·rw[zzV hr]
  have hb0:b≠[]:=by intro h;rw[h]at hr;simp only[zzO]at hr;omega
  have hal:a.length<1000000:=by omega
  have htl:(b.take a.length).length=a.length:=by rw[zzq];omega
  obtain⟨bl,ol,cl,rfl,c1,c2⟩:=hb.form hb0
  have ht:=hb.take a.length hr.2
  obtain⟨aa,ca,rfl,-,-,-⟩:=id ha
  have hq:KQ w (.slice aa a.length ca) (.slice (some ⟨bl,ol,none⟩) a.length cl) (.slice (some ⟨bl,ol,none⟩) b.length cl) vp a.length b.length (decide (a=b.take a.length)) (zIh a.length b.length (sd a) (sd b) p) (sd a) (sd b) :=
   ⟨fun V h=>zIx a (b.take a.length) _ _ V (ha.below h) (ht.below h) hal,zKy ha hal hsa,zKy hb hn hsb,fun V h=>zVg a.length b.length (sd a) (sd b) vp p V (hp.below h (zzc _)) (by omega)⟩
  by_cases hx:a=b.take a.length
  ·rw[zzV hx]at hq ⊢
   simp only[Bool.not_true,Bool.and_false]
   exact zYk _ _ _ _ _ _ _ _ _ _ _ w hq hr.1 hr.2 hn c1 c2
  ·rw[zzU hx]at hq ⊢
   rcases hpb:zIh a.length b.length (sd a) (sd b) p with _ | _
   ·rw[hpb]at hq
    exact zZ4 _ _ _ _ _ _ _ _ _ _ w hq hr.1 hr.2 hn c1 c2
   ·rw[hpb]at hq
    refine zX1 _ _ _ _ _ _ _ _ _ _ (sd a=sd (b.take a.length)) w hq hr.1 hr.2 hn c1 c2 (fun V h=>?_) (fun hP V h=>?_)
    ·exact yDv (sd a) b.length b a.length true p (sd a) _ vp V (zzc _) (hb.below h) hr.1 hr.2 hn hsb (hp.below h (zzc _)) (zWb hpb)
    ·exact zSp a.length a (b.take a.length) _ _ V (zzc _) (ha.below h) (ht.below h) htl.symm hx hP hal hsa (zOk hsb _)
 ·rw[zzU hr]
  exact zZe a b va vb vp w ha hb (by omega)
theorem zKm{w:World}{ops:Array Oper}{rest:List Oper}{o:Oper}{a:Act}{Q:Exit->Act->World->Prop}(hgd:o.guard=none)(s x:Operand)
  (ho:o.op=.call { callee:=.builtin .append,args:=#[s,x],argTypes:=#[60,60] })
  (base:Nat) (v:Value) (cs:List Value) (n:Nat) (hs:a.eval s=v) (hown:w.ownsRow base 65 1 v n cs)
  (g c:Nat) (u:Value) (hu:u.oneCell'=true) (hx:a.eval x=.slice (some ⟨g,0,none⟩) 1 c) (hr:w.rangeAt g 0 [u]) (hlen:n<1000000) (hB:base<=w.heap.size)
  (h:∀ g' c' w',w'.ownsRow base 65 1 (.slice (some ⟨g',0,none⟩) (n+1) c') (n+1) (cs++[u])->w.grownBy w' v.ownBlock->(v.ownBlock=some g'∨g'=w.heap.size)->wpList Tryz.prog ops Q rest (a.put o.dst (.slice (some ⟨g',0,none⟩) (n+1) c')) w'):wpList Tryz.prog ops Q (o::rest) a w:=by
 obtain⟨i,z,hi,hz,h1,h2,h3⟩:=zOi
 refine wpList_plain hgd fun _ hK=>wp_append_lies w s x _ ho base _ i z 1 24 Tryz.underlying60 hi hz h1 h2 h3 (by omega) v n cs hs hown ⟨g,0,none⟩ 1 c [u] hx rfl (fun j u hj=>by rw[Addr.add_mid];exact hr j u hj) (by intro y hy;rw[zzw.1 hy];exact hu) (by omega) (by unfold maxLen;omega) (by omega) hB w.heap.size rfl ?_
 intro g' cap' w' ho' hg hat _
 exact hK _ _ (h g' cap' w' ho' hg hat)
structure TL(w W:World)(tv:Value)(cs:List (LE×List UInt8)):Prop where
 below:Below w.heap.size w W
 row:W.ownsRow w.heap.size 65 1 tv cs.length (cs.map fun c=>leV c.1)
 each:∀ c∈cs,zHj W w.heap.size (leV c.1) c.2
 apart:zQx cs
 off:∀ c∈cs,∀ k,(leV c.1).ownBlock=some k->tv.ownBlock≠some k
theorem zHj.lt{W:World}{base:Nat}{v:Value}{l:List UInt8}(h:zHj W base v l){k:Nat}(hk:v.ownBlock=some k):base<=k/\k<W.heap.size:=by
 obtain⟨g,cap,rfl,hl⟩:=h
 exact hl.lt k hk
theorem zHj.mono{W:World}{base b:Nat}{v:Value}{l:List UInt8}(h:zHj W base v l)(hb:b<=base):zHj W b v l:=by
 obtain⟨g,cap,rfl,hl⟩:=h
 exact⟨g,cap,rfl,hl.mono hb⟩
theorem TL.mem{w W W':World}{tv:Value}{cs:List (LE×List UInt8)}(h:TL w W tv cs)(hb:Below W.heap.size W W'):TL w W' tv cs :=
 ⟨h.below.trans (hb.mono h.below.size),(zK hb).owns h.row (fun _ _ h=>h),fun c hc=>(h.each c hc).below hb,h.apart,h.off⟩
theorem TL.grow{w W W':World}{tv:Value}{cs:List (LE×List UInt8)}(h:TL w W tv cs){g:Nat}(hg:W.grownBy W' tv.ownBlock)(hat:tv.ownBlock=some g∨g=W.heap.size) :
  Below w.heap.size w W'/\(∀ c∈cs,zHj W' w.heap.size (leV c.1) c.2)/\(∀ c∈cs,∀ k,(leV c.1).ownBlock=some k->g≠k):=by
 have hk:zDj (fun k=>tv.ownBlock=some k) W W':=zDj.of_grown hg (fun k hk=>hk)
 refine⟨h.below.trans (hk.below h.below.size (fun k hk=>zLs h.row k hk)),fun c hc=>(h.each c hc).keep hk (fun k h1 h2=>h.off c hc k h1 h2),fun c hc k hk2 e=>?_⟩
 rcases hat with e3 | e3
 ·exact h.off c hc k hk2 (by rw[e3,e])
 ·have:=((h.each c hc).lt hk2).2;omega
theorem TL.push{w W W':World}{tv:Value}{cs:List (LE×List UInt8)}(h:TL w W tv cs){y:LE}{b:List UInt8}(hy:zHj W w.heap.size (leV y) b)(hn1:∀ k,(leV y).ownBlock=some k->tv.ownBlock≠some k)(hn2:∀ c∈cs,∀ k,(leV c.1).ownBlock=some k->(leV y).ownBlock≠some k){g m cap:Nat}(hm:m=cs.length+1)
  (ho:W'.ownsRow w.heap.size 65 1 (.slice (some ⟨g,0,none⟩) m cap) m ((cs.map fun c=>leV c.1)++[leV y])) (hg:W.grownBy W' tv.ownBlock) (hat:tv.ownBlock=some g∨g=W.heap.size):TL w W' (.slice (some ⟨g,0,none⟩) m cap) (cs++[(y,b)]):=by
 obtain⟨h1,h2,h3⟩:=h.grow hg hat
 have hk:zDj (fun k=>tv.ownBlock=some k) W W':=zDj.of_grown hg (fun k hk=>hk)
 have hyk:=hy.keep hk (fun k h1 h2=>hn1 k h1 h2)
 refine⟨h1,?_,fun c hc=>?_,?_,fun c hc k hk2 e=>?_⟩
 ·rw[zzi,zzx,<-hm,zya];exact ho
 ·rcases zzL.1 hc with hc | hc
  ·exact h2 c hc
  ·rw[zzw.1 hc];exact hyk
 ·unfold zQx
  rw[List.pairwise_append]
  refine⟨h.apart,List.pairwise_singleton _ _,fun a ha c hc k hk2=>?_⟩
  rw[zzw.1 hc]
  exact hn2 a ha k hk2
 ·have e':g=k:=by simpa[Value.ownBlock]using e
  rcases zzL.1 hc with hc | hc
  ·exact h3 c hc k hk2 e'
  ·rw[zzw.1 hc]at hk2
   rcases hat with e3 | e3
   ·exact hn1 k hk2 (by rw[e3,e'])
   ·have:=(hy.lt hk2).2;omega
structure zL6(W:World)(base:Nat)(v:Value)(cs:List (LE×List UInt8)):Prop where
 row:∃ g cap z,v=.slice (some ⟨g,0,none⟩) cs.length cap/\Lie W base 1 (.slice (some ⟨g,0,none⟩) (cs.length+1) cap) ((cs.map fun c=>[leV c.1])++[[.slice (some ⟨z,0,none⟩) 1 1]])/\W.cell? ⟨z,0,none⟩=some (.int .u8 77)
 each:∀ c∈cs,zHj W base (leV c.1) c.2
 apart:zQx cs
 off:∀ c∈cs,∀ k,(leV c.1).ownBlock=some k->v.ownBlock≠some k
theorem zL6.listsL{W:World}{base:Nat}{v:Value}{cs:List (LE×List UInt8)}(h:zL6 W base v cs):zI1 W base v cs:=by
 obtain⟨⟨g,cap,z,rfl,hl,_⟩,h2,h3,h4⟩:=h
 exact⟨hl.front (by rw[zzm]),fun c hc=>(h2 c hc).lie,h3,h4⟩
theorem zL6.below{W W':World}{base:Nat}{v:Value}{cs:List (LE×List UInt8)}(h:zL6 W base v cs)(hb:Below W.heap.size W W'):zL6 W' base v cs:=by
 obtain⟨⟨g,cap,z,rfl,hl,hz⟩,h2,h3,h4⟩:=h
 exact⟨⟨g,cap,z,rfl,hl.below hb,(zK hb).cell hz id⟩,fun c hc=>(h2 c hc).below hb,h3,h4⟩
theorem zI1.lists{W:World}{base:Nat}{v:Value}{cs:List (LE×List UInt8)}(h:zI1 W base v cs){ls:List (List UInt8)}(hs:cs.map Prod.snd=ls):zDk W v ls:=by
 subst hs
 rcases h.row with ⟨rfl,h0⟩ | ⟨g,cap,rfl,_,_,hnc,hcm,hr,_⟩
 ·have:cs=[]:=by simpa using h0
  subst this
  exact⟨none,0,rfl,zzc _,by unfold maxLen;omega,.inl rfl⟩
 ·rw[zzm]at hnc ⊢
  refine⟨_,cap,by rw[zzm],by rw[zzm];exact hnc,hcm,.inr ⟨g,0,rfl,fun j hj=>?_⟩⟩
  rw[zzm]at hj
  refine⟨leV cs[j].1,by rw[zzn];exact yGx hr hj,?_⟩
  rw[List.getElem_map]
  exact zM1 (h.each cs[j] (List.getElem_mem hj))
theorem yFv(l:List (List Value))(cs:List (LE×List UInt8))(u:Value)(hl:l=(cs.map fun c=>[leV c.1])++[[u]]):∀ x∈l,x.length=1:=fun x hx=>by
 rw[hl]at hx
 rcases zzL.1 hx with hx | hx
 ·obtain⟨c,_,rfl⟩:=zzM.1 hx
  rfl
 ·rw[zzw.1 hx];rfl
theorem zXt{L:List (List UInt8)}{j:Nat}{cs:List (LE×List UInt8)}{b:List UInt8}(h:cs.map Prod.snd=L.take j)(hj:j<L.length)(hb:b=L[j])(y:LE):(cs++[(y,b)]).map Prod.snd=L.take (j+1):=by
 rw[zya,h,zzH hj,hb];rfl
theorem zQ4(L:List (List UInt8))(v:Value)(w:World)(hv:zDk w v L)(hF:∀ p∈L,p.length<900000)(hl:L.length<100000) :
  Calls Tryz.prog 47 #[v] w fun e w'=>∃ v' cs,e=.returned v'/\zL6 w' w.heap.size v' cs/\cs.map Prod.snd=L/\Below w.heap.size w w':=by
 obtain⟨va,vc,rfl,hc1,hc2,-⟩:=id hv
 obtain⟨n,hn⟩:∃ n,n=L.length:=⟨_,rfl⟩
 rw[<-hn]at hv hc1 hl ⊢
 obtain⟨n1,hn1⟩:∃ m,m=n+1:=⟨_,rfl⟩
 have hw1:wrap64 ((n:Int)+1)=((n1:Nat):Int):=by unfold wrap64;omega
 obtain⟨i0,z0,hi0,hz0,hs0,hb0,hzs0⟩:=zOi
 have HI:=zAI hi0 (zza hz0 (zza hs0 hb0))
 have HV:=zAI hv (zza hn (zza hl (zza hn1 hF)))
 have q3:(n:Int)<=(vc:Int):=by omega
 clear hv hn hc1 hc2 hl hn1 hi0 hz0 hs0 hb0 hzs0 hF
 go_enter Tryz.func47,Tryz.ntmps47
 go_wp2_with (at_make;refine Hid.out ?_)
 refine zzb ?_
 try rw[hw1]
 refine wpList_make_own _ rfl _ _ _ rfl w.heap.size 65 i0 z0 1 Tryz.underlying60 HI.out.1 HI.out.2.1 HI.out.2.2.1 .i64 .i64 (n1:Int) n1 rfl (by rfl) rfl (by rw[HI.out.2.2.2];have:=HV.out.2.2;omega) (by unfold maxLen;have:=HV.out.2.2;omega) (zzc _) ?_
 intro w2 ho2 hg2
 have hb2:Below w.heap.size w w2:=zDj.below (B:=w.heap.size) (zDj.of_grown (X:=fun _=>False) hg2 (fun k hk=>by cases hk)) (zzc _) (fun _ h=>h.elim)
 have H2:=zzb (show TL w w2 (.slice (some ⟨w.heap.size,0,none⟩) 0 n1) [] from ⟨hb2,ho2,fun c hc=>(by cases hc),List.Pairwise.nil,fun c hc=>(by cases hc)⟩)
 clear ho2 hg2 hb2 HI
 go_wp2_with fail
 go_loopw [3,4] (fun tv iv W=>∃ (i:Nat) (cs:List (LE×List UInt8)),i<=n/\iv=.int .i64 (i:Int)/\cs.length=i/\(∃ a c,tv=.slice a i c)/\cs.map Prod.snd=L.take i/\TL w W tv cs) (fun _ iv _=>n - (intOf iv).toNat)
 case atStart=>exact⟨0,[],zz7 _,rfl,rfl,⟨_,_,rfl⟩,rfl,H2.out⟩
 case round =>
  clear H2
  obtain⟨i,cs,hi,rfl,hcl,⟨ta,tc,rfl⟩,hcs,hT⟩:=hrel
  have HT:=zAI hT (zza hcl hcs)
  clear hT hcl hcs
  by_cases hlt:i<n
  ·obtain⟨d1,d2,d3,d4⟩:=zG1 hlt
   have hil:i<L.length:=by rw[<-HV.out.2.1];exact hlt
   have hne:L≠[]:=by intro h;rw[h]at hil;simp at hil
   obtain⟨ba,oa,ca',he1,_,_⟩:=HV.out.1.form hne
   simp only[zzh]at he1
   obtain⟨rfl,-,rfl⟩:=he1
   obtain⟨u,hu1,hu2⟩:=HV.out.1.cell (sp:=none) hil
   obtain⟨yb,hyb⟩:∃ yb,yb=L[i]:=⟨_,rfl⟩
   rw[<-hyb]at hu2
   obtain⟨ua,uc,rfl,-,-,-⟩:=id hu2
   have hcell:=bcl HT.out.1.below hu1
   have HX1:=zAI (zDc hu2 HT.out.1.below (zzc _)) (show ∃ h:i<L.length,yb=L[i]'h from ⟨hil,hyb⟩)
   have HL:=zAI hlt (show yb.length<900000 by rw[hyb];exact HV.out.2.2.2.2 _ (List.getElem_mem hil))
   have hwi:wrap64 ((i:Int)+1)=((i+1:Nat):Int):=zEt (m:=100000) (by have:=HV.out.2.2.1;omega) (by decide)
   have HWI:=zzb hwi
   clear hu1 hu2 hyb hil hlt hwi hne
   go_wp2_with fail
   clear hcell
   refine (zLt yb _ _ HX1.out.1 HL.out.2).mono ?_
   rintro e V1 ⟨v1,rfl,htw,hb1⟩
   obtain⟨g1,c1,rfl,-⟩:=id htw
   have H1:=zAI (HT.out.1.mem hb1) htw
   have hn1:∀ k,(Value.slice (some ⟨g1,0,none⟩) yb.length c1).ownBlock=some k->(Value.slice ta i tc).ownBlock≠some k:=fun k hk e=>by
    have h1:=(htw.lt hk).1
    have h2:=(HT.out.1.row.lt k e).2
    omega
   have hn2:∀ c∈cs,∀ k,(leV c.1).ownBlock=some k->(Value.slice (some ⟨g1,0,none⟩) yb.length c1).ownBlock≠some k:=fun c hc k hk e=>by
    have h1:=(htw.lt e).1
    have h2:=((HT.out.1.each c hc).lt hk).2
    omega
   obtain⟨m1,hm1⟩:∃ m,m=yb.length:=⟨_,rfl⟩
   rw[<-hm1]at H1 hn1 hn2 htw ⊢
   have HN:=zzb (show (∀ k,(leV (some ⟨g1,0,none⟩,m1,c1)).ownBlock=some k->(Value.slice ta i tc).ownBlock≠some k)/\(∀ c∈cs,∀ k,(leV c.1).ownBlock=some k->(leV (some ⟨g1,0,none⟩,m1,c1)).ownBlock≠some k)/\zHj V1 w.heap.size (leV (some ⟨g1,0,none⟩,m1,c1)) yb from ⟨hn1,hn2,htw.mono HT.out.1.below.size⟩)
   have HCS:=zzb HT.out.2
   clear htw hb1 hn1 hn2 hm1 HT
   have HG:=zzb trivial
   go_wp2_with (first
    | (have _:=HG;refine zJ3 rfl _ rfl (some ⟨g1,0,none⟩) m1 c1 rfl ?_;have hb2:=Alm.al (zze V1.heap.size V1) (.cells #[.slice (some ⟨g1,0,none⟩) m1 c1] 65);have HP3:=zAI (H1.out.1.mem hb2) (zza (zDl V1 #[.slice (some ⟨g1,0,none⟩) m1 c1] 65 _ rfl) (HN.out.2.2.below hb2));clear HG hb2;generalize V1.heap.size=y8 at *;generalize V1.alloc (.cells #[.slice (some ⟨g1,0,none⟩) m1 c1] 65)=V2 at *)
    | (have _:=HP3;refine zKm rfl _ _ rfl w.heap.size (.slice ta i tc) (cs.map fun c=>leV c.1) i rfl (by have hx:=HP3.out.1.row;rw[HCS.out.1]at hx;exact hx) y8 1 (.slice (some ⟨g1,0,none⟩) m1 c1) rfl rfl HP3.out.2.1 (by have:=HV.out.2.2.1;have:=HL.out.1;omega) HP3.out.1.below.size ?_;intro g9 cap9 V4 ho9 hg9 hat9;have HQ9:=zzb (HP3.out.1.push (y:=(some ⟨g1,0,none⟩,m1,c1)) (b:=yb) (m:=i+1) HP3.out.2.2 HN.out.1 HN.out.2.1 (by rw[HCS.out.1]) ho9 hg9 hat9);clear ho9 hg9 hat9 HP3))
   try rw[HWI.out]
   exact⟨⟨i+1,cs++[((some ⟨g1,0,none⟩,m1,c1),yb)],HL.out.1,rfl,by rw[zzi,zzx,HCS.out.1],⟨_,_,rfl⟩,zXt HCS.out.2 HX1.out.2.choose HX1.out.2.choose_spec _,HQ9.out⟩,by simp only[intOf,zzD];have:=HL.out.1;omega⟩
  ·obtain rfl:i=n:=by omega
   have htk:L.take i=L:=zzB (by rw[<-HV.out.2.1];exact zzc _)
   rw[htk]at HT
   clear htk
   have HG:=zzb trivial
   have HG2:=zzb trivial
   go_wp2_with (first
    | (have _:=HG;refine zFx rfl _ rfl 77 rfl ?_;have HY0:=zzb (show ∀ k,(Value.slice ta i tc).ownBlock=some k->k<wr.heap.size from fun k hk=>(HT.out.1.row.lt k hk).2);have hb2:=Alm.al (zze wr.heap.size wr) (.cells #[.int .u8 77] 5);have HP2:=zAI (HT.out.1.mem hb2) (zDl wr #[.int .u8 77] 5 _ rfl);clear HG hb2;generalize wr.heap.size=y7 at *;generalize wr.alloc (.cells #[.int .u8 77] 5)=V1 at *)
    | (have _:=HG2;refine zJ3 rfl _ rfl (some ⟨y7,0,none⟩) 1 1 rfl ?_;have hb2:=Alm.al (zze V1.heap.size V1) (.cells #[.slice (some ⟨y7,0,none⟩) 1 1] 65);have HP3:=zAI (HP2.out.1.mem hb2) (zza (zDl V1 #[.slice (some ⟨y7,0,none⟩) 1 1] 65 _ rfl) ((zK hb2).range HP2.out.2 id));clear HG2 hb2;generalize V1.heap.size=y8 at *;generalize V1.alloc (.cells #[.slice (some ⟨y7,0,none⟩) 1 1] 65)=V2 at *;refine Hid.out ?_))
   refine zzb ?_
   refine zKm rfl _ _ rfl w.heap.size (.slice ta i tc) (cs.map fun c=>leV c.1) i rfl (by have hx:=HP3.out.1.row;rw[HT.out.2.1]at hx;exact hx) y8 1 (.slice (some ⟨y7,0,none⟩) 1 1) rfl rfl HP3.out.2.1 (by have:=HV.out.2.2.1;omega) HP3.out.1.below.size ?_
   intro g9 cap9 V4 ho9 hg9 hat9
   obtain⟨e1,e2,e3⟩:=HP3.out.1.grow hg9 hat9
   have hkg:zDj (fun k=>(Value.slice ta i tc).ownBlock=some k) V2 V4:=zDj.of_grown hg9 (fun k h=>h)
   have hz9:V4.cell? ⟨y7,0,none⟩=some (.int .u8 77):=hkg.cell (HP3.out.2.2 0 _ rfl) (fun e=>absurd (HY0.out y7 e) (Nat.lt_irrefl _))
   have hlie:Lie V4 w.heap.size 1 (.slice (some ⟨g9,0,none⟩) (i+1) cap9) ((cs.map fun c=>[leV c.1])++[[.slice (some ⟨y7,0,none⟩) 1 1]]):=zNk (n:=i+1) (by
    rw[List.flatten_append,zPk,List.flatten_singleton]
    exact ho9) (by rw[zzi,zzm,zzx,HT.out.2.1]) (yFv _ cs _ rfl)
   have hcp:i+1<=cap9:=by
    rcases hlie with ⟨h0,_⟩ | ⟨g',cap',hv4,_,_,hnc,_⟩
    ·cases h0
    ·simp only[zzh,zzj,zye,and_true]at hv4
     obtain⟨rfl,h5,rfl⟩:=hv4
     rw[<-h5]at hnc;exact hnc
   have hi3:(i:Int)<=(cap9:Int):=by omega
   have hi4:i<=cap9:=by omega
   have HF:=zzb (show zL6 V4 w.heap.size (.slice (some ⟨g9,0,none⟩) i cap9) cs from ⟨⟨g9,cap9,y7,by rw[HT.out.2.1],by rw[HT.out.2.1];exact hlie,hz9⟩,e2,HP3.out.1.apart,fun c hc k hk e=>e3 c hc k hk (by simpa[Value.ownBlock]using e)⟩)
   have HE:=zAI e1 HT.out.2.2
   clear ho9 hg9 hat9 e1 e2 e3 hlie hcp hkg hz9 HP3 HP2 HT HY0
   go_wp2_with fail
   exact zzJ (zzK (t:=2) rfl _ _ _) rfl ⟨_,cs,rfl,HF.out,HE.out.2,HE.out.1⟩
theorem zX3(A B:List UInt8)(va vb:Value)(w:World)(ha:zDo w va A)(hb:zDo w vb B)(hi:isB A B=true)(hla:A.length<1000000)(hlb:B.length<1000000):Calls Tryz.prog 57 #[.agg #[va,vb],.bool true,.bool true] w fun e w'=>e=.returned (.bool true)/\Below w.heap.size w w':=by
 obtain⟨a1,c1,rfl,-,-,-⟩:=id ha
 obtain⟨a2,c2,rfl,-,-,-⟩:=id hb
 have hb0:=al (zze _ w) (.cells #[.slice a1 A.length c1,.slice a2 B.length c2] 82)
 have HT:=zzb (zKu w (.slice a1 A.length c1) (.slice a2 B.length c2) 82)
 have HI:=zzb (yDa A B _ _ _ (zDc ha hb0 (zzc _)) (zDc hb hb0 (zzc _)) hla hlb)
 rw[hi]at HI
 have HB0:=zzb hb0
 clear ha hb hi hla hlb hb0
 generalize A.length=n at *
 generalize B.length=m at *
 go_enter Tryz.func57,Tryz.ntmps57
 go_wp2_with (first
  | (have _:=HT;refine zLz (by rfl) _ rfl w.heap.size rfl _ _ HT.out ?_;clear HT)
  | (have _:=HI;go_at_call 56;refine HI.out.mono ?_;rintro e V1 ⟨rfl,hb1⟩;have HB1:=zzb (HB0.out.trans (hb1.mono HB0.out.size));clear hb1 HI HB0))
 exact zzJ (zzK rfl _ _ _) rfl ⟨rfl,HB1.out⟩
theorem yDh(a a':Option Addr)(c c':Nat)(w:World):Calls Tryz.prog 57 #[.agg #[.slice a 0 c,.slice a' 0 c'],.bool false,.bool false] w fun e w'=>e=.returned (.bool true)/\Below w.heap.size w w':=by
 have hb0:=al (zze _ w) (.cells #[.slice a 0 c,.slice a' 0 c'] 82)
 have HB0:=zzb hb0
 obtain⟨g0,g1⟩:=zKu w (.slice a 0 c) (.slice a' 0 c') 82
 clear hb0
 go_enter Tryz.func57,Tryz.ntmps57
 go_wp2_with fail
 exact zzJ (zzK rfl _ _ _) rfl ⟨rfl,HB0.out⟩
theorem zX8(A B:List UInt8)(va vb:Value)(w:World)(ha:zDo w va A)(hb:zDo w vb B)(hla:A.length<900000)(hlb:B.length<900000):Calls Tryz.prog 55 #[.agg #[va,vb]] w fun e w'=>∃ va' vb',e=.returned (.agg #[va',vb'])/\zDo w' va' A/\zDo w' vb' B/\Below w.heap.size w w':=by
 obtain⟨w1,hw1⟩:∃ x,x=w.alloc (.cells #[va,vb] 82):=⟨_,rfl⟩
 obtain⟨w2,hw2⟩:∃ x,x=w1.alloc (.cells #[.slice none 0 0,.slice none 0 0] 82):=⟨_,rfl⟩
 have r1:zNa w1 w.heap.size va vb:=by rw[hw1];exact zKu w va vb _
 have t2:w2.there w1.heap.size 0 2:=by rw[hw2];exact zD0 w1 #[.slice none 0 0,.slice none 0 0] 82
 have b1:Below w.heap.size w w1:=by rw[hw1];exact al (zze _ _) _
 have b2:Below w1.heap.size w1 w2:=by rw[hw2];exact al (zze _ _) _
 have r12:=r1.below b2
 have b12:=b1.trans (b2.mono b1.size)
 have s1:w1.heap.size=w.heap.size+1:=by rw[hw1,zzp]
 rw[s1]at t2
 have bd:=(zze w2.heap.size w2).drew
 have b13:=b12.trans (bd.mono b12.size)
 have H1:=zzb (show zNa w2.drew w.heap.size va vb/\w2.drew.there (w.heap.size+1) 0 2/\Below w.heap.size w w2.drew/\zDo w2.drew va A/\zDo w2.drew vb B from ⟨r12.below bd,(zK bd).there t2 (by decide) id,b13,zDc ha b13 (zzc _),zDc hb b13 (zzc _)⟩)
 have HW:=zAI hw1 hw2
 have HLL:=zAI hla hlb
 clear r1 t2 b1 b2 r12 b12 s1 hw1 hw2 bd b13 ha hb hla hlb
 go_enter Tryz.func55,Tryz.ntmps55
 refine Alm.wp_cut 1 ?_
 intro T hT
 dsimp only[zHd]
 replace hT:=zzb hT
 go_wp2_with fail
 refine hT.out _ _ ?_
 clear hT
 dsimp only[zEz]
 change Code.wp _ _ _ _ ((w.alloc (.cells #[va,vb] 82)).alloc (.cells #[.slice none 0 0,.slice none 0 0] 82))
 rw[<-HW.out.1,<-HW.out.2]
 clear HW
 go_wp2_with fail
 refine zDb (fun V=>V.cell? ⟨w.heap.size,0,none⟩=some va/\V.cell? ⟨w.heap.size,1,none⟩=some vb) [.t 0,.t 3,.s 1,.s 4,.e 2 true,.e 5 false,.t 6,.e 7 false] (by kernel_rfl) (by kernel_rfl) (by rintro _ _(_|_)_ _ h<;>exact h) ?_
 generalize w2.drew=V at *
 iterate 2
  refine zDi rfl (v:=?_) (by rfl) (fun W=>?_) ?_
  rotate_left
  ·go_simp
   try rfl
  try simp only[zU,zA,zB,zC]
 refine zD6 (by exact H1.out.1) rfl (v:=va) (by rfl) (fun W hW=>?_) ?_
 ·have g:=hW.1
  go_simp
 try simp only[zU,zA,zB,zC]
 refine zD6 (by exact H1.out.1) rfl (v:=vb) (by rfl) (fun W hW=>?_) ?_
 ·have g:=hW.2
  go_simp
 try simp only[zU,zA,zB,zC]
 refine zDx rfl (by rfl) (fun K hK=>?_)
 go_simp
 refine (zLt A va V H1.out.2.2.2.1 HLL.out.1).mono ?_
 rintro e V1 ⟨v1,rfl,hv1,hb1⟩
 have kk:=zK hb1
 have H2:=zzb (show zNa V1 w.heap.size va vb/\V1.there (w.heap.size+1) 0 2/\Below w.heap.size w V1/\zDo V1 vb B/\zHj V1 V.heap.size v1 A/\w.heap.size+1<V.heap.size from ⟨H1.out.1.below hb1,kk.there H1.out.2.1 (by decide) id,H1.out.2.2.1.trans (hb1.mono H1.out.2.2.1.size),zDc H1.out.2.2.2.2 hb1 (zzc _),hv1,zFi H1.out.2.1 (by decide)⟩)
 clear kk hb1 hv1 H1
 refine hK _ _ ⟨by exact H2.out.1,?_⟩;clear hK K
 try simp only[zU,zA,zB,zC]
 refine zD7 rfl (by rfl) (fun K hK=>?_)
 go_simp
 refine (zLt B vb V1 H2.out.2.2.2.1 HLL.out.2).mono ?_
 rintro e V2 ⟨v2,rfl,hv2,hb1⟩
 have kk:=zK hb1
 have H3:=zzb (show V2.there (w.heap.size+1) 0 2/\Below w.heap.size w V2/\zHj V2 V.heap.size v1 A/\zHj V2 V1.heap.size v2 B/\w.heap.size+1<V.heap.size/\w.heap.size+1<V1.heap.size from ⟨kk.there H2.out.2.1 (by decide) id,H2.out.2.2.1.trans (hb1.mono H2.out.2.2.1.size),H2.out.2.2.2.2.1.below hb1,hv2,H2.out.2.2.2.2.2,zFi H2.out.2.1 (by decide)⟩)
 obtain⟨g1,k1,rfl,-⟩:=id H2.out.2.2.2.2.1
 obtain⟨g2,k2,rfl,-⟩:=id hv2
 clear kk hb1 hv2 H2
 generalize hn:A.length=n at H3 ⊢
 generalize hm:B.length=m at H3 ⊢
 refine hK _ _ ?_;clear hK K
 try simp only[zU,zA,zB,zC]
 refine zDi rfl (v:=?_) (by rfl) (fun W=>?_) ?_
 rotate_left
 ·go_simp
  try rfl
 try simp only[zU,zA,zB,zC]
 refine zD7 rfl (by rfl) (fun K hK=>?_)
 refine zHi _ _ (by rfl) (w.heap.size+1) (some ⟨g1,0,none⟩) (some ⟨g2,0,none⟩) n k1 m k2 (by rfl) (by rfl) H3.out.1 ?_
 refine hK _ _ ?_;clear hK K
 try simp only[zU,zA,zB,zC]
 refine zDn ?_
 go_wp2_with fail
 have kz:=zDt (w.heap.size+1) [.slice (some ⟨g1,0,none⟩) n k1,.slice (some ⟨g2,0,none⟩) m k2] 0 V2
 have hx1:=H3.out.2.2.1.keep kz (fun x hx e=>by have h1:=(H3.out.2.2.1.lt hx).1;have h2:=H3.out.2.2.2.2.1;omega)
 have hx2:=H3.out.2.2.2.1.keep kz (fun x hx e=>by have h1:=(H3.out.2.2.2.1.lt hx).1;have h2:=H3.out.2.2.2.2.2;omega)
 exact zzJ (zGc Tryz.results55 _ _ (w.heap.size+1) 0 [.slice (some ⟨g1,0,none⟩) n k1,.slice (some ⟨g2,0,none⟩) m k2] _ rfl (zDd _ _ _ _ (by exact zzd H3.out.1 _ _ _)) Tryz.underlying82 rfl zDy) rfl ⟨_,_,rfl,hx1.bytes,hx2.bytes,zDa _ (by omega) _ _ _ _ H3.out.2.1⟩
end Go.Proofs.YtdkcndgehgmadaaGreatDoor
