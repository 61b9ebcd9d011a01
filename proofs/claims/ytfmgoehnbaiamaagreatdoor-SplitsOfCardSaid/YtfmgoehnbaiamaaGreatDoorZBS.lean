/- Joined: Q10, QL1, QT1, QT2. -/
import Derived.Test.YtfmgoehnbaiamaaGreatDoorZBR
set_option maxRecDepth 100000
set_option maxHeartbeats 4000000
open Go Go.RowKit Alm
namespace Go.Proofs.YtfmgoehnbaiamaaGreatDoor
variable {cs:List (PE×List UInt8)}{P:List Keys.Pr}{S:List Sum}{bs:List UInt8}{base cap g m:Nat}{k which:Sum}{l tv v vS:Value}{W W' w:World}
structure HQ3(w W:World)(q z5 z7:Nat)(k which:Sum)(l v vS:Value)(P:List Keys.Pr)(bs:List UInt8)(S:List Sum):Prop where
 q:QW w W q
 rk:W.rangeAt z5 0 (cellsOf k)
 rs:W.rangeAt z7 0 (zDe which vS)
 pl:zDu W l P
 bv:zDk W v bs
 ss:zD1 W vS S
theorem HQ3.mem{q z5 z7:Nat}(h:HQ3 w W q z5 z7 k which l v vS P bs S)(hb:Below W.heap.size W W'):HQ3 w W' q z5 z7 k which l v vS P bs S:=by
 have kk:=zK hb
 exact⟨h.q.below hb,kk.range h.rk id,kk.range h.rs id,h.pl.below hb,zDg h.bv hb (zzc _),h.ss.below hb (zzc _)⟩
theorem HQ3.start(hl:zDu w l P)(hv:zDk w v bs)(hs:zD1 w vS S):
  HQ3 w (((w.alloc (.cells (cellsOf k).toArray 24)).alloc (.cells (zDe which vS).toArray 63)).alloc (.cells #[.slice none 0 0,.slice none 0 0] 82)) (w.heap.size+1+1) w.heap.size (w.heap.size+1) k which l v vS P bs S:=by
 have hb0:=al (al (al (zze _ w) (.cells (cellsOf k).toArray 24)) (.cells (zDe which vS).toArray 63)) (.cells #[.slice none 0 0,.slice none 0 0] 82)
 have hz1:(w.alloc (.cells (cellsOf k).toArray 24)).heap.size=w.heap.size+1:=zzT _
 have hz2:((w.alloc (.cells (cellsOf k).toArray 24)).alloc (.cells (zDe which vS).toArray 63)).heap.size=w.heap.size+1+1:=by rw[zzp,hz1]
 have hr0:=zzt (zzt (zDh w (cellsOf k).toArray 24 _ rfl) (.cells (zDe which vS).toArray 63)) (.cells #[.slice none 0 0,.slice none 0 0] 82)
 have hr1:=zzt (zDh (w.alloc (.cells (cellsOf k).toArray 24)) (zDe which vS).toArray 63 _ rfl) (.cells #[.slice none 0 0,.slice none 0 0] 82)
 have hk3:=heap_alloc_new ((w.alloc (.cells (cellsOf k).toArray 24)).alloc (.cells (zDe which vS).toArray 63)) (.cells #[.slice none 0 0,.slice none 0 0] 82)
 rw[hz1]at hr1
 rw[hz2]at hk3
 exact⟨⟨hb0,hk3⟩,hr0,hr1,hl.below hb0,zDg hv hb0 (zzc _),hs.below hb0 (zzc _)⟩
open Classical in
theorem yFz(k which:Sum)(l v vS:Value)(P:List Keys.Pr)(bs:List UInt8)(S:List Sum)(w:World)(hl:zDu w l P)(hF:∀ p∈P,p.2.length<900000)(hN:P.length<100000)(hv:zDk w v bs)(hs:zD1 w vS S)(hS:S.length<100000)(hbs:bs.length<900000):
  Calls Tryz.prog 41 #[l,sv k,v,shV which vS] w fun e w'=>QC (zEw P k bs which S).isSome e/\Below w.heap.size w w':=by
 obtain⟨m1,hm1⟩:∃ d,d=decide (May P):=⟨_,rfl⟩
 obtain⟨ck,hck⟩:∃ d,d=zGh (zEz P) k bs which S:=⟨_,rfl⟩
 obtain⟨ds,hds⟩:∃ d,d=decide (bs≠Keys.get P k):=⟨_,rfl⟩
 have HR:(zEw P k bs which S).isSome=(m1 && ck && ds):=by
  rw[yGp,hm1,hck,hds,zyo]
  simp only[Bool.and_eq_true,zzW,and_assoc]
 rw[HR]
 have i1:∀ W:World,zDu W l P->Calls Tryz.prog 110 #[l] W fun e w'=>e=.returned (.bool m1)/\Below W.heap.size W w':=fun W g=>by
  refine (zZp P l W g hN).mono ?_
  rintro e w' ⟨r,rfl,hr,hb⟩
  refine⟨?_,hb⟩
  rw[hm1]
  congr 2
  rw[zyo,zzW];exact hr
 have i2:∀ W:World,zDu W l P->Calls Tryz.prog 21 #[l] W fun e w'=>e=.returned (sv (zEz P))/\Below W.heap.size W w':=fun W g=>zQ9 P l W g hF hN
 obtain⟨X1,hX1⟩:∃ x,x=zEz P:=⟨_,rfl⟩
 have i3:=fun (W:World) g1 g2=>yDl (zEz P) k which v vS bs S W g1 g2 hS hbs
 rw[<-hck]at i3
 rw[<-hX1]at i2 i3
 have i4:=fun (W:World) g=>yJg P k l W g (fun p hp=>Nat.lt_trans (hF p hp) (by decide)) hN
 have hgl:(Keys.get P k).length<900000:=by
  unfold Keys.get
  cases hf:P.find? (fun p=>decide (p.1=k))with
  | none=>simp
  | some p=>exact hF p (List.mem_of_find?_eq_some hf)
 have i5:m1=true->∀ W:World,zDu W l P->Calls Tryz.prog 29 #[l,sv k] W fun e w'=>∃ wh vX,e=.returned (shV wh vX)/\zD1 w' vX (zFb (zFa k 256 P))/\zGh (zEz P) k (Keys.get P k) wh (zFb (zFa k 256 P))=true/\Below W.heap.size W w':=fun h W g=>by
  have hM:May P:=by rw[hm1,zzW]at h;exact h
  refine (yLw k P l W g hM.1 hF hN).mono ?_
  rintro e w' ⟨wh,vX,rfl,h1,h2,hb⟩
  exact⟨wh,vX,rfl,h1,zRe hM.1 (zUc k 256 P) h2,hb⟩
 have hsl:(zFb (zFa k 256 P)).length<100000:=zzz (zO9 k 256 P) hN
 have i6:ck=true->∀ (W:World) (wh:Sum) (u vX:Value),zGh (zEz P) k (Keys.get P k) wh (zFb (zFa k 256 P))=true->zDk W v bs->zD1 W vS S->zDk W u (Keys.get P k)->zD1 W vX (zFb (zFa k 256 P))->Calls Tryz.prog 43 #[sv k,v,shV which vS,u,shV wh vX] W fun e w'=>QC ds e/\Below W.heap.size W w':=fun h W wh u vX h2 g1 g2 g3 g4=>by
  have h3:=zYv k which wh v vS u vX bs (Keys.get P k) S (zFb (zFa k 256 P)) W g1 g2 hS hbs g3 g4 hsl hgl
  rw[yI0 (hck.symm.trans h) h2,<-hds]at h3
  exact h3
 have HI:=zAI i1 (zza i2 i3)
 have HJ:=zAI i4 (zza i5 i6)
 have hst:=HQ3.start (k:=k) (which:=which) hl hv hs
 obtain⟨q,hq'⟩:∃ q,q=w.heap.size+1+1:=⟨_,rfl⟩
 obtain⟨z7,hz7⟩:∃ q,q=w.heap.size+1:=⟨_,rfl⟩
 obtain⟨z5,hz5⟩:∃ q,q=w.heap.size:=⟨_,rfl⟩
 have HQ:=zzb (show w.heap.size<=q by omega)
 have HQE:=zAI hq' (zza hz7 hz5)
 rw[<-hq',<-hz7,<-hz5]at hst
 obtain⟨W0,hW0⟩:∃ x,x=(((w.alloc (.cells (cellsOf k).toArray 24)).alloc (.cells (zDe which vS).toArray 63)).alloc (.cells #[.slice none 0 0,.slice none 0 0] 82)):=⟨_,rfl⟩
 rw[<-hW0]at hst
 have H0:=zzb (hst.mem (zze _ _).drew)
 have HW0:=zzb hW0
 clear hl hF hN hv hs hS hbs hm1 hck hds HR i1 i2 i3 i4 i5 i6 hX1 hst hq' hz7 hz5 hW0 hgl hsl
 unfold shV
 go_enter Tryz.func41,Tryz.ntmps41
 refine Alm.wp_cut 1 ?_
 intro T hT
 dsimp only[zKi]
 replace hT:=zzb hT
 go_wp2_with fail
 refine hT.out _ _ ?_
 clear hT
 dsimp only[zF0]
 change Code.wp _ _ _ _ (((w.alloc (.cells (cellsOf k).toArray 24)).alloc (.cells (zDe which vS).toArray 63)).alloc (.cells #[.slice none 0 0,.slice none 0 0] 82))
 rw[<-HW0.out,<-HQE.out.1,<-HQE.out.2.1,<-HQE.out.2.2]
 clear HW0
 go_wp2_with fail
 refine zDd (fun V=>V.rangeAt z5 0 (cellsOf k)/\V.rangeAt z7 0 (zDe which vS)) [.t 0,.e 1 true,.t 2,.t 3,.t 4,.t 7,.s 6,.s 8,.e 5 true,.e 9 false,.t 10,.t 11] (by kernel_rfl) (by kernel_rfl) (by rintro _ _(_|_)_ _ h<;>exact h) ?_
 generalize World.drew _=V at *
 refine zDp rfl (v:=?_) (by rfl) (fun W=>?_) ?_
 rotate_left
 ·go_simp
  try rfl
 try simp only[zU,zA,zB,zC]
 refine zD8 rfl (by rfl) (fun K hK=>?_)
 go_simp
 refine (HI.out.1 V H0.out.pl).mono ?_
 rintro e V1 ⟨rfl,hb⟩
 have H1:=zzb (H0.out.mem hb)
 clear hb H0
 refine hK _ _ ⟨by exact⟨H1.out.rk,H1.out.rs⟩,?_⟩;clear hK K
 try simp only[zU,zA,zB,zC]
 cases m1 with
 | false =>
  iterate 2
   refine zDp rfl (v:=?_) (by rfl) (fun W=>?_) ?_
   rotate_left
   ·go_simp
    try rfl
   try simp only[zU,zA,zB,zC]
  iterate 2
   refine zD0 rfl (by rfl) ?_
   try simp only[zU,zA,zB,zC]
  iterate 2
   refine zE4 (by exact⟨H1.out.rk,H1.out.rs⟩) rfl (by rfl) ?_
   try simp only[zU,zA,zB,zC]
  refine zGd (by exact⟨H1.out.rk,H1.out.rs⟩) rfl (by rfl) ?_
  try simp only[zU,zA,zB,zC]
  refine zFo rfl (by rfl) ?_
  try simp only[zU,zA,zB,zC]
  refine zD0 rfl (by rfl) ?_
  try simp only[zU,zA,zB,zC]
  refine zDp rfl (v:=?_) (by rfl) (fun W=>?_) ?_
  rotate_left
  ·go_simp
   try rfl
  try simp only[zU,zA,zB,zC]
  refine zDn ?_
  go_wp2_with (refine zDo rfl _ _ rfl q (.slice none 0 0) (.slice none 0 0) rfl rfl rfl rfl H1.out.q.there ?_)
  try rw[zzs]
  exact zzM (zDq Tryz.results41 _ _ q 0 [_,_] _ rfl (zDf _ _ _ _ (zzd H1.out.q.there _ _ _)) Tryz.underlying82 rfl zD2) rfl ⟨⟨_,_,rfl,rfl,rfl⟩,by rw[HQE.out.2.2];exact zDc _ HQ.out _ _ _ _ H1.out.q.bw⟩
 | true =>
  replace HJ:=zAI HJ.out.1 (zza (HJ.out.2.1 rfl) HJ.out.2.2)
  iterate 4
   refine zDp rfl (v:=?_) (by rfl) (fun W=>?_) ?_
   rotate_left
   ·go_simp
    try rfl
   try simp only[zU,zA,zB,zC]
  refine zDl (by exact⟨H1.out.rk,H1.out.rs⟩) rfl (by rfl) _ (by rfl) z5 0 (by rfl) k (fun V hV=>hV.1) ?_
  try simp only[zU,zA,zB,zC]
  refine zN5 (by exact⟨H1.out.rk,H1.out.rs⟩) rfl (by rfl) _ (by rfl) z7 0 (by rfl) which vS (fun V hV=>hV.2) ?_
  try simp only[zU,zA,zB,zC]
  refine zD8 rfl (by rfl) (fun K hK=>?_)
  go_simp
  refine (HI.out.2.1 V1 H1.out.pl).mono ?_
  rintro e V2 ⟨rfl,hb⟩
  have H2:=zzb (H1.out.mem hb)
  clear hb H1
  refine hK _ _ ⟨by exact⟨H2.out.rk,H2.out.rs⟩,?_⟩;clear hK K
  try simp only[zU,zA,zB,zC]
  refine zEa rfl (by rfl) (fun K hK=>?_)
  go_simp
  refine (HI.out.2.2 V2 H2.out.bv H2.out.ss).mono ?_
  rintro e V3 ⟨rfl,hb⟩
  have H3:=zzb (H2.out.mem hb)
  clear hb H2 HI
  refine hK _ _ ?_;clear hK K
  try simp only[zU,zA,zB,zC]
  iterate 2
   refine zDp rfl (v:=?_) (by rfl) (fun W=>?_) ?_
   rotate_left
   ·go_simp
    try rfl
   try simp only[zU,zA,zB,zC]
  refine zDn ?_
  cases ck with
  | false =>
   go_wp2_with (refine zDo rfl _ _ rfl q (.slice none 0 0) (.slice none 0 0) rfl rfl rfl rfl H3.out.q.there ?_)
   try rw[zzs]
   exact zzM (zDq Tryz.results41 _ _ q 0 [_,_] _ rfl (zDf _ _ _ _ (zzd H3.out.q.there _ _ _)) Tryz.underlying82 rfl zD2) rfl ⟨⟨_,_,rfl,rfl,rfl⟩,by rw[HQE.out.2.2];exact zDc _ HQ.out _ _ _ _ H3.out.q.bw⟩
  | true =>
   replace HJ:=zAI HJ.out.1 (zza HJ.out.2.1 (HJ.out.2.2 rfl))
   have H4:=zzb (H3.out.mem (zze _ _).drew)
   clear H3
   go_wp2_with fail
   refine zDd (fun V=>V.rangeAt z5 0 (cellsOf k)/\V.rangeAt z7 0 (zDe which vS)) [.t 1,.t 3,.t 6,.s 0,.s 2,.s 4,.s 7,.e 5 true,.e 8 true,.e 9 false,.t 10,.t 11,.e 12 false,.t 13] (by kernel_rfl) (by kernel_rfl) (by rintro _ _(_|_)_ _ h<;>exact h) ?_
   generalize World.drew _=V4 at *
   iterate 3
    refine zDp rfl (v:=?_) (by rfl) (fun W=>?_) ?_
    rotate_left
    ·go_simp
     try rfl
    try simp only[zU,zA,zB,zC]
   refine zDl (by exact⟨H4.out.rk,H4.out.rs⟩) rfl (by rfl) _ (by rfl) z5 0 (by rfl) k (fun V hV=>hV.1) ?_
   try simp only[zU,zA,zB,zC]
   refine zN5 (by exact⟨H4.out.rk,H4.out.rs⟩) rfl (by rfl) _ (by rfl) z7 0 (by rfl) which vS (fun V hV=>hV.2) ?_
   try simp only[zU,zA,zB,zC]
   refine zDl (by exact⟨H4.out.rk,H4.out.rs⟩) rfl (by rfl) _ (by rfl) z5 0 (by rfl) k (fun V hV=>hV.1) ?_
   try simp only[zU,zA,zB,zC]
   refine zDl (by exact⟨H4.out.rk,H4.out.rs⟩) rfl (by rfl) _ (by rfl) z5 0 (by rfl) k (fun V hV=>hV.1) ?_
   try simp only[zU,zA,zB,zC]
   refine zD8 rfl (by rfl) (fun K hK=>?_)
   go_simp
   refine (HJ.out.1 V4 H4.out.pl).mono ?_
   rintro e V5 ⟨u,rfl,hu,hb⟩
   have H5:=zAI (H4.out.mem hb) hu
   clear hb hu H4
   refine hK _ _ ⟨by exact⟨H5.out.1.rk,H5.out.1.rs⟩,?_⟩;clear hK K
   try simp only[zU,zA,zB,zC]
   refine zD8 rfl (by rfl) (fun K hK=>?_)
   go_simp
   refine (HJ.out.2.1 V5 H5.out.1.pl).mono ?_
   rintro e V6 ⟨wh,vX,rfl,hx,hc,hb⟩
   have H6:=zAI (H5.out.1.mem hb) (zza (zDg H5.out.2 hb (zzc _)) (zza hx hc))
   clear hb hx hc H5
   refine hK _ _ ⟨by exact⟨H6.out.1.rk,H6.out.1.rs⟩,?_⟩;clear hK K
   try simp only[zU,zA,zB,zC]
   refine zEa rfl (by rfl) (fun K hK=>?_)
   go_simp
   refine (HJ.out.2.2 V6 wh u vX H6.out.2.2.2 H6.out.1.bv H6.out.1.ss H6.out.2.1 H6.out.2.2.1).mono ?_
   rintro e V7 ⟨⟨gx,gy,rfl,hgx,hgy⟩,hb⟩
   have H7:=zzb (H6.out.1.mem hb)
   have HG:=zAI hgx hgy
   clear hb hgx hgy H6
   refine hK _ _ ?_;clear hK K
   try simp only[zU,zA,zB,zC]
   iterate 2
    refine zDp rfl (v:=?_) (by rfl) (fun W=>?_) ?_
    rotate_left
    ·go_simp
     try rfl
    try simp only[zU,zA,zB,zC]
   refine zEa rfl (by rfl) (fun K hK=>?_)
   refine zKu _ _ (by rfl) q gx gy (by rfl) (by rfl) HG.out.1 HG.out.2 H7.out.q.there ?_
   refine hK _ _ ?_;clear hK K
   try simp only[zU,zA,zB,zC]
   refine zDp rfl (v:=?_) (by rfl) (fun W=>?_) ?_
   rotate_left
   ·go_simp
    try rfl
   try simp only[zU,zA,zB,zC]
   refine zDn ?_
   go_wp2_with fail
   try rw[zzs]
   exact zzM (zDq Tryz.results41 _ _ q 0 [_,_] _ rfl (zDf _ _ _ _ (zzd H7.out.q.there _ _ _)) Tryz.underlying82 rfl zD2) rfl ⟨⟨_,_,rfl,HG.out.1,HG.out.2⟩,by rw[HQE.out.2.2];exact zDc _ HQ.out _ _ _ _ H7.out.q.bw⟩
theorem yKl(A B:List UInt8)(va vb:Value)(w:World)(ha:zDk w va A)(hb:zDk w vb B)(hne:A≠B)(hs:sha A=sha B)(hlA:A.length<1000000)(hlB:B.length<1000000):
  Calls Tryz.prog 44 #[.agg #[va,vb],.bool true,.bool true] w fun e w'=>e=.returned (.bool true)/\Below w.heap.size w w':=by
 obtain⟨a1,n1,c1,rfl⟩:=zE1 ha
 obtain⟨a2,n2,c2,rfl⟩:=zE1 hb
 obtain⟨s1,hs1⟩:∃ s,s=zXv A:=⟨_,rfl⟩
 obtain⟨s2,hs2⟩:∃ s,s=zXv B:=⟨_,rfl⟩
 have hns:(s1.toList == s2.toList)=false:=by
  rw[hs1,hs2,zI3,zI3];simpa using hne
 obtain⟨X,hX⟩:∃ X,X=sha A:=⟨_,rfl⟩
 have hX2:X=sha B:=by rw[hX,hs]
 obtain⟨V,hV⟩:∃ V,V=(w.alloc (.cells #[.slice a1 n1 c1,.slice a2 n2 c2] 82)).drew:=⟨_,rfl⟩
 have b1:Below w.heap.size w V:=by rw[hV];exact (al (zze _ _) _).drew
 have hbd:Below (w.alloc (.cells #[.slice a1 n1 c1,.slice a2 n2 c2] 82)).heap.size (w.alloc (.cells #[.slice a1 n1 c1,.slice a2 n2 c2] 82)) V:=by rw[hV];exact (zze _ _).drew
 have r1:V.rangeAt w.heap.size 0 [.slice a1 n1 c1,.slice a2 n2 c2]:=(zK hbd).range (zDh w #[.slice a1 n1 c1,.slice a2 n2 c2] 82 _ rfl) id
 have g0:=r1 0 (.slice a1 n1 c1) rfl
 have g1:=r1 1 (.slice a2 n2 c2) rfl
 have hS:V.cell? ⟨w.heap.size,0,none⟩=some (.slice a1 n1 c1)/\V.cell? ⟨w.heap.size,1,none⟩=some (.slice a2 n2 c2)/\zDk V (.slice a1 n1 c1) A/\zDk V (.slice a2 n2 c2) B:=⟨g0,g1,zDg ha b1 (zzc _),zDg hb b1 (zzc _)⟩
 have HS:=zzb hS
 have HV:=zzb hV
 have HB:=zzb b1
 have HT:=zAI hs1 hs2
 have HF1:=zzb (zK4 A (.slice a1 n1 c1) V hS.2.2.1 hlA)
 have HF2:=zzb (fun (W:World) (g:zDk W (.slice a2 n2 c2) B)=>zK4 B (.slice a2 n2 c2) W g hlB)
 rw[<-hX]at HF1
 rw[<-hX2]at HF2
 have hes:=zMi
 clear ha hb hne hs hlA hlB hs1 hs2 hX hX2 hV b1 hbd r1 g0 g1 hS
 go_enter Tryz.func44,Tryz.ntmps44
 go_wp2_with fail
 refine zDd (fun W=>W.cell? ⟨w.heap.size,0,none⟩=some (.slice a1 n1 c1)/\W.cell? ⟨w.heap.size,1,none⟩=some (.slice a2 n2 c2)/\zDk W (.slice a1 n1 c1) A/\zDk W (.slice a2 n2 c2) B) [.t 0,.t 1,.t 2,.t 3,.t 4,.t 5,.t 6,.t 9,.s 7,.s 8,.s 10,.s 11,.t 12,.t 13,.t 14,.t 15,.t 18,.s 16,.s 19,.e 17 true,.e 20 false,.t 21,.t 22,.t 23,.t 24,.t 25,.t 26,.t 27,.e 28 false,.t 29,.t 30,.t 31,.t 32,.t 33,.e 34 false,.t 35,.t 36,.t 37,.t 38,.t 39,.t 40] (by kernel_rfl) (by kernel_rfl) (by rintro _ _(_|_)_ _ h<;>exact h) ?_
 change wpS _ _ _ _ _ _ _ ((w.alloc (.cells #[.slice a1 n1 c1,.slice a2 n2 c2] 82)).drew)
 rw[<-HV.out]
 iterate 8
  refine zDp rfl (v:=?_) (by rfl) (fun W=>?_) ?_
  rotate_left
  ·go_simp
   try rfl
  try simp only[zU,zA,zB,zC]
 refine zEx (by exact HS.out) rfl (v:=.slice a1 n1 c1) (by rfl) (fun W hW=>?_) ?_
 ·have g:=hW.1
  go_simp
 try simp only[zU,zA,zB,zC]
 refine zEx (by exact HS.out) rfl (v:=.string s1) (by rfl) (fun W hW=>?_) ?_
 ·have hk:=zGu hW.2.2.1
  rw[<-HT.out.1]at hk
  go_simp
 try simp only[zU,zA,zB,zC]
 refine zEx (by exact HS.out) rfl (v:=.slice a2 n2 c2) (by rfl) (fun W hW=>?_) ?_
 ·have g:=hW.2.1
  go_simp
 try simp only[zU,zA,zB,zC]
 refine zEx (by exact HS.out) rfl (v:=.string s2) (by rfl) (fun W hW=>?_) ?_
 ·have hk:=zGu hW.2.2.2
  rw[<-HT.out.2]at hk
  go_simp
 try simp only[zU,zA,zB,zC]
 iterate 5
  refine zDp rfl (v:=?_) (by rfl) (fun W=>?_) ?_
  rotate_left
  ·go_simp
   try rfl
  try simp only[zU,zA,zB,zC]
 refine zEx (by exact HS.out) rfl (v:=.slice a1 n1 c1) (by rfl) (fun W hW=>?_) ?_
 ·have g:=hW.1
  go_simp
 try simp only[zU,zA,zB,zC]
 refine zEx (by exact HS.out) rfl (v:=.slice a2 n2 c2) (by rfl) (fun W hW=>?_) ?_
 ·have g:=hW.2.1
  go_simp
 try simp only[zU,zA,zB,zC]
 refine zD8 rfl (by rfl) (fun K hK=>?_)
 go_simp
 refine HF1.out.mono ?_
 rintro e V1 ⟨rfl,hb1⟩
 have kk:=zK hb1
 have HS1:=zzb (show V1.cell? ⟨w.heap.size,0,none⟩=some (.slice a1 n1 c1)/\V1.cell? ⟨w.heap.size,1,none⟩=some (.slice a2 n2 c2)/\zDk V1 (.slice a1 n1 c1) A/\zDk V1 (.slice a2 n2 c2) B from ⟨kk.cell HS.out.1 id,kk.cell HS.out.2.1 id,zDg HS.out.2.2.1 hb1 (zzc _),zDg HS.out.2.2.2 hb1 (zzc _)⟩)
 have HB1:=zzb (HB.out.trans (hb1.mono HB.out.size))
 clear kk hb1 HS HB HF1
 refine hK _ _ ⟨by exact HS1.out,?_⟩;clear hK K
 try simp only[zU,zA,zB,zC]
 refine zEa rfl (by rfl) (fun K hK=>?_)
 go_simp
 refine (HF2.out V1 HS1.out.2.2.2).mono ?_
 rintro e V2 ⟨rfl,hb2⟩
 have HB2:=zzb (HB1.out.trans (hb2.mono HB1.out.size))
 clear hb2 HS1 HB1 HF2
 refine hK _ _ ?_;clear hK K
 try simp only[zU,zA,zB,zC]
 iterate 3
  refine zDp rfl (v:=?_) (by rfl) (fun W=>?_) ?_
  rotate_left
  ·go_simp
   try rfl
  try simp only[zU,zA,zB,zC]
 iterate 4
  refine zD0 rfl (by rfl) ?_
  try simp only[zU,zA,zB,zC]
 refine zFo rfl (by rfl) ?_
 try simp only[zU,zA,zB,zC]
 iterate 5
  refine zD0 rfl (by rfl) ?_
  try simp only[zU,zA,zB,zC]
 refine zFo rfl (by rfl) ?_
 try simp only[zU,zA,zB,zC]
 iterate 3
  refine zD0 rfl (by rfl) ?_
  try simp only[zU,zA,zB,zC]
 iterate 3
  refine zDp rfl (v:=?_) (by rfl) (fun W=>?_) ?_
  rotate_left
  ·go_simp
   try rfl
  try simp only[zU,zA,zB,zC]
 refine zDn ?_
 go_wp2_with fail
 exact zzM (zzN rfl _ _ _) rfl ⟨rfl,HB2.out⟩
theorem yMr(w:World):Calls Tryz.prog 44 #[.agg #[.slice none 0 0,.slice none 0 0],.bool false,.bool false] w fun e w'=>e=.returned (.bool true)/\Below w.heap.size w w':=by
 obtain⟨V,hV⟩:∃ V,V=(w.alloc (.cells #[.slice none 0 0,.slice none 0 0] 82)).drew:=⟨_,rfl⟩
 have b1:Below w.heap.size w V:=by rw[hV];exact (al (zze _ _) _).drew
 have hbd:Below (w.alloc (.cells #[.slice none 0 0,.slice none 0 0] 82)).heap.size (w.alloc (.cells #[.slice none 0 0,.slice none 0 0] 82)) V:=by rw[hV];exact (zze _ _).drew
 have r1:V.rangeAt w.heap.size 0 [.slice none 0 0,.slice none 0 0]:=(zK hbd).range (zDh w #[.slice none 0 0,.slice none 0 0] 82 _ rfl) id
 have g0:=r1 0 (.slice none 0 0) rfl
 have g1:=r1 1 (.slice none 0 0) rfl
 have HS:=zAI g0 g1
 have HV:=zzb hV
 have HB:=zzb b1
 clear hV b1 hbd r1 g0 g1
 go_enter Tryz.func44,Tryz.ntmps44
 go_wp2_with fail
 refine zDd (fun W=>W.cell? ⟨w.heap.size,0,none⟩=some (.slice none 0 0)/\W.cell? ⟨w.heap.size,1,none⟩=some (.slice none 0 0)) [.t 0,.t 1,.t 2,.t 3,.t 4,.t 5,.t 6,.t 9,.s 7,.s 8,.s 10,.s 11,.t 12,.t 13,.t 14,.t 15,.t 18,.s 16,.s 19,.e 17 true,.e 20 false,.t 21,.t 22,.t 23,.t 24,.t 25,.t 26,.t 27,.e 28 false,.t 29,.t 30,.t 31,.t 32,.t 33,.e 34 false,.t 35,.t 36,.t 37,.t 38,.t 39,.t 40] (by kernel_rfl) (by kernel_rfl) (by rintro _ _(_|_)_ _ h<;>exact h) ?_
 change wpS _ _ _ _ _ _ _ ((w.alloc (.cells #[.slice none 0 0,.slice none 0 0] 82)).drew)
 rw[<-HV.out]
 iterate 6
  refine zDp rfl (v:=?_) (by rfl) (fun W=>?_) ?_
  rotate_left
  ·go_simp
   try rfl
  try simp only[zU,zA,zB,zC]
 iterate 2
  refine zD0 rfl (by rfl) ?_
  try simp only[zU,zA,zB,zC]
 iterate 4
  refine zE4 (by exact HS.out) rfl (by rfl) ?_
  try simp only[zU,zA,zB,zC]
 refine zD0 rfl (by rfl) ?_
 try simp only[zU,zA,zB,zC]
 iterate 2
  refine zDp rfl (v:=?_) (by rfl) (fun W=>?_) ?_
  rotate_left
  ·go_simp
   try rfl
  try simp only[zU,zA,zB,zC]
 iterate 2
  refine zD0 rfl (by rfl) ?_
  try simp only[zU,zA,zB,zC]
 iterate 2
  refine zE4 (by exact HS.out) rfl (by rfl) ?_
  try simp only[zU,zA,zB,zC]
 refine zGd (by exact HS.out) rfl (by rfl) ?_
 try simp only[zU,zA,zB,zC]
 refine zFo rfl (by rfl) ?_
 try simp only[zU,zA,zB,zC]
 refine zD0 rfl (by rfl) ?_
 try simp only[zU,zA,zB,zC]
 iterate 6
  refine zDp rfl (v:=?_) (by rfl) (fun W=>?_) ?_
  rotate_left
  ·go_simp
   try rfl
  try simp only[zU,zA,zB,zC]
 refine zEa rfl (by rfl) (fun K hK=>?_)
 have g:=HS.out.1
 go_simp
 clear g
 refine hK _ _ ?_;clear hK K
 try simp only[zU,zA,zB,zC]
 iterate 5
  refine zDp rfl (v:=?_) (by rfl) (fun W=>?_) ?_
  rotate_left
  ·go_simp
   try rfl
  try simp only[zU,zA,zB,zC]
 refine zEa rfl (by rfl) (fun K hK=>?_)
 have g:=HS.out.2
 go_simp
 clear g
 refine hK _ _ ?_;clear hK K
 try simp only[zU,zA,zB,zC]
 iterate 6
  refine zDp rfl (v:=?_) (by rfl) (fun W=>?_) ?_
  rotate_left
  ·go_simp
   try rfl
  try simp only[zU,zA,zB,zC]
 refine zDn ?_
 go_wp2_with fail
 exact zzM (zzN rfl _ _ _) rfl ⟨rfl,HB.out⟩
structure TP(w W:World)(tv:Value)(cs:List (PE×List UInt8)):Prop where
 below:Below w.heap.size w W
 row:W.ownsRow w.heap.size 41 33 tv cs.length (zDz (cs.map Prod.fst))
 each:∀ c∈cs,zH7 W w.heap.size (peV c.1) c.2
 apart:zR5 cs
 off:∀ c∈cs,∀ k,(peV c.1).ownBlock=some k->tv.ownBlock≠some k
theorem zH7.lt{l:List UInt8}(h:zH7 W base v l){k:Nat}(hk:v.ownBlock=some k):base<=k/\k<W.heap.size:=by
 obtain⟨g,cap,rfl,hl⟩:=h
 exact hl.lt k hk
theorem zH7.mono{b:Nat}{l:List UInt8}(h:zH7 W base v l)(hb:b<=base):zH7 W b v l:=by
 obtain⟨g,cap,rfl,hl⟩:=h
 exact⟨g,cap,rfl,hl.mono hb⟩
theorem TP.mem(h:TP w W tv cs)(hb:Below W.heap.size W W'):TP w W' tv cs :=
 ⟨h.below.trans (hb.mono h.below.size),(zK hb).owns h.row (fun _ _ h=>h),fun c hc=>(h.each c hc).below hb,h.apart,h.off⟩
theorem TP.grow(h:TP w W tv cs){ps:List PE}
  (ho:W'.ownsRow w.heap.size 41 33 (.slice (some ⟨g,0,none⟩) m cap) m (zDz (cs.map Prod.fst++ps))) (hg:W.grownBy W' tv.ownBlock) (hat:tv.ownBlock=some g∨g=W.heap.size) :
  Below w.heap.size w W'/\(∀ c∈cs,zH7 W' w.heap.size (peV c.1) c.2)/\(∀ c∈cs,∀ k,(peV c.1).ownBlock=some k->g≠k):=by
 have hk:zDj (fun k=>tv.ownBlock=some k) W W':=zDj.of_grown hg (fun k hk=>hk)
 refine⟨h.below.trans (hk.below h.below.size (fun k hk=>zFx h.row k hk)),fun c hc=>(h.each c hc).keep hk (fun k h1 h2=>h.off c hc k h1 h2),fun c hc k hk2 e=>?_⟩
 rcases hat with e3 | e3
 ·exact h.off c hc k hk2 (by rw[e3,e])
 ·have:=((h.each c hc).lt hk2).2;omega
theorem TP.push(h:TP w W tv cs){y:PE}{b:List UInt8}(hy:zH7 W w.heap.size (peV y) b)(hn1:∀ k,(peV y).ownBlock=some k->tv.ownBlock≠some k)(hn2:∀ c∈cs,∀ k,(peV c.1).ownBlock=some k->(peV y).ownBlock≠some k)(hm:m=cs.length+1)
  (ho:W'.ownsRow w.heap.size 41 33 (.slice (some ⟨g,0,none⟩) m cap) m (zDz (cs.map Prod.fst++[y]))) (hg:W.grownBy W' tv.ownBlock) (hat:tv.ownBlock=some g∨g=W.heap.size):TP w W' (.slice (some ⟨g,0,none⟩) m cap) (cs++[(y,b)]):=by
 obtain⟨h1,h2,h3⟩:=h.grow ho hg hat
 have hk:zDj (fun k=>tv.ownBlock=some k) W W':=zDj.of_grown hg (fun k hk=>hk)
 have hyk:=hy.keep hk (fun k h1 h2=>hn1 k h1 h2)
 refine⟨h1,?_,fun c hc=>?_,?_,fun c hc k hk2 e=>?_⟩
 ·rw[zzi,zzy,<-hm,zyh];exact ho
 ·rcases zzO.1 hc with hc | hc
  ·exact h2 c hc
  ·rw[zzx.1 hc];exact hyk
 ·unfold zR5
  rw[List.pairwise_append]
  refine⟨h.apart,List.pairwise_singleton _ _,fun a ha c hc k hk2=>?_⟩
  rw[zzx.1 hc]
  exact hn2 a ha k hk2
 ·have e':g=k:=by simpa[Value.ownBlock]using e
  rcases zzO.1 hc with hc | hc
  ·exact h3 c hc k hk2 e'
  ·rw[zzx.1 hc]at hk2
   rcases hat with e3 | e3
   ·exact hn1 k hk2 (by rw[e3,e'])
   ·have:=(hy.lt hk2).2;omega
structure zL5(W:World)(base:Nat)(v:Value)(cs:List (PE×List UInt8)):Prop where
 row:∃ g cap,v=.slice (some ⟨g,0,none⟩) cs.length cap/\Lie W base 33 (.slice (some ⟨g,0,none⟩) (cs.length+1) cap) ((cs.map fun c=>zEf c.1)++[zEf (pkP 77)])
 each:∀ c∈cs,zH7 W base (peV c.1) c.2
 apart:zR5 cs
 off:∀ c∈cs,∀ k,(peV c.1).ownBlock=some k->v.ownBlock≠some k
theorem zL5.pairsL(h:zL5 W base v cs):zKf W base v cs:=by
 obtain⟨⟨g,cap,rfl,hl⟩,h2,h3,h4⟩:=h
 exact⟨hl.front (by rw[zzm]),fun c hc=>(h2 c hc).lie,h3,h4⟩
theorem zL5.keep{X:Nat->Prop}(h:zL5 W base v cs)(hk:zDj X W W')(hv:∀ k,v.ownBlock=some k->¬X k)(hx:∀ c∈cs,∀ k,(peV c.1).ownBlock=some k->¬X k):zL5 W' base v cs:=by
 obtain⟨⟨g,cap,rfl,hl⟩,h2,h3,h4⟩:=h
 exact⟨⟨g,cap,rfl,hl.keep hk (fun k hk2=>hv k hk2)⟩,fun c hc=>(h2 c hc).keep hk (hx c hc),h3,h4⟩
theorem zL5.below(h:zL5 W base v cs)(hb:Below W.heap.size W W'):zL5 W' base v cs:=h.keep (X:=fun _=>False) (zDj.of_below hb) (fun _ _ h=>h) (fun _ _ _ _ h=>h)
theorem yJn(l:List (List Value))(cs:List (PE×List UInt8))(hl:l=(cs.map fun c=>zEf c.1)++[zEf (pkP 77)]):∀ x∈l,x.length=33:=fun x hx=>by
 rw[hl]at hx
 rcases zzO.1 hx with hx | hx
 ·obtain⟨c,_,rfl⟩:=zzQ.1 hx
  exact zD4 _
 ·rw[zzx.1 hx];exact zD4 _
theorem yD5{j:Nat}{y:Keys.Pr}(h:cs.map (fun c=>(c.1.1,c.2))=P.take j)(hy:P[j]? = some y)(x:PE)(hx:x.1=y.1):(cs++[(x,y.2)]).map (fun c=>(c.1.1,c.2))=P.take (j+1):=by
 obtain⟨hj,e⟩:=zzl.1 hy
 rw[zyh,h,zzJ hj,e,List.map_singleton,hx]
theorem zRx(P:List Keys.Pr)(v:Value)(w:World)(hv:zDu w v P)(hF:∀ p∈P,p.2.length<900000)(hl:P.length<100000):
  Calls Tryz.prog 37 #[v] w fun e w'=>∃ v' cs,e=.returned v'/\zL5 w' w.heap.size v' cs/\cs.map (fun c=>(c.1.1,c.2))=P/\Below w.heap.size w w':=by
 obtain⟨va,vc,rfl,hc1,hc2⟩:=zD9 hv
 obtain⟨n,hn⟩:∃ n,n=P.length:=⟨_,rfl⟩
 rw[<-hn]at hv hc1 hl ⊢
 obtain⟨n1,hn1⟩:∃ m,m=n+1:=⟨_,rfl⟩
 have hw1:wrap64 ((n:Int)+1)=((n1:Nat):Int):=by unfold wrap64;omega
 obtain⟨i0,z0,hi0,hz0,hs0,hb0,hzs0⟩:=zI0
 have HI:=zAI hi0 (zza hz0 (zza hs0 hb0))
 have HV:=zAI hv (zza hn (zza hl (zza hn1 hF)))
 have q3:(n:Int)<=(vc:Int):=by omega
 clear hv hn hc1 hc2 hl hn1 hi0 hz0 hs0 hb0 hzs0 hF
 go_enter Tryz.func37,Tryz.ntmps37
 go_wp2_with (at_make;refine Hid.out ?_)
 refine zzb ?_
 try rw[hw1]
 refine wpList_make_own _ rfl _ _ _ rfl w.heap.size 41 i0 z0 33 Tryz.underlying22 HI.out.1 HI.out.2.1 HI.out.2.2.1 .i64 .i64 (n1:Int) n1 rfl (by rfl) rfl (by rw[HI.out.2.2.2];have:=HV.out.2.2;omega) (by unfold maxLen;have:=HV.out.2.2;omega) (zzc _) ?_
 intro w2 ho2 hg2
 have hb2:Below w.heap.size w w2:=zDj.below (B:=w.heap.size) (zDj.of_grown (X:=fun _=>False) hg2 (fun k hk=>by cases hk)) (zzc _) (fun _ h=>h.elim)
 have H2:=zzb (show TP w w2 (.slice (some ⟨w.heap.size,0,none⟩) 0 n1) [] from ⟨hb2,ho2,fun c hc=>(by cases hc),List.Pairwise.nil,fun c hc=>(by cases hc)⟩)
 clear ho2 hg2 hb2 HI
 go_wp2_with fail
 go_loopw [3,4] (fun tv iv W=>∃ (i:Nat) (cs:List (PE×List UInt8)),i<=n/\iv=.int .i64 (i:Int)/\cs.length=i/\(∃ a c,tv=.slice a i c)/\cs.map (fun c=>(c.1.1,c.2))=P.take i/\TP w W tv cs) (fun _ iv _=>n - (intOf iv).toNat)
 case atStart=>exact⟨0,[],zye _,rfl,rfl,⟨_,_,rfl⟩,rfl,H2.out⟩
 case round =>
  clear H2
  obtain⟨i,cs,hi,rfl,hcl,⟨ta,tc,rfl⟩,hcs,hT⟩:=hrel
  have HT:=zAI hT (zza hcl hcs)
  clear hT hcl hcs
  by_cases hlt:i<n
  ·obtain⟨d1,d2,d3,d4⟩:=zHy hlt
   have hPA:=HV.out.1
   rw[HV.out.2.1]at hPA
   obtain⟨ba,oa,ca',y,yb,he1,hr1,hyb,hyP⟩:=zEn hPA (i:=i) (by rw[<-HV.out.2.1];exact hlt)
   simp only[zzh]at he1
   obtain⟨rfl,-,rfl⟩:=he1
   have HX1:=zAI ((zK HT.out.1.below).range hr1 id) (zza (zDg hyb HT.out.1.below (zzc _)) hyP)
   have HL:=zAI hlt (HV.out.2.2.2.2 (y.1,yb) (List.mem_iff_getElem?.2 ⟨i,hyP⟩))
   have hwi:wrap64 ((i:Int)+1)=((i+1:Nat):Int):=zE2 (m:=100000) (by have:=HV.out.2.2.1;omega) (by decide)
   have HWI:=zzb hwi
   clear hPA hr1 hyb hyP hlt hwi
   go_wp2_with (refine zEg rfl _ rfl ba (oa+i*33) rfl y HX1.out.1 ?_)
   refine (yGl y yb _ HX1.out.2.1 HL.out.2).mono ?_
   rintro e V1 ⟨g1,c1,rfl,htw,hb1⟩
   have H1:=zAI (HT.out.1.mem hb1) htw
   have hn1:∀ k,(Value.slice (some ⟨g1,0,none⟩) yb.length c1).ownBlock=some k->(Value.slice ta i tc).ownBlock≠some k:=fun k hk e=>by
    have h1:=(htw.lt hk).1
    have h2:=zI2 HT.out.1.row e
    omega
   have hn2:∀ c∈cs,∀ k,(peV c.1).ownBlock=some k->(Value.slice (some ⟨g1,0,none⟩) yb.length c1).ownBlock≠some k:=fun c hc k hk e=>by
    have h1:=(htw.lt e).1
    have h2:=((HT.out.1.each c hc).lt hk).2
    omega
   obtain⟨y1,hy1⟩:∃ y1:PE,y1=(y.1,some ⟨g1,0,none⟩,yb.length,c1):=⟨_,rfl⟩
   have HN:=zzb (show (∀ k,(peV y1).ownBlock=some k->(Value.slice ta i tc).ownBlock≠some k)/\(∀ c∈cs,∀ k,(peV c.1).ownBlock=some k->(peV y1).ownBlock≠some k)/\zH7 V1 w.heap.size (peV y1) yb/\y1.1=y.1 from by rw[hy1];exact⟨hn1,hn2,htw.mono HT.out.1.below.size,rfl⟩)
   have HCS:=zzb HT.out.2
   rw[<-hy1]
   clear htw hb1 hn1 hn2 hy1 HT
   have HG:=zzb trivial
   go_wp2_with (first
    | (have _:=HG;refine zE3 rfl 1 _ rfl [y1] rfl (by omega) (by omega) rfl ?_;have hb2:=al (zze V1.heap.size V1) (.cells (zDz [y1]).toArray 41);have HP3:=zAI (H1.out.1.mem hb2) (zza (zDh V1 (zDz [y1]).toArray 41 _ rfl) (HN.out.2.2.1.below hb2));clear HG hb2;generalize V1.heap.size=y8 at *;generalize V1.alloc (.cells (zDz [y1]).toArray 41)=V2 at *)
    | (have _:=HP3;refine zEr rfl _ _ rfl w.heap.size (.slice ta i tc) (cs.map Prod.fst) [y1] i 1 (by rw[zzm];exact HCS.out.1) rfl rfl (by have hx:=HP3.out.1.row;rw[HCS.out.1]at hx;exact hx) y8 0 1 rfl HP3.out.2.1 (by omega) (by have:=HV.out.2.2.1;have:=HL.out.1;omega) HP3.out.1.below.size ?_;intro g9 cap9 V4 ho9 hg9 hat9 _;have HQ9:=zzb (HP3.out.1.push (b:=yb) (m:=i+1) HP3.out.2.2 HN.out.1 HN.out.2.1 (by rw[HCS.out.1]) ho9 hg9 hat9);clear ho9 hg9 hat9 HP3))
   try rw[HWI.out]
   exact⟨⟨i+1,cs++[(y1,yb)],HL.out.1,rfl,by rw[zzi,zzy,HCS.out.1],⟨_,_,rfl⟩,yD5 HCS.out.2 HX1.out.2.2 y1 HN.out.2.2.2,HQ9.out⟩,by simp only[intOf,zzF];have:=HL.out.1;omega⟩
  ·obtain rfl:i=n:=by omega
   have htk:P.take i=P:=zzD (by rw[<-HV.out.2.1];exact zzc _)
   rw[htk]at HT
   clear htk
   have hlit:(Value.agg (yOp 77))=.agg (zEf (pkP 77)).toArray:=yLh (b:=UInt8.ofNat 77) (by decide)
   have HLIT:=zzb hlit
   clear hlit
   have HG:=zzb trivial
   go_wp2_with (first
    | (have _:=HG;refine zLv rfl _ rfl (pkP 77) HLIT.out ?_;have hb2:=al (zze wr.heap.size wr) (.cells (zEf (pkP 77)).toArray 41);have HP3:=zAI (HT.out.1.mem hb2) (zDh wr (zEf (pkP 77)).toArray 41 _ rfl);clear HG hb2;generalize wr.heap.size=y8 at *;generalize wr.alloc (.cells (zEf (pkP 77)).toArray 41)=V2 at *;refine Hid.out ?_))
   refine zzb ?_
   refine zEr rfl _ _ rfl w.heap.size (.slice ta i tc) (cs.map Prod.fst) [pkP 77] i 1 (by rw[zzm];exact HT.out.2.1) rfl rfl (by have hx:=HP3.out.1.row;rw[HT.out.2.1]at hx;exact hx) y8 0 1 rfl (by have hx:=HP3.out.2;rw[show zDz [pkP 77]=zEf (pkP 77) by simp[zDz]];exact hx) (by omega) (by have:=HV.out.2.2.1;omega) HP3.out.1.below.size ?_
   intro g9 cap9 V4 ho9 hg9 hat9 _
   obtain⟨e1,e2,e3⟩:=HP3.out.1.grow ho9 hg9 hat9
   have hlie:Lie V4 w.heap.size 33 (.slice (some ⟨g9,0,none⟩) (i+1) cap9) ((cs.map fun c=>zEf c.1)++[zEf (pkP 77)]):=zP5 (n:=i+1) (by
    rw[List.flatten_append,zN0,List.flatten_singleton]
    have hx:=ho9
    rw[zGk,show zDz [pkP 77]=zEf (pkP 77) by simp[zDz]]at hx
    exact hx) (by rw[zzi,zzm,zzy,HT.out.2.1]) (yJn _ cs rfl)
   have hcp:i+1<=cap9:=by
    rcases hlie with ⟨h0,_⟩ | ⟨g',cap',hv4,_,_,hnc,_⟩
    ·cases h0
    ·simp only[zzh,zzj,zyn,and_true]at hv4
     obtain⟨rfl,h5,rfl⟩:=hv4
     rw[<-h5]at hnc;exact hnc
   have hi3:(i:Int)<=(cap9:Int):=by omega
   have hi4:i<=cap9:=by omega
   have HF:=zzb (show zL5 V4 w.heap.size (.slice (some ⟨g9,0,none⟩) i cap9) cs from ⟨⟨g9,cap9,by rw[HT.out.2.1],by rw[HT.out.2.1];exact hlie⟩,e2,HP3.out.1.apart,fun c hc k hk e=>e3 c hc k hk (by simpa[Value.ownBlock]using e)⟩)
   have HE:=zAI e1 HT.out.2.2
   clear ho9 hg9 hat9 e1 e2 e3 hlie hcp HP3 HT
   go_wp2_with fail
   exact zzM (zzN (t:=2) rfl _ _ _) rfl ⟨_,cs,rfl,HF.out,HE.out.2,HE.out.1⟩
theorem zSt(P:List Keys.Pr)(cs:List (PE×List UInt8))(vt v:Value)(base:Nat)(w:World)(ht:zL5 w base vt cs)(hcs:cs.map (fun c=>(c.1.1,c.2))=P)(hv:zDu w v P)(hF:∀ p∈P,p.2.length<900000)(hl:P.length<100000):
  Calls Tryz.prog 45 #[vt,v] w fun e w'=>e=.returned (.bool true)/\Below w.heap.size w w':=by
 obtain⟨va,vc,rfl,hc1,hc2⟩:=zD9 hv
 obtain⟨⟨g,cap,rfl,hlie⟩,hte,_,_⟩:=ht
 have hcn:cs.length=P.length:=by rw[<-hcs,zzm]
 have hcp:cs.length+1<=cap/\w.rangeAt g 0 (zDz (cs.map Prod.fst++[pkP 77])):=by
  rcases hlie with ⟨h0,_⟩ | ⟨g',cap',hv4,_,_,hnc,_,hr,_⟩
  ·cases h0
  ·simp only[zzh,zzj,zyn,and_true]at hv4
   obtain⟨rfl,_,rfl⟩:=hv4
   rw[zzi,zzm,zzy]at hnc
   rw[List.flatten_append,zN0,List.flatten_singleton]at hr
   rw[zGk,show zDz [pkP 77]=zEf (pkP 77) by simp[zDz]]
   exact⟨hnc,hr⟩
 obtain⟨n,hn⟩:∃ n,n=P.length:=⟨_,rfl⟩
 rw[hcn]at hcp ⊢
 rw[<-hn]at hv hc1 hl hcp hcn ⊢
 obtain⟨k1,k2,k3,k4,k5,k6,k7,k8,k9,k10⟩:=zQy (Nat.lt_trans hl (by decide)) hcp.1
 obtain⟨n1,hn1⟩:∃ m,m=n+1:=⟨_,rfl⟩
 rw[<-hn1]at k1 k6 k8 k10
 have q3:(n:Int)<=(vc:Int):=by omega
 have HV:=zAI hv (zza hn (zza hl (zza hn1 (zza hF (zza hcp.2 (zza hcn (zza hcs hte)))))))
 clear hv hn hc1 hc2 hl hn1 hF hcp hlie hte hcn hcs
 have hes:=zMi
 go_enter Tryz.func45,Tryz.ntmps45
 go_wp2_with fail
 go_loopw [5] (fun iv W=>∃ i:Nat,i<=n/\iv=.int .i64 (i:Int)/\Below w.heap.size w W) (fun iv _=>n - (intOf iv).toNat)
 case atStart=>exact⟨0,zye _,rfl,zze _ _⟩
 case round =>
  obtain⟨i,hi,rfl,hB⟩:=hrel
  by_cases hlt:i<n
  ·obtain⟨d1,d2,d3,d4⟩:=zHy hlt
   have hBD:Below w.heap.size w wr.drew:=hB.drew
   have hic:i<cs.length:=by rw[HV.out.2.2.2.2.2.2.1];exact hlt
   obtain⟨ba,oa,ca',x,xb,he1,hr1,hxb,hxP⟩:=zEn (by have:=HV.out.1;rw[HV.out.2.1]at this;exact this.below hBD) (i:=i) (by rw[<-HV.out.2.1];exact hlt)
   simp only[zzh]at he1
   obtain⟨rfl,-,rfl⟩:=he1
   have hr2:=(zK hBD).range (zJ3 HV.out.2.2.2.2.2.1 (i:=i) (by rw[zzi,zzm];omega)) id
   rw[zzg,zzG (by rw[zzm];exact hic),zzP,zzf hic,Option.map_some,Option.getD_some,zzn]at hr2
   have hte:=(HV.out.2.2.2.2.2.2.2.2 cs[i] (List.getElem_mem hic)).keep (zK hBD) (fun _ _ h=>h)
   have hpx:(cs[i].1.1,cs[i].2)=(x.1,xb):=by
    have h1:=hxP
    rw[<-HV.out.2.2.2.2.2.2.2.1,zzP,zzf hic,Option.map_some,zzj]at h1
    exact h1
   have hln:=HV.out.2.2.2.2.1 (x.1,xb) (List.mem_iff_getElem?.2 ⟨i,hxP⟩)
   obtain⟨y,hy⟩:∃ y,y=cs[i]:=⟨_,rfl⟩
   rw[<-hy]at hr2 hte hpx
   obtain⟨y1,yb⟩:=y
   obtain⟨hk,rfl⟩:=Prod.mk.inj hpx
   have HX:=zAI hr2 (zza hr1 (zza hBD (yF0 y1 x hk yb base wr.drew hte hxb hln)))
   have HLT:=zzb hlt
   clear hr1 hr2 hte hpx hln hy hic hxP hxb hBD hk hlt hB
   go_wp2_with fail
   refine zDd (fun V=>V.rangeAt g (i*33) (zEf y1)) [.t 0,.t 1,.t 2,.t 4,.t 5,.t 6,.s 3,.e 7 true,.e 8 false,.t 9] (by kernel_rfl) (by kernel_rfl) (by rintro _ _(_|_)_ _ h<;>exact h) ?_
   generalize wr.drew=V at *
   iterate 6
    refine zDp rfl (v:=?_) (by rfl) (fun W=>?_) ?_
    rotate_left
    ·go_simp
     try rfl
    try simp only[zU,zA,zB,zC]
   refine zUb (by exact HX.out.1) rfl (by rfl) _ (by rfl) g (i*33) (by rfl) y1 (fun V hV=>hV) ?_
   try simp only[zU,zA,zB,zC]
   refine zD8 rfl (by rfl) (fun K hK=>?_)
   refine zOz _ (by rfl) ba (oa+i*33) (by rfl) x HX.out.2.1 ?_
   refine hK _ _ ⟨by exact HX.out.1,?_⟩;clear hK K
   try simp only[zU,zA,zB,zC]
   refine zEa rfl (by rfl) (fun K hK=>?_)
   go_simp
   refine HX.out.2.2.2.mono ?_
   rintro e V2 ⟨rfl,hb2⟩
   have H2:=zzb (HX.out.2.2.1.trans (hb2.mono HX.out.2.2.1.size))
   clear hb2 HX
   refine hK _ _ ?_;clear hK K
   try simp only[zU,zA,zB,zC]
   refine zDp rfl (v:=?_) (by rfl) (fun W=>?_) ?_
   rotate_left
   ·go_simp
    try rfl
   try simp only[zU,zA,zB,zC]
   refine zDn ?_
   go_wp2_with fail
   have hwi:=yEg (k:=i) (by have:=HV.out.2.2.1;have:=HLT.out;omega)
   try rw[hwi]
   have h9:=H2.out
   have h8:=HLT.out
   clear hwi H2 HV hes k1 k2 k3 k4 k5 k6 k7 k8 k9 k10 d1 d2 d3 d4
   refine⟨⟨i+1,h8,rfl,h9⟩,?_⟩
   clear h9
   simp only[intOf,zzF]
   omega
  ·obtain rfl:i=n:=by omega
   have hr2:=(zK hB).range (zJ3 HV.out.2.2.2.2.2.1 (i:=i) (by rw[zzi,zzm,HV.out.2.2.2.2.2.2.1];exact Nat.lt_succ_self _)) id
   rw[zzg,zzo (by rw[zzm,HV.out.2.2.2.2.2.2.1];exact zzc _),zzm,HV.out.2.2.2.2.2.2.1,Nat.sub_self,zzn]at hr2
   have hr3:wr.rangeAt g (i*33) (zEf (pkP 77)):=hr2
   have HX:=zAI hr3 hB
   clear hr2 hr3 hB
   go_wp2_with (first
    | (refine zEg rfl _ rfl g (i*33) rfl (pkP 77) HX.out.1 ?_)
    | (refine zHz (by rfl) rfl _ _ rfl (pkP 77) rfl rfl ?_;refine Hid.out ?_))
   refine zzb ?_
   intro W2 hb hr2
   have H2:=zAI (zD7 hr2) (HX.out.2.trans (hb.mono HX.out.2.size))
   clear hb hr2
   go_wp2_with (first
    | (refine zDb rfl _ rfl wr.heap.size 0 rfl (mkS 77) H2.out.1 ?_)
    | (refine zJ5 rfl rfl ?_))
   exact zzM (zzN rfl _ _ _) rfl ⟨rfl,H2.out.2⟩
end Go.Proofs.YtfmgoehnbaiamaaGreatDoor
