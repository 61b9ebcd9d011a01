/- Joined: D16, MP8, D17, U14, LW, D19. -/
import Derived.Test.YtfmgoehnbaiamaaGreatDoorZBR
import Derived.Lib.SlBytesConst
import Derived.Lib.SlBytesRow
set_option maxRecDepth 100000
set_option maxHeartbeats 4000000
open Go Go.RowKit Alm
namespace Go.Proofs.YtfmgoehnbaiamaaGreatDoor
variable {p:Keys.Pr}{R:List (Nat×Sum)}{H:List (Nat×Sum×Value×List Sum)}{B:List (Value×List UInt8)}{l:List Keys.Pr}{S S' T:List Sum}{v w:List UInt8}{K a b e m n:Nat}{k w1 w2 which which':Sum}{s1 s2 v1 v2:Value}{W W':World}
open Classical in
theorem yE2{U:List Sum}(h:zEh which S=some T)(h':zEh which' S'=some U):zEq k v which S w which' S'=if zE7 k 256 T (vl k v)=zE7 k 256 U (vl k w)/\v≠w then part (zF4 k v T) (zF4 k w U) else none:=by
 unfold zEq
 rw[h,h']
theorem yLq(h:zEh which S=none):zEq k v which S w which' S'=none:=by
 unfold zEq
 rw[h]
theorem yL4(h:zEh which' S'=none):zEq k v which S w which' S'=none:=by
 unfold zEq
 rw[h]
 cases zEh which S<;>rfl
theorem zZq(k which which':Sum)(v vS v' vS':Value)(bs bs':List UInt8)(S S':List Sum)(w:World)(hv:zDk w v bs)(hs:zD1 w vS S)(hS:S.length<100000)(hbs:bs.length<140737488355000)(hv':zDk w v' bs')(hs':zD1 w vS' S')(hS':S'.length<100000)(hbs':bs'.length<140737488355000):
  Calls Tryz.prog 42 #[sv k,v,shV which vS,v',shV which' vS'] w fun e w'=>AP w.heap.size w' (zEq k bs which S bs' which' S') e/\Below w.heap.size w w':=by
 have HV:=zAI hv (zza hs (zza hS hbs))
 have HV':=zAI hv' (zza hs' (zza hS' hbs'))
 clear hv hs hS hbs hv' hs' hS' hbs'
 have hb0:=al (al (al (al (zze _ w) (.cells (cellsOf k).toArray 24)) (.cells (zDe which vS).toArray 63)) (.cells (zDe which' vS').toArray 63)) (.cells #[.slice none 0 0,.slice none 0 0] 82)
 have hz1:(w.alloc (.cells (cellsOf k).toArray 24)).heap.size=w.heap.size+1:=zzT _
 have hz2:((w.alloc (.cells (cellsOf k).toArray 24)).alloc (.cells (zDe which vS).toArray 63)).heap.size=w.heap.size+1+1:=by rw[zzp,hz1]
 have hz3:(((w.alloc (.cells (cellsOf k).toArray 24)).alloc (.cells (zDe which vS).toArray 63)).alloc (.cells (zDe which' vS').toArray 63)).heap.size=w.heap.size+1+1+1:=by rw[zzp,hz2]
 have hr0:=zzt (zzt (zzt (zDh w (cellsOf k).toArray 24 _ rfl) (.cells (zDe which vS).toArray 63)) (.cells (zDe which' vS').toArray 63)) (.cells #[.slice none 0 0,.slice none 0 0] 82)
 have hr1:=zzt (zzt (zDh (w.alloc (.cells (cellsOf k).toArray 24)) (zDe which vS).toArray 63 _ rfl) (.cells (zDe which' vS').toArray 63)) (.cells #[.slice none 0 0,.slice none 0 0] 82)
 have hr2:=zzt (zDh ((w.alloc (.cells (cellsOf k).toArray 24)).alloc (.cells (zDe which vS).toArray 63)) (zDe which' vS').toArray 63 _ rfl) (.cells #[.slice none 0 0,.slice none 0 0] 82)
 have hk3:=heap_alloc_new (((w.alloc (.cells (cellsOf k).toArray 24)).alloc (.cells (zDe which vS).toArray 63)).alloc (.cells (zDe which' vS').toArray 63)) (.cells #[.slice none 0 0,.slice none 0 0] 82)
 rw[hz1]at hr1
 rw[hz2]at hr2
 rw[hz3]at hk3
 obtain⟨q,hq⟩:∃ q,q=w.heap.size+1+1+1:=⟨_,rfl⟩
 rw[<-hq]at hk3
 have HQ:=zzb (show w.heap.size<=q by omega)
 have HQE:=zzb hq
 have H0:=zzb (show QW w _ q/\_/\_/\_ from ⟨⟨hb0,hk3⟩,hr0,hr1,hr2⟩)
 clear hb0 hz1 hz2 hz3 hr0 hr1 hr2 hk3 hq
 unfold shV
 go_enter Tryz.func42,Tryz.ntmps42
 go_wp2_with (first
  | (refine zDb rfl _ rfl w.heap.size 0 rfl k H0.out.2.1 ?_)
  | (refine zD6 rfl _ rfl (w.heap.size+1) 0 rfl which vS H0.out.2.2.1 ?_))
 have hb4:=zDg HV.out.1 H0.out.1.bw (zzc _)
 have hs4:=HV.out.2.1.below H0.out.1.bw (zzc _)
 have HL0:=zzb (zQb k which v vS bs S _ hb4 hs4 HV.out.2.2.1 HV.out.2.2.2)
 clear hb4 hs4
 refine HL0.out.mono ?_
 clear HL0
 rw[<-HQE.out]
 rintro r Wa ⟨hlp,hb⟩
 have hqz:=(zzw.1 H0.out.1.k).1
 have HQ1:=zzb (zzk hqz hb.size)
 have H1:=zAI (H0.out.1.below hb) (zza ((zK hb).range H0.out.2.1 id) ((zK hb).range H0.out.2.2.2 id))
 clear hb H0
 obtain⟨x1,o1,rfl,HP1⟩:∃ x o,r=.returned (.tuple #[x,.bool o])/\RowKit.Hid ((o=true/\∃ T p ve,zEh which S=some T/\x=.pointer (some ⟨p,0,none⟩)/\zKv Wa p (zE7 k 256 T (vl k bs)) (zIp k 256 T (vl k bs)) ve (zId k bs)/\∀ i,ve.ownBlock=some i->q+1<=i/\i<Wa.heap.size)∨(o=false/\zEh which S=none)):=by
  rcases hlp with ⟨T,p2,ve2,hlt,rfl,hw2,_,hf2⟩ | ⟨hln,x,rfl⟩
  ·exact⟨_,_,rfl,zzb (.inl ⟨rfl,T,p2,ve2,hlt,rfl,hw2,fun i hi=>⟨zzk hqz (hf2 i hi),(hw2.en.lb.lt i hi).2⟩⟩)⟩
  ·exact⟨_,_,rfl,zzb (.inr ⟨rfl,hln⟩)⟩
 clear hlp hqz
 go_wp2_with (first
  | (refine zDb rfl _ rfl w.heap.size 0 rfl k H1.out.2.1 ?_)
  | (refine zD6 rfl _ rfl (w.heap.size+1+1) 0 rfl which' vS' H1.out.2.2 ?_))
 have hb4:=zDg HV'.out.1 H1.out.1.bw (zzc _)
 have hs4:=HV'.out.2.1.below H1.out.1.bw (zzc _)
 have HL0:=zzb (zQb k which' v' vS' bs' S' _ hb4 hs4 HV'.out.2.2.1 HV'.out.2.2.2)
 clear hb4 hs4
 refine HL0.out.mono ?_
 clear HL0
 rintro r Wb ⟨hlp,hb⟩
 have H2:=zzb (H1.out.1.below hb)
 have HQ2:=zzb (zzk HQ1.out hb.size)
 have HP1':RowKit.Hid ((o1=true/\∃ T p ve,zEh which S=some T/\x1=.pointer (some ⟨p,0,none⟩)/\zKv Wb p (zE7 k 256 T (vl k bs)) (zIp k 256 T (vl k bs)) ve (zId k bs)/\∀ i,ve.ownBlock=some i->q+1<=i/\i<Wa.heap.size)∨(o1=false/\zEh which S=none)):=by
  rcases HP1.out with ⟨e,T,p,ve,h1,h2,h3,h4⟩ | h
  ·exact zzb (.inl ⟨e,T,p,ve,h1,h2,h3.below hb,h4⟩)
  ·exact zzb (.inr h)
 clear hb H1 HP1
 obtain⟨x2,o2,rfl,HP2⟩:∃ x o,r=.returned (.tuple #[x,.bool o])/\RowKit.Hid ((o=true/\∃ T p ve,zEh which' S'=some T/\x=.pointer (some ⟨p,0,none⟩)/\zKv Wb p (zE7 k 256 T (vl k bs')) (zIp k 256 T (vl k bs')) ve (zId k bs')/\∀ i,ve.ownBlock=some i->Wa.heap.size<=i)∨(o=false/\zEh which' S'=none)):=by
  rcases hlp with ⟨T,p2,ve2,hlt,rfl,hw2,_,hf2⟩ | ⟨hln,x,rfl⟩
  ·exact⟨_,_,rfl,zzb (.inl ⟨rfl,T,p2,ve2,hlt,rfl,hw2,hf2⟩)⟩
  ·exact⟨_,_,rfl,zzb (.inr ⟨rfl,hln⟩)⟩
 clear hlp
 go_wp2_with fail
 have H3:=zzb (H2.out.below (zze _ _).drew)
 have HP3:RowKit.Hid ((o1=true/\∃ T p ve,zEh which S=some T/\x1=.pointer (some ⟨p,0,none⟩)/\zKv Wb.drew p (zE7 k 256 T (vl k bs)) (zIp k 256 T (vl k bs)) ve (zId k bs)/\∀ i,ve.ownBlock=some i->q+1<=i/\i<Wa.heap.size)∨(o1=false/\zEh which S=none)):=by
  rcases HP1'.out with ⟨e,T,p,ve,h1,h2,h3,h4⟩ | h
  ·exact zzb (.inl ⟨e,T,p,ve,h1,h2,h3.below (zze _ _).drew,h4⟩)
  ·exact zzb (.inr h)
 have HP4:RowKit.Hid ((o2=true/\∃ T p ve,zEh which' S'=some T/\x2=.pointer (some ⟨p,0,none⟩)/\zKv Wb.drew p (zE7 k 256 T (vl k bs')) (zIp k 256 T (vl k bs')) ve (zId k bs')/\∀ i,ve.ownBlock=some i->Wa.heap.size<=i)∨(o2=false/\zEh which' S'=none)):=by
  rcases HP2.out with ⟨e,T,p,ve,h1,h2,h3,h4⟩ | h
  ·exact zzb (.inl ⟨e,T,p,ve,h1,h2,h3.below (zze _ _).drew,h4⟩)
  ·exact zzb (.inr h)
 have HB0:=zzb (show q+1<=Wb.drew.heap.size from HQ2.out)
 clear H2 HP1' HP2
 refine zDd (fun V=>Below Wb.drew.heap.size Wb.drew V) [.t 0,.t 1,.t 2,.t 3,.t 4,.t 5,.t 6,.t 7,.t 8,.t 9,.t 11,.t 12,.t 13,.s 10,.e 14 true,.t 15,.t 16,.t 17,.t 18,.t 19,.e 20 false,.t 21] (by kernel_rfl) (by kernel_rfl) (by rintro _ _(_|_)_ _ h<;>exact h) ?_
 generalize Wb.drew=V3 at *
 iterate 3
  refine zDp rfl (v:=?_) (by rfl) (fun W=>?_) ?_
  rotate_left
  ·go_simp
   try rfl
  try simp only[zU,zA,zB,zC]
 rcases HP3.out with ⟨rfl,T,p1,ve1,hlt1,rfl,hw1,hf1⟩ | ⟨rfl,hln1⟩
 ·have HT1:=zAI hlt1 hw1
  have HF1:=zzb hf1
  clear hlt1 hw1 hf1 HP3
  iterate 4
   refine zDp rfl (v:=?_) (by rfl) (fun W=>?_) ?_
   rotate_left
   ·go_simp
    try rfl
   try simp only[zU,zA,zB,zC]
  rcases HP4.out with ⟨rfl,U,p2,ve2,hlt2,rfl,hw2,hf2⟩ | ⟨rfl,hln2⟩
  ·have HT2:=zAI hlt2 hw2
   have HF2:=zzb hf2
   clear hlt2 hw2 hf2 HP4
   obtain⟨a1,n1,c1,rfl⟩:=zE1 HV.out.1
   obtain⟨a2,n2,c2,rfl⟩:=zE1 HV'.out.1
   obtain⟨ra,hra⟩:∃ r,r=zE7 k 256 T (vl k bs):=⟨_,rfl⟩
   obtain⟨rb,hrb⟩:∃ r,r=zE7 k 256 U (vl k bs'):=⟨_,rfl⟩
   have heq:=zHi ra rb
   have HR:=zAI hra hrb
   have HC1:=zzb (HT1.out.2.root)
   have HC2:=zzb (HT2.out.2.root)
   rw[<-hra]at HC1
   rw[<-hrb]at HC2
   clear hra hrb
   iterate 6
    refine zDp rfl (v:=?_) (by rfl) (fun W=>?_) ?_
    rotate_left
    ·go_simp
     try rfl
    try simp only[zU,zA,zB,zC]
   refine zDl (zze _ _) rfl (by rfl) _ (by rfl) p1 0 (by rfl) ra (fun W hW=>(zK hW).range HC1.out id) ?_
   try simp only[zU,zA,zB,zC]
   refine zD8 rfl (by rfl) (fun K hK=>?_)
   refine zEb _ (by rfl) p2 0 (by rfl) rb HC2.out ?_
   refine hK _ _ ⟨zze _ _,?_⟩;clear hK K
   try simp only[zU,zA,zB,zC]
   by_cases hrr:ra=rb
   ·rw[zz2 hrr]at heq
    have HRR:=zzb hrr
    clear hrr
    refine zDp rfl (v:=?_) (by rfl) (fun W=>?_) ?_
    rotate_left
    ·go_simp
     try rfl
    try simp only[zU,zA,zB,zC]
    clear heq
    iterate 4
     refine zDp rfl (v:=?_) (by rfl) (fun W=>?_) ?_
     rotate_left
     ·go_simp
      try rfl
     try simp only[zU,zA,zB,zC]
    refine zEa rfl (by rfl) (fun K hK=>?_)
    go_simp
    refine (zP2 bs bs' _ _ V3 (zDg HV.out.1 H3.out.bw (zzc _)) (zDg HV'.out.1 H3.out.bw (zzc _))).mono ?_
    rintro rr V4 ⟨rfl,rfl⟩
    refine hK _ _ ?_;clear hK K
    try simp only[zU,zA,zB,zC]
    by_cases hee:bs=bs'
    ·have HN:=zzb (show zEq k bs which S bs' which' S'=none by rw[yE2 HT1.out.1 HT2.out.1,zzZ (fun h=>h.2 hee)])
     rw[zz2 hee]
     have H4q:=zzb H3.out
     clear hee
     refine zDp rfl (v:=?_) (by rfl) (fun W=>?_) ?_
     rotate_left
     ·go_simp
      try rfl
     try simp only[zU,zA,zB,zC]
     refine zDn ?_
     go_wp2_with (refine zDo rfl _ _ rfl q (.slice none 0 0) (.slice none 0 0) rfl rfl rfl rfl H4q.out.there ?_)
     try rw[zzs]
     refine zzM (zDq Tryz.results42 _ _ q 0 [.slice none 0 0,.slice none 0 0] _ rfl (zDf _ _ _ _ (zzd H4q.out.there _ _ _)) Tryz.underlying82 rfl zD2) rfl ?_
     exact⟨by rw[HN.out];rfl,zDc _ HQ.out _ _ _ _ H4q.out.bw⟩
    ·have HN:=zzb (show zEq k bs which S bs' which' S'=part (zF4 k bs T) (zF4 k bs' U) by rw[yE2 HT1.out.1 HT2.out.1,zzY ⟨by rw[<-HR.out.1,<-HR.out.2];exact HRR.out,hee⟩])
     rw[zz1 hee]
     have H4q:=zzb H3.out
     clear hee
     refine zDp rfl (v:=?_) (by rfl) (fun W=>?_) ?_
     rotate_left
     ·go_simp
      try rfl
     try simp only[zU,zA,zB,zC]
     refine zDn ?_
     go_wp2_with fail
     obtain⟨o,ho⟩:∃ o,o=part (zF4 k bs T) (zF4 k bs' U):=⟨_,rfl⟩
     have hc:=zTi p1 p2 _ _ _ _ _ _ _ _ V3 HT1.out.2 HT2.out.2 (zGb _ _ _ _ (zFs HT1.out.1)) (zGb _ _ _ _ (zFs HT2.out.1)) (q+1) HB0.out (fun i hi=>(HF1.out i hi).1) (fun i hi=>zzk HQ1.out (HF2.out i hi)) (fun i h1 h2=>by have h3:=(HF1.out i h1).2;have h4:=HF2.out i h2;omega)
     change Calls _ _ _ _ (fun e w'=>AP (q+1) w' (part (zF4 k bs T) (zF4 k bs' U)) e/\Below _ _ w')at hc
     rw[<-ho]at hc
     have HO:=zzb ho
     clear ho
     refine hc.mono ?_
     clear hc
     rintro e W9 ⟨hA,hb⟩
     have H9:=zzb (H4q.out.below hb)
     clear hb
     cases o with
     | none =>
      unfold AP at hA
      subst hA
      go_wp2_with (refine zDo rfl _ _ rfl q (.slice none 0 0) (.slice none 0 0) rfl rfl rfl rfl H9.out.there ?_)
      try rw[zzs]
      refine zzM (zDq Tryz.results42 _ _ q 0 [.slice none 0 0,.slice none 0 0] _ rfl (zDf _ _ _ _ (zzd H9.out.there _ _ _)) Tryz.underlying82 rfl zD2) rfl ?_
      exact⟨by rw[HN.out,<-HO.out];rfl,zDc _ HQ.out _ _ _ _ H9.out.bw⟩
     | some c =>
      obtain⟨A1,B1⟩:=c
      obtain⟨va1,vb1,rfl,hva1,hvb1,hvap⟩:=hA
      obtain⟨aa1,na1,ca1,rfl⟩:∃ a n c,va1=.slice a n c:=by obtain⟨a,c,h⟩:=hva1.form;exact⟨a,_,c,h⟩
      obtain⟨ab1,nb1,cb1,rfl⟩:∃ a n c,vb1=.slice a n c:=by obtain⟨a,c,h⟩:=hvb1.form;exact⟨a,_,c,h⟩
      have HV:=zAI hva1 (zza hvb1 hvap)
      clear hva1 hvb1 hvap
      go_wp2_with (refine zDo rfl _ _ rfl q (.slice aa1 na1 ca1) (.slice ab1 nb1 cb1) rfl rfl rfl rfl H9.out.there ?_)
      try rw[zzs]
      refine zzM (zDq Tryz.results42 _ _ q 0 [.slice aa1 na1 ca1,.slice ab1 nb1 cb1] _ rfl (zDf _ _ _ _ (zzd H9.out.there _ _ _)) Tryz.underlying82 rfl zD2) rfl ?_
      exact⟨by rw[HN.out,<-HO.out];exact⟨_,_,rfl,zTx HV.out.1 HV.out.2.1 HV.out.2.2 (Nat.lt_succ_self q) (Nat.le_succ_of_le HQ.out) _⟩,zDc _ HQ.out _ _ _ _ H9.out.bw⟩
   ·rw[zz1 hrr]at heq
    have HN:=zzb (show zEq k bs which S bs' which' S'=none by rw[yE2 HT1.out.1 HT2.out.1,zzZ (fun h=>hrr (by rw[HR.out.1,HR.out.2];exact h.1))])
    have H4q:=zzb H3.out
    clear hrr
    refine zDp rfl (v:=?_) (by rfl) (fun W=>?_) ?_
    rotate_left
    ·go_simp
     try rfl
    try simp only[zU,zA,zB,zC]
    clear heq
    iterate 2
     refine zDp rfl (v:=?_) (by rfl) (fun W=>?_) ?_
     rotate_left
     ·go_simp
      try rfl
     try simp only[zU,zA,zB,zC]
    iterate 2
     refine zD0 rfl (by rfl) ?_
     try simp only[zU,zA,zB,zC]
    refine zFo rfl (by rfl) ?_
    try simp only[zU,zA,zB,zC]
    refine zDp rfl (v:=?_) (by rfl) (fun W=>?_) ?_
    rotate_left
    ·go_simp
     try rfl
    try simp only[zU,zA,zB,zC]
    refine zDn ?_
    go_wp2_with (refine zDo rfl _ _ rfl q (.slice none 0 0) (.slice none 0 0) rfl rfl rfl rfl H4q.out.there ?_)
    try rw[zzs]
    refine zzM (zDq Tryz.results42 _ _ q 0 [.slice none 0 0,.slice none 0 0] _ rfl (zDf _ _ _ _ (zzd H4q.out.there _ _ _)) Tryz.underlying82 rfl zD2) rfl ?_
    exact⟨by rw[HN.out];rfl,zDc _ HQ.out _ _ _ _ H4q.out.bw⟩
  ·have HN:=zzb (show zEq k bs which S bs' which' S'=none from yL4 hln2)
   have H4q:=zzb H3.out
   clear hln2 HP4
   iterate 6
    refine zD0 rfl (by rfl) ?_
    try simp only[zU,zA,zB,zC]
   refine zE4 (zze _ _) rfl (by rfl) ?_
   try simp only[zU,zA,zB,zC]
   refine zGd (zze _ _) rfl (by rfl) ?_
   try simp only[zU,zA,zB,zC]
   refine zD0 rfl (by rfl) ?_
   try simp only[zU,zA,zB,zC]
   iterate 2
    refine zDp rfl (v:=?_) (by rfl) (fun W=>?_) ?_
    rotate_left
    ·go_simp
     try rfl
    try simp only[zU,zA,zB,zC]
   iterate 2
    refine zD0 rfl (by rfl) ?_
    try simp only[zU,zA,zB,zC]
   refine zFo rfl (by rfl) ?_
   try simp only[zU,zA,zB,zC]
   refine zDp rfl (v:=?_) (by rfl) (fun W=>?_) ?_
   rotate_left
   ·go_simp
    try rfl
   try simp only[zU,zA,zB,zC]
   refine zDn ?_
   go_wp2_with (refine zDo rfl _ _ rfl q (.slice none 0 0) (.slice none 0 0) rfl rfl rfl rfl H4q.out.there ?_)
   try rw[zzs]
   refine zzM (zDq Tryz.results42 _ _ q 0 [.slice none 0 0,.slice none 0 0] _ rfl (zDf _ _ _ _ (zzd H4q.out.there _ _ _)) Tryz.underlying82 rfl zD2) rfl ?_
   exact⟨by rw[HN.out];rfl,zDc _ HQ.out _ _ _ _ H4q.out.bw⟩
 ·have HN:=zzb (show zEq k bs which S bs' which' S'=none from yLq hln1)
  have H4q:=zzb H3.out
  clear hln1 HP3 HP4
  iterate 2
   refine zD0 rfl (by rfl) ?_
   try simp only[zU,zA,zB,zC]
  iterate 2
   refine zDp rfl (v:=?_) (by rfl) (fun W=>?_) ?_
   rotate_left
   ·go_simp
    try rfl
   try simp only[zU,zA,zB,zC]
  iterate 6
   refine zD0 rfl (by rfl) ?_
   try simp only[zU,zA,zB,zC]
  refine zE4 (zze _ _) rfl (by rfl) ?_
  try simp only[zU,zA,zB,zC]
  refine zGd (zze _ _) rfl (by rfl) ?_
  try simp only[zU,zA,zB,zC]
  refine zD0 rfl (by rfl) ?_
  try simp only[zU,zA,zB,zC]
  iterate 2
   refine zDp rfl (v:=?_) (by rfl) (fun W=>?_) ?_
   rotate_left
   ·go_simp
    try rfl
   try simp only[zU,zA,zB,zC]
  iterate 2
   refine zD0 rfl (by rfl) ?_
   try simp only[zU,zA,zB,zC]
  refine zFo rfl (by rfl) ?_
  try simp only[zU,zA,zB,zC]
  refine zDp rfl (v:=?_) (by rfl) (fun W=>?_) ?_
  rotate_left
  ·go_simp
   try rfl
  try simp only[zU,zA,zB,zC]
  refine zDn ?_
  go_wp2_with (refine zDo rfl _ _ rfl q (.slice none 0 0) (.slice none 0 0) rfl rfl rfl rfl H4q.out.there ?_)
  try rw[zzs]
  refine zzM (zDq Tryz.results42 _ _ q 0 [.slice none 0 0,.slice none 0 0] _ rfl (zDf _ _ _ _ (zzd H4q.out.there _ _ _)) Tryz.underlying82 rfl zD2) rfl ?_
  exact⟨by rw[HN.out];rfl,zDc _ HQ.out _ _ _ _ H4q.out.bw⟩
theorem zZ2(x:PE)(l:List UInt8)(w:World)(hb:zDk w (peV x) l)(hl:l.length<281474976710656):Calls Tryz.prog 118 #[.agg (zEf x).toArray] w fun e w'=>e=.returned (.int .i64 ((l.length+1:Nat):Int))/\Below w.heap.size w w':=by
 obtain⟨a,c,hv,_,_,_⟩:=hb
 have h1:(w.alloc (.cells (zEf x).toArray 41)).rangeAt w.heap.size 0 (zEf x):=zDh w (zEf x).toArray 41 _ rfl
 have hB:=al (zze _ w) (.cells (zEf x).toArray 41)
 have HB:=zzb hB
 have c1:=zJu h1
 rw[hv]at c1
 obtain⟨n,hn⟩:∃ n,n=l.length:=⟨_,rfl⟩
 rw[<-hn]at c1 hl ⊢
 have hw:wrap64 (1+(n:Int))=((n+1:Nat):Int):=by unfold wrap64;omega
 have HW:=zzb hw
 clear h1 hB hv hn hw hl
 go_enter Tryz.func118,Tryz.ntmps118
 go_wp2_with fail
 refine (yOj _ _ _ _).mono ?_
 rintro e w1 ⟨rfl,rfl⟩
 go_wp2_with fail
 try rw[HW.out]
 exact zzM (zzN rfl _ _ _) rfl ⟨rfl,HB.out⟩
theorem yMk{P:List Keys.Pr}{j:Nat}{y:Sum}{bs:List UInt8}(h:P[j]? = some (y,bs))(hn:∀ p∈P.take j,p.2.length<=n)(hm:n<=m)(hb:bs.length<=m):∀ p∈P.take (j+1),p.2.length<=m:=fun p hp=>by
 have hj:=(zzl.1 h).1
 have he:=(zzl.1 h).2
 rw[zzJ hj,zzO,zzx]at hp
 rcases hp with hp | hp
 ·exact zzk (hn p hp) hm
 ·rw[hp,he];exact hb
theorem yHy(P:List Keys.Pr)(v:Value)(w:World)(hv:zDu w v P)(hn:P.length<1000000)(hR:∀ p∈P,p.2.length<281474976710656):Calls Tryz.prog 47 #[v] w fun e w'=>(∃ n:Nat,e=.returned (.int .i64 (n:Int))/\(n<=1048576->∀ p∈P,p.2.length<=n))/\Below w.heap.size w w':=by
 have HV:=zzb hv
 have HRR:=zzb hR
 obtain⟨a,cap,rfl,h1,h2⟩:=zD9 hv
 obtain⟨N,hN⟩:∃ N,N=P.length:=⟨_,rfl⟩
 rw[<-hN]at HV h1 hn ⊢
 have HN:=zAI hN hn
 clear hv hN h2 hR
 have k1:(N:Int)<=(cap:Int):=by omega
 go_enter Tryz.func47,Tryz.ntmps47
 go_wp2_with fail
 go_loopw [3,4] (fun nv iv W=>∃ (n j:Nat),nv=.int .i64 (n:Int)/\j<=N/\iv=.int .i64 (j:Int)/\(∀ p∈P.take j,p.2.length<=n)/\Below w.heap.size w W) (fun _ iv _=>N - (intOf iv).toNat)
 case atStart=>exact⟨_,0,rfl,by omega,rfl,(fun p hp=>by simp at hp),zze _ _⟩
 case round =>
  obtain⟨n,j,rfl,hj,rfl,hq,hB⟩:=hrel
  have HB:=zzb hB
  have HQ:=zzb hq
  clear hB hq
  by_cases hlt:j<N
  ·have c1:decide (j<N)=true:=by simpa using hlt
   have c1':decide ((j:Int)<(N:Int))=true:=by simp;omega
   by_cases hle:n<=1048576
   ·have c2:decide ((n:Int)<=1048576)=true:=by simp;omega
    have c2':decide (n<=1048576)=true:=by simpa using hle
    obtain⟨b,o,cap',y,bs,he,hr,hy,hP⟩:=zEn (HV.out.below HB.out) (i:=j) (by rw[<-HN.out.1];exact hlt)
    simp only[zzh]at he
    obtain⟨rfl,-,rfl⟩:=he
    have hmem:=List.mem_of_getElem? hP
    have hbs:=HRR.out _ hmem
    have HR:=zAI hr (zza hy (zza hbs (yMk hP HQ.out (m:=n+(bs.length+1)) (by omega) (by omega))))
    have hwn:wrap64 ((n:Int)+((bs.length+1:Nat):Int))=((n+(bs.length+1):Nat):Int):=by simp only at hbs;unfold wrap64;omega
    have HWN:=zzb hwn
    have hwj:wrap64 ((j:Int)+1)=((j+1:Nat):Int):=by have:=HN.out.2;unfold wrap64;omega
    have HWJ:=zzb hwj
    have HLT:=zzb hlt
    clear hr hy hP hmem hbs hwn hwj hle
    obtain⟨L1,hL1⟩:∃ L1,L1=bs.length+1:=⟨_,rfl⟩
    rw[<-hL1]at HWN HR
    have HL1:=zzb hL1
    clear hL1
    go_wp2_with (first
     | (refine zEg rfl _ rfl b (o+j*33) rfl y HR.out.1 ?_)
     | (go_at_call 118;refine (zZ2 y bs _ HR.out.2.1 HR.out.2.2.1).mono ?_;rintro e w1 ⟨rfl,hb1⟩;rw[<-HL1.out];have HB1:=zzb (HB.out.trans (hb1.mono HB.out.size));clear hb1))
    first
     | rw[HWN.out]
     | skip
    first
     | rw[HWJ.out]
     | skip
    have hlt:=HLT.out
    exact⟨⟨n+L1,j+1,rfl,hlt,rfl,HR.out.2.2.2,HB1.out⟩,by simp only[intOf,zzF];omega⟩
   ·have c2:decide ((n:Int)<=1048576)=false:=by simp;omega
    have c2':decide (n<=1048576)=false:=by simpa using hle
    have HLE:=zzb hle
    clear hle
    go_wp2_with fail
    exact zzM (zzN rfl _ _ _) rfl ⟨⟨_,rfl,fun h=>(HLE.out h).elim⟩,HB.out⟩
  ·have c1:decide (j<N)=false:=by simpa using hlt
   have c1':decide ((j:Int)<(N:Int))=false:=by simp;omega
   have hq:=HQ.out
   rw[zzD (by rw[<-HN.out.1];omega)]at hq
   have HQ2:=zzb hq
   clear hq
   go_wp2_with fail
   exact zzM (zzN rfl _ _ _) rfl ⟨⟨_,rfl,fun _=>HQ2.out⟩,HB.out⟩
def zHk(k:Sum)(v1 v2:Value)(w1:Sum)(s1:Value)(w2:Sum)(s2:Value):List Value:=cellsOf k++([v1,v2]++(zDe w1 s1++zDe w2 s2))
def zQw(k:Sum)(v1 v2:Value)(w1:Sum)(s1:Value)(w2:Sum)(s2:Value):Value:=.agg (zHk k v1 v2 w1 s1 w2 s2).toArray
structure Z17(W:World)(b:Nat)(k:Sum)(v1 v2:Value)(w1:Sum)(s1:Value)(w2:Sum)(s2:Value):Prop where
 key:W.rangeAt b 0 (cellsOf k)
 c1:W.cell? ⟨b,32,none⟩=some v1
 c2:W.cell? ⟨b,33,none⟩=some v2
 sh1:W.rangeAt b 34 (zDe w1 s1)
 d1:W.cell? ⟨b,66,none⟩=some s1
 sh2:W.rangeAt b 67 (zDe w2 s2)
 d2:W.cell? ⟨b,99,none⟩=some s2
theorem yLg(h:W.rangeAt b 0 (zHk k v1 v2 w1 s1 w2 s2)):Z17 W b k v1 v2 w1 s1 w2 s2:=by
 obtain⟨h1,h2⟩:=zDt.1 h
 obtain⟨h2,h3⟩:=zDt.1 h2
 obtain⟨h3,h4⟩:=zDt.1 h3
 rw[zDa,zzn]at h2
 rw[zDa,zzn]at h3
 rw[zDa,zDw,zzn]at h4
 obtain⟨_,g3⟩:=zDt.1 (show W.rangeAt b 34 (cellsOf w1++[s1]) from h3)
 obtain⟨_,g4⟩:=zDt.1 (show W.rangeAt b 67 (cellsOf w2++[s2]) from h4)
 rw[zDa]at g3 g4
 exact⟨h1,h2 0 _ rfl,h2 1 _ rfl,h3,g3 0 _ rfl,h4,g4 0 _ rfl⟩
theorem Z17.below(h:Z17 W b k v1 v2 w1 s1 w2 s2)(hb:Below W.heap.size W W'):Z17 W' b k v1 v2 w1 s1 w2 s2 :=
 have kk:=zK hb
 ⟨kk.range h.key id,kk.cell h.c1 id,kk.cell h.c2 id,kk.range h.sh1 id,kk.cell h.d1 id,kk.range h.sh2 id,kk.cell h.d2 id⟩
theorem zQq(P:List Keys.Pr)(v:Value)(k w1 w2:Sum)(v1 v2 s1 s2:Value)(A B:List UInt8)(S T:List Sum)(w:World)(hv:zDu w v P)(h1:zDk w v1 A)(h2:zDk w v2 B)(h3:zD1 w s1 S)(h4:zD1 w s2 T)(l1:A.length<4611686018427387904)(l2:B.length<4611686018427387904)(l3:S.length<4611686018427387904)(l4:T.length<4611686018427387904)(hR:∀ p∈P,p.2.length<281474976710656):
  Calls Tryz.prog 35 #[v,zQw k v1 v2 w1 s1 w2 s2] w fun e w'=>∃ r:Bool,e=.returned (.bool r)/\(r=false->P.length<=12/\(∀ p∈P,p.2.length<=6000)/\A.length+B.length<=3000/\S.length+T.length<=600)/\Below w.heap.size w w':=by
 have hb0:=al (zze _ w) (.cells (zHk k v1 v2 w1 s1 w2 s2).toArray 78)
 have hz:=yLg (zDh w (zHk k v1 v2 w1 s1 w2 s2).toArray 78 _ rfl)
 have HV:=zzb (hv.below hb0)
 have HRR:=zzb hR
 have H0:=zAI hb0 hz
 clear hb0 hz hR
 obtain⟨a,cap,rfl,p1,p2⟩:=zD9 hv
 obtain⟨a1,c1,rfl,q1,q2,_⟩:=h1
 obtain⟨a2,c2,rfl,q3,q4,_⟩:=h2
 obtain⟨a3,c3,rfl,q5,q6⟩:=zQf h3
 obtain⟨a4,c4,rfl,q7,q8⟩:=zQf h4
 obtain⟨N,hN⟩:∃ N,N=P.length:=⟨_,rfl⟩
 obtain⟨n1,hn1⟩:∃ N,N=A.length:=⟨_,rfl⟩
 obtain⟨n2,hn2⟩:∃ N,N=B.length:=⟨_,rfl⟩
 obtain⟨n3,hn3⟩:∃ N,N=S.length:=⟨_,rfl⟩
 obtain⟨n4,hn4⟩:∃ N,N=T.length:=⟨_,rfl⟩
 rw[<-hN]at HV p1
 rw[<-hn1]at H0 HV l1
 rw[<-hn2]at H0 HV l2
 rw[<-hn3]at H0 HV l3
 rw[<-hn4]at H0 HV l4
 rw[<-hN,<-hn1,<-hn2,<-hn3,<-hn4]
 have HL:=zAI hN (zza p1 (zza l1 (zza l2 (zza l3 l4))))
 clear hv h3 h4 hN hn1 hn2 hn3 hn4 p1 p2 q1 q2 q3 q4 q5 q6 q7 q8 l1 l2 l3 l4
 unfold zQw
 by_cases hlt:12<N
 ·have c1:decide (12<N)=true:=by simpa using hlt
  have c1':decide ((12:Int)<(N:Int))=true:=by simp;omega
  go_enter Tryz.func35,Tryz.ntmps35
  go_wp2_with fail
  exact zzM (zzN rfl _ _ _) rfl ⟨true,rfl,fun h=>by (first | cases h | simp at h),H0.out.1⟩
 ·have c1:decide (12<N)=false:=by simpa using hlt
  have c1':decide ((12:Int)<(N:Int))=false:=by simp;omega
  go_enter Tryz.func35,Tryz.ntmps35
  go_wp2_with fail
  refine (yHy P _ _ HV.out (by rw[<-HL.out.1];omega) HRR.out).mono ?_
  rintro e W1 ⟨⟨m,rfl,hm6⟩,hb⟩
  have HM6:=zzb hm6
  clear hm6
  have H1:=zAI (H0.out.1.trans (hb.mono H0.out.1.size)) (H0.out.2.below hb)
  have HN:=zzb hlt
  clear hb H0 HV hlt c1 c1'
  by_cases hm:6000<m
  ·have c1:decide (6000<m)=true:=by simpa using hm
   have c1':decide ((6000:Int)<(m:Int))=true:=by simp;omega
   clear hm
   go_wp2_with fail
   exact zzM (zzN rfl _ _ _) rfl ⟨true,rfl,fun h=>by (first | cases h | simp at h),H1.out.1⟩
  ·have c1:decide (6000<m)=false:=by simpa using hm
   have c1':decide ((6000:Int)<(m:Int))=false:=by simp;omega
   have HML:=zzb (show ∀ p∈P,p.2.length<=6000 from fun p hp=>zzk (HM6.out (by omega) p hp) (by omega))
   clear hm
   have g1:=H1.out.2.c1
   have g2:=H1.out.2.c2
   have hw:wrap64 ((n1:Int)+(n2:Int))=((n1+n2:Nat):Int):=by have:=HL.out;unfold wrap64;omega
   by_cases hab:3000<n1+n2
   ·have c2:decide ((3000:Int)<((n1+n2:Nat):Int))=true:=by simp;omega
    have c2':decide ((3000:Int)<(n1:Int)+(n2:Int))=true:=by simp;omega
    have c2'':decide (3000<n1+n2)=true:=by simp;omega
    go_wp2_with fail
    exact zzM (zzN rfl _ _ _) rfl ⟨true,rfl,fun h=>by (first | cases h | simp at h),H1.out.1⟩
   ·have c2:decide ((3000:Int)<((n1+n2:Nat):Int))=false:=by simp;omega
    have c2':decide ((3000:Int)<(n1:Int)+(n2:Int))=false:=by simp;omega
    have c2'':decide (3000<n1+n2)=false:=by simp;omega
    have g3:=H1.out.2.d1
    have g4:=H1.out.2.d2
    have hw2:wrap64 ((n3:Int)+(n4:Int))=((n3+n4:Nat):Int):=by have:=HL.out;unfold wrap64;omega
    go_wp2_with fail
    refine zzM (zzN rfl _ _ _) rfl ⟨_,rfl,fun h=>?_,H1.out.1⟩
    have:=HN.out
    simp at h
    exact⟨by omega,HML.out,by omega,by omega⟩
theorem zPx:∀ {A B:List (List UInt8)} {a b:List UInt8},part A B=some (a,b)->a∈A/\b∈B
 | [],_,_,_,h=>by unfold part at h;cases h
 | _::_,[],_,_,h=>by unfold part at h;cases h
 | x::A,y::B,a,b,h=>by
  rw[part]at h
  by_cases e:x=y
  ·rw[zzY e]at h
   have:=zPx h
   exact⟨List.mem_cons_of_mem _ this.1,List.mem_cons_of_mem _ this.2⟩
  ·rw[zzZ e]at h
   simp only[zzj,zyc]at h
   rw[<-h.1,<-h.2]
   exact⟨zzC,zzC⟩
theorem zMy{x:List UInt8}(h:x∈zF4 k v T):x.length<=65+v.length:=by
 unfold zF4 zG4 at h
 rcases zzO.1 h with h | h
 ·obtain⟨p,_,rfl⟩:=zzQ.1 h
  unfold zJ9
  simp<;>omega
 ·rw[zzx.1 h]
  unfold zId
  split<;>simp<;>omega
def yH8(o:Option (List UInt8×List UInt8)):Prop:=∀ x y,o=some (x,y)->(x≠y/\sha x=sha y)/\x.length<900000/\y.length<900000
theorem yGb{a b:List Keys.Pr}(ha:∀ k,(Keys.get a k).length<=6000)(hb:∀ k,(Keys.get b k).length<=6000):yH8 (zEj a b):=fun x y h=>by
 refine⟨yDx h,?_⟩
 unfold zEj at h
 split at h
 ·cases ho:zFd a b with
  | none=>rw[ho]at h;cases h
  | some k =>
   rw[ho]at h
   simp only at h
   split at h
   ·rw[zTc,zTc]at h
    have hm:=zPx h
    have h1:=zMy hm.1
    have h2:=zMy hm.2
    have h3:=ha k
    have h4:=hb k
    exact⟨by omega,by omega⟩
   ·cases h
 ·cases h
theorem yHl(ha:∀ k,(Keys.get l k).length<=6000)(hv:v.length<=6000):yH8 (zEw l k v which S):=fun x y h=>by
 refine⟨yDw h,?_⟩
 unfold zEw at h
 cases hT:zEh which S with
 | none=>rw[hT]at h;cases h
 | some T =>
  rw[hT]at h
  simp only at h
  split at h
  ·rw[zTc]at h
   have hm:=zPx h
   have h1:=zMy hm.1
   have h2:=zMy hm.2
   have h3:=ha k
   exact⟨by omega,by omega⟩
  ·cases h
theorem yJd(hv:v.length<=6000)(hw:w.length<=6000):yH8 (zEq k v which S w which' S'):=fun x y h=>by
 refine⟨(yHm h).1,?_⟩
 unfold zEq at h
 cases hT:zEh which S with
 | none=>rw[hT]at h;cases h
 | some T =>
  cases hU:zEh which' S' with
  | none=>rw[hT,hU]at h;cases h
  | some U =>
   rw[hT,hU]at h
   simp only at h
   split at h
   ·have hm:=zPx h
    have h1:=zMy hm.1
    have h2:=zMy hm.2
    exact⟨by omega,by omega⟩
   ·cases h
noncomputable def fe(n:Nat):Nat->Nat:=@Nat.rec (fun _=>Nat->Nat) (fun e=>e) (fun _ ih e=>ih (Fast.fside 4 e e)) n
noncomputable def fz(n:Nat):Nat->Nat->Nat:=@Nat.rec (fun _=>Nat->Nat->Nat) (fun _ x=>x) (fun _ ih e x=>ih (Fast.fside 4 e e) (Fast.fside 4 x e)) n
noncomputable def fo(n:Nat):Nat->Nat->Nat:=@Nat.rec (fun _=>Nat->Nat->Nat) (fun _ x=>x) (fun _ ih e x=>ih (Fast.fside 4 e e) (Fast.fside 4 e x)) n
theorem yMu(m:Nat):fe (m+1)=fun e=>fe m (Fast.fside 4 e e):=by unfold fe;exact rfl
theorem yMe(m:Nat):fz (m+1)=fun e x=>fz m (Fast.fside 4 e e) (Fast.fside 4 x e):=by unfold fz;exact rfl
theorem yLp(m:Nat):fo (m+1)=fun e x=>fo m (Fast.fside 4 e e) (Fast.fside 4 e x):=by unfold fo;exact rfl
theorem zWd(l r:Sum):Fast.snum (sd l r)=Fast.fside 4 (Fast.snum l) (Fast.snum r):=by
 rw[yKv];exact Fast.sha_side 4 l r
theorem yOu(m:Nat):∀ n,Fast.snum (em (n+m))=fe m (Fast.snum (em n)):=by
 induction m with
 | zero=>intro n;rfl
 | succ m ih =>
  intro n
  rw[show n+(m+1)=(n+1)+m by omega,ih (n+1),zJf,zWd,yMu]
noncomputable def own(p:Keys.Pr)(n:Nat):Sum:=Keys.at' sd z0 vl n [p]
theorem zZc(p:Keys.Pr)(n:Nat):own p (n+1)=if (Keys.kn p.1).testBit n then sd (em n) (own p n) else sd (own p n) (em n) :=
 Keys.at_one sd z0 vl (zzx.2 rfl) (fun a ha b hb=>by rw[zzx.1 ha,zzx.1 hb])
theorem yNt(p:Keys.Pr)(m:Nat):∀ n,(∀ i,i<m->(Keys.kn p.1).testBit (n+i)=false)->Fast.snum (own p (n+m))=fz m (Fast.snum (em n)) (Fast.snum (own p n)):=by
 induction m with
 | zero=>intro n _;rfl
 | succ m ih =>
  intro n h
  rw[show n+(m+1)=(n+1)+m by omega,ih (n+1) (fun i hi=>by rw[show n+1+i=n+(i+1) by omega];exact h _ (by omega)),zJf,zWd,zZc,show (Keys.kn p.1).testBit n=false from h 0 (by omega),zzZ (by simp),zWd,yMe]
theorem yNk(p:Keys.Pr)(m:Nat):∀ n,(∀ i,i<m->(Keys.kn p.1).testBit (n+i)=true)->Fast.snum (own p (n+m))=fo m (Fast.snum (em n)) (Fast.snum (own p n)):=by
 induction m with
 | zero=>intro n _;rfl
 | succ m ih =>
  intro n h
  rw[show n+(m+1)=(n+1)+m by omega,ih (n+1) (fun i hi=>by rw[show n+1+i=n+(i+1) by omega];exact h _ (by omega)),zJf,zWd,zZc,show (Keys.kn p.1).testBit n=true from h 0 (by omega),zzY rfl,zWd,yLp]
def yPx(b:UInt8):List UInt8:=b::List.replicate 31 0
theorem zT1:(lit 7).toList=yPx 7:=by
 rw[zVr];decide +kernel
theorem zOv:Keys.kn (lit 7)=3166189940082864718613269121331309980362851143201109172953918312716374638592:=by
 show Fast.bnum (lit 7).toList=_
 rw[zT1]
 decide +kernel
theorem yNs:Fast.snum z0=99398763056634537812744552006896172984671876672520535998211840060697129507206:=by
 rw[yIp,Fast.sha_one [2] (by decide +kernel)]
 decide +kernel
theorem yMl:Fast.snum (vl (lit 7) [97])=242657674665213473843774506549976558325038764387086008339012763694100396816:=by
 rw[yDb]
 show Fast.snum (if ([97]:List UInt8)=[] then sha [2] else sha (3::((lit 7).toList++[97])))=_
 rw[zzZ (by simp),zT1,Fast.sha_one _ (by decide +kernel)]
 decide +kernel
theorem yP3:fe 248 99398763056634537812744552006896172984671876672520535998211840060697129507206=68140388362105375494314006093594760818977815925103957317883493373949186056752:=by decide +kernel
theorem yP0:fz 248 99398763056634537812744552006896172984671876672520535998211840060697129507206 242657674665213473843774506549976558325038764387086008339012763694100396816=39879781450614273605033675958458221438017456252812787195162588908220725413578:=by decide +kernel
theorem yPw:fe 3 68140388362105375494314006093594760818977815925103957317883493373949186056752=85172016557300867396114426918393380223422963544648758708490665601848222747028:=by decide +kernel
theorem yP2:fo 3 68140388362105375494314006093594760818977815925103957317883493373949186056752 39879781450614273605033675958458221438017456252812787195162588908220725413578=41606347832100986460027060673293755527441169975157026494080011883348961212834:=by decide +kernel
theorem yPv:fz 5 85172016557300867396114426918393380223422963544648758708490665601848222747028 41606347832100986460027060673293755527441169975157026494080011883348961212834=93751589679066156886896582684178673071918153984191008976201999186463036900291:=by decide +kernel
theorem yNu{k:Nat}(h:Fast.snum (em n)=a)(hk:n+m=k)(hf:fe m a=b):Fast.snum (em k)=b:=by
 subst hk
 rw[yOu,h,hf]
theorem yKq{k:Nat}(hK:Keys.kn p.1=K)(hb:∀ i,i<m->Nat.testBit K (n+i)=false)(he:Fast.snum (em n)=e)(hx:Fast.snum (own p n)=a)(hk:n+m=k)(hf:fz m e a=b):Fast.snum (own p k)=b:=by
 subst hk
 rw[yNt p m n (by rw[hK];exact hb),he,hx,hf]
theorem yNy{k:Nat}(hK:Keys.kn p.1=K)(hb:∀ i,i<m->Nat.testBit K (n+i)=true)(he:Fast.snum (em n)=e)(hx:Fast.snum (own p n)=a)(hk:n+m=k)(hf:fo m e a=b):Fast.snum (own p k)=b:=by
 subst hk
 rw[yNk p m n (by rw[hK];exact hb),he,hx,hf]
theorem em0:Fast.snum (em 0)=99398763056634537812744552006896172984671876672520535998211840060697129507206:=yNs
theorem yL0:Fast.snum (em 248)=68140388362105375494314006093594760818977815925103957317883493373949186056752:=yNu em0 rfl yP3
theorem yNb:Fast.snum (em 251)=85172016557300867396114426918393380223422963544648758708490665601848222747028:=yNu yL0 rfl yPw
theorem yNx:∀ i,i<248->Nat.testBit 3166189940082864718613269121331309980362851143201109172953918312716374638592 (0+i)=false:=by decide +kernel
theorem yOc:∀ i,i<3->Nat.testBit 3166189940082864718613269121331309980362851143201109172953918312716374638592 (248+i)=true:=by decide +kernel
theorem yNr:∀ i,i<5->Nat.testBit 3166189940082864718613269121331309980362851143201109172953918312716374638592 (251+i)=false:=by decide +kernel
theorem yP1:Fast.snum (own (lit 7,[97]) 0)=242657674665213473843774506549976558325038764387086008339012763694100396816:=yMl
theorem yNo:Fast.snum (own (lit 7,[97]) 248)=39879781450614273605033675958458221438017456252812787195162588908220725413578:=yKq zOv yNx em0 yP1 rfl yP0
theorem yNn:Fast.snum (own (lit 7,[97]) 251)=41606347832100986460027060673293755527441169975157026494080011883348961212834:=yNy zOv yOc yL0 yNo rfl yP2
theorem yOi:Fast.snum (own (lit 7,[97]) 256)=93751589679066156886896582684178673071918153984191008976201999186463036900291:=yKq zOv yNr yNb yNn rfl yPv
theorem zI8(w:World)(x:UInt8):zDk (w.alloc (.cells #[.int .u8 ((x.toNat:Nat):Int)] 5 (1,2))) (.slice (some ⟨w.heap.size,0,none⟩) 1 1) [x]:=by
 refine⟨_,1,rfl,zzc _,by decide,.inr ⟨w.heap.size,0,rfl,fun j v hv=>?_⟩⟩
 have hh:(w.alloc (.cells #[.int .u8 ((x.toNat:Nat):Int)] 5 (1,2))).heap[w.heap.size]? = some (.cells #[.int .u8 ((x.toNat:Nat):Int)] 5 (1,2)):=by
  show (w.heap.push _)[w.heap.size]? = _
  simp
 rw[cell_of_row _ _ _ _ _ (1,2) hh,zzn]
 have hj:j<1:=by have:=(zzl.1 hv).1;simpa[zDi]using this
 have:j=0:=by omega
 subst this
 simpa[zDi,u8v]using hv
theorem yDu(s:Sum):cellsOf s≠[]:=fun h=>by have:=zDa s;rw[h]at this;cases this
theorem yMj:Keys.putB [] (lit 7) [97]=[(lit 7,[97])]:=rfl
theorem yH4:Keys.get [(lit 7,[97])] (lit 7)=[97]:=by
 simp[Keys.get]
structure LW(w W:World)(p b n:Nat)(l:List Ent)(R:List (Nat×Sum))(B:List (Value×List UInt8))(H:List (Nat×Sum×Value×List Sum)):Prop where
 bw:Below w.heap.size w W
 map:zF6 W p b n l
 hb:w.heap.size<=b
 r:∀ q∈R,W.rangeAt q.1 0 (cellsOf q.2)
 y:∀ q∈B,zDk W q.1 q.2
 s:∀ q∈H,W.rangeAt q.1 0 (zDe q.2.1 q.2.2.1)/\zD1 W q.2.2.1 q.2.2.2
theorem LW.below{w:World}{p:Nat}{l:List Ent}(h:LW w W p b n l R B H)(hb:Below W.heap.size W W'):LW w W' p b n l R B H :=
 have kk:=zK hb
 ⟨h.bw.trans (hb.mono h.bw.size),h.map.below hb,h.hb,fun q hq=>kk.range (h.r q hq) id,fun q hq=>zDg (h.y q hq) hb (zzc _),fun q hq=>⟨kk.range (h.s q hq).1 id,(h.s q hq).2.below hb (zzc _)⟩⟩
theorem LW.addS{w:World}{p:Nat}{l:List Ent}(h:LW w W p b n l R B H){z:Nat}{x:Sum}{v:Value}(hr:W.rangeAt z 0 (zDe x v))(hs:zD1 W v S):LW w W p b n l R B ((z,x,v,S)::H) :=
 ⟨h.bw,h.map,h.hb,h.r,h.y,fun q hq=>by rcases zzK.1 hq with rfl | hq;exact⟨hr,hs⟩;exact h.s q hq⟩
theorem LW.put{w W W':World}{p b n n':Nat}{l l':List Ent}{R:List (Nat×Sum)}{B:List (Value×List UInt8)}{H:List (Nat×Sum×Value×List Sum)}(h:LW w W p b n l R B H)(hm:zF6 W' p b n' l')(hk:zDj (fun i=>i=b) W W'):LW w W' p b n' l' R B H :=
 ⟨h.bw.trans (hk.below h.bw.size (fun k hk=>by have:=h.hb;omega)),hm,h.hb,fun q hq=>hk.range (h.r q hq) (zK9 (X:=fun i=>i=b) h.map.on (h.r q hq) (yDu _)),fun q hq=>zK0 h.map.on hk (h.y q hq),
  fun q hq=>⟨hk.range (h.s q hq).1 (zK9 (X:=fun i=>i=b) h.map.on (h.s q hq).1 (fun e=>by have:=zDw q.2.1 q.2.2.1;rw[e]at this;cases this)),yGw h.map.on hk (h.s q hq).2⟩⟩
theorem yJ2:Fast.snum (vl (lit 7) [98])=85495382562713737024316607337567724659861109517911890831008291099094804159091:=by
 rw[yDb]
 show Fast.snum (if ([98]:List UInt8)=[] then sha [2] else sha (3::((lit 7).toList++[98])))=_
 rw[zzZ (by simp),zT1,Fast.sha_one _ (by decide +kernel)]
 decide +kernel
theorem yOt:fz 248 99398763056634537812744552006896172984671876672520535998211840060697129507206 85495382562713737024316607337567724659861109517911890831008291099094804159091=96075519009087552839472375958021376911087531221904572814988723469934808434590:=by decide +kernel
theorem yPg:fo 3 68140388362105375494314006093594760818977815925103957317883493373949186056752 96075519009087552839472375958021376911087531221904572814988723469934808434590=74338111402975861586546108668109224630405519032125947468490846428379820944822:=by decide +kernel
theorem yO5:fz 5 85172016557300867396114426918393380223422963544648758708490665601848222747028 74338111402975861586546108668109224630405519032125947468490846428379820944822=47153824833620861109899094721883330284642006010502526789650936335450609171221:=by decide +kernel
theorem yPa:Fast.snum (own (lit 7,[98]) 0)=85495382562713737024316607337567724659861109517911890831008291099094804159091:=yJ2
theorem yMs:Fast.snum (own (lit 7,[98]) 248)=96075519009087552839472375958021376911087531221904572814988723469934808434590:=yKq zOv yNx em0 yPa rfl yOt
theorem yLs:Fast.snum (own (lit 7,[98]) 251)=74338111402975861586546108668109224630405519032125947468490846428379820944822:=yNy zOv yOc yL0 yMs rfl yPg
theorem yLx:Fast.snum (own (lit 7,[98]) 256)=47153824833620861109899094721883330284642006010502526789650936335450609171221:=yKq zOv yNr yNb yLs rfl yO5
theorem yLr:zEz [(lit 7,[97])]≠zEz [(lit 7,[98])]:=by
 intro h
 have e:=yOi.symm.trans ((congrArg Fast.snum (show own (lit 7,[97]) 256=own (lit 7,[98]) 256 from h)).trans yLx)
 exact absurd e (by decide +kernel)
theorem zW0(k:Sum)(x:UInt8):May [(k,[x])]:=⟨List.pairwise_singleton _ _,fun p hp=>by rw[zzx.1 hp];simp⟩
theorem yGn{a:List Keys.Pr}(h:May a):zEj a a=none:=by
 have h1:=zQ8 h h
 cases hm:zEj a a with
 | none=>rfl
 | some p=>rw[hm]at h1;simp at h1
theorem yLv:zEj [(lit 7,[97])] [(lit 7,[98])]=none:=by
 have h1:=zQ8 (zW0 (lit 7) 97) (zW0 (lit 7) 98)
 rw[zz1 (fun h=>yLr h.1)]at h1
 cases hm:zEj [(lit 7,[97])] [(lit 7,[98])]with
 | none=>rfl
 | some p=>rw[hm]at h1;cases h1
theorem yKf(k:Sum)(v:List UInt8)(which:Sum)(S:List Sum)(which':Sum)(S':List Sum):zEq k v which S v which' S'=none:=by
 unfold zEq
 cases zEh which S with
 | none=>rfl
 | some T =>
  cases zEh which' S' with
  | none=>rfl
  | some U=>simp
theorem yF9(k:Sum)(which:Sum)(S:List Sum):zEw l k (Keys.get l k) which S=none:=by
 unfold zEw
 cases zEh which S with
 | none=>rfl
 | some T=>simp
end Go.Proofs.YtfmgoehnbaiamaaGreatDoor
