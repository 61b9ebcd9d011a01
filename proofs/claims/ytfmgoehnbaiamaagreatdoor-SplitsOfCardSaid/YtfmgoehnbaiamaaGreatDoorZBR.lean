/- Joined: D15, Q9. -/
import Derived.Test.YtfmgoehnbaiamaaGreatDoorZBQ
set_option maxRecDepth 100000
set_option maxHeartbeats 4000000
open Go Go.RowKit Alm
namespace Go.Proofs.YtfmgoehnbaiamaaGreatDoor
variable {a:Act}{Q:Exit->Act->World->Prop}{S S' T:List Sum}{bs bu:List UInt8}{op:Oper}{k which which':Sum}{u uS v vS:Value}{w:World}
open Classical in
theorem zS6{l:List Keys.Pr}{v:List UInt8}(h:zEh which S=some T):
  zEw l k v which S=if May l/\zEz l=zE7 k 256 T (vl k v)/\zId k (Keys.get l k)≠zId k v then part (zHj k l) (zF4 k v T) else none:=by
 unfold zEw
 rw[h]
theorem zD6{ops:Array Oper}{rest:List Oper}(hgd:op.guard=none)(x:Operand)(ho:op.op=.load 63 x)
  (b o:Nat) (hx:a.eval x=.pointer (some ⟨b,o,none⟩)) (which:Sum) (v:Value) (hc:w.rangeAt b o (zDe which v))
  (h:wpList Tryz.prog ops Q rest (a.put op.dst (shV which v)) w):wpList Tryz.prog ops Q (op::rest) a w :=
 wpList_load_mid hgd _ x ho b o hx (zDe which v) _ hc Tryz.underlying63 rfl (by rw[zDw];exact zG2) h
theorem zUz(A:List Keys.Pr)(va:Value)(k which:Sum)(v vS:Value)(bs:List UInt8)(S:List Sum)(w:World)(ha:zDu w va A)(hA:A.length<100000)(sA:Small A)(hv:zDk w v bs)(hs:zD1 w vS S)(hS:S.length<100000)(hbs:bs.length<140737488355000):
  Calls Tryz.prog 40 #[va,sv k,v,shV which vS] w fun e w'=>AP w.heap.size w' (zEw A k bs which S) e/\Below w.heap.size w w':=by
 obtain⟨aa,ca,hva,_⟩:=zD9 ha
 subst hva
 have HV:=zAI ha (zza hA (zza sA (zza hv (zza hs (zza hS hbs)))))
 clear ha hA sA hv hs hS hbs
 obtain⟨NA,hNA⟩:∃ N,N=A.length:=⟨_,rfl⟩
 rw[<-hNA]at HV ⊢
 have HL:=zzb hNA
 clear hNA
 have hb0:=al (al (al (zze _ w) (.cells (cellsOf k).toArray 24)) (.cells (zDe which vS).toArray 63)) (.cells #[.slice none 0 0,.slice none 0 0] 82)
 have hz1:(w.alloc (.cells (cellsOf k).toArray 24)).heap.size=w.heap.size+1:=zzT _
 have hz2:((w.alloc (.cells (cellsOf k).toArray 24)).alloc (.cells (zDe which vS).toArray 63)).heap.size=w.heap.size+1+1:=by rw[zzp,hz1]
 have hr0:=zzt (zzt (zDh w (cellsOf k).toArray 24 _ rfl) (.cells (zDe which vS).toArray 63)) (.cells #[.slice none 0 0,.slice none 0 0] 82)
 have hr1:=zzt (zDh (w.alloc (.cells (cellsOf k).toArray 24)) (zDe which vS).toArray 63 _ rfl) (.cells #[.slice none 0 0,.slice none 0 0] 82)
 have hk2:=heap_alloc_new ((w.alloc (.cells (cellsOf k).toArray 24)).alloc (.cells (zDe which vS).toArray 63)) (.cells #[.slice none 0 0,.slice none 0 0] 82)
 rw[hz1]at hr1
 rw[hz2]at hk2
 obtain⟨q,hq⟩:∃ q,q=w.heap.size+1+1:=⟨_,rfl⟩
 rw[<-hq]at hk2
 have HQ:=zzb (show w.heap.size<=q by omega)
 have HQE:=zzb hq
 have H0:=zzb (show QW w _ q/\_/\_ from ⟨⟨hb0,hk2⟩,hr0,hr1⟩)
 clear hb0 hz1 hz2 hr0 hr1 hk2 hq
 unfold shV
 go_enter Tryz.func40,Tryz.ntmps40
 go_wp2_with (first
  | (refine zDb rfl _ rfl w.heap.size 0 rfl k H0.out.2.1 ?_)
  | (refine zD6 rfl _ rfl (w.heap.size+1) 0 rfl which vS H0.out.2.2 ?_))
 have hb4:=zDg HV.out.2.2.2.1 H0.out.1.bw (zzc _)
 have hs4:=HV.out.2.2.2.2.1.below H0.out.1.bw (zzc _)
 have HL0:=zzb (zQb k which v vS bs S _ hb4 hs4 HV.out.2.2.2.2.2.1 HV.out.2.2.2.2.2.2)
 clear hb4 hs4
 refine HL0.out.mono ?_
 clear HL0
 rw[<-HQE.out]
 rintro r W1 ⟨hlp,hb⟩
 have hqz:=(zzw.1 H0.out.1.k).1
 have H1z:=hb.size
 have H1:=zAI (H0.out.1.below hb) ((zK hb).range H0.out.2.1 id)
 clear hb H0
 rcases hlp with ⟨T,p2,ve2,hlt,rfl,hw2,_,hf2⟩ | ⟨hln,x,rfl⟩
 ·have HT:=zAI hlt hw2
  have HF2:=zAI (fun i hi=>zzk hqz (hf2 i hi):∀ i,ve2.ownBlock=some i->q+1<=i) (fun i hi=>(hw2.en.lb.lt i hi).2:∀ i,ve2.ownBlock=some i->i<W1.heap.size)
  have HQ1:=zzb (zzk hqz H1z)
  clear hlt hw2 hf2 hqz H1z
  go_wp2_with fail
  refine (zXs A _ W1 (HV.out.1.below H1.out.1.bw) (by rw[<-HL.out];exact HV.out.2.1)).mono ?_
  rintro e W2 ⟨m1,rfl,hm1,hb⟩
  have H2:=zAI (H1.out.1.below hb) (zza ((zK hb).range H1.out.2 id) (HT.out.2.below hb))
  have HM1:=zzb hm1
  have HW12:=zzb hb.size
  have HTT:=zzb HT.out.1
  clear hb hm1 H1 HT
  cases m1 with
  | false =>
   have HN:=zzb (show zEw A k bs which S=none by rw[zS6 HTT.out,zzZ (fun h=>by have:=HM1.out.2 h.1;cases this)])
   have H2q:=zzb H2.out.1
   go_wp2_with (refine zDo rfl _ _ rfl q (.slice none 0 0) (.slice none 0 0) rfl rfl rfl rfl H2q.out.there ?_)
   try rw[zzs]
   refine zzM (zDq Tryz.results40 _ _ q 0 [.slice none 0 0,.slice none 0 0] _ rfl (zDf _ _ _ _ (zzd H2q.out.there _ _ _)) Tryz.underlying82 rfl zD2) rfl ?_
   exact⟨by rw[HN.out];rfl,zDc _ HQ.out _ _ _ _ H2q.out.bw⟩
  | true =>
   have hMA:=HM1.out.1 rfl
   have HMA:=zzb hMA
   clear hMA HM1
   go_wp2_with (refine zDb rfl _ rfl w.heap.size 0 rfl k H2.out.2.1 ?_)
   refine (yFx A _ k W2 (HV.out.1.below H2.out.1.bw) HMA.out.1 HV.out.2.2.1 (by rw[<-HL.out];exact HV.out.2.1)).mono ?_
   rintro e W3 ⟨p1,ve1,rfl,hw1,_,hf1,hb⟩
   have HF1:=zAI (fun i hi=>zzk (zzk HQ1.out HW12.out) (hf1 i hi):∀ i,ve1.ownBlock=some i->q+1<=i) (zza (fun i h1 h2=>by have h3:=HF2.out.2 i h2;have h4:=hf1 i h1;have h5:=HW12.out;omega:∀ i,ve1.ownBlock=some i->ve2.ownBlock≠some i) (zzk (zzk HQ1.out HW12.out) hb.size))
   clear hf1
   have H3:=zAI (H2.out.1.below hb) (zza hw1 (H2.out.2.2.below hb))
   clear hb hw1 H2
   go_wp2_with fail
   obtain⟨ra,hra⟩:∃ r,r=zEz A:=⟨_,rfl⟩
   obtain⟨rb,hrb⟩:∃ r,r=zE7 k 256 T (vl k bs):=⟨_,rfl⟩
   have heq:=zHi ra rb
   have HB0:=zzb (show q+1<=W3.drew.heap.size from HF1.out.2.2)
   have H4:=zzb (show QW w W3.drew q/\zKv W3.drew p1 ra _ ve1 _/\zKv W3.drew p2 rb _ ve2 _ from ⟨H3.out.1.below (zze _ _).drew,by rw[hra];exact H3.out.2.1.below (zze _ _).drew,by rw[hrb];exact H3.out.2.2.below (zze _ _).drew⟩)
   have HR:=zAI hra hrb
   clear hra hrb H3
   refine zDd (fun V=>zKv V p1 ra (zIp k 256 (zG8 k 256 A) (vl k (Keys.get A k))) ve1 (zId k (Keys.get A k))/\zKv V p2 rb (zIp k 256 T (vl k bs)) ve2 (zId k bs)) [.t 0,.t 1,.t 2,.t 4,.t 5,.t 6,.s 3,.e 7 true,.t 8,.t 9,.t 10,.t 11,.t 12,.t 14,.t 15,.t 16,.s 13,.e 17 true,.e 18 false,.t 19] (by kernel_rfl) (by kernel_rfl) (by rintro _ _(_|_)_ _ h<;>exact h) ?_
   generalize W3.drew=V3 at *
   obtain⟨a1,n1,c1,rfl⟩:=zE1 H4.out.2.1.en.bt
   obtain⟨a2,n2,c2,rfl⟩:=zE1 H4.out.2.2.en.bt
   iterate 6
    refine zDp rfl (v:=?_) (by rfl) (fun W=>?_) ?_
    rotate_left
    ·go_simp
     try rfl
    try simp only[zU,zA,zB,zC]
   refine zDl (by exact H4.out.2) rfl (by rfl) _ (by rfl) p1 0 (by rfl) ra (fun W hW=>hW.1.root) ?_
   try simp only[zU,zA,zB,zC]
   refine zD8 rfl (by rfl) (fun K hK=>?_)
   refine zEb _ (by rfl) p2 0 (by rfl) rb H4.out.2.2.root ?_
   refine hK _ _ ⟨by exact H4.out.2,?_⟩;clear hK K
   try simp only[zU,zA,zB,zC]
   by_cases hrr:ra=rb
   ·rw[zz2 hrr]at heq
    have HRR:=zzb hrr
    clear hrr
    iterate 2
     refine zDp rfl (v:=?_) (by rfl) (fun W=>?_) ?_
     rotate_left
     ·go_simp
      try rfl
     try simp only[zU,zA,zB,zC]
    clear heq
    iterate 6
     refine zDp rfl (v:=?_) (by rfl) (fun W=>?_) ?_
     rotate_left
     ·go_simp
      try rfl
     try simp only[zU,zA,zB,zC]
    refine zEx (by exact H4.out.2) rfl (v:=.slice a1 n1 c1) (by rfl) (fun W hW=>?_) ?_
    ·have g:=hW.1.en.en
     go_simp
    try simp only[zU,zA,zB,zC]
    refine zD8 rfl (by rfl) (fun K hK=>?_)
    have g:=H4.out.2.2.en.en
    go_simp
    refine hK _ _ ⟨by exact H4.out.2,?_⟩;clear hK K
    try simp only[zU,zA,zB,zC]
    clear g
    refine zEa rfl (by rfl) (fun K hK=>?_)
    go_simp
    refine (zP2 (zId k (Keys.get A k)) (zId k bs) _ _ V3 H4.out.2.1.en.bt H4.out.2.2.en.bt).mono ?_
    rintro rr V4 ⟨rfl,rfl⟩
    refine hK _ _ ?_;clear hK K
    try simp only[zU,zA,zB,zC]
    by_cases hee:zId k (Keys.get A k)=zId k bs
    ·have HN:=zzb (show zEw A k bs which S=none by rw[zS6 HTT.out,zzZ (fun h=>h.2.2 hee)])
     rw[zz2 hee]
     have H4q:=zzb H4.out.1
     clear hee
     refine zDp rfl (v:=?_) (by rfl) (fun W=>?_) ?_
     rotate_left
     ·go_simp
      try rfl
     try simp only[zU,zA,zB,zC]
     refine zDn ?_
     go_wp2_with (refine zDo rfl _ _ rfl q (.slice none 0 0) (.slice none 0 0) rfl rfl rfl rfl H4q.out.there ?_)
     try rw[zzs]
     refine zzM (zDq Tryz.results40 _ _ q 0 [.slice none 0 0,.slice none 0 0] _ rfl (zDf _ _ _ _ (zzd H4q.out.there _ _ _)) Tryz.underlying82 rfl zD2) rfl ?_
     exact⟨by rw[HN.out];rfl,zDc _ HQ.out _ _ _ _ H4q.out.bw⟩
    ·have HN:=zzb (show zEw A k bs which S=part (zHj k A) (zF4 k bs T) by rw[zS6 HTT.out,zzY ⟨HMA.out,by rw[<-HR.out.1,<-HR.out.2];exact HRR.out,hee⟩])
     rw[zz1 hee]
     have H4q:=zzb H4.out.1
     clear hee
     refine zDp rfl (v:=?_) (by rfl) (fun W=>?_) ?_
     rotate_left
     ·go_simp
      try rfl
     try simp only[zU,zA,zB,zC]
     refine zDn ?_
     go_wp2_with fail
     obtain⟨o,ho⟩:∃ o,o=part (zHj k A) (zF4 k bs T):=⟨_,rfl⟩
     have hc:=zTi p1 p2 _ _ _ _ _ _ _ _ V3 H4.out.2.1 H4.out.2.2 (zGb _ _ _ _ (zFc _ _ _)) (zGb _ _ _ _ (zFs HTT.out)) (q+1) HB0.out HF1.out.1 HF2.out.1 HF1.out.2.1
     change Calls _ _ _ _ (fun e w'=>AP (q+1) w' (part (zHj k A) (zF4 k bs T)) e/\Below _ _ w')at hc
     rw[<-ho]at hc
     have HO:=zzb ho
     clear ho
     refine hc.mono ?_
     clear hc
     rintro e W9 ⟨hA,hb⟩
     have H9:=zzb (H4q.out.below hb)
     clear hb
     cases o with
     | none =>
      unfold AP at hA
      subst hA
      go_wp2_with (refine zDo rfl _ _ rfl q (.slice none 0 0) (.slice none 0 0) rfl rfl rfl rfl H9.out.there ?_)
      try rw[zzs]
      refine zzM (zDq Tryz.results40 _ _ q 0 [.slice none 0 0,.slice none 0 0] _ rfl (zDf _ _ _ _ (zzd H9.out.there _ _ _)) Tryz.underlying82 rfl zD2) rfl ?_
      exact⟨by rw[HN.out,<-HO.out];rfl,zDc _ HQ.out _ _ _ _ H9.out.bw⟩
     | some c =>
      obtain⟨A1,B1⟩:=c
      obtain⟨va1,vb1,rfl,hva1,hvb1,hvap⟩:=hA
      obtain⟨aa1,na1,ca1,rfl⟩:∃ a n c,va1=.slice a n c:=by obtain⟨a,c,h⟩:=hva1.form;exact⟨a,_,c,h⟩
      obtain⟨ab1,nb1,cb1,rfl⟩:∃ a n c,vb1=.slice a n c:=by obtain⟨a,c,h⟩:=hvb1.form;exact⟨a,_,c,h⟩
      have HV:=zAI hva1 (zza hvb1 hvap)
      clear hva1 hvb1 hvap
      go_wp2_with (refine zDo rfl _ _ rfl q (.slice aa1 na1 ca1) (.slice ab1 nb1 cb1) rfl rfl rfl rfl H9.out.there ?_)
      try rw[zzs]
      refine zzM (zDq Tryz.results40 _ _ q 0 [.slice aa1 na1 ca1,.slice ab1 nb1 cb1] _ rfl (zDf _ _ _ _ (zzd H9.out.there _ _ _)) Tryz.underlying82 rfl zD2) rfl ?_
      exact⟨by rw[HN.out,<-HO.out];exact⟨_,_,rfl,zTx HV.out.1 HV.out.2.1 HV.out.2.2 (Nat.lt_succ_self q) (Nat.le_succ_of_le HQ.out) _⟩,zDc _ HQ.out _ _ _ _ H9.out.bw⟩
   ·rw[zz1 hrr]at heq
    have HN:=zzb (show zEw A k bs which S=none by rw[zS6 HTT.out,zzZ (fun h=>hrr (by rw[HR.out.1,HR.out.2];exact h.2.1))])
    have H4q:=zzb H4.out.1
    clear hrr
    iterate 2
     refine zDp rfl (v:=?_) (by rfl) (fun W=>?_) ?_
     rotate_left
     ·go_simp
      try rfl
     try simp only[zU,zA,zB,zC]
    clear heq
    iterate 6
     refine zD0 rfl (by rfl) ?_
     try simp only[zU,zA,zB,zC]
    refine zE4 (by exact H4.out.2) rfl (by rfl) ?_
    try simp only[zU,zA,zB,zC]
    refine zGd (by exact H4.out.2) rfl (by rfl) ?_
    try simp only[zU,zA,zB,zC]
    refine zFo rfl (by rfl) ?_
    try simp only[zU,zA,zB,zC]
    refine zDp rfl (v:=?_) (by rfl) (fun W=>?_) ?_
    rotate_left
    ·go_simp
     try rfl
    try simp only[zU,zA,zB,zC]
    refine zDn ?_
    go_wp2_with (refine zDo rfl _ _ rfl q (.slice none 0 0) (.slice none 0 0) rfl rfl rfl rfl H4q.out.there ?_)
    try rw[zzs]
    refine zzM (zDq Tryz.results40 _ _ q 0 [.slice none 0 0,.slice none 0 0] _ rfl (zDf _ _ _ _ (zzd H4q.out.there _ _ _)) Tryz.underlying82 rfl zD2) rfl ?_
    exact⟨by rw[HN.out];rfl,zDc _ HQ.out _ _ _ _ H4q.out.bw⟩
 ·have HN:=zzb (show zEw A k bs which S=none by unfold zEw;rw[hln])
  clear hln
  have H1q:=zzb H1.out.1
  go_wp2_with (refine zDo rfl _ _ rfl q (.slice none 0 0) (.slice none 0 0) rfl rfl rfl rfl H1q.out.there ?_)
  try rw[zzs]
  refine zzM (zDq Tryz.results40 _ _ q 0 [.slice none 0 0,.slice none 0 0] _ rfl (zDf _ _ _ _ (zzd H1q.out.there _ _ _)) Tryz.underlying82 rfl zD2) rfl ?_
  exact⟨by rw[HN.out];rfl,zDc _ HQ.out _ _ _ _ H1q.out.bw⟩
theorem yLi{x:Sum}(h:zEh which S=some T):zIc k which 256 (x,S,false)=(zE7 k 256 T x,[],false):=by
 unfold zEh at h
 cases hl:zGa which 256 S with
 | none=>rw[hl]at h;cases h
 | some p =>
  obtain⟨T0,S0⟩:=p
  rw[hl]at h
  cases S0 with
  | nil=>cases h;exact ((zK1 k which x S 256).1 _ _ hl).1
  | cons s r=>cases h
theorem yIc(k:Sum)(v:List UInt8)(which:Sum)(S:List Sum)(u:List UInt8)(which':Sum)(S':List Sum)(ds o1 o2 dr:Bool)(hds:ds=decide (v=u))
  (h1:o1=decide ((zIc k which 256 (vl k v,S,false)).2.2=false/\(zIc k which 256 (vl k v,S,false)).2.1=[]))
  (h2:o2=decide ((zIc k which' 256 (vl k u,S',false)).2.2=false/\(zIc k which' 256 (vl k u,S',false)).2.1=[]))
  (hr:dr=decide ((zIc k which 256 (vl k v,S,false)).1=(zIc k which' 256 (vl k u,S',false)).1)) :
  (zEq k v which S u which' S').isSome=(!ds && o1 && o2 && dr):=by
 classical
 rw[yIv,hds,h1,h2,hr,zyo,zzW]
 simp only[Bool.and_eq_true,zzW,Bool.not_eq_true',decide_eq_false_iff_not]
 constructor
 ·rintro ⟨hne,T,U,hT,hU,he⟩
  rw[yLi hT,yLi hU]
  exact⟨⟨⟨hne,rfl,rfl⟩,rfl,rfl⟩,he⟩
 ·rintro ⟨⟨⟨hne,ha⟩,hb⟩,he⟩
  obtain⟨T,hT,e1⟩:=(yK4 k which (vl k v) S).1 ha
  obtain⟨U,hU,e2⟩:=(yK4 k which' (vl k u) S').1 hb
  rw[e1,e2]at he
  exact⟨hne,T,U,hT,hU,he⟩
structure TQ(w W:World)(q z5 z7 z9:Nat)(k which which':Sum)(v vS u uS:Value)(bs bu:List UInt8)(S S':List Sum):Prop where
 q:QW w W q
 rk:W.rangeAt z5 0 (cellsOf k)
 rs:W.rangeAt z7 0 (zDe which vS)
 rt:W.rangeAt z9 0 (zDe which' uS)
 bv:zDk W v bs
 bu:zDk W u bu
 ss:zD1 W vS S
 st:zD1 W uS S'
theorem TQ.mem{W W':World}{q z5 z7 z9:Nat}(h:TQ w W q z5 z7 z9 k which which' v vS u uS bs bu S S')(hb:Below W.heap.size W W'):TQ w W' q z5 z7 z9 k which which' v vS u uS bs bu S S':=by
 have kk:=zK hb
 exact⟨h.q.below hb,kk.range h.rk id,kk.range h.rs id,kk.range h.rt id,zDg h.bv hb (zzc _),zDg h.bu hb (zzc _),h.ss.below hb (zzc _),h.st.below hb (zzc _)⟩
theorem TQ.start(hv:zDk w v bs)(hs:zD1 w vS S)(hu:zDk w u bu)(ht:zD1 w uS S'):
  TQ w ((((w.alloc (.cells (cellsOf k).toArray 24)).alloc (.cells (zDe which vS).toArray 63)).alloc (.cells (zDe which' uS).toArray 63)).alloc (.cells #[.slice none 0 0,.slice none 0 0] 82)) (w.heap.size+1+1+1) w.heap.size (w.heap.size+1) (w.heap.size+1+1) k which which' v vS u uS bs bu S S':=by
 have hb0:=al (al (al (al (zze _ w) (.cells (cellsOf k).toArray 24)) (.cells (zDe which vS).toArray 63)) (.cells (zDe which' uS).toArray 63)) (.cells #[.slice none 0 0,.slice none 0 0] 82)
 have hz1:(w.alloc (.cells (cellsOf k).toArray 24)).heap.size=w.heap.size+1:=zzT _
 have hz2:((w.alloc (.cells (cellsOf k).toArray 24)).alloc (.cells (zDe which vS).toArray 63)).heap.size=w.heap.size+1+1:=by rw[zzp,hz1]
 have hz3:(((w.alloc (.cells (cellsOf k).toArray 24)).alloc (.cells (zDe which vS).toArray 63)).alloc (.cells (zDe which' uS).toArray 63)).heap.size=w.heap.size+1+1+1:=by rw[zzp,hz2]
 have hr0:=zzt (zzt (zzt (zDh w (cellsOf k).toArray 24 _ rfl) (.cells (zDe which vS).toArray 63)) (.cells (zDe which' uS).toArray 63)) (.cells #[.slice none 0 0,.slice none 0 0] 82)
 have hr1:=zzt (zzt (zDh (w.alloc (.cells (cellsOf k).toArray 24)) (zDe which vS).toArray 63 _ rfl) (.cells (zDe which' uS).toArray 63)) (.cells #[.slice none 0 0,.slice none 0 0] 82)
 have hr2:=zzt (zDh ((w.alloc (.cells (cellsOf k).toArray 24)).alloc (.cells (zDe which vS).toArray 63)) (zDe which' uS).toArray 63 _ rfl) (.cells #[.slice none 0 0,.slice none 0 0] 82)
 have hk3:=heap_alloc_new (((w.alloc (.cells (cellsOf k).toArray 24)).alloc (.cells (zDe which vS).toArray 63)).alloc (.cells (zDe which' uS).toArray 63)) (.cells #[.slice none 0 0,.slice none 0 0] 82)
 rw[hz1]at hr1
 rw[hz2]at hr2
 rw[hz3]at hk3
 exact⟨⟨hb0,hk3⟩,hr0,hr1,hr2,zDg hv hb0 (zzc _),zDg hu hb0 (zzc _),hs.below hb0 (zzc _),ht.below hb0 (zzc _)⟩
theorem zKu{K:Act->World->Prop}(x y:Operand)(ho:op.op=.store 82 x y)
  (b:Nat) (va vb:Value) (hx:a.eval x=.pointer (some ⟨b,0,none⟩)) (hy:a.eval y=.agg #[va,vb]) (h1:va.oneCell'=true) (h2:vb.oneCell'=true) (ht:w.there b 0 2)
  (h:K (a.put op.dst undef) (w.setCells b 0 [va,vb])):op.wp Tryz.prog a w K Q :=
 wp_store_mid _ x y ho b 0 _ hx hy ht zD2 (by simp[h1,h2]) h
theorem zYv(k which which':Sum)(v vS u uS:Value)(bs bu:List UInt8)(S S':List Sum)(w:World)(hv:zDk w v bs)(hs:zD1 w vS S)(hS:S.length<100000)(hbs:bs.length<900000)(hu:zDk w u bu)(ht:zD1 w uS S')(hS':S'.length<100000)(hbu:bu.length<900000):
  Calls Tryz.prog 43 #[sv k,v,shV which vS,u,shV which' uS] w fun e w'=>QC (zEq k bs which S bu which' S').isSome e/\Below w.heap.size w w':=by
 obtain⟨ds,hds⟩:∃ d,d=decide (bs=bu):=⟨_,rfl⟩
 obtain⟨o1,ho1⟩:∃ d,d=decide ((zIc k which 256 (vl k bs,S,false)).2.2=false/\(zIc k which 256 (vl k bs,S,false)).2.1=[]):=⟨_,rfl⟩
 obtain⟨o2,ho2⟩:∃ d,d=decide ((zIc k which' 256 (vl k bu,S',false)).2.2=false/\(zIc k which' 256 (vl k bu,S',false)).2.1=[]):=⟨_,rfl⟩
 obtain⟨dr,hdr⟩:∃ d,d=decide ((zIc k which 256 (vl k bs,S,false)).1=(zIc k which' 256 (vl k bu,S',false)).1):=⟨_,rfl⟩
 rw[yIc k bs which S bu which' S' ds o1 o2 dr hds ho1 ho2 hdr]
 have i1:∀ W:World,zDk W v bs->zD1 W vS S->Calls Tryz.prog 103 #[sv k,v,shV which vS] W fun e w'=>∃ x,e=.returned (.tuple #[sv x,.bool o1])/\(o1=true->x=(zIc k which 256 (vl k bs,S,false)).1)/\Below W.heap.size W w':=fun W g1 g2=>by
  refine (zOi k which v vS bs S W g1 g2 hS hbs).mono ?_
  rintro e w' ⟨x,ok,rfl,he,hx,hb⟩
  rw[<-ho1]at he
  exact⟨x,by rw[he],fun h=>hx (by rw[he,h]),hb⟩
 have i2:∀ W:World,zDk W u bu->zD1 W uS S'->Calls Tryz.prog 103 #[sv k,u,shV which' uS] W fun e w'=>∃ x,e=.returned (.tuple #[sv x,.bool o2])/\(o2=true->x=(zIc k which' 256 (vl k bu,S',false)).1)/\Below W.heap.size W w':=fun W g1 g2=>by
  refine (zOi k which' u uS bu S' W g1 g2 hS' hbu).mono ?_
  rintro e w' ⟨x,ok,rfl,he,hx,hb⟩
  rw[<-ho2]at he
  exact⟨x,by rw[he],fun h=>hx (by rw[he,h]),hb⟩
 have i3:o1=true->∀ W:World,zDk W v bs->zD1 W vS S->Calls Tryz.prog 115 #[sv k,v,shV which vS] W fun e w'=>∃ g,e=.returned (.slice (some ⟨g,0,none⟩) 256 256)/\zT7 w' g/\Below W.heap.size W w':=fun h W g1 g2=>zR7 k which v vS bs S W g1 g2 hS hbs (by rw[ho1,zzW]at h;exact h.1)
 have i4:o2=true->∀ W:World,zDk W u bu->zD1 W uS S'->Calls Tryz.prog 115 #[sv k,u,shV which' uS] W fun e w'=>∃ g,e=.returned (.slice (some ⟨g,0,none⟩) 256 256)/\zT7 w' g/\Below W.heap.size W w':=fun h W g1 g2=>zR7 k which' u uS bu S' W g1 g2 hS' hbu (by rw[ho2,zzW]at h;exact h.1)
 have i5:=fun (W:World) g=>zNt k bs v W g hbs
 have i6:=fun (W:World) g=>zNt k bu u W g hbu
 obtain⟨X1,hX1⟩:∃ x,x=(zIc k which 256 (vl k bs,S,false)).1:=⟨_,rfl⟩
 obtain⟨X2,hX2⟩:∃ x,x=(zIc k which' 256 (vl k bu,S',false)).1:=⟨_,rfl⟩
 rw[<-hX1]at i1 hdr
 rw[<-hX2]at i2 hdr
 have hq:=zHi X1 X2
 rw[<-hdr]at hq
 have HX:=zzb hq
 have HDS:=zzb hds
 have HI:=zAI i1 i2
 have HJ:=zAI i3 i4
 have HE:=zAI i5 i6
 have hst:=TQ.start (k:=k) (which:=which) (which':=which') hv hs hu ht
 obtain⟨q,hq'⟩:∃ q,q=w.heap.size+1+1+1:=⟨_,rfl⟩
 obtain⟨z9,hz9⟩:∃ q,q=w.heap.size+1+1:=⟨_,rfl⟩
 obtain⟨z7,hz7⟩:∃ q,q=w.heap.size+1:=⟨_,rfl⟩
 obtain⟨z5,hz5⟩:∃ q,q=w.heap.size:=⟨_,rfl⟩
 have HQ:=zzb (show w.heap.size<=q by omega)
 have HQE:=zAI hq' (zza hz9 (zza hz7 hz5))
 rw[<-hq',<-hz9,<-hz7,<-hz5]at hst
 obtain⟨W0,hW0⟩:∃ x,x=((((w.alloc (.cells (cellsOf k).toArray 24)).alloc (.cells (zDe which vS).toArray 63)).alloc (.cells (zDe which' uS).toArray 63)).alloc (.cells #[.slice none 0 0,.slice none 0 0] 82)):=⟨_,rfl⟩
 rw[<-hW0]at hst
 have H0:=zzb hst
 have HW0:=zzb hW0
 clear hv hs hS hbs hu ht hS' hbu hds ho1 ho2 hdr i1 i2 i3 i4 i5 i6 hX1 hX2 hq hst hq' hz9 hz7 hz5 hW0
 unfold shV
 go_enter Tryz.func43,Tryz.ntmps43
 refine Alm.wp_cut 1 ?_
 intro T hT
 dsimp only[zKi]
 replace hT:=zzb hT
 go_wp2_with fail
 refine hT.out _ _ ?_
 clear hT
 dsimp only[zF0]
 change Code.wp _ _ _ _ ((((w.alloc (.cells (cellsOf k).toArray 24)).alloc (.cells (zDe which vS).toArray 63)).alloc (.cells (zDe which' uS).toArray 63)).alloc (.cells #[.slice none 0 0,.slice none 0 0] 82))
 rw[<-HW0.out,<-HQE.out.1,<-HQE.out.2.1,<-HQE.out.2.2.1,<-HQE.out.2.2.2]
 clear HW0
 refine Alm.wp_cut 2 ?_
 intro T hT
 dsimp only[zKi]
 replace hT:=zzb hT
 go_wp2_with (first
  | (have _:=H0;refine zDb rfl _ rfl z5 0 rfl k H0.out.rk ?_)
  | (have _:=H0;refine zD6 rfl _ rfl z7 0 rfl which vS H0.out.rs ?_)
  | (have _:=H0;go_at_call 103;refine (HI.out.1 _ H0.out.bv H0.out.ss).mono ?_;rintro e V1 ⟨x1,rfl,hx1,hb⟩;have H1:=zzb (H0.out.mem hb);have HX1:=zzb hx1;clear H0 hb hx1)
  | (have _:=H1;refine zD3 (by rfl) rfl _ _ rfl x1 rfl rfl ?_;intro V2 hb hr ht;obtain⟨z12,hz12⟩:∃ z,z=V1.heap.size:=⟨_,rfl⟩;rw[<-hz12]at hr ⊢;have H2:=zAI (H1.out.mem hb) hr;clear H1 hb hr ht hz12)
  | (have _:=H2;refine zDb rfl _ rfl z5 0 rfl k H2.out.1.rk ?_)
  | (have _:=H2;refine zD6 rfl _ rfl z9 0 rfl which' uS H2.out.1.rt ?_)
  | (have _:=H2;go_at_call 103;refine (HI.out.2 _ H2.out.1.bu H2.out.1.st).mono ?_;rintro e V3 ⟨y1,rfl,hy1,hb⟩;have H3:=zAI (H2.out.1.mem hb) ((zK hb).range H2.out.2 id);have HY1:=zzb hy1;clear H2 hb hy1)
  | (have _:=H3;refine zD3 (by rfl) rfl _ _ rfl y1 rfl rfl ?_;intro V4 hb hr ht;obtain⟨z14,hz14⟩:∃ z,z=V3.heap.size:=⟨_,rfl⟩;rw[<-hz14]at hr ⊢;have H4:=zAI (H3.out.1.mem hb) (zza ((zK hb).range H3.out.2 id) hr);clear H3 hb hr ht hz14))
 refine hT.out _ _ ?_
 clear hT
 dsimp only[zF0]
 have hc1:=zGu H4.out.1.bv
 have hc2:=zGu H4.out.1.bu
 obtain⟨s1,hs1⟩:∃ s,s=zXv bs:=⟨_,rfl⟩
 obtain⟨s2,hs2⟩:∃ s,s=zXv bu:=⟨_,rfl⟩
 have hns:(s1.toList == s2.toList)=ds:=by
  rw[hs1,hs2,zI3,zI3,HDS.out]
  by_cases e:bs=bu<;>simp[e]
 rw[<-hs1]at hc1
 rw[<-hs2]at hc2
 clear hs1 hs2 HDS HI
 cases ds with
 | true =>
  go_wp2_with (refine zDo rfl _ _ rfl q (.slice none 0 0) (.slice none 0 0) rfl rfl rfl rfl H4.out.1.q.there ?_)
  try rw[zzs]
  exact zzM (zDq Tryz.results43 _ _ q 0 [_,_] _ rfl (zDf _ _ _ _ (zzd H4.out.1.q.there _ _ _)) Tryz.underlying82 rfl zD2) rfl ⟨⟨_,_,rfl,rfl,rfl⟩,by rw[HQE.out.2.2.2];exact zDc _ HQ.out _ _ _ _ H4.out.1.q.bw⟩
 | false =>
  cases o1 with
  | false =>
   go_wp2_with (refine zDo rfl _ _ rfl q (.slice none 0 0) (.slice none 0 0) rfl rfl rfl rfl H4.out.1.q.there ?_)
   try rw[zzs]
   exact zzM (zDq Tryz.results43 _ _ q 0 [_,_] _ rfl (zDf _ _ _ _ (zzd H4.out.1.q.there _ _ _)) Tryz.underlying82 rfl zD2) rfl ⟨⟨_,_,rfl,rfl,rfl⟩,by rw[HQE.out.2.2.2];exact zDc _ HQ.out _ _ _ _ H4.out.1.q.bw⟩
  | true =>
   cases o2 with
   | false =>
    go_wp2_with (refine zDo rfl _ _ rfl q (.slice none 0 0) (.slice none 0 0) rfl rfl rfl rfl H4.out.1.q.there ?_)
    try rw[zzs]
    exact zzM (zDq Tryz.results43 _ _ q 0 [_,_] _ rfl (zDf _ _ _ _ (zzd H4.out.1.q.there _ _ _)) Tryz.underlying82 rfl zD2) rfl ⟨⟨_,_,rfl,rfl,rfl⟩,by rw[HQE.out.2.2.2];exact zDc _ HQ.out _ _ _ _ H4.out.1.q.bw⟩
   | true =>
    obtain rfl:x1=X1:=HX1.out rfl
    obtain rfl:y1=X2:=HY1.out rfl
    replace HJ:=zAI (HJ.out.1 rfl) (HJ.out.2 rfl)
    clear HX1 HY1
    cases dr with
    | false =>
     have hq:=HX.out
     go_wp2_with (first
      | (refine zE9 (by rfl) _ rfl z12 0 rfl x1 H4.out.2.1 ?_)
      | (refine zE9 (by rfl) _ rfl z14 0 rfl y1 H4.out.2.2 ?_)
      | (refine zDo rfl _ _ rfl q (.slice none 0 0) (.slice none 0 0) rfl rfl rfl rfl H4.out.1.q.there ?_))
     try rw[zzs]
     exact zzM (zDq Tryz.results43 _ _ q 0 [_,_] _ rfl (zDf _ _ _ _ (zzd H4.out.1.q.there _ _ _)) Tryz.underlying82 rfl zD2) rfl ⟨⟨_,_,rfl,rfl,rfl⟩,by rw[HQE.out.2.2.2];exact zDc _ HQ.out _ _ _ _ H4.out.1.q.bw⟩
    | true =>
     have hq:=HX.out
     have c256:(256:Nat)<=256:=zzc _
     refine Alm.wp_cut 3 ?_
     intro T hT
     dsimp only[zKi]
     replace hT:=zzb hT
     go_wp2_with (first
      | (have _:=H4;refine zE9 (by rfl) _ rfl z12 0 rfl x1 H4.out.2.1 ?_)
      | (have _:=H4;refine zE9 (by rfl) _ rfl z14 0 rfl y1 H4.out.2.2 ?_)
      | (have _:=H4;refine zDb rfl _ rfl z5 0 rfl k H4.out.1.rk ?_)
      | (have _:=H4;refine zD6 rfl _ rfl z7 0 rfl which vS H4.out.1.rs ?_)
      | (have _:=H4;go_at_call 115;refine (HJ.out.1 _ H4.out.1.bv H4.out.1.ss).mono ?_;rintro e V5 ⟨ga,rfl,hl,hb⟩;have H5:=zAI (H4.out.1.mem hb) hl;clear H4 hb hl hc1 hc2 hns hq)
      | (have _:=H5;refine zDb rfl _ rfl z5 0 rfl k H5.out.1.rk ?_)
      | (have _:=H5;refine zD6 rfl _ rfl z9 0 rfl which' uS H5.out.1.rt ?_)
      | (have _:=H5;go_at_call 115;refine (HJ.out.2 _ H5.out.1.bu H5.out.1.st).mono ?_;rintro e V6 ⟨gb,rfl,hl,hb⟩;have H6:=zAI (H5.out.1.mem hb) (zza (H5.out.2.below hb) hl);clear H5 hb hl))
     refine hT.out _ _ ?_
     clear hT
     dsimp only[zF0]
     go_wp2_with fail
     go_loopw [18] (fun iv W=>∃ j:Nat,j<=256/\iv=.int .i64 (j:Int)/\TQ w W q z5 z7 z9 k which which' v vS u uS bs bu S S'/\zT7 W ga/\zT7 W gb) (fun iv _=>256 - (intOf iv).toNat)
     case atStart=>exact⟨0,zye _,rfl,H6.out.1,H6.out.2.1,H6.out.2.2⟩
     case round =>
      clear H6
      obtain⟨j,hj,rfl,hT,hla,hlb⟩:=hrel
      have H:=zAI hT (zza hla hlb)
      clear hT hla hlb
      by_cases hlt:j<256
      ·have d1:decide (j<256)=true:=by simpa using hlt
       have d2:decide ((j:Int)<256)=true:=by simp;omega
       have d3:(0:Int)<=(j:Int):=by omega
       have d4:(j:Int)<256:=by omega
       have hd:=(zze wr.heap.size wr).drew
       have HD:=zAI (H.out.1.mem hd) (zza (H.out.2.1.below hd) (H.out.2.2.below hd))
       have HLT:=zzb hlt
       clear hd hlt hj H
       obtain⟨ua,la,hua,hba⟩:=HD.out.2.1 j HLT.out
       obtain⟨ub,lb,hub,hbb⟩:=HD.out.2.2 j HLT.out
       obtain⟨aa,na,ca,rfl⟩:=zE1 hba
       obtain⟨ab,nb,cb,rfl⟩:=zE1 hbb
       have hfr:wr.drew.cell? ⟨ga,j,none⟩=some (.slice aa na ca)/\zDk wr.drew (.slice aa na ca) la:=⟨hua,hba⟩
       have HFR:=zzb hfr
       have HUB:=zzb hub
       have hcv:=zGu hbb
       obtain⟨db,hdb⟩:∃ d,d=decide (la=lb):=⟨_,rfl⟩
       obtain⟨t1,ht1⟩:∃ s,s=zXv la:=⟨_,rfl⟩
       obtain⟨t2,ht2⟩:∃ s,s=zXv lb:=⟨_,rfl⟩
       have hns:(t1.toList == t2.toList)=db:=by
        rw[ht1,ht2,zI3,zI3,hdb]
        by_cases e:la=lb<;>simp[e]
       rw[<-ht2]at hcv
       have HT1:=zzb ht1
       have HCV:=zzb hcv
       clear hdb ht1 ht2 hcv hua hba hub hbb hfr
       go_wp2_with fail
       refine zDd (fun V=>V.cell? ⟨ga,j,none⟩=some (.slice aa na ca)/\zDk V (.slice aa na ca) la) [.t 0,.t 1,.t 2,.t 5,.t 6,.t 7,.s 3,.s 4,.e 8 true,.e 9 true,.t 10] (by kernel_rfl) (by kernel_rfl) (by rintro _ _(_|_)_ _ h<;>exact h) ?_
       generalize World.drew _=V at *
       iterate 6
        refine zDp rfl (v:=?_) (by rfl) (fun W=>?_) ?_
        rotate_left
        ·go_simp
         try rfl
        try simp only[zU,zA,zB,zC]
       refine zEx (by exact HFR.out) rfl (v:=.slice aa na ca) (by rfl) (fun W hW=>?_) ?_
       ·have g:=hW.1
        go_simp
       try simp only[zU,zA,zB,zC]
       refine zEx (by exact HFR.out) rfl (v:=.string t1) (by rfl) (fun W hW=>?_) ?_
       ·have hk:=zGu hW.2
        rw[<-HT1.out]at hk
        go_simp
       try simp only[zU,zA,zB,zC]
       refine zD8 rfl (by rfl) (fun K hK=>?_)
       have g:=HUB.out
       go_simp
       clear g
       refine hK _ _ ⟨by exact HFR.out,?_⟩;clear hK K
       try simp only[zU,zA,zB,zC]
       refine zD8 rfl (by rfl) (fun K hK=>?_)
       have g:=HCV.out
       go_simp
       clear g
       refine hK _ _ ⟨by exact HFR.out,?_⟩;clear hK K
       try simp only[zU,zA,zB,zC]
       refine zDp rfl (v:=?_) (by rfl) (fun W=>?_) ?_
       rotate_left
       ·go_simp
        try rfl
       try simp only[zU,zA,zB,zC]
       refine zDn ?_
       cases db with
       | false =>
        go_wp2_with fail
        have hd2:=(zze V.heap.size V).drew
        have HD2:=zzb (HD.out.1.mem hd2)
        have HU2:=zAI ((zK hd2).cell HFR.out.1 id) ((zK hd2).cell HUB.out id)
        clear hd2 HD HFR HUB
        refine zDd (fun V=>V.cell? ⟨ga,j,none⟩=some (.slice aa na ca)) [.t 0,.t 1,.t 2,.t 4,.t 5,.t 6,.s 3,.e 7 true,.t 8,.e 9 false,.t 10] (by kernel_rfl) (by kernel_rfl) (by rintro _ _(_|_)_ _ h<;>exact h) ?_
        generalize World.drew _=V2 at *
        iterate 6
         refine zDp rfl (v:=?_) (by rfl) (fun W=>?_) ?_
         rotate_left
         ·go_simp
          try rfl
         try simp only[zU,zA,zB,zC]
        refine zEx (by exact HU2.out.1) rfl (v:=.slice aa na ca) (by rfl) (fun W hW=>?_) ?_
        ·have g:=hW
         go_simp
        try simp only[zU,zA,zB,zC]
        refine zD8 rfl (by rfl) (fun K hK=>?_)
        have g:=HU2.out.2
        go_simp
        clear g
        refine hK _ _ ⟨by exact HU2.out.1,?_⟩;clear hK K
        try simp only[zU,zA,zB,zC]
        refine zDp rfl (v:=?_) (by rfl) (fun W=>?_) ?_
        rotate_left
        ·go_simp
         try rfl
        try simp only[zU,zA,zB,zC]
        refine zEa rfl (by rfl) (fun K hK=>?_)
        refine zKu _ _ (by rfl) q (.slice aa na ca) (.slice ab nb cb) (by rfl) (by rfl) rfl rfl HD2.out.q.there ?_
        refine hK _ _ ?_;clear hK K
        try simp only[zU,zA,zB,zC]
        refine zDp rfl (v:=?_) (by rfl) (fun W=>?_) ?_
        rotate_left
        ·go_simp
         try rfl
        try simp only[zU,zA,zB,zC]
        refine zDn ?_
        go_wp2_with fail
        try rw[zzs]
        exact zzM (zDq Tryz.results43 _ _ q 0 [_,_] _ rfl (zDf _ _ _ _ (zzd HD2.out.q.there _ _ _)) Tryz.underlying82 rfl zD2) rfl ⟨⟨_,_,rfl,rfl,rfl⟩,by rw[HQE.out.2.2.2];exact zDc _ HQ.out _ _ _ _ HD2.out.q.bw⟩
       | true =>
        clear HT1 HCV HUB HFR
        go_wp2_with fail
        exact⟨⟨j+1,HLT.out,congrArg _ (by omega),HD.out.1,HD.out.2.1,HD.out.2.2⟩,by simp only[intOf];have:=HLT.out;omega⟩
      ·have hj6:j=256:=by omega
       subst hj6
       have hd:=(zze wr.heap.size wr).drew
       have HD:=zzb (H.out.1.mem hd)
       clear hd hlt hj H
       go_wp2_with fail
       refine zDd (fun V=>V.rangeAt z5 0 (cellsOf k)) [.t 1,.t 4,.s 0,.s 3,.e 2 true,.e 5 false,.t 6,.e 7 false,.t 8] (by kernel_rfl) (by kernel_rfl) (by rintro _ _(_|_)_ _ h<;>exact h) ?_
       generalize World.drew _=V at *
       iterate 2
        refine zDp rfl (v:=?_) (by rfl) (fun W=>?_) ?_
        rotate_left
        ·go_simp
         try rfl
        try simp only[zU,zA,zB,zC]
       refine zDl (by exact HD.out.rk) rfl (by rfl) _ (by rfl) z5 0 (by rfl) k (fun V hV=>hV) ?_
       try simp only[zU,zA,zB,zC]
       refine zDl (by exact HD.out.rk) rfl (by rfl) _ (by rfl) z5 0 (by rfl) k (fun V hV=>hV) ?_
       try simp only[zU,zA,zB,zC]
       refine zD8 rfl (by rfl) (fun K hK=>?_)
       go_simp
       refine (HE.out.1 V HD.out.bv).mono ?_
       rintro e V1 ⟨vx,rfl,hx,hb⟩
       obtain⟨ax,nx,cx,rfl⟩:=zE1 hx
       have H1:=zzb (HD.out.mem hb)
       clear hx hb HD
       refine hK _ _ ⟨by exact H1.out.rk,?_⟩;clear hK K
       try simp only[zU,zA,zB,zC]
       refine zEa rfl (by rfl) (fun K hK=>?_)
       go_simp
       refine (HE.out.2 V1 H1.out.bu).mono ?_
       rintro e V2 ⟨vy,rfl,hy,hb⟩
       obtain⟨ay,ny,cy,rfl⟩:=zE1 hy
       have H2:=zzb (H1.out.mem hb)
       clear hy hb H1
       refine hK _ _ ?_;clear hK K
       try simp only[zU,zA,zB,zC]
       refine zDp rfl (v:=?_) (by rfl) (fun W=>?_) ?_
       rotate_left
       ·go_simp
        try rfl
       try simp only[zU,zA,zB,zC]
       refine zEa rfl (by rfl) (fun K hK=>?_)
       refine zKu _ _ (by rfl) q (.slice ax nx cx) (.slice ay ny cy) (by rfl) (by rfl) rfl rfl H2.out.q.there ?_
       refine hK _ _ ?_;clear hK K
       try simp only[zU,zA,zB,zC]
       refine zDp rfl (v:=?_) (by rfl) (fun W=>?_) ?_
       rotate_left
       ·go_simp
        try rfl
       try simp only[zU,zA,zB,zC]
       refine zDn ?_
       go_wp2_with fail
       try rw[zzs]
       exact zzM (zDq Tryz.results43 _ _ q 0 [_,_] _ rfl (zDf _ _ _ _ (zzd H2.out.q.there _ _ _)) Tryz.underlying82 rfl zD2) rfl ⟨⟨_,_,rfl,rfl,rfl⟩,by rw[HQE.out.2.2.2];exact zDc _ HQ.out _ _ _ _ H2.out.q.bw⟩
end Go.Proofs.YtfmgoehnbaiamaaGreatDoor
