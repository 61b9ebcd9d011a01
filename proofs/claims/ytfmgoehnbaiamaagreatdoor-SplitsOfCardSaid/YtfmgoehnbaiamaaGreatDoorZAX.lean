/- Joined: BY6, BM2, BM3, BM4, GB1, BP3. -/
import Derived.Test.YtfmgoehnbaiamaaGreatDoorZAW
import Derived.Deep.AppendLies
import Derived.WalkMore
import Derived.Great.BuildSlice
set_option maxRecDepth 100000
set_option maxHeartbeats 1000000
open Go Go.RowKit Alm
namespace Go.Proofs.YtfmgoehnbaiamaaGreatDoor
variable {K:Act->World->Prop}{Q:Exit->Act->World->Prop}{xs:List (List Value)}{H:List zFt}{N base j k n off q size:Nat}{S:Nat->List (List Value)}{mk:Nat->List Value}{a:Nat->Nat}{X:Nat->Prop}{F L:Nat->Value}{o:Oper}{α:Type}{t:TypeId}{v v' x:Value}{W W' w:World}
theorem yEf(n:Nat)(w:World)(hn:n<256):Calls Tryz.prog 135 #[.int .u8 ((n:Nat):Int),.int .i64 ((n:Nat):Int)] w fun e w'=>e=.returned (.bool true)/\Below w.heap.size w w':=by
 have h1:IntKind.u8.wrap (n:Int)=(n:Int):=by rw[IntKind.wrap_u8];omega
 have h2:(n:Int)%256=(n:Int):=by omega
 clear hn
 go_enter Tryz.func135,Tryz.ntmps135
 go_wp2_with fail
 exact zzM (zzN rfl _ _ _) rfl ⟨rfl,zze _ _⟩
theorem zUl(base q n:Nat)(hv:Value)(F:Nat->Value)(H:List zFt)(a:Nat->Nat)(w:World)(hb:zHw w q n F)(hF:F 1=hv)(hrow:zKz w 136 base q hv H)(h1:∀ i,i<H.length->Lie w base 1 (lst H i) (List.replicate (a i) (mkB (num H i))))(h2:∀ i,i<H.length->Lie w base 1 (lng H i) (List.replicate (a i+40) (mkB (num H i))))(hN:∀ i,i<H.length->num H i<256)(hA:∀ i,i<H.length->a i<900000)(hH:H.length<100000):
  Calls Tryz.prog 85 #[.pointer (some ⟨q,0,none⟩)] w fun e w'=>e=.returned (.bool true)/\Below w.heap.size w w':=by
 obtain⟨ah,ch,hform⟩:=hrow.form
 obtain⟨N,hNN⟩:∃ N,N=H.length:=⟨_,rfl⟩
 rw[<-hNN]at hform
 subst hform
 have H0:=zAI hb (zza hrow (zza h1 h2))
 have HH:=zAI hN (zza hA (zza hH (zza hNN hF)))
 clear hb hF hrow h1 h2 hN hA hH hNN
 go_enter Tryz.func85,Tryz.ntmps85
 go_wp2_with fail
 go_loopw [3] (fun iv W=>∃ i:Nat,i<=N/\iv=.int .i64 (i:Int)/\Below w.heap.size w W) (fun iv _=>N - (intOf iv).toNat)
 case atStart=>exact⟨0,by omega,rfl,zze _ _⟩
 case round =>
  obtain⟨i,hi,rfl,hG⟩:=hrel
  have HB:=zzb hG
  have g5:wr.cell? ⟨q,1,none⟩=some (.slice ah N ch):=by rw[<-HH.out.2.2.2.2];exact (H0.out.1.below hG).cs 1 (by omega) (by omega)
  clear hG
  by_cases hlt:i<N
  ·obtain⟨c1,c1',hj0,hlt'⟩:=zHy hlt
   have hiH:i<H.length:=by rw[<-HH.out.2.2.2.1];exact hlt
   obtain⟨gH,capH,he,_,_,_,hat⟩:=(H0.out.2.1.below HB.out).at hiH
   rw[<-HH.out.2.2.2.1]at he
   simp only[zzh,true_and]at he
   obtain⟨rfl,rfl⟩:=he
   obtain⟨m,hm⟩:∃ m,m=a i:=⟨_,rfl⟩
   obtain⟨M,hM⟩:∃ M,M=m+40:=⟨_,rfl⟩
   obtain⟨nm,hnm⟩:∃ x,x=num H i:=⟨_,rfl⟩
   have hl1:=H0.out.2.2.1 i hiH
   have hl2:=H0.out.2.2.2 i hiH
   rw[<-hm,<-hnm]at hl1 hl2
   rw[<-hM]at hl2
   obtain⟨al,cl,hfl⟩:=zTy hl1
   obtain⟨gL,cL,hfL⟩:=zM2 hl2 (by rw[hM];exact Nat.succ_pos _)
   have hcl:zDx (hd H i)=zDx (.slice al m cl,.slice (some ⟨gL,0,none⟩) M cL,nm):=by
    rw[<-hfl,<-hfL,hnm];rfl
   rw[hcl]at hat
   rw[hfl]at hl1
   rw[hfL]at hl2
   have hm9:m<900000:=by rw[hm];exact HH.out.2.1 i hiH
   have hnm9:nm<256:=by rw[hnm];exact HH.out.1 i hiH
   have hu:nm<256:=hnm9
   obtain⟨hwM,hM0,hm0⟩:=zXq hM hm9
   have HF:=zAI hl1 (zza hl2 (zza hM (zza hu hm9)))
   have HWM:=zAI hwM hM0
   clear hfl hfL hm hM hnm hcl hiH hl1 hl2 hnm9 hu hm9 hwM hM0
   have HG:=zzb trivial
   have HAT:=zzb hat
   clear hat
   go_wp2_with (first
    | (refine zIi rfl _ rfl gH (i*3) rfl _ HAT.out ?_)
    | (have _:=HG;refine zJc (by rfl) rfl _ _ rfl (.slice al m cl,.slice (some ⟨gL,0,none⟩) M cL,nm) rfl rfl (by rfl) (by rfl) ?_;clear HG))
   intro W2 hb hr2
   obtain⟨bx,hbx⟩:∃ z,z=wr.heap.size:=⟨_,rfl⟩
   rw[<-hbx]at hr2 ⊢
   have H2:=zAI hb hr2
   have HB2:=zzb (HB.out.trans (hb.mono HB.out.size))
   have g0:W2.cell? ⟨bx,0,none⟩=some (.slice al m cl):=hr2 0 _ rfl
   have g1:W2.cell? ⟨bx,1,none⟩=some (.slice (some ⟨gL,0,none⟩) M cL):=hr2 1 _ rfl
   clear hb hr2 hbx
   have hwM:=HWM.out.1
   have hM0:=HWM.out.2
   go_wp2_with fail
   clear g5 g0 g1 hwM hM0
   go_loopw [5] (fun kv V=>∃ k:Nat,k<=M/\kv=.int .i64 (k:Int)/\Below W2.heap.size W2 V) (fun kv _=>M - (intOf kv).toNat)
   case atStart=>exact⟨0,zye _,rfl,zze _ _⟩
   case round =>
    obtain⟨k,hk,rfl,hK⟩:=hrel
    have hX:wr.rangeAt bx 0 (zDx (.slice al m cl,.slice (some ⟨gL,0,none⟩) M cL,nm)):=(zK hK).range H2.out.2 id
    have g1:wr.cell? ⟨bx,1,none⟩=some (.slice (some ⟨gL,0,none⟩) M cL):=hX 1 _ rfl
    have HKK:=zzb hK
    by_cases hkm:k<M
    ·obtain⟨d1,d1',hk0,hkm'⟩:=zHy hkm
     have hMe:decide ((k:Int)<(m:Int)+40)=true:=by rw[<-HWM.out.2];exact d1'
     have hMl:(k:Int)<(m:Int)+40:=by rw[<-HWM.out.2];exact hkm'
     have hd:=(zze wr.heap.size wr).drew
     have hL2:wr.drew.rangeAt gL (k*1) (mkB nm):=zMv (((HF.out.2.1.below HB2.out).below hK).below hd) hkm
     have hX2:=(zK hd).range hX id
     have HJ:=zAI hL2 (zza hX2 hd)
     have HCm:=zzb (fun W=>yEf nm W HF.out.2.2.2.1)
     have hwk:wrap64 ((k:Int)+1)=((k+1:Nat):Int):=zE2 (m:=999999) (by have:=HF.out.2.2.1;have:=HF.out.2.2.2.2;omega) (by decide)
     have HWK:=zzb hwk
     clear hL2 hX2 hX hd hK hwk
     by_cases hkn:k<m
     ·obtain⟨e1,e1',_,hkn'⟩:=zHy hkn
      obtain⟨gi,ci,hgi⟩:=zM2 HF.out.1 (zzz (zye _) hkn)
      simp only[zzh,true_and]at hgi
      obtain⟨rfl,rfl⟩:=hgi
      have hS2:wr.drew.rangeAt gi (k*1) (mkB nm):=zMv (((HF.out.1.below HB2.out).below HKK.out).below HJ.out.2.2) hkn
      have HS:=zzb hS2
      clear hS2
      go_wp2_with fail
      refine zDd (fun V=>Below wr.drew.heap.size wr.drew V) [.t 0,.t 2,.t 5,.s 1,.t 3,.s 4,.e 6 true,.e 7 true,.t 8,.t 9,.t 10,.t 11,.e 12 true,.t 13,.t 14,.t 15,.t 16,.t 18,.t 21,.s 17,.t 19,.s 20,.e 22 true,.e 23 false,.t 24,.t 25,.t 26] (by kernel_rfl) (by kernel_rfl) (by rintro _ _(_|_)_ _ h<;>exact h) ?_
      change wpS _ _ _ _ _ _ _ wr.drew
      have hsz:wr.drew.heap.size=wr.heap.size:=rfl
      have hKd:Below W2.heap.size W2 wr.drew:=HKK.out.drew
      have HKD:=zzb hKd
      clear hsz hKd g1 HKK
      generalize wr.drew=V at *
      iterate 3
       refine zDp rfl (v:=?_) (by rfl) (fun W=>?_) ?_
       rotate_left
       ·go_simp
        try rfl
       try simp only[zU,zA,zB,zC]
      refine zEx (zze _ _) rfl (v:=.slice (some ⟨gL,0,none⟩) M cL) (by rfl) (fun W hW=>?_) ?_
      ·have g:W.cell? ⟨bx,1,none⟩=some (.slice (some ⟨gL,0,none⟩) M cL):=(zK hW).cell (HJ.out.2.1 1 _ rfl) id
       go_simp
      try simp only[zU,zA,zB,zC]
      refine zDp rfl (v:=?_) (by rfl) (fun W=>?_) ?_
      rotate_left
      ·go_simp
       try rfl
      try simp only[zU,zA,zB,zC]
      refine zEx (zze _ _) rfl (v:=.int .u8 ((nm:Nat):Int)) (by rfl) (fun W hW=>?_) ?_
      ·have g:W.cell? ⟨gL,k,none⟩=some (.int .u8 ((nm:Nat):Int)):=by have:=(zK hW).range HJ.out.1 id 0 _ rfl;rwa[Nat.mul_one]at this
       go_simp
      try simp only[zU,zA,zB,zC]
      refine zD8 rfl (by rfl) (fun K hK=>?_)
      have g:V.cell? ⟨bx,2,none⟩=some (.int .i64 ((nm:Nat):Int)):=HJ.out.2.1 2 _ rfl
      go_simp
      refine hK _ _ ⟨zze _ _,?_⟩;clear hK K
      try simp only[zU,zA,zB,zC]
      clear g
      refine zD8 rfl (by rfl) (fun K hK=>?_)
      go_simp
      refine (HCm.out V).mono ?_
      rintro e V2 ⟨rfl,hb2⟩
      have HV2:=zzb hb2
      clear hb2
      refine hK _ _ ⟨HV2.out,?_⟩;clear hK K
      try simp only[zU,zA,zB,zC]
      iterate 4
       refine zDp rfl (v:=?_) (by rfl) (fun W=>?_) ?_
       rotate_left
       ·go_simp
        try rfl
       try simp only[zU,zA,zB,zC]
      refine zD8 rfl (by rfl) (fun K hK=>?_)
      have g:V2.cell? ⟨bx,0,none⟩=some (.slice (some ⟨gi,0,none⟩) m cl):=(zK HV2.out).cell (HJ.out.2.1 0 _ rfl) id
      go_simp
      refine hK _ _ ⟨HV2.out,?_⟩;clear hK K
      try simp only[zU,zA,zB,zC]
      clear g
      iterate 3
       refine zDp rfl (v:=?_) (by rfl) (fun W=>?_) ?_
       rotate_left
       ·go_simp
        try rfl
       try simp only[zU,zA,zB,zC]
      iterate 3
       refine zDp rfl (v:=?_) (by rfl) (fun W=>?_) ?_
       rotate_left
       ·go_simp
        try rfl
       try simp only[zU,zA,zB,zC]
      refine zEx HV2.out rfl (v:=.slice (some ⟨gi,0,none⟩) m cl) (by rfl) (fun W hW=>?_) ?_
      ·have g:W.cell? ⟨bx,0,none⟩=some (.slice (some ⟨gi,0,none⟩) m cl):=(zK hW).cell (HJ.out.2.1 0 _ rfl) id
       go_simp
      try simp only[zU,zA,zB,zC]
      refine zDp rfl (v:=?_) (by rfl) (fun W=>?_) ?_
      rotate_left
      ·go_simp
       try rfl
      try simp only[zU,zA,zB,zC]
      refine zEx HV2.out rfl (v:=.int .u8 ((nm:Nat):Int)) (by rfl) (fun W hW=>?_) ?_
      ·have g:W.cell? ⟨gi,k,none⟩=some (.int .u8 ((nm:Nat):Int)):=by have:=(zK hW).range HS.out id 0 _ rfl;rwa[Nat.mul_one]at this
       go_simp
      try simp only[zU,zA,zB,zC]
      refine zD8 rfl (by rfl) (fun K hK=>?_)
      have g:V2.cell? ⟨bx,2,none⟩=some (.int .i64 ((nm:Nat):Int)):=(zK HV2.out).cell (HJ.out.2.1 2 _ rfl) id
      go_simp
      refine hK _ _ ⟨HV2.out,?_⟩;clear hK K
      try simp only[zU,zA,zB,zC]
      clear g
      refine zEa rfl (by rfl) (fun K hK=>?_)
      go_simp
      refine (HCm.out V2).mono ?_
      rintro e V3 ⟨rfl,hb3⟩
      have HV3:=zzb (HV2.out.trans (hb3.mono HV2.out.size))
      clear hb3
      refine hK _ _ ?_;clear hK K
      try simp only[zU,zA,zB,zC]
      iterate 3
       refine zDp rfl (v:=?_) (by rfl) (fun W=>?_) ?_
       rotate_left
       ·go_simp
        try rfl
       try simp only[zU,zA,zB,zC]
      refine zDn ?_
      go_wp2_with fail
      have hfin:Below W2.heap.size W2 V3:=HKD.out.trans (HV3.out.mono HKD.out.size)
      have hki:(k:Int)+1=((k+1:Nat):Int):=rfl
      rw[hki]
      clear HJ HKD HS HCm HF H2 HAT
      exact⟨⟨k+1,hkm,rfl,hfin⟩,by simp only[intOf,zzF];omega⟩
     ·obtain⟨e1,e1',hkn'⟩:decide (k<m)=false/\decide ((k:Int)<(m:Int))=false/\¬(k:Int)<(m:Int):=⟨by simpa using hkn,by simpa using hkn,by omega⟩
      go_wp2_with fail
      refine zDd (fun V=>Below wr.drew.heap.size wr.drew V) [.t 0,.t 2,.t 5,.s 1,.t 3,.s 4,.e 6 true,.e 7 true,.t 8,.t 9,.t 10,.t 11,.e 12 true,.t 13,.t 14,.t 15,.t 16,.t 18,.t 21,.s 17,.t 19,.s 20,.e 22 true,.e 23 false,.t 24,.t 25,.t 26] (by kernel_rfl) (by kernel_rfl) (by rintro _ _(_|_)_ _ h<;>exact h) ?_
      change wpS _ _ _ _ _ _ _ wr.drew
      have hsz:wr.drew.heap.size=wr.heap.size:=rfl
      have hKd:Below W2.heap.size W2 wr.drew:=HKK.out.drew
      have HKD:=zzb hKd
      clear hsz hKd g1 HKK
      generalize wr.drew=V at *
      iterate 3
       refine zDp rfl (v:=?_) (by rfl) (fun W=>?_) ?_
       rotate_left
       ·go_simp
        try rfl
       try simp only[zU,zA,zB,zC]
      refine zEx (zze _ _) rfl (v:=.slice (some ⟨gL,0,none⟩) M cL) (by rfl) (fun W hW=>?_) ?_
      ·have g:W.cell? ⟨bx,1,none⟩=some (.slice (some ⟨gL,0,none⟩) M cL):=(zK hW).cell (HJ.out.2.1 1 _ rfl) id
       go_simp
      try simp only[zU,zA,zB,zC]
      refine zDp rfl (v:=?_) (by rfl) (fun W=>?_) ?_
      rotate_left
      ·go_simp
       try rfl
      try simp only[zU,zA,zB,zC]
      refine zEx (zze _ _) rfl (v:=.int .u8 ((nm:Nat):Int)) (by rfl) (fun W hW=>?_) ?_
      ·have g:W.cell? ⟨gL,k,none⟩=some (.int .u8 ((nm:Nat):Int)):=by have:=(zK hW).range HJ.out.1 id 0 _ rfl;rwa[Nat.mul_one]at this
       go_simp
      try simp only[zU,zA,zB,zC]
      refine zD8 rfl (by rfl) (fun K hK=>?_)
      have g:V.cell? ⟨bx,2,none⟩=some (.int .i64 ((nm:Nat):Int)):=HJ.out.2.1 2 _ rfl
      go_simp
      refine hK _ _ ⟨zze _ _,?_⟩;clear hK K
      try simp only[zU,zA,zB,zC]
      clear g
      refine zD8 rfl (by rfl) (fun K hK=>?_)
      go_simp
      refine (HCm.out V).mono ?_
      rintro e V2 ⟨rfl,hb2⟩
      have HV2:=zzb hb2
      clear hb2
      refine hK _ _ ⟨HV2.out,?_⟩;clear hK K
      try simp only[zU,zA,zB,zC]
      iterate 4
       refine zDp rfl (v:=?_) (by rfl) (fun W=>?_) ?_
       rotate_left
       ·go_simp
        try rfl
       try simp only[zU,zA,zB,zC]
      refine zD8 rfl (by rfl) (fun K hK=>?_)
      have g:V2.cell? ⟨bx,0,none⟩=some (.slice al m cl):=(zK HV2.out).cell (HJ.out.2.1 0 _ rfl) id
      go_simp
      refine hK _ _ ⟨HV2.out,?_⟩;clear hK K
      try simp only[zU,zA,zB,zC]
      clear g
      iterate 3
       refine zDp rfl (v:=?_) (by rfl) (fun W=>?_) ?_
       rotate_left
       ·go_simp
        try rfl
       try simp only[zU,zA,zB,zC]
      iterate 3
       refine zD0 rfl (by rfl) ?_
       try simp only[zU,zA,zB,zC]
      refine zE4 (HV2.out) rfl (by rfl) ?_
      try simp only[zU,zA,zB,zC]
      refine zD0 rfl (by rfl) ?_
      try simp only[zU,zA,zB,zC]
      refine zE4 (HV2.out) rfl (by rfl) ?_
      try simp only[zU,zA,zB,zC]
      refine zGd (HV2.out) rfl (by rfl) ?_
      try simp only[zU,zA,zB,zC]
      refine zFo rfl (by rfl) ?_
      try simp only[zU,zA,zB,zC]
      refine zD0 rfl (by rfl) ?_
      try simp only[zU,zA,zB,zC]
      iterate 2
       refine zDp rfl (v:=?_) (by rfl) (fun W=>?_) ?_
       rotate_left
       ·go_simp
        try rfl
       try simp only[zU,zA,zB,zC]
      refine zDn ?_
      go_wp2_with fail
      have hfin:Below W2.heap.size W2 V2:=HKD.out.trans (HV2.out.mono HKD.out.size)
      have hki:(k:Int)+1=((k+1:Nat):Int):=rfl
      rw[hki]
      clear HJ HKD HCm HF H2 HAT
      exact⟨⟨k+1,hkm,rfl,hfin⟩,by simp only[intOf,zzF];omega⟩
    ·obtain rfl:k=M:=by omega
     have hMl:¬(k:Int)<(m:Int)+40:=by rw[<-HWM.out.2];exact Int.lt_irrefl _
     have hMe:decide ((k:Int)<(m:Int)+40)=false:=zz1 hMl
     have hwi:wrap64 ((i:Int)+1)=((i+1:Nat):Int):=zE2 (m:=100000) (by have:=HH.out.2.2.1;have:=HH.out.2.2.2.1;omega) (by decide)
     have HWI:=zzb hwi
     have HEND:=zzb (HB2.out.trans (hK.mono HB2.out.size))
     clear hwi hK HKK hX
     go_wp2_with fail
     have hfin:=HEND.out
     rw[HWI.out]
     clear HF H2 HAT HEND HWM HWI HB2 HB H0
     exact⟨⟨i+1,hlt,rfl,hfin⟩,by simp only[intOf,zzF];omega⟩
  ·have hjn:i=N:=by omega
   subst hjn
   go_wp2_with fail
   exact zzM (zzN rfl _ _ _) rfl ⟨rfl,HB.out⟩
structure KB(W:World)(t:TypeId)(size base q n:Nat)(v:Value)(H:List zFt)(S:Nat->List (List Value)):Prop where
 row:zKz W t base q v H
 lies:zKa W base size H S
 ap:zL3 H q v
 nums:∀ i,i<H.length->num H i<=n
 lngs:∀ i,i<H.length->lng H i=.slice none 0 0
 lens:∀ i,i<H.length->(S i).length<900000
def zHx(v:Value)(H:List zFt)(k:Nat):Prop:=v.ownBlock=some k∨InH H k
theorem KB.lt(h:KB W t size base q n v H S)(hk:zHx v H k):base<=k/\k<W.heap.size:=by
 rcases hk with hk | ⟨i,hi,hk⟩
 ·exact h.row.1.lt k hk
 ·exact (h.lies i hi).lt k hk
theorem KB.ne(h:KB W t size base q n v H S)(hk:zHx v H k):k≠q:=by
 rcases hk with hk | ⟨i,hi,hk⟩
 ·intro e;subst e;exact h.row.2 hk
 ·exact (h.ap i hi k hk).1
theorem KB.keep(h:KB W t size base q n v H S)(hk:zDj X W W')(hx:∀ k,zHx v H k->¬X k):KB W' t size base q n v H S :=
 ⟨h.row.keep hk (fun k h=>hx k (.inl h)),fun i hi=>(h.lies i hi).keep hk (fun k h=>hx k (.inr ⟨i,hi,h⟩)),h.ap,h.nums,h.lngs,h.lens⟩
theorem KB.up{W:World}{t:TypeId}{size base q n m:Nat}{v:Value}{H:List zFt}{S:Nat->List (List Value)}(h:KB W t size base q n v H S)(hm:n<=m):KB W t size base q m v H S :=
 ⟨h.row,h.lies,h.ap,fun i hi=>zzk (h.nums i hi) hm,h.lngs,h.lens⟩
theorem KB.start(W:World)(t:TypeId)(size base q n:Nat):KB W t size base q n (.slice none 0 0) [] (fun _=>[]) :=
 ⟨⟨World.ownsRow_nil _ _ _ _,by simp[Value.ownBlock]⟩,fun i hi=>by simp at hi,fun i hi=>by simp at hi,fun i hi=>by simp at hi,fun i hi=>by simp at hi,fun i hi=>by simp at hi⟩
theorem KB.tell(h:KB W t size base q n v H S)
  (hrow:zKz W' t base q v' (H++[(x,.slice none 0 0,n+1)])) (hblk:∀ k,v'.ownBlock=some k->v.ownBlock=some k∨W.heap.size<=k) (hk:zDj (fun i=>i=q∨v.ownBlock=some i) W W')
  (hl:Lie W base size x xs) (hx:∀ k,x.ownBlock=some k->k≠q/\¬zHx v H k) (hn:xs.length<900000):KB W' t size base q (n+1) v' (H++[(x,.slice none 0 0,n+1)]) (yIr H S xs):=by
 refine⟨hrow,?_,?_,?_,?_,?_⟩
 ·intro i hi
  have hin:∀ k,InH H k->¬(k=q∨v.ownBlock=some k):=fun k ⟨j,hj,hk2⟩ e=>by
   rcases e with e | e
   ·exact (h.ap j hj k hk2).1 e
   ·exact (h.ap j hj k hk2).2.1 e
  unfold lst yIr
  rw[zLc]
  by_cases h1:i<H.length
  ·rw[zzY h1,zzY h1]
   exact (h.lies i h1).keep hk (fun k hk2=>hin k ⟨i,h1,hk2⟩)
  ·rw[zzZ h1,zzY (by rw[zzi,zzy]at hi;omega),zzZ h1]
   exact hl.keep hk (fun k hk2 e=>by
    rcases e with e | e
    ·exact (hx k hk2).1 e
    ·exact (hx k hk2).2 (.inl e))
 ·intro i hi g hg
  unfold lst at hg ⊢
  rw[zLc]at hg
  have hq:g≠q/\g<W.heap.size/\v.ownBlock≠some g:=by
   by_cases h1:i<H.length
   ·rw[zzY h1]at hg
    exact⟨(h.ap i h1 g hg).1,((h.lies i h1).lt g hg).2,(h.ap i h1 g hg).2.1⟩
   ·rw[zzZ h1,zzY (by rw[zzi,zzy]at hi;omega)]at hg
    exact⟨(hx g hg).1,(hl.lt g hg).2,fun e=>(hx g hg).2 (.inl e)⟩
  refine⟨hq.1,fun e=>?_,fun j hj hne=>?_⟩
  ·rcases hblk g e with h1 | h1
   ·exact hq.2.2 h1
   ·have:=hq.2.1;omega
  ·rw[zLc]
   by_cases h1:i<H.length
   ·rw[zzY h1]at hg
    by_cases h2:j<H.length
    ·rw[zzY h2];exact (h.ap i h1 g hg).2.2 j h2 hne
    ·rw[zzZ h2,zzY (by rw[zzi,zzy]at hj;omega)]
     intro e
     exact (hx g e).2 (.inr ⟨i,h1,hg⟩)
   ·rw[zzZ h1,zzY (by rw[zzi,zzy]at hi;omega)]at hg
    by_cases h2:j<H.length
    ·rw[zzY h2]
     intro e
     exact (hx g hg).2 (.inr ⟨j,h2,e⟩)
    ·rw[zzi,zzy]at hi hj;omega
 ·intro i hi
  unfold Alm.num
  rw[zLc]
  by_cases h1:i<H.length
  ·rw[zzY h1];exact Nat.le_succ_of_le (h.nums i h1)
  ·rw[zzi,zzy]at hi
   rw[zzZ h1,zzY (by omega)]
   exact zzc _
 ·intro i hi
  unfold Alm.lng
  rw[zLc]
  by_cases h1:i<H.length
  ·rw[zzY h1];exact h.lngs i h1
  ·rw[zzi,zzy]at hi
   rw[zzZ h1,zzY (by omega)]
 ·intro i hi
  unfold yIr
  by_cases h1:i<H.length
  ·rw[zzY h1];exact h.lens i h1
  ·rw[zzZ h1];exact hn
theorem zUy(h:zHx v' (H++[(x,.slice none 0 0,n)]) k)(hb:∀ k,v'.ownBlock=some k->v.ownBlock=some k∨N<=k):zHx v H k∨N<=k∨x.ownBlock=some k:=by
 rcases h with e | ⟨i,hi,e⟩
 ·rcases hb k e with e | e
  ·exact .inl (.inl e)
  ·exact .inr (.inl e)
 ·unfold lst at e
  rw[zLc]at e
  by_cases h1:i<H.length
  ·rw[zzY h1]at e
   exact .inl (.inr ⟨i,h1,e⟩)
  ·rw[zzZ h1,zzY (by rw[zzi,zzy]at hi;omega)]at e
   exact .inr (.inr e)
theorem KB.fill(h:KB W t size base q n v H S)(hl:zKa W' base size H (zLz mk H S))(hk:zDj (InH H) W W'):KB W' t size base q n v H (zLz mk H S) :=
 ⟨h.row.keep hk (not_row h.ap),hl,h.ap,h.nums,h.lngs,fun i hi=>by rw[yDk];exact h.lens i hi⟩
structure KG(W:World)(t:TypeId)(size base q:Nat)(v:Value)(mk:Nat->List Value)(H:List zFt)(a:Nat->Nat)(L:Nat->Value):Prop where
 row:zKz W t base q v (zH0 H L H.length)
 lies:∀ i,i<H.length->Lie W base size (lst H i) (List.replicate (a i) (mk (num H i)))
 long:∀ i,i<H.length->Lie W base size (L i) (List.replicate (a i+40) (mk (num H i)))
theorem KG.of_grow(h:zLn mk size off t w W base q n F v H (zLz mk H S) H.length L):KG W t size base q v mk H (fun i=>(S i).length) L :=
 ⟨h.row,fun i hi=>h.lies i hi,fun i hi=>by
  have:=(h.long i hi hi).1
  rwa[zLz,List.replicate_append_replicate]at this⟩
def zQ0(v:Value)(H:List zFt)(L:Nat->Value)(k:Nat):Prop:=zHx v H k∨∃ i,i<H.length/\(L i).ownBlock=some k
theorem KG.keep(h:KG W t size base q v mk H a L)(hk:zDj X W W')(hx:∀ k,zQ0 v H L k->¬X k):KG W' t size base q v mk H a L :=
 ⟨h.row.keep hk (fun k h=>hx k (.inl (.inl h))),fun i hi=>(h.lies i hi).keep hk (fun k h=>hx k (.inl (.inr ⟨i,hi,h⟩))),fun i hi=>(h.long i hi).keep hk (fun k h=>hx k (.inr ⟨i,hi,h⟩))⟩
theorem KG.below(h:KG W t size base q v mk H a L)(hb:Below W.heap.size W W'):KG W' t size base q v mk H a L:=h.keep (zK hb) (fun _ _ h=>h)
theorem zTm(h:zLn mk size off t w W base q n F v H S H.length L)(hk:zQ0 v H L k):zHx v H k∨w.heap.size<=k:=by
 rcases hk with hk | ⟨i,hi,hk⟩
 ·exact .inl hk
 ·rcases (h.long i hi hi).2 k hk with e | e
  ·exact .inl (.inr ⟨i,hi,e⟩)
  ·exact .inr e
theorem zF1(H:List zFt)(L:Nat->Value)(i:Nat)(hi:i<H.length):lst (zH0 H L H.length) i=lst H i/\lng (zH0 H L H.length) i=L i/\num (zH0 H L H.length) i=num H i:=by
 unfold lst lng num
 rw[zLa H L _ i hi,zzY hi]
 exact⟨rfl,rfl,rfl⟩
theorem zZ4(base q n:Nat)(F:Nat->Value)(H:List zFt)(a:Nat->Nat)(L:Nat->Value)(w:World)(hb:zHw w q n F)(h:KG w 136 1 base q (F 1) mkB H a L)(hN:∀ i,i<H.length->num H i<256)(hA:∀ i,i<H.length->a i<900000)(hH:H.length<100000):Calls Tryz.prog 85 #[.pointer (some ⟨q,0,none⟩)] w fun e w'=>e=.returned (.bool true)/\Below w.heap.size w w':=by
 have hll:=zEu H L H.length
 refine zUl base q n (F 1) F (zH0 H L H.length) a w hb rfl h.row (fun i hi=>?_) (fun i hi=>?_) (fun i hi=>?_) (fun i hi=>?_) (by rw[hll];exact hH)
 ·rw[hll]at hi
  rw[(zF1 H L i hi).1,(zF1 H L i hi).2.2]
  exact h.lies i hi
 ·rw[hll]at hi
  rw[(zF1 H L i hi).2.1,(zF1 H L i hi).2.2]
  exact h.long i hi
 ·rw[hll]at hi
  rw[(zF1 H L i hi).2.2]
  exact hN i hi
 ·rw[hll]at hi
  exact hA i hi
theorem yHc(base q n:Nat)(F:Nat->Value)(H:List zFt)(a:Nat->Nat)(L:Nat->Value)(w:World)(hb:zHw w q n F)(h:KG w 155 32 base q (F 5) mkC H a L)(hN:∀ i,i<H.length->num H i<256)(hA:∀ i,i<H.length->a i<900000)(hH:H.length<100000):Calls Tryz.prog 89 #[.pointer (some ⟨q,0,none⟩)] w fun e w'=>e=.returned (.bool true)/\Below w.heap.size w w':=by
 have hll:=zEu H L H.length
 refine zXe base q n (F 5) F (zH0 H L H.length) a w hb rfl h.row (fun i hi=>?_) (fun i hi=>?_) (fun i hi=>?_) (fun i hi=>?_) (by rw[hll];exact hH)
 ·rw[hll]at hi
  rw[(zF1 H L i hi).1,(zF1 H L i hi).2.2]
  exact h.lies i hi
 ·rw[hll]at hi
  rw[(zF1 H L i hi).2.1,(zF1 H L i hi).2.2]
  exact h.long i hi
 ·rw[hll]at hi
  rw[(zF1 H L i hi).2.2]
  exact hN i hi
 ·rw[hll]at hi
  exact hA i hi
def yPh(j:Nat):TypeId:=if j=1 then 136 else if j=5 then 155 else if j=6 then 140 else 152
def yPr(j:Nat):Nat:=if j=1 then 1 else if j=5 then 32 else if j=6 then 33 else 1
def zWt{α:Type}(H:Nat->α)(j:Nat)(v:α):Nat->α:=fun i=>if i=j then v else H i
theorem zGg(H:Nat->α)(j:Nat)(v:α):zWt H j v j=v:=zzY rfl
theorem zFg(H:Nat->α){i:Nat}(v:α)(h:i≠j):zWt H j v i=H i:=zzZ h
structure zHn(W:World)(base q n:Nat)(F:Nat->Value)(H:Nat->List zFt)(S:Nat->Nat->List (List Value)):Prop where
 bk:zHw W q n F
 nul:∀ j,H j=[]->F j=.slice none 0 0
 k:∀ j,1<=j->j<10->KB W (yPh j) (yPr j) base q n (F j) (H j) (S j)
 x:∀ i j,1<=i->i<10->1<=j->j<10->i≠j->∀ b,zHx (F i) (H i) b->¬zHx (F j) (H j) b
 bq:base<=q
def OfG(q:Nat)(F:Nat->Value)(H:Nat->List zFt)(k:Nat):Prop:=k=q∨∃ j,1<=j/\j<10/\zHx (F j) (H j) k
theorem zHn.bs{H:Nat->List zFt}{S:Nat->Nat->List (List Value)}(h:zHn W base q n F H S):base<=W.heap.size:=zzU (zzz h.bq h.bk.lt)
theorem zHn.lt{H:Nat->List zFt}{S:Nat->Nat->List (List Value)}(h:zHn W base q n F H S)(hk:OfG q F H k):base<=k/\k<W.heap.size:=by
 rcases hk with rfl | ⟨j,h1,h2,hk⟩
 ·exact⟨h.bq,h.bk.lt⟩
 ·exact (h.k j h1 h2).lt hk
theorem zHn.keep{H:Nat->List zFt}{S:Nat->Nat->List (List Value)}(h:zHn W base q n F H S)(hk:zDj X W W')(hx:∀ k,OfG q F H k->¬X k):zHn W' base q n F H S :=
 ⟨h.bk.keep hk (hx q (.inl rfl)),h.nul,fun j h1 h2=>(h.k j h1 h2).keep hk (fun k hk=>hx k (.inr ⟨j,h1,h2,hk⟩)),h.x,h.bq⟩
theorem zHn.below{H:Nat->List zFt}{S:Nat->Nat->List (List Value)}(h:zHn W base q n F H S)(hb:Below W.heap.size W W'):zHn W' base q n F H S:=h.keep (zK hb) (fun _ _ h=>h)
theorem yHt(k:Nat):¬zHx (.slice none 0 0) [] k:=fun hk=>by
 rcases hk with e | ⟨i,hi,_⟩
 ·cases e
 ·simp at hi
theorem yFn(w:World)(base:Nat)(hb:base<=w.heap.size):zHn (w.alloc (.cells #[.int .i64 0,.slice none 0 0,.slice none 0 0,.slice none 0 0,.slice none 0 0,.slice none 0 0,.slice none 0 0,.slice none 0 0,.slice none 0 0,.slice none 0 0] 38)) base w.heap.size 0 (fun _=>.slice none 0 0) (fun _=>[]) (fun _ _=>[]) :=
 ⟨(yHg w base hb).bk,fun _ _=>rfl,fun _ _ _=>KB.start _ _ _ _ _ _,fun _ _ _ _ _ _ _ k hk=>(yHt k hk).elim,hb⟩
theorem zHn.tell{H:Nat->List zFt}{S:Nat->Nat->List (List Value)}(h:zHn W base q n F H S)(h1:1<=j)(h2:j<10)
  (hbk:zHw W' q (n+1) (put F j v')) (hrow:zKz W' (yPh j) base q v' (H j++[(x,.slice none 0 0,n+1)])) (hblk:∀ k,v'.ownBlock=some k->(F j).ownBlock=some k∨W.heap.size<=k) (hk:zDj (fun i=>i=q∨(F j).ownBlock=some i) W W')
  (hl:Lie W base (yPr j) x xs) (hx:∀ k,x.ownBlock=some k->¬OfG q F H k) (hn:xs.length<900000):zHn W' base q (n+1) (put F j v') (zWt H j (H j++[(x,.slice none 0 0,n+1)])) (zWt S j (yIr (H j) (S j) xs)):=by
 have told:∀ k,zHx v' (H j++[(x,.slice none 0 0,n+1)]) k->zHx (F j) (H j) k∨W.heap.size<=k∨x.ownBlock=some k:=fun k hk=>zUy hk hblk
 have oth:∀ i,1<=i->i<10->i≠j->∀ k,zHx (F i) (H i) k->¬zHx v' (H j++[(x,.slice none 0 0,n+1)]) k:=fun i h3 h4 h5 k hk e=>by
  rcases told k e with e | e | e
  ·exact h.x i j h3 h4 h1 h2 h5 k hk e
  ·have:=((h.k i h3 h4).lt hk).2;omega
  ·exact hx k e (.inr ⟨i,h3,h4,hk⟩)
 refine⟨hbk,fun i hi=>?_,fun i h3 h4=>?_,fun a b h3 h4 h5 h6 hab k ha hb=>?_,h.bq⟩
 ·by_cases e:i=j
  ·subst e;rw[zGg]at hi;simp at hi
  ·rw[zFg _ _ e]at hi;rw[zI1 _ _ e];exact h.nul i hi
 ·by_cases e:i=j
  ·subst e
   rw[zLu,zGg,zGg]
   exact (h.k i h1 h2).tell hrow hblk hk hl (fun k hk2=>⟨fun e=>hx k hk2 (.inl e),fun e=>hx k hk2 (.inr ⟨i,h1,h2,e⟩)⟩) hn
  ·rw[zI1 _ _ e,zFg _ _ e,zFg _ _ e]
   exact ((h.k i h3 h4).keep hk (fun k hk2 e2=>by
    rcases e2 with e2 | e2
    ·exact (h.k i h3 h4).ne hk2 e2
    ·exact h.x i j h3 h4 h1 h2 e k hk2 (.inl e2))).up (Nat.le_succ n)
 ·by_cases ea:a=j
  ·have eb:b≠j:=fun eb=>hab (by rw[ea,eb])
   subst ea
   rw[zLu,zGg]at ha
   rw[zI1 _ _ eb,zFg _ _ eb]at hb
   exact oth b h5 h6 eb k hb ha
  ·rw[zI1 _ _ ea,zFg _ _ ea]at ha
   by_cases eb:b=j
   ·subst eb
    rw[zLu,zGg]at hb
    exact oth a h3 h4 ea k ha hb
   ·rw[zI1 _ _ eb,zFg _ _ eb]at hb
    exact h.x a b h3 h4 h5 h6 hab k ha hb
theorem zMr{H:Nat->List zFt}(h1:1<=j)(h2:j<10)(hblk:∀ k,v'.ownBlock=some k->(F j).ownBlock=some k∨N<=k)(h:OfG q (put F j v') (zWt H j (H j++[(x,.slice none 0 0,n+1)])) k):OfG q F H k∨N<=k∨x.ownBlock=some k:=by
 rcases h with rfl | ⟨i,h3,h4,hk⟩
 ·exact .inl (.inl rfl)
 ·by_cases e:i=j
  ·subst e
   rw[zLu,zGg]at hk
   rcases zUy hk hblk with e | e
   ·exact .inl (.inr ⟨i,h1,h2,e⟩)
   ·exact .inr e
  ·rw[zI1 _ _ e,zFg _ _ e]at hk
   exact .inl (.inr ⟨i,h3,h4,hk⟩)
theorem zLr(va:Option Addr)(vn vc:Nat)(xs:List (List Value))(base q n:Nat)(F:Nat->Value)(H:Nat->List zFt)(S:Nat->Nat->List (List Value))(w:World)(hb:zHn w base q n F H S)(hv:Lie w base 1 (.slice va vn vc) xs)(hx:∀ k,(Value.slice va vn vc).ownBlock=some k->¬OfG q F H k)(hn:n<90000)(hH:(H 1).length<90000)(hl:xs.length<900000):
  Calls Tryz.prog 12 #[.pointer (some ⟨q,0,none⟩),.slice va vn vc] w fun e w'=>e=.returned (.tuple #[])/\∃ v',zHn w' base q (n+1) (put F 1 v') (zWt H 1 (H 1++[(.slice va vn vc,.slice none 0 0,n+1)])) (zWt S 1 (yIr (H 1) (S 1) xs))/\(∀ k,v'.ownBlock=some k->(F 1).ownBlock=some k∨w.heap.size<=k)/\zDj (fun i=>i=q∨(F 1).ownBlock=some i) w w':=by
 have hc:=zU8 va vn vc (F 1) base q n F (H 1) w hb.bk rfl (hb.k 1 (by decide) (by decide)).row hb.bs (by omega) (by omega)
 have HC:=zzb hc
 have HM:=zAI hb (zza hv (zza hx hl))
 clear hc hb hv hx hH hl hn
 go_enter Tryz.func12,Tryz.ntmps12
 go_wp2_with (go_at_call 51;refine HC.out.mono ?_;rintro e w2 ⟨rfl,hv',hbk,hrow,hblk,hk⟩)
 exact zz6 (zz5 rfl _ _ _) rfl ⟨rfl,hv',HM.out.1.tell (by decide) (by decide) hbk hrow hblk hk HM.out.2.1 HM.out.2.2.1 HM.out.2.2.2,hblk,hk⟩
theorem zZw(va:Option Addr)(vn vc:Nat)(xs:List (List Value))(base q n:Nat)(F:Nat->Value)(H:Nat->List zFt)(S:Nat->Nat->List (List Value))(w:World)(hb:zHn w base q n F H S)(hv:Lie w base 32 (.slice va vn vc) xs)(hx:∀ k,(Value.slice va vn vc).ownBlock=some k->¬OfG q F H k)(hn:n<90000)(hH:(H 5).length<90000)(hl:xs.length<900000):
  Calls Tryz.prog 105 #[.pointer (some ⟨q,0,none⟩),.slice va vn vc] w fun e w'=>e=.returned (.tuple #[])/\∃ v',zHn w' base q (n+1) (put F 5 v') (zWt H 5 (H 5++[(.slice va vn vc,.slice none 0 0,n+1)])) (zWt S 5 (yIr (H 5) (S 5) xs))/\(∀ k,v'.ownBlock=some k->(F 5).ownBlock=some k∨w.heap.size<=k)/\zDj (fun i=>i=q∨(F 5).ownBlock=some i) w w':=by
 have hc:=zXy va vn vc (F 5) base q n F (H 5) w hb.bk rfl (hb.k 5 (by decide) (by decide)).row hb.bs (by omega) (by omega)
 have HC:=zzb hc
 have HM:=zAI hb (zza hv (zza hx hl))
 clear hc hb hv hx hH hl hn
 go_enter Tryz.func105,Tryz.ntmps105
 go_wp2_with (go_at_call 147;refine HC.out.mono ?_;rintro e w2 ⟨rfl,hv',hbk,hrow,hblk,hk⟩)
 exact zz6 (zz5 rfl _ _ _) rfl ⟨rfl,hv',HM.out.1.tell (by decide) (by decide) hbk hrow hblk hk HM.out.2.1 HM.out.2.2.1 HM.out.2.2.2,hblk,hk⟩
theorem zSz:∃ i z,Tryz.prog.info? 140=some i/\i.zero=some z/\i.size=3/\i.bytes=56/\z.cells.size=3:=by
 have h:(Tryz.prog.info? 140).map (fun i=>(i.zero.map fun z=>z.cells.size,i.size,i.bytes))=some (some 3,3,56):=by kernel_rfl
 obtain⟨i,hi,h2⟩:=zzv.1 h
 simp only[zyc]at h2
 obtain⟨z,hz,hz2⟩:=zzv.1 h2.1
 exact⟨i,z,hi,hz,h2.2.1,h2.2.2,hz2⟩
theorem zV7{a:Act}(x:Operand)(ho:o.op=.buildSlice 33 1 #[(0,x)])(s:zFt)(hx:a.eval x=.agg (zDx s).toArray)
  (h:K (a.put o.dst (.slice (some ⟨w.heap.size,0,none⟩) 1 1)) (w.alloc (.cells (zDx s).toArray 140))):o.wp Tryz.prog a w K Q:=by
 obtain⟨i,z,hi,hz,hs,hb,hzs⟩:=zSz
 refine wp_buildSlice _ 140 1 _ ho (zDx s).toArray i z Tryz.underlying33 hi hz (by rw[hs];omega) (by rw[hs];omega) ?_ h
 have hp:((#[(0,x)]:Array (Nat×Operand)).toList.map fun (i,x)=>(i,a.eval x))=(([(.agg (zDx s).toArray:Value)]).zipIdx 0).map fun x=>(x.2,x.1):=by simp[hx]
 rw[Array.toList_map,hp,hs,Great.fill_whole (s:=3) (by omega) [(.agg (zDx s).toArray:Value)] _ (fun v hv=>by rw[zzx.1 hv];simp[Value.cells,zF9]) (by simp)]
 simp[Value.cells]
theorem zQc{a:Act}(s x:Operand)
  (ho:o.op=.call { callee:=.builtin .append,args:=#[s,x],argTypes:=#[33,33] })
  (base:Nat) (v:Value) (l:List zFt) (n:Nat) (hn:l.length=n) (hs:a.eval s=v) (hown:w.ownsRow base 140 3 v n (zE6 l))
  (b off c:Nat) (y:zFt) (hy1:y.1.oneCell'=true) (hy2:y.2.1.oneCell'=true) (hx:a.eval x=.slice (some ⟨b,off,none⟩) 1 c) (hr:w.rangeAt b off (zDx y)) (hl:n<1000000) (hB:base<=w.heap.size)
  (h:∀ g cap w',w'.ownsRow base 140 3 (.slice (some ⟨g,0,none⟩) (n+1) cap) (n+1) (zE6 (l++[y]))->w.grownBy w' v.ownBlock->(v.ownBlock=some g∨g=w.heap.size)->g<w'.heap.size->K (a.put o.dst (.slice (some ⟨g,0,none⟩) (n+1) cap)) w'):o.wp Tryz.prog a w K Q:=by
 obtain⟨i,z,hi,hz,h1,h2,h3⟩:=zSz
 refine wp_append_lies w s x _ ho base _ i z 3 56 Tryz.underlying33 hi hz h1 h2 h3 (by omega) v n (zE6 l) hs hown ⟨b,off,none⟩ 1 c (zDx y) hx (by rw[zF9]) (fun j u hj=>by rw[Addr.add_mid];exact hr j u hj) (fun u hu=>by
  unfold zDx at hu
  simp only[zzK,List.not_mem_nil,or_false]at hu
  rcases hu with rfl | rfl | rfl
  ·exact hy1
  ·exact hy2
  ·rfl) (by omega) (by unfold maxLen;omega) (by omega) hB w.heap.size rfl ?_
 intro g cap w' ho' hg hat hlt
 refine h g cap w' ?_ hg hat hlt
 rw[zKt,zM9];exact ho'
theorem zUq(va:Option Addr)(vn vc:Nat)(hv:Value)(base q n:Nat)(F:Nat->Value)(H:List zFt)(w:World)(hb:zHw w q n F)(hF:F 6=hv)(hr:zKz w 140 base q hv H)(hbs:base<=w.heap.size)(hn:n<100000)(hH:H.length<100000):
  Calls Tryz.prog 58 #[.pointer (some ⟨q,0,none⟩),.slice va vn vc] w fun e w'=>e=.returned (.tuple #[])/\∃ hv',zHw w' q (n+1) (put F 6 hv')/\zKz w' 140 base q hv' (H++[(.slice va vn vc,.slice none 0 0,n+1)])/\(∀ k,hv'.ownBlock=some k->hv.ownBlock=some k∨w.heap.size<=k)/\zDj (fun i=>i=q∨hv.ownBlock=some i) w w':=by
 have g1:=hb.cn
 have hf:w.frozen? ⟨q,0,none⟩=false:=(hb.th 0 (by omega)).2
 obtain⟨m,hm⟩:∃ m:Int,m=((n+1:Nat):Int):=⟨_,rfl⟩
 have hw:wrap64 m=m:=by rw[hm];unfold wrap64;omega
 have hw2:(n:Int)+1=m:=by rw[hm];rfl
 have hb1:=hb.count (n+1)
 have hk1:=zJ6 q [.int .i64 ((n+1:Nat):Int)] 0 w
 rw[<-hm]at hb1 hk1
 change zDj _ _ (w.setCell ⟨q,0,none⟩ (.int .i64 m))at hk1
 have hr1:zKz (w.setCell ⟨q,0,none⟩ (.int .i64 m)) 140 base q hv H:=hr.keep hk1 (fun k hk e=>hr.2 (by rw[hk,e]))
 have H1:=zAI hb1 (zza (hk1.mono (Y:=fun i=>i=q∨hv.ownBlock=some i) fun k h=>.inl h) (zza hr1 (zzk hbs hk1.size)))
 have HM:=zzb hm
 have HV:=zAI hH (zza hr.2 hF)
 have HW0:=zzb hk1.size
 clear hb hb1 hk1 hm hH hn hr hr1 hF hbs
 go_enter Tryz.func58,Tryz.ntmps58
 go_wp2_with fail
 generalize w.setCell ⟨q,0,none⟩ (.int .i64 m)=w1 at *
 clear g1 hf hw hw2
 have hd:=(zze w1.heap.size w1).drew
 have H2:=zAI (H1.out.1.below hd) (zza (H1.out.2.1.trans (zDj.of_below hd)) (zza (H1.out.2.2.1.below hd) (zza H1.out.2.2.2 HW0.out)))
 clear hd H1 HW0
 refine zDd (fun V=>Below w1.drew.heap.size w1.drew V) [.t 0,.t 1,.t 2,.t 3,.t 5,.t 6,.t 7,.t 8,.s 4,.e 9 true,.t 10,.e 11 true,.e 12 false,.t 13,.t 14,.e 15 false] (by kernel_rfl) (by kernel_rfl) (by rintro _ _(_|_)_ _ h<;>exact h) ?_
 change wpS _ _ _ _ _ _ _ w1.drew
 have hsz:w1.drew.heap.size=w1.heap.size:=rfl
 rw[<-hsz]at H2
 clear hsz
 generalize w1.drew=V at *
 iterate 8
  refine zDp rfl (v:=?_) (by rfl) (fun W=>?_) ?_
  rotate_left
  ·go_simp
   try rfl
  try simp only[zU,zA,zB,zC]
 refine zEx (zze _ _) rfl (v:=hv) (by rfl) (fun W hW=>?_) ?_
 ·have g:W.cell? ⟨q,6,none⟩=some hv:=by rw[<-HV.out.2.2];exact (zK hW).cell (H2.out.1.cs 6 (by omega) (by omega)) id
  go_simp
 try simp only[zU,zA,zB,zC]
 refine zD8 rfl (by rfl) (fun K hK=>?_)
 have g:=H2.out.1.cn
 rw[<-HM.out]at g
 go_simp
 refine hK _ _ ⟨zze _ _,?_⟩;clear hK K
 try simp only[zU,zA,zB,zC]
 clear g
 refine zDp rfl (v:=?_) (by rfl) (fun W=>?_) ?_
 rotate_left
 ·go_simp
  try rfl
 try simp only[zU,zA,zB,zC]
 refine zD8 rfl (by rfl) (fun K hK=>?_)
 refine zV7 _ rfl (.slice va vn vc,.slice none 0 0,n+1) (by rw[zDx,<-HM.out];rfl) ?_
 have hb3:=al (zze V.heap.size V) (.cells (zDx (.slice va vn vc,.slice none 0 0,n+1)).toArray 140)
 have hr3:=zDh V (zDx (.slice va vn vc,.slice none 0 0,n+1)).toArray 140 _ rfl
 have H3:=zAI hb3 hr3
 clear hb3 hr3
 refine hK _ _ ⟨by exact H3.out.1,?_⟩;clear hK K
 try simp only[zU,zA,zB,zC]
 generalize V.alloc (.cells (zDx (.slice va vn vc,.slice none 0 0,n+1)).toArray 140)=V3 at *
 refine zEa rfl (by rfl) (fun K hK=>?_)
 have hown3:V3.ownsRow base 140 3 hv H.length (zE6 H):=(H2.out.2.2.1.below H3.out.1).1
 refine zQc _ _ (by rfl) base hv H H.length rfl (by rfl) hown3 V.heap.size 0 1 (.slice va vn vc,.slice none 0 0,n+1) rfl rfl (by rfl) H3.out.2 (by have:=HV.out.1;omega) (zzk (zzk H2.out.2.2.2.1 (zzc _)) H3.out.1.size) ?_
 intro g cap W4 ho hg hat hlt
 have hq3:q<V.heap.size:=H2.out.1.lt
 have hk4:zDj (fun i=>hv.ownBlock=some i) V3 W4:=zDj.of_grown hg (fun k hk=>hk)
 have hgq:g≠q:=by
  intro e
  rcases hat with h | h
  ·exact HV.out.2.1 (by rw[h,e])
  ·have:=H3.out.1.size
   omega
 have hgB:hv.ownBlock=some g∨V.heap.size<=g:=by
  rcases hat with h | h
  ·exact .inl h
  ·exact .inr (by rw[h];exact H3.out.1.size)
 have hkV:zDj (fun i=>hv.ownBlock=some i) V W4:=(zDj.of_below H3.out.1).trans hk4
 have hbk4:zHw W4 q (n+1) F:=H2.out.1.keep hkV (fun h=>HV.out.2.1 h)
 have H4:=zAI ho (zza hgq (zza hbk4 (zza hgB hkV)))
 clear hown3 hg hat hlt hq3 hk4 hgq hkV hbk4 hgB ho
 refine hK _ _ ?_;clear hK K
 try simp only[zU,zA,zB,zC]
 iterate 2
  refine zDp rfl (v:=?_) (by rfl) (fun W=>?_) ?_
  rotate_left
  ·go_simp
   try rfl
  try simp only[zU,zA,zB,zC]
 refine zEa rfl (by rfl) (fun K hK=>?_)
 have hf:W4.frozen? ⟨q,6,none⟩=false:=(H4.out.2.2.1.th 6 (by omega)).2
 have hu5:=H4.out.2.2.1.cs 6 (by omega) (by omega)
 go_simp
 refine hK _ _ ?_;clear hK K
 try simp only[zU,zA,zB,zC]
 clear hf hu5
 refine zDn ?_
 go_wp2_with fail
 have hbk:=H4.out.2.2.1.list (k:=6) (by omega) (by omega) (.slice (some ⟨g,0,none⟩) (H.length+1) cap)
 have hk5:=(H4.out.2.2.2.2.mono (Y:=fun i=>i=q∨hv.ownBlock=some i) fun k h=>.inr h).trans ((zJ6 q [.slice (some ⟨g,0,none⟩) (H.length+1) cap] 6 W4).mono fun k h=>.inl h)
 have hkq:=zJ6 q [.slice (some ⟨g,0,none⟩) (H.length+1) cap] 6 W4
 refine zz6 (zz5 rfl _ _ _) rfl ⟨rfl,_,hbk,⟨?_,fun h=>H4.out.2.1 (by simpa[Value.ownBlock]using h)⟩,fun k hk=>?_,H2.out.2.1.trans hk5⟩
 ·have ho5:=hkq.owns H4.out.1 (fun k hk e=>H4.out.2.1 (by rw[<-e];simpa[Value.ownBlock]using hk))
  rw[zzi]
  exact ho5
 ·obtain rfl:g=k:=by simpa[Value.ownBlock]using hk
  rcases H4.out.2.2.2.1 with h | h
  ·exact .inl h
  ·exact .inr (zzk H2.out.2.2.2.2 h)
end Go.Proofs.YtfmgoehnbaiamaaGreatDoor
