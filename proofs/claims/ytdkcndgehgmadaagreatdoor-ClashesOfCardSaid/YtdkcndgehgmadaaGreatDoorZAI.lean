/- Joined: BL6, BL7, BL8. -/
import Derived.Test.YtdkcndgehgmadaaGreatDoorZAH
import Derived.WalkMore
set_option maxRecDepth 100000
set_option maxHeartbeats 1000000
open Go Go.RowKit Alm
namespace Go.Proofs.YtdkcndgehgmadaaGreatDoor
theorem yGr{W:World}{base size g n cap:Nat}{xs:List (List Value)}(h:Lie W base size (.slice (some ⟨g,0,none⟩) n cap) xs){k:Nat}(hk:k<xs.length):W.rangeAt g (k*size) xs[k]:=by
 rcases h with ⟨h0,_⟩ | ⟨g',cap',hv,hb,hg,hnc,hcm,hr,ht,hl⟩
 ·cases h0
 ·simp only[zzh,zzj,zye,and_true,true_and]at hv
  obtain⟨rfl,rfl,rfl⟩:=hv
  obtain⟨e1,e2⟩:=zJw hl hk
  rw[e1]at hr
  have h1:=(zD9.1 (zD9.1 hr).2).1
  rwa[e2,zzn]at h1
theorem zOa{W:World}{base size g n cap m:Nat}{c:List Value}(h:Lie W base size (.slice (some ⟨g,0,none⟩) n cap) (List.replicate m c)){k:Nat}(hk:k<m):W.rangeAt g (k*size) c:=by
 have:=yGr h (k:=k) (by rw[zzN];exact hk)
 rwa[List.getElem_replicate]at this
theorem zN6{W:World}{base size:Nat}{v:Value}{m:Nat}{c:List Value}(h:Lie W base size v (List.replicate m c))(hm:0<m):∃ g cap,v=.slice (some ⟨g,0,none⟩) m cap:=by
 rcases h with ⟨_,h0⟩ | ⟨g,cap,hv,_⟩
 ·have:=congrArg List.length h0
  simp at this
  omega
 ·rw[zzN]at hv
  exact⟨g,cap,hv⟩
theorem zWn{W:World}{base size:Nat}{v:Value}{m:Nat}{c:List Value}(h:Lie W base size v (List.replicate m c)):∃ a cap,v=.slice a m cap:=by
 obtain⟨a,cap,h⟩:=h.form
 rw[zzN]at h
 exact⟨a,cap,h⟩
theorem zVu{m M:Nat}(h:M=m+40)(hm:m<900000):wrap64 ((m:Int)+40)=(M:Int)/\(M:Int)=(m:Int)+40/\(m:Int)<900000:=by
 unfold wrap64
 omega
theorem zG1{i N:Nat}(h:i<N):decide (i<N)=true/\decide ((i:Int)<(N:Int))=true/\(0:Int)<=(i:Int)/\(i:Int)<(N:Int):=by
 refine⟨by simpa using h,by simpa using h,by omega,by omega⟩
theorem yJj{n:Nat}(h:n<256):((UInt8.ofNat n).toNat:Nat)=n:=by simp;omega
theorem zWf(base q n:Nat)(hv:Value)(F:Nat->Value)(H:List zEw)(a:Nat->Nat)(w:World)(hb:zGx w q n F)(hF:F 5=hv)(hrow:zIw w 161 base q hv H)(h1:∀ i,i<H.length->Lie w base 32 (lst H i) (List.replicate (a i) (mkC (num H i))))(h2:∀ i,i<H.length->Lie w base 32 (lng H i) (List.replicate (a i+40) (mkC (num H i))))(hN:∀ i,i<H.length->num H i<256)(hA:∀ i,i<H.length->a i<900000)(hH:H.length<100000) :
  Calls Tryz.prog 94 #[.pointer (some ⟨q,0,none⟩)] w fun e w'=>e=.returned (.bool true)/\Below w.heap.size w w':=by
 obtain⟨ah,ch,hform⟩:=hrow.form
 obtain⟨N,hNN⟩:∃ N,N=H.length:=⟨_,rfl⟩
 rw[<-hNN]at hform
 subst hform
 have H0:=zAI hb (zza hrow (zza h1 h2))
 have HH:=zAI hN (zza hA (zza hH (zza hNN hF)))
 clear hb hF hrow h1 h2 hN hA hH hNN
 go_enter Tryz.func94,Tryz.ntmps94
 go_wp2_with fail
 go_loopw [3] (fun iv W=>∃ i:Nat,i<=N/\iv=.int .i64 (i:Int)/\Below w.heap.size w W) (fun iv _=>N - (intOf iv).toNat)
 case atStart=>exact⟨0,by omega,rfl,zze _ _⟩
 case round =>
  obtain⟨i,hi,rfl,hG⟩:=hrel
  have HB:=zzb hG
  have g5:wr.cell? ⟨q,5,none⟩=some (.slice ah N ch):=by rw[<-HH.out.2.2.2.2];exact (H0.out.1.below hG).cs 5 (by omega) (by omega)
  clear hG
  by_cases hlt:i<N
  ·obtain⟨c1,c1',hj0,hlt'⟩:=zG1 hlt
   have hiH:i<H.length:=by rw[<-HH.out.2.2.2.1];exact hlt
   obtain⟨gH,capH,he,_,_,_,hat⟩:=(H0.out.2.1.below HB.out).at hiH
   rw[<-HH.out.2.2.2.1]at he
   simp only[zzh,true_and]at he
   obtain⟨rfl,rfl⟩:=he
   obtain⟨m,hm⟩:∃ m,m=a i:=⟨_,rfl⟩
   obtain⟨M,hM⟩:∃ M,M=m+40:=⟨_,rfl⟩
   obtain⟨nm,hnm⟩:∃ x,x=num H i:=⟨_,rfl⟩
   have hl1:=H0.out.2.2.1 i hiH
   have hl2:=H0.out.2.2.2 i hiH
   rw[<-hm,<-hnm]at hl1 hl2
   rw[<-hM]at hl2
   obtain⟨al,cl,hfl⟩:=zWn hl1
   obtain⟨gL,cL,hfL⟩:=zN6 hl2 (by rw[hM];exact Nat.succ_pos _)
   have hcl:zDw (hd H i)=zDw (.slice al m cl,.slice (some ⟨gL,0,none⟩) M cL,nm):=by
    rw[<-hfl,<-hfL,hnm];rfl
   rw[hcl]at hat
   rw[hfl]at hl1
   rw[hfL]at hl2
   have hm9:m<900000:=by rw[hm];exact HH.out.2.1 i hiH
   have hnm9:nm<256:=by rw[hnm];exact HH.out.1 i hiH
   have hu:((UInt8.ofNat nm).toNat:Nat)=nm:=yJj hnm9
   obtain⟨hwM,hM0,hm0⟩:=zVu hM hm9
   have HF:=zAI hl1 (zza hl2 (zza hM (zza hu hm9)))
   have HWM:=zAI hwM hM0
   clear hfl hfL hm hM hnm hcl hiH hl1 hl2 hnm9 hu hm9 hwM hM0
   have HG:=zzb trivial
   have HAT:=zzb hat
   clear hat
   go_wp2_with (first
    | (refine zH3 rfl _ rfl gH (i*3) rfl _ HAT.out ?_)
    | (have _:=HG;refine zIl (by rfl) rfl _ _ rfl (.slice al m cl,.slice (some ⟨gL,0,none⟩) M cL,nm) rfl rfl (by rfl) (by rfl) ?_;clear HG))
   intro W2 hb hr2
   obtain⟨bx,hbx⟩:∃ z,z=wr.heap.size:=⟨_,rfl⟩
   rw[<-hbx]at hr2 ⊢
   have H2:=zAI hb hr2
   have HB2:=zzb (HB.out.trans (hb.mono HB.out.size))
   have g0:W2.cell? ⟨bx,0,none⟩=some (.slice al m cl):=hr2 0 _ rfl
   have g1:W2.cell? ⟨bx,1,none⟩=some (.slice (some ⟨gL,0,none⟩) M cL):=hr2 1 _ rfl
   clear hb hr2 hbx
   have hwM:=HWM.out.1
   have hM0:=HWM.out.2
   go_wp2_with fail
   clear g5 g0 g1 hwM hM0
   go_loopw [5] (fun kv V=>∃ k:Nat,k<=M/\kv=.int .i64 (k:Int)/\Below W2.heap.size W2 V) (fun kv _=>M - (intOf kv).toNat)
   case atStart=>exact⟨0,zz7 _,rfl,zze _ _⟩
   case round =>
    obtain⟨k,hk,rfl,hK⟩:=hrel
    have hX:wr.rangeAt bx 0 (zDw (.slice al m cl,.slice (some ⟨gL,0,none⟩) M cL,nm)):=(zK hK).range H2.out.2 id
    have g1:wr.cell? ⟨bx,1,none⟩=some (.slice (some ⟨gL,0,none⟩) M cL):=hX 1 _ rfl
    have HKK:=zzb hK
    by_cases hkm:k<M
    ·obtain⟨d1,d1',hk0,hkm'⟩:=zG1 hkm
     have hMe:decide ((k:Int)<(m:Int)+40)=true:=by rw[<-HWM.out.2];exact d1'
     have hMl:(k:Int)<(m:Int)+40:=by rw[<-HWM.out.2];exact hkm'
     have hd:=(zze wr.heap.size wr).drew
     have hL2:wr.drew.rangeAt gL (k*32) (cellsOf (mkS (UInt8.ofNat nm))):=zOa (((HF.out.2.1.below HB2.out).below hK).below hd) hkm
     have hX2:=(zK hd).range hX id
     have HJ:=zAI hL2 (zza hX2 hd)
     have hc:=fun W=>yDz (mkS (UInt8.ofNat nm)) (UInt8.ofNat nm) W
     rw[HF.out.2.2.2.1]at hc
     have hdt:decide (mkS (UInt8.ofNat nm)=mkS (UInt8.ofNat nm))=true:=by simp
     rw[hdt]at hc
     have HCm:=zzb hc
     have hwk:wrap64 ((k:Int)+1)=((k+1:Nat):Int):=zEt (m:=999999) (by have:=HF.out.2.2.1;have:=HF.out.2.2.2.2;omega) (by decide)
     have HWK:=zzb hwk
     clear hdt hc hL2 hX2 hX hd hK hwk
     by_cases hkn:k<m
     ·obtain⟨e1,e1',_,hkn'⟩:=zG1 hkn
      obtain⟨gi,ci,hgi⟩:=zN6 HF.out.1 (zzy (zz7 _) hkn)
      simp only[zzh,true_and]at hgi
      obtain⟨rfl,rfl⟩:=hgi
      have hS2:wr.drew.rangeAt gi (k*32) (cellsOf (mkS (UInt8.ofNat nm))):=zOa (((HF.out.1.below HB2.out).below HKK.out).below HJ.out.2.2) hkn
      have HS:=zzb hS2
      clear hS2
      go_wp2_with fail
      refine zDb (fun V=>Below wr.drew.heap.size wr.drew V) [.t 0,.t 2,.t 5,.s 1,.t 3,.s 4,.e 6 true,.e 7 true,.t 8,.t 9,.t 10,.t 11,.e 12 true,.t 13,.t 14,.t 15,.t 16,.t 18,.t 21,.s 17,.t 19,.s 20,.e 22 true,.e 23 false,.t 24,.t 25,.t 26] (by kernel_rfl) (by kernel_rfl) (by rintro _ _(_|_)_ _ h<;>exact h) ?_
      change wpS _ _ _ _ _ _ _ wr.drew
      have hsz:wr.drew.heap.size=wr.heap.size:=rfl
      have hKd:Below W2.heap.size W2 wr.drew:=HKK.out.drew
      have HKD:=zzb hKd
      clear hsz hKd g1 HKK
      generalize wr.drew=V at *
      iterate 3
       refine zDi rfl (v:=?_) (by rfl) (fun W=>?_) ?_
       rotate_left
       ·go_simp
        try rfl
       try simp only[zU,zA,zB,zC]
      refine zD6 (zze _ _) rfl (v:=.slice (some ⟨gL,0,none⟩) M cL) (by rfl) (fun W hW=>?_) ?_
      ·have g:W.cell? ⟨bx,1,none⟩=some (.slice (some ⟨gL,0,none⟩) M cL):=(zK hW).cell (HJ.out.2.1 1 _ rfl) id
       go_simp
      try simp only[zU,zA,zB,zC]
      refine zDi rfl (v:=?_) (by rfl) (fun W=>?_) ?_
      rotate_left
      ·go_simp
       try rfl
      try simp only[zU,zA,zB,zC]
      refine zFc (zze _ _) rfl (by rfl) _ _ rfl gL (k*32) (by rfl) (cellsOf (mkS (UInt8.ofNat nm))) _ (fun W hW=>(zK hW).range HJ.out.1 id) Tryz.underlying24 rfl (by rw[zDf];exact zF2) ?_
      try simp only[zU,zA,zB,zC]
      refine zDx rfl (by rfl) (fun K hK=>?_)
      have g:V.cell? ⟨bx,2,none⟩=some (.int .i64 ((nm:Nat):Int)):=HJ.out.2.1 2 _ rfl
      go_simp
      refine hK _ _ ⟨zze _ _,?_⟩;clear hK K
      try simp only[zU,zA,zB,zC]
      clear g
      refine zDx rfl (by rfl) (fun K hK=>?_)
      go_simp
      refine (HCm.out V).mono ?_
      rintro e V2 ⟨rfl,hb2⟩
      have HV2:=zzb hb2
      clear hb2
      refine hK _ _ ⟨HV2.out,?_⟩;clear hK K
      try simp only[zU,zA,zB,zC]
      iterate 4
       refine zDi rfl (v:=?_) (by rfl) (fun W=>?_) ?_
       rotate_left
       ·go_simp
        try rfl
       try simp only[zU,zA,zB,zC]
      refine zDx rfl (by rfl) (fun K hK=>?_)
      have g:V2.cell? ⟨bx,0,none⟩=some (.slice (some ⟨gi,0,none⟩) m cl):=(zK HV2.out).cell (HJ.out.2.1 0 _ rfl) id
      go_simp
      refine hK _ _ ⟨HV2.out,?_⟩;clear hK K
      try simp only[zU,zA,zB,zC]
      clear g
      iterate 3
       refine zDi rfl (v:=?_) (by rfl) (fun W=>?_) ?_
       rotate_left
       ·go_simp
        try rfl
       try simp only[zU,zA,zB,zC]
      iterate 3
       refine zDi rfl (v:=?_) (by rfl) (fun W=>?_) ?_
       rotate_left
       ·go_simp
        try rfl
       try simp only[zU,zA,zB,zC]
      refine zD6 HV2.out rfl (v:=.slice (some ⟨gi,0,none⟩) m cl) (by rfl) (fun W hW=>?_) ?_
      ·have g:W.cell? ⟨bx,0,none⟩=some (.slice (some ⟨gi,0,none⟩) m cl):=(zK hW).cell (HJ.out.2.1 0 _ rfl) id
       go_simp
      try simp only[zU,zA,zB,zC]
      refine zDi rfl (v:=?_) (by rfl) (fun W=>?_) ?_
      rotate_left
      ·go_simp
       try rfl
      try simp only[zU,zA,zB,zC]
      refine zFc HV2.out rfl (by rfl) _ _ rfl gi (k*32) (by rfl) (cellsOf (mkS (UInt8.ofNat nm))) _ (fun W hW=>(zK hW).range HS.out id) Tryz.underlying24 rfl (by rw[zDf];exact zF2) ?_
      try simp only[zU,zA,zB,zC]
      refine zDx rfl (by rfl) (fun K hK=>?_)
      have g:V2.cell? ⟨bx,2,none⟩=some (.int .i64 ((nm:Nat):Int)):=(zK HV2.out).cell (HJ.out.2.1 2 _ rfl) id
      go_simp
      refine hK _ _ ⟨HV2.out,?_⟩;clear hK K
      try simp only[zU,zA,zB,zC]
      clear g
      refine zD7 rfl (by rfl) (fun K hK=>?_)
      go_simp
      refine (HCm.out V2).mono ?_
      rintro e V3 ⟨rfl,hb3⟩
      have HV3:=zzb (HV2.out.trans (hb3.mono HV2.out.size))
      clear hb3
      refine hK _ _ ?_;clear hK K
      try simp only[zU,zA,zB,zC]
      iterate 3
       refine zDi rfl (v:=?_) (by rfl) (fun W=>?_) ?_
       rotate_left
       ·go_simp
        try rfl
       try simp only[zU,zA,zB,zC]
      refine zDn ?_
      go_wp2_with fail
      have hfin:Below W2.heap.size W2 V3:=HKD.out.trans (HV3.out.mono HKD.out.size)
      have hki:(k:Int)+1=((k+1:Nat):Int):=rfl
      rw[hki]
      clear HJ HKD HS HCm HF H2 HAT
      exact⟨⟨k+1,hkm,rfl,hfin⟩,by simp only[intOf,zzD];omega⟩
     ·obtain⟨e1,e1',hkn'⟩:decide (k<m)=false/\decide ((k:Int)<(m:Int))=false/\¬(k:Int)<(m:Int):=⟨by simpa using hkn,by simpa using hkn,by omega⟩
      go_wp2_with fail
      refine zDb (fun V=>Below wr.drew.heap.size wr.drew V) [.t 0,.t 2,.t 5,.s 1,.t 3,.s 4,.e 6 true,.e 7 true,.t 8,.t 9,.t 10,.t 11,.e 12 true,.t 13,.t 14,.t 15,.t 16,.t 18,.t 21,.s 17,.t 19,.s 20,.e 22 true,.e 23 false,.t 24,.t 25,.t 26] (by kernel_rfl) (by kernel_rfl) (by rintro _ _(_|_)_ _ h<;>exact h) ?_
      change wpS _ _ _ _ _ _ _ wr.drew
      have hsz:wr.drew.heap.size=wr.heap.size:=rfl
      have hKd:Below W2.heap.size W2 wr.drew:=HKK.out.drew
      have HKD:=zzb hKd
      clear hsz hKd g1 HKK
      generalize wr.drew=V at *
      iterate 3
       refine zDi rfl (v:=?_) (by rfl) (fun W=>?_) ?_
       rotate_left
       ·go_simp
        try rfl
       try simp only[zU,zA,zB,zC]
      refine zD6 (zze _ _) rfl (v:=.slice (some ⟨gL,0,none⟩) M cL) (by rfl) (fun W hW=>?_) ?_
      ·have g:W.cell? ⟨bx,1,none⟩=some (.slice (some ⟨gL,0,none⟩) M cL):=(zK hW).cell (HJ.out.2.1 1 _ rfl) id
       go_simp
      try simp only[zU,zA,zB,zC]
      refine zDi rfl (v:=?_) (by rfl) (fun W=>?_) ?_
      rotate_left
      ·go_simp
       try rfl
      try simp only[zU,zA,zB,zC]
      refine zFc (zze _ _) rfl (by rfl) _ _ rfl gL (k*32) (by rfl) (cellsOf (mkS (UInt8.ofNat nm))) _ (fun W hW=>(zK hW).range HJ.out.1 id) Tryz.underlying24 rfl (by rw[zDf];exact zF2) ?_
      try simp only[zU,zA,zB,zC]
      refine zDx rfl (by rfl) (fun K hK=>?_)
      have g:V.cell? ⟨bx,2,none⟩=some (.int .i64 ((nm:Nat):Int)):=HJ.out.2.1 2 _ rfl
      go_simp
      refine hK _ _ ⟨zze _ _,?_⟩;clear hK K
      try simp only[zU,zA,zB,zC]
      clear g
      refine zDx rfl (by rfl) (fun K hK=>?_)
      go_simp
      refine (HCm.out V).mono ?_
      rintro e V2 ⟨rfl,hb2⟩
      have HV2:=zzb hb2
      clear hb2
      refine hK _ _ ⟨HV2.out,?_⟩;clear hK K
      try simp only[zU,zA,zB,zC]
      iterate 4
       refine zDi rfl (v:=?_) (by rfl) (fun W=>?_) ?_
       rotate_left
       ·go_simp
        try rfl
       try simp only[zU,zA,zB,zC]
      refine zDx rfl (by rfl) (fun K hK=>?_)
      have g:V2.cell? ⟨bx,0,none⟩=some (.slice al m cl):=(zK HV2.out).cell (HJ.out.2.1 0 _ rfl) id
      go_simp
      refine hK _ _ ⟨HV2.out,?_⟩;clear hK K
      try simp only[zU,zA,zB,zC]
      clear g
      iterate 3
       refine zDi rfl (v:=?_) (by rfl) (fun W=>?_) ?_
       rotate_left
       ·go_simp
        try rfl
       try simp only[zU,zA,zB,zC]
      iterate 3
       refine zDr rfl (by rfl) ?_
       try simp only[zU,zA,zB,zC]
      refine zD4 (HV2.out) rfl (by rfl) ?_
      try simp only[zU,zA,zB,zC]
      refine zDr rfl (by rfl) ?_
      try simp only[zU,zA,zB,zC]
      refine zD4 (HV2.out) rfl (by rfl) ?_
      try simp only[zU,zA,zB,zC]
      refine zDv (HV2.out) rfl (by rfl) ?_
      try simp only[zU,zA,zB,zC]
      refine zIc rfl (by rfl) ?_
      try simp only[zU,zA,zB,zC]
      refine zDr rfl (by rfl) ?_
      try simp only[zU,zA,zB,zC]
      iterate 2
       refine zDi rfl (v:=?_) (by rfl) (fun W=>?_) ?_
       rotate_left
       ·go_simp
        try rfl
       try simp only[zU,zA,zB,zC]
      refine zDn ?_
      go_wp2_with fail
      have hfin:Below W2.heap.size W2 V2:=HKD.out.trans (HV2.out.mono HKD.out.size)
      have hki:(k:Int)+1=((k+1:Nat):Int):=rfl
      rw[hki]
      clear HJ HKD HCm HF H2 HAT
      exact⟨⟨k+1,hkm,rfl,hfin⟩,by simp only[intOf,zzD];omega⟩
    ·obtain rfl:k=M:=by omega
     have hMl:¬(k:Int)<(m:Int)+40:=by rw[<-HWM.out.2];exact Int.lt_irrefl _
     have hMe:decide ((k:Int)<(m:Int)+40)=false:=zzU hMl
     have hwi:wrap64 ((i:Int)+1)=((i+1:Nat):Int):=zEt (m:=100000) (by have:=HH.out.2.2.1;have:=HH.out.2.2.2.1;omega) (by decide)
     have HWI:=zzb hwi
     have HEND:=zzb (HB2.out.trans (hK.mono HB2.out.size))
     clear hwi hK HKK hX
     go_wp2_with fail
     have hfin:=HEND.out
     rw[HWI.out]
     clear HF H2 HAT HEND HWM HWI HB2 HB H0
     exact⟨⟨i+1,hlt,rfl,hfin⟩,by simp only[intOf,zzD];omega⟩
  ·have hjn:i=N:=by omega
   subst hjn
   go_wp2_with fail
   exact zzJ (zzK rfl _ _ _) rfl ⟨rfl,HB.out⟩
theorem zUv(q n:Nat)(F:Nat->Value)(w:World)(hb:zGx w q n F)(hF:F 2=.slice none 0 0):Calls Tryz.prog 73 #[.pointer (some ⟨q,0,none⟩)] w fun e w'=>e=.returned (.tuple #[])/\w=w':=by
 have g:w.cell? ⟨q,2,none⟩=some (.slice none 0 0):=by rw[<-hF];exact hb.cs 2 (by omega) (by omega)
 clear hb hF
 go_enter Tryz.func73,Tryz.ntmps73
 go_wp2_with fail
 go_loopw [2] (fun iv W=>iv=.int .i64 0/\W=w) (fun _ _=>0)
 case atStart=>exact⟨rfl,rfl⟩
 case round =>
  obtain⟨rfl,rfl⟩:=hrel
  go_wp2_with fail
  exact zzZ (zzY rfl _ _ _) rfl ⟨rfl,rfl⟩
theorem zVt(q n:Nat)(F:Nat->Value)(w:World)(hb:zGx w q n F)(hF:F 2=.slice none 0 0):Calls Tryz.prog 82 #[.pointer (some ⟨q,0,none⟩)] w fun e w'=>e=.returned (.tuple #[])/\w=w':=by
 have g:w.cell? ⟨q,2,none⟩=some (.slice none 0 0):=by rw[<-hF];exact hb.cs 2 (by omega) (by omega)
 clear hb hF
 go_enter Tryz.func82,Tryz.ntmps82
 go_wp2_with fail
 go_loopw [2] (fun iv W=>iv=.int .i64 0/\W=w) (fun _ _=>0)
 case atStart=>exact⟨rfl,rfl⟩
 case round =>
  obtain⟨rfl,rfl⟩:=hrel
  go_wp2_with fail
  exact zzZ (zzY rfl _ _ _) rfl ⟨rfl,rfl⟩
theorem zVn(q n:Nat)(F:Nat->Value)(w:World)(hb:zGx w q n F)(hF:F 2=.slice none 0 0):Calls Tryz.prog 91 #[.pointer (some ⟨q,0,none⟩)] w fun e w'=>e=.returned (.bool true)/\w=w':=by
 have g:w.cell? ⟨q,2,none⟩=some (.slice none 0 0):=by rw[<-hF];exact hb.cs 2 (by omega) (by omega)
 clear hb hF
 go_enter Tryz.func91,Tryz.ntmps91
 go_wp2_with fail
 go_loopw [3] (fun iv W=>iv=.int .i64 0/\W=w) (fun _ _=>0)
 case atStart=>exact⟨rfl,rfl⟩
 case round =>
  obtain⟨rfl,rfl⟩:=hrel
  go_wp2_with fail
  exact zzJ (zzK rfl _ _ _) rfl ⟨rfl,rfl⟩
theorem zS2(q n:Nat)(F:Nat->Value)(w:World)(hb:zGx w q n F)(hF:F 3=.slice none 0 0):Calls Tryz.prog 74 #[.pointer (some ⟨q,0,none⟩)] w fun e w'=>e=.returned (.tuple #[])/\w=w':=by
 have g:w.cell? ⟨q,3,none⟩=some (.slice none 0 0):=by rw[<-hF];exact hb.cs 3 (by omega) (by omega)
 clear hb hF
 go_enter Tryz.func74,Tryz.ntmps74
 go_wp2_with fail
 go_loopw [2] (fun iv W=>iv=.int .i64 0/\W=w) (fun _ _=>0)
 case atStart=>exact⟨rfl,rfl⟩
 case round =>
  obtain⟨rfl,rfl⟩:=hrel
  go_wp2_with fail
  exact zzZ (zzY rfl _ _ _) rfl ⟨rfl,rfl⟩
theorem zTq(q n:Nat)(F:Nat->Value)(w:World)(hb:zGx w q n F)(hF:F 3=.slice none 0 0):Calls Tryz.prog 83 #[.pointer (some ⟨q,0,none⟩)] w fun e w'=>e=.returned (.tuple #[])/\w=w':=by
 have g:w.cell? ⟨q,3,none⟩=some (.slice none 0 0):=by rw[<-hF];exact hb.cs 3 (by omega) (by omega)
 clear hb hF
 go_enter Tryz.func83,Tryz.ntmps83
 go_wp2_with fail
 go_loopw [2] (fun iv W=>iv=.int .i64 0/\W=w) (fun _ _=>0)
 case atStart=>exact⟨rfl,rfl⟩
 case round =>
  obtain⟨rfl,rfl⟩:=hrel
  go_wp2_with fail
  exact zzZ (zzY rfl _ _ _) rfl ⟨rfl,rfl⟩
theorem zSl(q n:Nat)(F:Nat->Value)(w:World)(hb:zGx w q n F)(hF:F 3=.slice none 0 0):Calls Tryz.prog 92 #[.pointer (some ⟨q,0,none⟩)] w fun e w'=>e=.returned (.bool true)/\w=w':=by
 have g:w.cell? ⟨q,3,none⟩=some (.slice none 0 0):=by rw[<-hF];exact hb.cs 3 (by omega) (by omega)
 clear hb hF
 go_enter Tryz.func92,Tryz.ntmps92
 go_wp2_with fail
 go_loopw [3] (fun iv W=>iv=.int .i64 0/\W=w) (fun _ _=>0)
 case atStart=>exact⟨rfl,rfl⟩
 case round =>
  obtain⟨rfl,rfl⟩:=hrel
  go_wp2_with fail
  exact zzJ (zzK rfl _ _ _) rfl ⟨rfl,rfl⟩
theorem zSh(q n:Nat)(F:Nat->Value)(w:World)(hb:zGx w q n F)(hF:F 6=.slice none 0 0):Calls Tryz.prog 77 #[.pointer (some ⟨q,0,none⟩)] w fun e w'=>e=.returned (.tuple #[])/\w=w':=by
 have g:w.cell? ⟨q,6,none⟩=some (.slice none 0 0):=by rw[<-hF];exact hb.cs 6 (by omega) (by omega)
 clear hb hF
 go_enter Tryz.func77,Tryz.ntmps77
 go_wp2_with fail
 go_loopw [2] (fun iv W=>iv=.int .i64 0/\W=w) (fun _ _=>0)
 case atStart=>exact⟨rfl,rfl⟩
 case round =>
  obtain⟨rfl,rfl⟩:=hrel
  go_wp2_with fail
  exact zzZ (zzY rfl _ _ _) rfl ⟨rfl,rfl⟩
theorem zTl(q n:Nat)(F:Nat->Value)(w:World)(hb:zGx w q n F)(hF:F 6=.slice none 0 0):Calls Tryz.prog 86 #[.pointer (some ⟨q,0,none⟩)] w fun e w'=>e=.returned (.tuple #[])/\w=w':=by
 have g:w.cell? ⟨q,6,none⟩=some (.slice none 0 0):=by rw[<-hF];exact hb.cs 6 (by omega) (by omega)
 clear hb hF
 go_enter Tryz.func86,Tryz.ntmps86
 go_wp2_with fail
 go_loopw [2] (fun iv W=>iv=.int .i64 0/\W=w) (fun _ _=>0)
 case atStart=>exact⟨rfl,rfl⟩
 case round =>
  obtain⟨rfl,rfl⟩:=hrel
  go_wp2_with fail
  exact zzZ (zzY rfl _ _ _) rfl ⟨rfl,rfl⟩
theorem zUg(q n:Nat)(F:Nat->Value)(w:World)(hb:zGx w q n F)(hF:F 6=.slice none 0 0):Calls Tryz.prog 95 #[.pointer (some ⟨q,0,none⟩)] w fun e w'=>e=.returned (.bool true)/\w=w':=by
 have g:w.cell? ⟨q,6,none⟩=some (.slice none 0 0):=by rw[<-hF];exact hb.cs 6 (by omega) (by omega)
 clear hb hF
 go_enter Tryz.func95,Tryz.ntmps95
 go_wp2_with fail
 go_loopw [3] (fun iv W=>iv=.int .i64 0/\W=w) (fun _ _=>0)
 case atStart=>exact⟨rfl,rfl⟩
 case round =>
  obtain⟨rfl,rfl⟩:=hrel
  go_wp2_with fail
  exact zzJ (zzK rfl _ _ _) rfl ⟨rfl,rfl⟩
theorem zP1(q n:Nat)(F:Nat->Value)(w:World)(hb:zGx w q n F)(hF:F 7=.slice none 0 0):Calls Tryz.prog 78 #[.pointer (some ⟨q,0,none⟩)] w fun e w'=>e=.returned (.tuple #[])/\w=w':=by
 have g:w.cell? ⟨q,7,none⟩=some (.slice none 0 0):=by rw[<-hF];exact hb.cs 7 (by omega) (by omega)
 clear hb hF
 go_enter Tryz.func78,Tryz.ntmps78
 go_wp2_with fail
 go_loopw [2] (fun iv W=>iv=.int .i64 0/\W=w) (fun _ _=>0)
 case atStart=>exact⟨rfl,rfl⟩
 case round =>
  obtain⟨rfl,rfl⟩:=hrel
  go_wp2_with fail
  exact zzZ (zzY rfl _ _ _) rfl ⟨rfl,rfl⟩
theorem zPs(q n:Nat)(F:Nat->Value)(w:World)(hb:zGx w q n F)(hF:F 7=.slice none 0 0):Calls Tryz.prog 87 #[.pointer (some ⟨q,0,none⟩)] w fun e w'=>e=.returned (.tuple #[])/\w=w':=by
 have g:w.cell? ⟨q,7,none⟩=some (.slice none 0 0):=by rw[<-hF];exact hb.cs 7 (by omega) (by omega)
 clear hb hF
 go_enter Tryz.func87,Tryz.ntmps87
 go_wp2_with fail
 go_loopw [2] (fun iv W=>iv=.int .i64 0/\W=w) (fun _ _=>0)
 case atStart=>exact⟨rfl,rfl⟩
 case round =>
  obtain⟨rfl,rfl⟩:=hrel
  go_wp2_with fail
  exact zzZ (zzY rfl _ _ _) rfl ⟨rfl,rfl⟩
theorem zPy(q n:Nat)(F:Nat->Value)(w:World)(hb:zGx w q n F)(hF:F 7=.slice none 0 0):Calls Tryz.prog 96 #[.pointer (some ⟨q,0,none⟩)] w fun e w'=>e=.returned (.bool true)/\w=w':=by
 have g:w.cell? ⟨q,7,none⟩=some (.slice none 0 0):=by rw[<-hF];exact hb.cs 7 (by omega) (by omega)
 clear hb hF
 go_enter Tryz.func96,Tryz.ntmps96
 go_wp2_with fail
 go_loopw [3] (fun iv W=>iv=.int .i64 0/\W=w) (fun _ _=>0)
 case atStart=>exact⟨rfl,rfl⟩
 case round =>
  obtain⟨rfl,rfl⟩:=hrel
  go_wp2_with fail
  exact zzJ (zzK rfl _ _ _) rfl ⟨rfl,rfl⟩
theorem zQ8(q n:Nat)(F:Nat->Value)(w:World)(hb:zGx w q n F)(hF:F 8=.slice none 0 0):Calls Tryz.prog 79 #[.pointer (some ⟨q,0,none⟩)] w fun e w'=>e=.returned (.tuple #[])/\w=w':=by
 have g:w.cell? ⟨q,8,none⟩=some (.slice none 0 0):=by rw[<-hF];exact hb.cs 8 (by omega) (by omega)
 clear hb hF
 go_enter Tryz.func79,Tryz.ntmps79
 go_wp2_with fail
 go_loopw [2] (fun iv W=>iv=.int .i64 0/\W=w) (fun _ _=>0)
 case atStart=>exact⟨rfl,rfl⟩
 case round =>
  obtain⟨rfl,rfl⟩:=hrel
  go_wp2_with fail
  exact zzZ (zzY rfl _ _ _) rfl ⟨rfl,rfl⟩
theorem zRz(q n:Nat)(F:Nat->Value)(w:World)(hb:zGx w q n F)(hF:F 8=.slice none 0 0):Calls Tryz.prog 88 #[.pointer (some ⟨q,0,none⟩)] w fun e w'=>e=.returned (.tuple #[])/\w=w':=by
 have g:w.cell? ⟨q,8,none⟩=some (.slice none 0 0):=by rw[<-hF];exact hb.cs 8 (by omega) (by omega)
 clear hb hF
 go_enter Tryz.func88,Tryz.ntmps88
 go_wp2_with fail
 go_loopw [2] (fun iv W=>iv=.int .i64 0/\W=w) (fun _ _=>0)
 case atStart=>exact⟨rfl,rfl⟩
 case round =>
  obtain⟨rfl,rfl⟩:=hrel
  go_wp2_with fail
  exact zzZ (zzY rfl _ _ _) rfl ⟨rfl,rfl⟩
theorem zRs(q n:Nat)(F:Nat->Value)(w:World)(hb:zGx w q n F)(hF:F 8=.slice none 0 0):Calls Tryz.prog 97 #[.pointer (some ⟨q,0,none⟩)] w fun e w'=>e=.returned (.bool true)/\w=w':=by
 have g:w.cell? ⟨q,8,none⟩=some (.slice none 0 0):=by rw[<-hF];exact hb.cs 8 (by omega) (by omega)
 clear hb hF
 go_enter Tryz.func97,Tryz.ntmps97
 go_wp2_with fail
 go_loopw [3] (fun iv W=>iv=.int .i64 0/\W=w) (fun _ _=>0)
 case atStart=>exact⟨rfl,rfl⟩
 case round =>
  obtain⟨rfl,rfl⟩:=hrel
  go_wp2_with fail
  exact zzJ (zzK rfl _ _ _) rfl ⟨rfl,rfl⟩
theorem zRo(q n:Nat)(F:Nat->Value)(w:World)(hb:zGx w q n F)(hF:F 9=.slice none 0 0):Calls Tryz.prog 80 #[.pointer (some ⟨q,0,none⟩)] w fun e w'=>e=.returned (.tuple #[])/\w=w':=by
 have g:w.cell? ⟨q,9,none⟩=some (.slice none 0 0):=by rw[<-hF];exact hb.cs 9 (by omega) (by omega)
 clear hb hF
 go_enter Tryz.func80,Tryz.ntmps80
 go_wp2_with fail
 go_loopw [2] (fun iv W=>iv=.int .i64 0/\W=w) (fun _ _=>0)
 case atStart=>exact⟨rfl,rfl⟩
 case round =>
  obtain⟨rfl,rfl⟩:=hrel
  go_wp2_with fail
  exact zzZ (zzY rfl _ _ _) rfl ⟨rfl,rfl⟩
theorem zSd(q n:Nat)(F:Nat->Value)(w:World)(hb:zGx w q n F)(hF:F 9=.slice none 0 0):Calls Tryz.prog 89 #[.pointer (some ⟨q,0,none⟩)] w fun e w'=>e=.returned (.tuple #[])/\w=w':=by
 have g:w.cell? ⟨q,9,none⟩=some (.slice none 0 0):=by rw[<-hF];exact hb.cs 9 (by omega) (by omega)
 clear hb hF
 go_enter Tryz.func89,Tryz.ntmps89
 go_wp2_with fail
 go_loopw [2] (fun iv W=>iv=.int .i64 0/\W=w) (fun _ _=>0)
 case atStart=>exact⟨rfl,rfl⟩
 case round =>
  obtain⟨rfl,rfl⟩:=hrel
  go_wp2_with fail
  exact zzZ (zzY rfl _ _ _) rfl ⟨rfl,rfl⟩
theorem zRd(q n:Nat)(F:Nat->Value)(w:World)(hb:zGx w q n F)(hF:F 9=.slice none 0 0):Calls Tryz.prog 98 #[.pointer (some ⟨q,0,none⟩)] w fun e w'=>e=.returned (.bool true)/\w=w':=by
 have g:w.cell? ⟨q,9,none⟩=some (.slice none 0 0):=by rw[<-hF];exact hb.cs 9 (by omega) (by omega)
 clear hb hF
 go_enter Tryz.func98,Tryz.ntmps98
 go_wp2_with fail
 go_loopw [3] (fun iv W=>iv=.int .i64 0/\W=w) (fun _ _=>0)
 case atStart=>exact⟨rfl,rfl⟩
 case round =>
  obtain⟨rfl,rfl⟩:=hrel
  go_wp2_with fail
  exact zzJ (zzK rfl _ _ _) rfl ⟨rfl,rfl⟩
structure yJe(W:World)(base q:Nat)(F:Nat->Value)(H:List zEw)(S:Nat->List (List Value)):Prop where
 bk:zGx W q H.length F
 nul:∀ j,1<=j->j<10->j≠5->F j=.slice none 0 0
 row:zIw W 161 base q (F 5) H
 lies:zJq W base 32 H S
 ap:zI5 H q (F 5)
 nums:∀ i,i<H.length->num H i=i+1
 lngs:∀ i,i<H.length->lng H i=.slice none 0 0
 lens:∀ i,i<H.length->(S i).length<900000
 bq:base<=q
theorem zJn(H:List zEw)(x:zEw)(i:Nat):hd (H++[x]) i=if i<H.length then hd H i else if i=H.length then x else (.slice none 0 0,.slice none 0 0,0):=by
 unfold hd
 rw[zzg]
 by_cases h:i<H.length
 ·rw[zzS h,zzE h,<-zzg]
 ·rw[zzT h,zzo (by omega)]
  by_cases e:i=H.length
  ·rw[zzS e,e,Nat.sub_self];rfl
  ·rw[zzT e,zz8 (by simp;omega)];rfl
def yHv(H:List zEw)(S:Nat->List (List Value))(xs:List (List Value)):Nat->List (List Value):=fun i=>if i<H.length then S i else xs
theorem yEa(w:World)(base:Nat)(hb:base<=w.heap.size):yJe (w.alloc (.cells #[.int .i64 0,.slice none 0 0,.slice none 0 0,.slice none 0 0,.slice none 0 0,.slice none 0 0,.slice none 0 0,.slice none 0 0,.slice none 0 0,.slice none 0 0] 44)) base w.heap.size (fun _=>.slice none 0 0) [] (fun _=>[]):=by
 have hr:=zDl w #[.int .i64 0,.slice none 0 0,.slice none 0 0,.slice none 0 0,.slice none 0 0,.slice none 0 0,.slice none 0 0,.slice none 0 0,.slice none 0 0,.slice none 0 0] 44 _ rfl
 have ht:=zD0 w #[.int .i64 0,.slice none 0 0,.slice none 0 0,.slice none 0 0,.slice none 0 0,.slice none 0 0,.slice none 0 0,.slice none 0 0,.slice none 0 0,.slice none 0 0] 44
 refine⟨⟨ht,hr 0 _ rfl,fun j h1 h2=>?_⟩,fun _ _ _ _=>rfl,⟨World.ownsRow_nil _ _ _ _,by simp[Value.ownBlock]⟩,fun i hi=>by simp at hi,fun i hi=>by simp at hi,fun i hi=>by simp at hi,fun i hi=>by simp at hi,fun i hi=>by simp at hi,hb⟩
 have:=hr j (.slice none 0 0) (by
  match j,h1,h2 with
  | 1,_,_ | 2,_,_ | 3,_,_ | 4,_,_ | 5,_,_ | 6,_,_ | 7,_,_ | 8,_,_ | 9,_,_=>rfl)
 rwa[zzn]at this
end Go.Proofs.YtdkcndgehgmadaaGreatDoor
