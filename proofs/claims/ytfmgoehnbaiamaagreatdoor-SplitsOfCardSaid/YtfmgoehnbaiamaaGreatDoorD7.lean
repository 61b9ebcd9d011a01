/- Walk: splits.leads. -/
import Derived.Test.YtfmgoehnbaiamaaGreatDoorZBI
set_option maxRecDepth 100000
set_option maxHeartbeats 4000000
open Go Go.RowKit Alm
namespace Go.Proofs.YtfmgoehnbaiamaaGreatDoor
variable {S T:List Sum}{m n:Nat}{which:Sum}
open Keys (Rise Pr kn)
def LP(w w':World)(k which:Sum)(bs:List UInt8)(S:List Sum)(r:Ending):Prop :=
 (∃ T p ve,zEh which S=some T/\r=.returned (.tuple #[.pointer (some ⟨p,0,none⟩),.bool true])/\zKv w' p (zE7 k 256 T (vl k bs)) (zIp k 256 T (vl k bs)) ve (zId k bs)/\w.heap.size<=p/\∀ i,ve.ownBlock=some i->w.heap.size<=i) ∨
 (zEh which S=none/\∃ x,r=.returned (.tuple #[x,.bool false]))
theorem zVh{which:Sum}{S:List Sum}{n:Nat}(h:zGa which n S=none):∀ m,zGa which (n+m) S=none
 | 0=>h
 | m+1=>by rw[<-Nat.add_assoc,zGa,zVh h m]
theorem yKb{S':List Sum}(h:zGa which n S=some (T,S'))(hb:¬(kn which).testBit n=true):zGa which (n+1) S=some (em n::T,S'):=by
 rw[zGa,h];simp only;rw[zzZ hb]
theorem zR8(h:zGa which n S=some (T,[]))(hb:(kn which).testBit n=true):zGa which (n+1) S=none:=by
 rw[zGa,h];simp only;rw[zzY hb];simp
theorem yIb{t:Sum}(h:zGa which n S=some (T,S.take (m+1)))(hb:(kn which).testBit n=true)(ht:S[m]? = some t):zGa which (n+1) S=some (t::T,S.take m):=by
 obtain⟨hl,e⟩:=zzl.1 ht
 have h1:S.take (m+1)=S.take m++[t]:=by rw[zzJ hl,e]
 rw[zGa,h];simp only;rw[zzY hb,h1,zzZ (by simp)]
 simp
theorem zW2(h:zGa which 256 S=some (T,S.take m))(hm:m<=S.length):(m=0->zEh which S=some T)/\(m≠0->zEh which S=none):=by
 unfold zEh
 rw[h]
 refine⟨fun e=>(by rw[e,List.take_zero]),fun e=>?_⟩
 have:S.take m≠[]:=fun x=>by
  have:=congrArg List.length x
  rw[zzq,zzS]at this
  omega
 cases hS:S.take m with
 | nil=>exact absurd hS this
 | cons a b=>rfl
theorem zQb(k which:Sum)(v vS:Value)(bs:List UInt8)(S:List Sum)(w:World)(hv:zDk w v bs)(hs:zD1 w vS S)(hS:S.length<100000)(hbs:bs.length<140737488355000):
  Calls Tryz.prog 113 #[sv k,v,shV which vS] w fun r w'=>LP w w' k which bs S r/\Below w.heap.size w w':=by
 have hb0:=al (al (zze _ w) (.cells (cellsOf k).toArray 24)) (.cells (zDe which vS).toArray 63)
 have hz1:(w.alloc (.cells (cellsOf k).toArray 24)).heap.size=w.heap.size+1:=zzT _
 have hr0:=zzt (zDh w (cellsOf k).toArray 24 _ rfl) (.cells (zDe which vS).toArray 63)
 have hr1:=zDh (w.alloc (.cells (cellsOf k).toArray 24)) (zDe which vS).toArray 63 _ rfl
 rw[hz1]at hr1
 obtain⟨aS,cS,rfl,hf1,hf2⟩:=zQf hs
 obtain⟨M,hM⟩:∃ M,M=S.length:=⟨_,rfl⟩
 rw[<-hM]at hf1 hs hr1 hb0 hr0 ⊢
 have H0:=zAI hb0 (zza hr0 (zza hr1 (zDg hv hb0 (zzc _))))
 have HS0:=zAI hs (zza hM (zza hS (zza hf2 hbs)))
 have k1:(M:Int)<=(cS:Int):=by omega
 clear hb0 hz1 hr0 hr1 hv hs hM hf1 hf2 hS hbs
 unfold shV
 go_enter Tryz.func113,Tryz.ntmps113
 go_wp2_with (refine zDb rfl _ rfl w.heap.size 0 rfl k H0.out.2.1 ?_)
 refine (zS1 k bs v _ (zDg H0.out.2.2.2 (zze _ _) (zzc _)) HS0.out.2.2.2.2).mono ?_
 rintro r w1 ⟨ve,rfl,hn,hb⟩
 obtain⟨p,hp⟩:∃ p,p=w1.heap.size:=⟨_,rfl⟩
 have hve:ve.cells=#[ve]:=by
  obtain⟨a1,c1,hve⟩:=hn.form
  rw[hve];rfl
 have HVE:=zzb hve
 have hkk:=zK hb
 have hwy:=yL3 w1 ve (zId k bs) (hn.mono (zye _)) (fun i hi=>(hn.lt i hi).2)
 have hb2:=al (zze w1.heap.size w1) (.cells (zP1.setIfInBounds 16416 ve) 125)
 have hk2:=zK hb2
 have hsz:w.heap.size+2<=w1.heap.size:=by
  have h2:=hb.size
  rw[zzp,zzp]at h2
  omega
 have hbw:=(H0.out.1.trans (hb.mono H0.out.1.size))
 have HL:=zzb (show LB w (w1.alloc (.cells (zP1.setIfInBounds 16416 ve) 125)) w1.heap.size w.heap.size (w.heap.size+1) 256 k which (.slice aS M cS) S [] ve (zId k bs) from
  ⟨hbw.trans (hb2.mono hbw.size),hwy.1,hwy.2,hk2.range (hkk.range H0.out.2.1 id) id,hk2.range (hkk.range H0.out.2.2.1 id) id,HS0.out.1,⟨by omega,by omega,by omega⟩,fun i hi=>(hn.lt i hi).2⟩)
 have HFR:=zzb (fun i hi=>zzk H0.out.1.size (hn.lt i hi).1:∀ i,ve.ownBlock=some i->w.heap.size<=i)
 clear hn hb hve hkk hwy hb2 hk2 hbw H0 hsz
 go_wp2_with (first
  | (refine zPg rfl _ rfl ve HVE.out rfl ?_)
  | (refine zM7 rfl _ _ rfl (zP1.setIfInBounds 16416 ve) rfl ?_))
 rw[<-hp]at HL ⊢
 generalize w1.alloc (.cells (zP1.setIfInBounds 16416 ve) 125)=W2 at *
 clear hp HVE
 refine zDd (fun W=>LB w W p w.heap.size (w.heap.size+1) 256 k which (.slice aS M cS) S [] ve (zId k bs)) [.t 1,.s 2,.f 0 3 true,.e 4 true,.t 5] (by kernel_rfl) (by kernel_rfl) (by rintro _ _(_|_)_ _ h<;>exact h) ?_
 have HL1:=zzb (HL.out.below (zze _ _).drew)
 clear HL
 generalize W2.drew=W3 at *
 refine zDp rfl (v:=?_) (by rfl) (fun W=>?_) ?_
 rotate_left
 ·go_simp
  try rfl
 try simp only[zU,zA,zB,zC]
 refine zEx (by exact HL1.out) rfl (v:=.slice aS M cS) (by rfl) (fun W hW=>?_) ?_
 ·have g:=hW.slice
  go_simp
 try simp only[zU,zA,zB,zC]
 have HZ0:=zzb (show em 0=z0 from rfl)
 refine' Alm.join (fun (q:Nat) (W:World)=>LE w W p w.heap.size (w.heap.size+1) q 256 0 k which (.slice aS M cS) S [] ve (zId k bs)) (fun key=>?_) ?_
 rotate_left
 ·refine yN4 ?_ ?_
  ·refine zJd rfl (by rfl) (fun K hK=>?_)
   go_simp
   refine (zS9 W3).mono ?_
   rw[<-HZ0.out]
   rintro r W4 ⟨rfl,hb⟩
   have h4:=HL1.out.below hb
   have h5:=h4.below (al (zze _ W4) (.cells (zDi (List.replicate 32 0)).toArray 24))
   refine hK _ _ ⟨by exact h4,?_⟩;clear hK K hb
   try simp only[zU,zA,zB,zC]
   refine zJd rfl (by rfl) (fun K hK=>?_)
   go_simp
   refine hK _ _ ⟨by exact h5,?_⟩;clear hK K
   try simp only[zU,zA,zB,zC]
   refine zD8 rfl (by rfl) (fun K hK=>?_)
   have R4:Res W4 32 (W4.alloc (.cells (zDi (List.replicate 32 0)).toArray 24)):=Res.start _ _ _ _ (by rfl)
   refine zEd _ _ (by rfl) W4.heap.size 0 (em 0) (by rfl) (by rfl) R4.there ?_
   have hf:LE w ((W4.alloc (.cells (zDi (List.replicate 32 0)).toArray 24)).setCells W4.heap.size 0 (cellsOf (em 0))) p w.heap.size (w.heap.size+1) W4.heap.size 256 0 k which (.slice aS M cS) S [] ve (zId k bs) :=
    ⟨h4.below (R4.store (cellsOf (em 0))).below,zDf _ _ _ _ (by rw[zDa];exact (R4.store _).there),(R4.store _).there,zEo h4.rows.th (by decide)⟩
   have HF:=zzb hf
   clear hf h4 h5 R4
   change K _ ((W4.alloc (.cells (zDi (List.replicate 32 0)).toArray 24)).setCells W4.heap.size 0 (cellsOf (em 0)))
   generalize (W4.alloc (.cells (zDi (List.replicate 32 0)).toArray 24)).setCells W4.heap.size 0 (cellsOf (em 0))=W5 at *
   generalize W4.heap.size=q at *
   refine hK _ _ ⟨by exact HF.out.lb,?_⟩;clear hK K
   try simp only[zU,zA,zB,zC]
   exact key q W5 HF.out
  ·have R3:Res W3 32 (W3.alloc (.cells (zDi (List.replicate 32 0)).toArray 24)):=Res.start _ _ _ _ (by rfl)
   have h3:=HL1.out.below R3.below
   refine zJd rfl (by rfl) (fun K hK=>?_)
   go_simp
   refine hK _ _ ⟨by exact h3,?_⟩;clear hK K
   try simp only[zU,zA,zB,zC]
   refine zJd rfl (by rfl) (fun K hK=>?_)
   go_simp
   refine (zS9 (W3.alloc (.cells (zDi (List.replicate 32 0)).toArray 24))).mono ?_
   rw[<-HZ0.out]
   rintro r W4 ⟨rfl,hb⟩
   have R4:Res W3 32 W4:=R3.call (by decide) hb
   refine hK _ _ ⟨by exact h3.below hb,?_⟩;clear hK K
   try simp only[zU,zA,zB,zC]
   refine zD8 rfl (by rfl) (fun K hK=>?_)
   refine zEd _ _ (by rfl) W3.heap.size 0 (em 0) (by rfl) (by rfl) R4.there ?_
   have hf:LE w (W4.setCells W3.heap.size 0 (cellsOf (em 0))) p w.heap.size (w.heap.size+1) W3.heap.size 256 0 k which (.slice aS M cS) S [] ve (zId k bs) :=
    ⟨HL1.out.below (R4.store (cellsOf (em 0))).below,zDf _ _ _ _ (by rw[zDa];exact (R4.store _).there),(R4.store _).there,zEo HL1.out.rows.th (by decide)⟩
   have HF:=zzb hf
   clear hf h3 R3 R4 hb
   change K _ (W4.setCells W3.heap.size 0 (cellsOf (em 0)))
   generalize W4.setCells W3.heap.size 0 (cellsOf (em 0))=W5 at *
   generalize W3.heap.size=q at *
   refine hK _ _ ⟨by exact HF.out.lb,?_⟩;clear hK K
   try simp only[zU,zA,zB,zC]
   exact key q W5 HF.out
 intro q W5 hF
 have HE:=zzb hF
 clear hF HL1 HZ0
 refine zDp rfl (v:=?_) (by rfl) (fun W=>?_) ?_
 rotate_left
 ·go_simp
  try rfl
 try simp only[zU,zA,zB,zC]
 refine zDn ?_
 go_wp2_with fail
 go_loopw [10,11] (fun lv dv W=>∃ (D m:Nat) (T:List Sum),D<=256/\m<=M/\lv=.slice aS m cS/\dv=.int .i64 ((D:Int) - 1)/\zGa which (256 - D) S=some (T,S.take m)/\LE w W p w.heap.size (w.heap.size+1) q D (256 - D) k which (.slice aS M cS) S T ve (zId k bs)) (fun _ dv _=>(intOf dv+1).toNat)
 case atStart=>exact⟨256,M,[],zzc _,zzc _,rfl,rfl,by rw[HS0.out.2.1,List.take_length];rfl,HE.out⟩
 case round =>
  clear HE
  obtain⟨D,m,T,hD,hm,rfl,rfl,hT,hE⟩:=hrel
  have HE:=zzb hE
  have HT:=zAI hT hm
  have km:(m:Int)<=(cS:Int):=by omega
  clear hE hT hm k1
  cases D with
  | zero =>
   have e0:((0:Nat):Int) - 1=-1:=rfl
   rw[e0]
   clear e0 hD
   go_wp2_with (refine zDb rfl _ rfl w.heap.size 0 rfl k HE.out.lb.key ?_)
   have hlen:T.length=256:=((zK1 zDv which zDv S 256).1 T _ HT.out.1).2
   refine (yFi k (vl k bs) T p ve (zId k bs) _ hlen HE.out.lb.rows HE.out.lb.en (by rw[zWz,zOm]) (by have:=zLp k bs;have:=HS0.out.2.2.2.2;omega) (fun i hi=>Nat.lt_trans (HE.out.lb.qv i hi) (zEo HE.out.lb.rows.th (by decide)))).mono ?_
   rintro r W6 ⟨rfl,hwy,hk⟩
   have HW:=zAI hwy (HE.out.lb.bw.trans (hk.below HE.out.lb.bw.size (fun i hi=>by rw[hi];exact HE.out.lb.pz.1)))
   clear hwy hk hlen
   have hend:=zW2 HT.out.1 (by rw[<-HS0.out.2.1];exact HT.out.2)
   by_cases hm0:m=0
   ·have HN:=zzb (hend.1 hm0)
    subst hm0
    clear hend
    go_wp2_with fail
    refine zzM (results_tmp2 rfl _ _ _) rfl ?_
    exact⟨.inl ⟨T,p,ve,HN.out,rfl,HW.out.1,HE.out.lb.pz.1,HFR.out⟩,HW.out.2⟩
   ·have HN:=zzb (hend.2 hm0)
    have f1:decide (m=0)=false:=by simpa using hm0
    have f2:decide ((m:Int)=0)=false:=by simp;omega
    have f3:((m:Int) == 0)=false:=by rw[zz4];omega
    clear hend
    go_wp2_with fail
    refine zzM (results_tmp2 rfl _ _ _) rfl ?_
    exact⟨.inr ⟨HN.out,_,rfl⟩,HW.out.2⟩
  | succ d =>
   have e0:((d+1:Nat):Int) - 1=(d:Int):=by omega
   rw[e0]
   clear e0
   have hd0:(0:Int)<=(d:Int):=Int.natCast_nonneg _
   have hd1:decide ((0:Int)<=(d:Int))=true:=zz2 hd0
   have hd2:(d:Int)<256:=by omega
   have HD:=zzb hD
   clear hD
   have HG:=zzb trivial
   obtain⟨N,hN⟩:∃ N,N=em (256 - (d+1)):=⟨_,rfl⟩
   have HN:=zzb hN
   clear hN
   have hno:=HE.out.no
   rw[<-HN.out]at hno
   have HNO:=zzb hno
   clear hno
   go_wp2_with (first
    | (have _:=HG;refine zDb rfl _ rfl q 0 rfl N HNO.out ?_)
    | (have _:=HG;refine zD3 (by rfl) rfl _ _ rfl N rfl rfl ?_;intro W6 hb hr ht;obtain⟨r,hr0⟩:∃ r,r=wr.heap.size:=⟨_,rfl⟩;rw[<-hr0]at hr ht ⊢;have H6:=zAI (HE.out.below hb) (zza hr (zza ht (show q<r/\p<r from ⟨by rw[hr0];exact zEo HE.out.tq (by decide),by rw[hr0];exact zEo HE.out.lb.rows.th (by decide)⟩)));clear HG hb hr ht hr0)
    | (have _:=H6;refine zDb rfl _ rfl (w.heap.size+1) 0 rfl which (yDz H6.out.1.lb.sh) ?_))
   obtain⟨b,hb0⟩:∃ b,b=(kn which>>>(255 - d))%2:=⟨_,rfl⟩
   have hc:=zJe which d W6 HD.out
   rw[<-hb0]at hc
   have HB:=zzb hb0
   clear hb0
   refine hc.mono ?_
   clear hc
   rintro rr W7 ⟨rfl,hb⟩
   have H7:=zAI (H6.out.1.below hb) (zza ((zK hb).range H6.out.2.1 id) (zza ((zK hb).there H6.out.2.2.1 (by decide) id) H6.out.2.2.2))
   clear hb H6
   by_cases hb1:b=1
   ·have HBT:=zzb (show (kn which).testBit (256 - (d+1))=true by rw[show 256 - (d+1)=255 - d by omega];exact (zO3 which (255 - d)).1 (by rw[<-HB.out,hb1]))
    subst hb1
    cases m with
    | zero =>
     go_wp2_with fail
     refine zzM (results_tmp2 rfl _ _ _) rfl ?_
     have hno:=zVh (zR8 HT.out.1 HBT.out) d
     rw[show 256 - (d+1)+1+d=256 by have:=HD.out;omega]at hno
     exact⟨.inr ⟨by unfold zEh;rw[hno],_,rfl⟩,H7.out.1.lb.bw⟩
    | succ mm =>
     obtain⟨M1,hM1⟩:∃ M1,M1=mm+1:=⟨_,rfl⟩
     have hmm:mm<S.length:=by have:=HT.out.2;have:=HS0.out.2.1;omega
     obtain⟨t,ht⟩:∃ t,S[mm]? = some t:=⟨_,zzf hmm⟩
     obtain⟨bS,oS,rfl⟩:=yJw HS0.out.1 ht
     have HMM:=zzb (show mm<=M by have:=HT.out.2;omega)
     have HTT:=zAI ht hM1
     have g1:decide (M1=0)=false:=by simp;omega
     have g1':decide ((M1:Int)=0)=false:=by simp;omega
     have g1'':((M1:Int) == 0)=false:=by rw[zz4];omega
     have hw:IntKind.i64.wrap ((M1:Int) - 1)=(mm:Int):=by have:=HS0.out.2.2.1;rw[zzr];omega
     have a0:(0:Int)<=(mm:Int):=Int.natCast_nonneg _
     have a1:(mm:Int)<(M1:Int):=by omega
     have a2:(mm:Int)<=(cS:Int):=by omega
     have a3:mm<M1:=by omega
     have a4:mm<=cS:=by omega
     rw[<-hM1]at km ⊢
     clear hmm ht hM1
     go_wp2_with fail
     refine zDd (fun W=>True) [.t 0,.t 1,.t 2,.t 3,.t 4,.t 6,.t 7,.t 8,.t 9,.t 10,.e 5 false,.e 11 false,.t 12] (by kernel_rfl) (by kernel_rfl) (by rintro _ _(_|_)_ _ h<;>exact h) ?_
     have H8:=zAI (H7.out.1.below (zze _ _).drew) (zza ((zK (zze _ _).drew).there H7.out.2.2.1 (by decide) id) H7.out.2.2.2)
     clear H7
     generalize World.drew _=V at *
     iterate 10
      refine zDp rfl (v:=?_) (by rfl) (fun W=>?_) ?_
      rotate_left
      ·go_simp
       try rfl
      try simp only[zU,zA,zB,zC]
     refine zEa rfl (by rfl) (fun K hK=>?_)
     refine zEb _ (by rfl) bS (oS+mm*32) (by rfl) t (yHz (HS0.out.1.below H8.out.1.lb.bw (zzc _)) HTT.out.1) ?_
     refine hK _ _ ?_;clear hK K
     try simp only[zU,zA,zB,zC]
     refine zEa rfl (by rfl) (fun K hK=>?_)
     refine zEd _ _ (by rfl) r 0 t (by rfl) (by rfl) H8.out.2.1 ?_
     have H9:=zAI (H8.out.1.apart (zFq V r 0 (cellsOf t)) H8.out.2.2.1) (show (V.setCells r 0 (cellsOf t)).rangeAt r 0 (cellsOf t) from zDf _ _ _ _ (by rw[zDa];exact zzd H8.out.2.1 _ _ _))
     clear H8
     refine hK _ _ ?_;clear hK K
     try simp only[zU,zA,zB,zC]
     change wpS _ _ _ _ _ _ _ (V.setCells r 0 (cellsOf t))
     generalize V.setCells r 0 (cellsOf t)=V2 at *
     refine zDp rfl (v:=?_) (by rfl) (fun W=>?_) ?_
     rotate_left
     ·go_simp
      try rfl
     try simp only[zU,zA,zB,zC]
     refine zDn ?_
     have HLY:=zzb (show zGa which (256 - d) S=some (t::T,S.take mm) by
      have h:=yIb HT.out.1 HBT.out HTT.out.1
      rwa[show 256 - (d+1)+1=256 - d by have:=HD.out;omega]at h)
     clear hw a0 a1 a2 a3 a4 g1 g1' g1'' km
     have HR:=zzb H9.out
     clear H9
     go_wp2_with fail
     refine zDd (fun W=>LE w W p w.heap.size (w.heap.size+1) q (d+1) (256 - (d+1)) k which (.slice (some ⟨bS,oS,none⟩) M cS) S T ve (zId k bs)/\W.rangeAt r 0 (cellsOf t)) [.t 0,.t 1,.t 8,.t 9,.s 2,.s 3,.t 4,.s 5,.e 6 true,.e 7 true,.t 10,.e 11 false,.e 12 false] (by kernel_rfl) (by kernel_rfl) (by rintro _ _(_|_)_ _ h<;>exact h) ?_
     have HS:=zAI (HR.out.1.below (zze _ _).drew) ((zK (zze _ _).drew).range HR.out.2 id)
     clear HR
     generalize World.drew _=V3 at *
     iterate 4
      refine zDp rfl (v:=?_) (by rfl) (fun W=>?_) ?_
      rotate_left
      ·go_simp
       try rfl
      try simp only[zU,zA,zB,zC]
     refine zDl (by exact HS.out) rfl (by rfl) _ (by rfl) r 0 (by rfl) t (fun W hW=>hW.2) ?_
     try simp only[zU,zA,zB,zC]
     refine zDl (by exact HS.out) rfl (by rfl) _ (by rfl) r 0 (by rfl) t (fun W hW=>hW.2) ?_
     try simp only[zU,zA,zB,zC]
     refine zDp rfl (v:=bv t t) (by rfl) (fun W=>zIw _ rfl t t (by rfl) W) ?_
     try simp only[zU,zA,zB,zC]
     refine zDl (by exact HS.out) rfl (by rfl) _ (by rfl) q 0 (by rfl) N (fun W hW=>by rw[HN.out];exact hW.1.no) ?_
     try simp only[zU,zA,zB,zC]
     refine zD8 rfl (by rfl) (fun K hK=>?_)
     refine zEb _ (by rfl) q 0 (by rfl) N (by rw[HN.out];exact HS.out.1.no) ?_
     refine hK _ _ ⟨by exact HS.out,?_⟩;clear hK K
     try simp only[zU,zA,zB,zC]
     refine zD8 rfl (by rfl) (fun K hK=>?_)
     go_simp
     obtain⟨E,hE⟩:∃ E,E=em (256 - (d+1)+1):=⟨_,rfl⟩
     have hc:=zJh N N V3
     rw[show sd N N=E by rw[hE,HN.out,zJf]]at hc
     have HEE:=zzb hE
     clear hE
     refine hc.mono ?_
     clear hc
     rintro rr V4 ⟨rfl,hb⟩
     have HS4:=zAI (HS.out.1.below hb) ((zK hb).range HS.out.2 id)
     clear hb HS
     refine hK _ _ ⟨by exact HS4.out,?_⟩;clear hK K
     try simp only[zU,zA,zB,zC]
     refine zDp rfl (v:=?_) (by rfl) (fun W=>?_) ?_
     rotate_left
     ·go_simp
      try rfl
     try simp only[zU,zA,zB,zC]
     refine zEa rfl (by rfl) (fun K hK=>?_)
     refine zKp _ _ (by rfl) p (32+d*64) t t (by rfl) (by rfl) (HS4.out.1.lb.rows.at (by have:=HD.out;omega)) ?_
     have HS5:=zzb (HS4.out.1.row (t:=t) (by have:=HD.out;omega))
     clear HS4
     refine hK _ _ ?_;clear hK K
     try simp only[zU,zA,zB,zC]
     change wpS _ _ _ _ _ _ _ (V4.setCells p (32+d*64) (zEi t t))
     generalize V4.setCells p (32+d*64) (zEi t t)=V5 at *
     refine zEa rfl (by rfl) (fun K hK=>?_)
     refine zEd _ _ (by rfl) q 0 E (by rfl) (by rfl) HS5.out.tq ?_
     have hfin:=HS5.out.none
     rw[<-HEE.out]at hfin
     have HS6:=zzb hfin
     clear hfin HS5
     refine hK _ _ ?_;clear hK K
     try simp only[zU,zA,zB,zC]
     change wpS _ _ _ _ _ _ _ (V5.setCells q 0 (cellsOf E))
     generalize V5.setCells q 0 (cellsOf E)=V6 at *
     refine zDn ?_
     have hw2:wrap64 ((d:Int) - 1)=(d:Int) - 1:=by have:=HD.out;unfold wrap64;omega
     go_wp2_with fail
     try rw[hw2]
     have hfn:=HS6.out
     rw[show 256 - (d+1)+1=256 - d by have:=HD.out;omega]at hfn
     exact⟨⟨d,mm,t::T,by have:=HD.out;omega,by have:=HMM.out;omega,rfl,rfl,HLY.out,hfn⟩,by simp only[intOf];omega⟩
   ·have f1:decide (b=1)=false:=by simpa using hb1
    have f2:decide ((b:Int)=1)=false:=by simp;omega
    have f3:((b:Int) == 1)=false:=by rw[zz4];omega
    obtain⟨mm,hmm⟩:∃ mm,mm=m:=⟨_,rfl⟩
    obtain⟨t,htN⟩:∃ t,t=N:=⟨_,rfl⟩
    have HMM:=zzb (show mm<=M by rw[hmm];exact HT.out.2)
    have HLN:=zzb (show zGa which (256 - d) S=some (t::T,S.take mm) by
     have h:=yKb HT.out.1 (show ¬(kn which).testBit (256 - (d+1))=true by rw[show 256 - (d+1)=255 - d by omega];exact fun e=>hb1 (by rw[HB.out];exact (zO3 which (255 - d)).2 e))
     rw[show 256 - (d+1)+1=256 - d by have:=HD.out;omega]at h
     rw[htN,hmm,HN.out];exact h)
    have HR:=zAI H7.out.1 (show W7.rangeAt r 0 (cellsOf t) by rw[htN];exact H7.out.2.1)
    rw[<-hmm]
    clear hb1 H7 htN hmm km
    go_wp2_with fail
    refine zDd (fun W=>LE w W p w.heap.size (w.heap.size+1) q (d+1) (256 - (d+1)) k which (.slice aS M cS) S T ve (zId k bs)/\W.rangeAt r 0 (cellsOf t)) [.t 0,.t 1,.t 8,.t 9,.s 2,.s 3,.t 4,.s 5,.e 6 true,.e 7 true,.t 10,.e 11 false,.e 12 false] (by kernel_rfl) (by kernel_rfl) (by rintro _ _(_|_)_ _ h<;>exact h) ?_
    have HS:=zAI (HR.out.1.below (zze _ _).drew) ((zK (zze _ _).drew).range HR.out.2 id)
    clear HR
    generalize World.drew _=V3 at *
    iterate 4
     refine zDp rfl (v:=?_) (by rfl) (fun W=>?_) ?_
     rotate_left
     ·go_simp
      try rfl
     try simp only[zU,zA,zB,zC]
    refine zDl (by exact HS.out) rfl (by rfl) _ (by rfl) r 0 (by rfl) t (fun W hW=>hW.2) ?_
    try simp only[zU,zA,zB,zC]
    refine zDl (by exact HS.out) rfl (by rfl) _ (by rfl) r 0 (by rfl) t (fun W hW=>hW.2) ?_
    try simp only[zU,zA,zB,zC]
    refine zDp rfl (v:=bv t t) (by rfl) (fun W=>zIw _ rfl t t (by rfl) W) ?_
    try simp only[zU,zA,zB,zC]
    refine zDl (by exact HS.out) rfl (by rfl) _ (by rfl) q 0 (by rfl) N (fun W hW=>by rw[HN.out];exact hW.1.no) ?_
    try simp only[zU,zA,zB,zC]
    refine zD8 rfl (by rfl) (fun K hK=>?_)
    refine zEb _ (by rfl) q 0 (by rfl) N (by rw[HN.out];exact HS.out.1.no) ?_
    refine hK _ _ ⟨by exact HS.out,?_⟩;clear hK K
    try simp only[zU,zA,zB,zC]
    refine zD8 rfl (by rfl) (fun K hK=>?_)
    go_simp
    obtain⟨E,hE⟩:∃ E,E=em (256 - (d+1)+1):=⟨_,rfl⟩
    have hc:=zJh N N V3
    rw[show sd N N=E by rw[hE,HN.out,zJf]]at hc
    have HEE:=zzb hE
    clear hE
    refine hc.mono ?_
    clear hc
    rintro rr V4 ⟨rfl,hb⟩
    have HS4:=zAI (HS.out.1.below hb) ((zK hb).range HS.out.2 id)
    clear hb HS
    refine hK _ _ ⟨by exact HS4.out,?_⟩;clear hK K
    try simp only[zU,zA,zB,zC]
    refine zDp rfl (v:=?_) (by rfl) (fun W=>?_) ?_
    rotate_left
    ·go_simp
     try rfl
    try simp only[zU,zA,zB,zC]
    refine zEa rfl (by rfl) (fun K hK=>?_)
    refine zKp _ _ (by rfl) p (32+d*64) t t (by rfl) (by rfl) (HS4.out.1.lb.rows.at (by have:=HD.out;omega)) ?_
    have HS5:=zzb (HS4.out.1.row (t:=t) (by have:=HD.out;omega))
    clear HS4
    refine hK _ _ ?_;clear hK K
    try simp only[zU,zA,zB,zC]
    change wpS _ _ _ _ _ _ _ (V4.setCells p (32+d*64) (zEi t t))
    generalize V4.setCells p (32+d*64) (zEi t t)=V5 at *
    refine zEa rfl (by rfl) (fun K hK=>?_)
    refine zEd _ _ (by rfl) q 0 E (by rfl) (by rfl) HS5.out.tq ?_
    have hfin:=HS5.out.none
    rw[<-HEE.out]at hfin
    have HS6:=zzb hfin
    clear hfin HS5
    refine hK _ _ ?_;clear hK K
    try simp only[zU,zA,zB,zC]
    change wpS _ _ _ _ _ _ _ (V5.setCells q 0 (cellsOf E))
    generalize V5.setCells q 0 (cellsOf E)=V6 at *
    refine zDn ?_
    have hw2:wrap64 ((d:Int) - 1)=(d:Int) - 1:=by have:=HD.out;unfold wrap64;omega
    go_wp2_with fail
    try rw[hw2]
    have hfn:=HS6.out
    rw[show 256 - (d+1)+1=256 - d by have:=HD.out;omega]at hfn
    exact⟨⟨d,mm,t::T,by have:=HD.out;omega,by have:=HMM.out;omega,rfl,rfl,HLN.out,hfn⟩,by simp only[intOf];omega⟩
end Go.Proofs.YtfmgoehnbaiamaaGreatDoor
