/- Joined: D9, D10. -/
import Derived.Test.YtfmgoehnbaiamaaGreatDoorD8
set_option maxRecDepth 100000
set_option maxHeartbeats 4000000
open Go Go.RowKit Alm
namespace Go.Proofs.YtfmgoehnbaiamaaGreatDoor
variable {P Q:List Keys.Pr}{T:List Sum}{D i p:Nat}{a:Option Addr}{k:Sum}{lv v:Value}{W W1 w:World}
theorem zDu.dropG{cap:Nat}(h:zDu w (.slice a P.length cap) P)(hi:i<=P.length):zDu w (.slice (if cap=i then a else Option.map (fun x=>x.add (i*33)) a) (P.length - i) (cap - i)) (P.drop i):=by
 by_cases hP:P=[]
 ·subst hP
  obtain⟨a',cap',cs,he,h1,h2,_⟩:=h
  simp only[zzh,true_and]at he
  obtain⟨-,rfl⟩:=he
  have hi0:i=0:=by simpa using hi
  subst hi0
  exact⟨if cap=0 then a else Option.map (fun x=>x.add (0*33)) a,cap - 0,[],rfl,zye _,by omega,rfl,fun c hc=>(List.not_mem_nil hc).elim,.inl rfl⟩
 ·obtain⟨b,o,_,_,_,he,_⟩:=zEn h (i:=0) (zzV.2 hP)
  simp only[zzh]at he
  obtain⟨rfl,-,rfl⟩:=he
  have:=h.drop' hi
  rw[Option.map_some,Addr.add_mid]
  exact this
structure TW(W1 W:World)(p D:Nat)(k:Sum)(P Q:List Keys.Pr)(T:List Sum)(lv:Value):Prop where
 b1:Below W1.heap.size W1 W
 rows:zLe W p 0 (zSn T)
 len:T.length=D
 bes:zG8 k 256 P=T++zG8 k (256 - D) Q
 und:zWa k 256 P=zWa k (256 - D) Q
 rise:Keys.Rise Q
 near:yEv k (256 - D) Q
 small:Small Q
 few:Q.length<100000
 prs:zDu W1 lv Q
theorem TW.below{W':World}(h:TW W1 W p D k P Q T lv)(hb:Below W.heap.size W W'):TW W1 W' p D k P Q T lv :=
 ⟨h.b1.trans (hb.mono h.b1.size),h.rows.below hb,h.len,h.bes,h.und,h.rise,h.near,h.small,h.few,h.prs⟩
theorem TW.next{n:Nat}{mv:Value}(h:TW W1 W p D k P Q T lv)(hD:D<256)(hp:W1.heap.size<=p)(hn:n=255 - D)(hm:zDu W1 mv (mine k n Q)):
  TW W1 (W.setCells p (32+D*64) (zEi (atH n (oth k n Q)) (atH n (oth k n Q)))) p (D+1) k P (mine k n Q) (T++[atH n (oth k n Q)]) mv:=by
 have hr:=h.rows.behind (atH n (oth k n Q),atH n (oth k n Q)) (by rw[zIn,h.len];exact hD)
 rw[zIn,h.len]at hr
 have hb:=h.bes
 have hu:=h.und
 have hne:=h.near
 rw[show 256 - D=n+1 by omega]at hb hu hne
 have e:256 - (D+1)=n:=by omega
 refine⟨zDc _ hp _ _ _ _ h.b1,?_,by rw[zzi,h.len];rfl,?_,?_,zH1 h.rise,by rw[e];exact hne.mine,fun q hq=>h.small q (zKm.1 hq).1,?_,hm⟩
 ·have e2:zSn (T++[atH n (oth k n Q)])=zSn T++[(atH n (oth k n Q),atH n (oth k n Q))]:=by unfold zSn;rw[zyh];rfl
  rw[e2]
  exact hr
 ·rw[hb,zG8,e,List.append_assoc];rfl
 ·rw[hu,zWa,e]
 ·have:=h.few
  have h2:(mine k n Q).length<=Q.length:=List.length_filter_le _ _
  omega
theorem zM1{o:Nat}(h:W.cell? ⟨p,o,none⟩=some v):W.rangeAt p o [v]:=fun j u hj=>by
 match j,hj with
 | 0,hj=>simp only[List.getElem?_cons_zero,zzj]at hj;rw[<-hj];exact h
theorem zLe.end_{A:List (Sum×Sum)}(h:zLe W p 0 A)(hA:A.length<=256){e:List UInt8}(hv:Lie W 0 1 v (zIx e))(hne:∀ k,v.ownBlock=some k->k≠p):
  zLe (W.setCell ⟨p,16416,none⟩ v) p 0 A/\zSm (W.setCell ⟨p,16416,none⟩ v) p v e:=by
 have kk:zDj (fun i=>i=p) W (W.setCell ⟨p,16416,none⟩ v):=(zDj.refl (fun i=>i=p) W).setCell (p:=⟨p,16416,none⟩) (.inl rfl) _
 obtain⟨c0,hc0⟩:=zzI.1 (h.th 16416 (by decide)).1
 rw[zzn]at hc0
 have hap:=zzA h.row p 16416 [v] (.inr (.inl (by rw[zFe];omega)))
 exact⟨⟨zFw h.th _ _ _,hap⟩,⟨World.cell?_setCell_same _ _ _ hc0,hv.keep kk (fun k hk e=>hne k hk e),hne⟩⟩
theorem yFx(P:List Keys.Pr)(v:Value)(k:Sum)(w:World)(hv:zDu w v P)(hr:Keys.Rise P)(hs:Small P)(hl:P.length<100000):
  Calls Tryz.prog 108 #[v,sv k] w fun r w'=>∃ p ve,r=.returned (.pointer (some ⟨p,0,none⟩))/\zKv w' p (zEz P) (zIp k 256 (zG8 k 256 P) (vl k (Keys.get P k))) ve (zId k (Keys.get P k))/\w.heap.size<=p/\(∀ i,ve.ownBlock=some i->w.heap.size<=i)/\Below w.heap.size w w':=by
 have hb0:=al (zze _ w) (.cells (cellsOf k).toArray 24)
 have H0:=zAI hb0 (zza (zDh w (cellsOf k).toArray 24 _ rfl) (hv.below hb0))
 have HP:=zAI hr (zza hs (zza hl hv))
 obtain⟨z,hz⟩:∃ z,z=w.heap.size:=⟨_,rfl⟩
 have HZ:=zzb hz
 clear hb0 hv hr hs hl hz
 go_enter Tryz.func108,Tryz.ntmps108
 go_wp2_with fail
 refine (yEl (w.alloc (.cells (cellsOf k).toArray 24))).mono ?_
 rintro r W1 ⟨vn,rfl,hno,hnf,hb⟩
 have kk1:=zK hb
 have H1:=zAI (H0.out.1.trans (hb.mono H0.out.1.size)) (zza (kk1.range H0.out.2.1 id) (zza (H0.out.2.2.below hb) hno))
 have HNF:=zzb hnf
 clear hb kk1 hno H0 hnf
 go_wp2_with (first
  | (refine zOg rfl rfl ?_)
  | (refine zM7 rfl _ _ rfl zP1 rfl ?_))
 have ht:=zD5 W1 zP1 125
 rw[zNv]at ht
 obtain⟨p,hp⟩:∃ p,p=W1.heap.size:=⟨_,rfl⟩
 have HT:=zzb (show TW W1 (W1.alloc (.cells zP1 125)) W1.heap.size 0 k P P [] v from
  ⟨al (zze _ _) _,⟨ht,zJv _ _ _⟩,rfl,rfl,rfl,HP.out.1,zMw k P,HP.out.2.1,HP.out.2.2.1,HP.out.2.2.2.below H1.out.1⟩)
 have HPW:=zzb (show W1.heap.size<=p by rw[hp];exact zzc _)
 have HBW:=zzb H1.out.1
 have HWZ:=zzb (show w.heap.size<=p by rw[hp];exact H1.out.1.size)
 rw[<-hp]at HT ⊢
 rw[<-HZ.out]at H1 ⊢
 clear hp ht
 generalize W1.alloc (.cells zP1 125)=W2 at *
 go_loopw [0,15] (fun lv iv W=>∃ (D:Nat) (Q:List Keys.Pr) (T:List Sum),D<=256/\iv=.int .i64 (D:Int)/\TW W1 W p D k P Q T lv) (fun _ iv _=>256 - (intOf iv).toNat)
 case atStart=>exact⟨0,P,[],by omega,rfl,HT.out⟩
 case round =>
  clear HT
  obtain⟨D,Q,T,hD,rfl,hT⟩:=hrel
  obtain⟨a,cL,rfl,hc1,hc2⟩:=zD9 hT.prs
  have HT:=zzb hT
  clear hT
  by_cases hlt:D<256
  ·have c1:decide (D<256)=true:=by simpa using hlt
   have c1':decide ((D:Int)<256)=true:=by simp;omega
   obtain⟨n,hn⟩:∃ n,n=255 - D:=⟨_,rfl⟩
   have hnear:=HT.out.near
   rw[show 256 - D=n+1 by omega]at hnear
   have hsame:=zWp hnear
   have hcut:=zYz Q (.slice a Q.length cL) D wr (HT.out.prs.below HT.out.b1) hlt HT.out.few HT.out.rise (by rw[<-hn];exact hsame)
   rw[<-hn]at hcut
   have hmi:=zZo (k:=k) HT.out.rise hsame
   have hcl:zO2 n Q<=Q.length:=List.length_filter_le _ _
   obtain⟨c,hc⟩:∃ c,c=zO2 n Q:=⟨_,rfl⟩
   rw[<-hc]at hcut hmi hcl
   have HC:=zzb hcut
   have HM:=zzb hmi
   have HNN:=zAI hn (zza hlt hnear)
   have hpd:=HT.out.prs.dropG (i:=c) hcl
   have hpt:=HT.out.prs.take (i:=c) hcl
   obtain⟨N,hN⟩:∃ N,N=Q.length:=⟨_,rfl⟩
   rw[<-hN]at HC hcl hc1 hpd HT ⊢
   have HPP:=zAI hpt hpd
   have q1:(0:Int)<=(c:Int):=by omega
   have q2:(c:Int)<=(N:Int):=by omega
   have q3:(N:Int)<=(cL:Int):=by omega
   have q4:(c:Int)<=(cL:Int):=by omega
   clear hcut hmi hn hnear hsame hc hN hpd hpt hlt hc2
   go_wp2_with fail
   refine HC.out.mono ?_
   rintro e W5 ⟨rfl,hb⟩
   have H5:=zzb (HT.out.below hb)
   clear hb HT HC
   go_wp2_with fail
   refine zDd (fun W=>True) [.t 0,.t 1,.t 2,.t 3,.t 4,.t 5,.t 6,.t 7] (by kernel_rfl) (by kernel_rfl) (by rintro _ _(_|_)_ _ h<;>exact h) ?_
   have H6:=zzb (H5.out.below (zze _ _).drew)
   clear H5
   generalize W5.drew=V at *
   iterate 8
    refine zDp rfl (v:=?_) (by rfl) (fun W=>?_) ?_
    rotate_left
    ·go_simp
     try rfl
    try simp only[zU,zA,zB,zC]
   obtain⟨v2,hv2⟩:∃ v,v=Value.slice (if cL=c then a else Option.map (fun x=>x.add (c*33)) a) (N - c) (cL - c):=⟨_,rfl⟩
   rw[<-hv2]at HPP ⊢
   obtain⟨v1,hv1⟩:∃ v,v=Value.slice a c cL:=⟨_,rfl⟩
   rw[<-hv1]at HPP ⊢
   clear hv1 hv2 q1 q2 q3 q4
   refine zDn ?_
   obtain⟨b,hb0⟩:∃ b,b=(Keys.kn k>>>n)%2:=⟨_,rfl⟩
   have hcb:=zJe k D V HNN.out.2.1
   rw[<-HNN.out.1,<-hb0]at hcb
   have HBT:=zzb hb0
   have HCB:=zzb hcb
   have hzk:=(zK H6.out.b1).range H1.out.2.1 id
   have HZK:=zzb hzk
   clear hb0 hcb hzk
   go_wp2_with (refine zDb rfl _ rfl z 0 rfl k HZK.out ?_)
   refine HCB.out.mono ?_
   rintro rr V1 ⟨rfl,hb⟩
   have H7:=zzb (H6.out.below hb)
   clear hb H6 HCB HZK
   have hwE:wrap64 ((D:Int)+1)=((256 - n:Nat):Int):=by have:=HNN.out;unfold wrap64;omega
   have hwj:wrap64 ((D:Int)+1)=((D+1:Nat):Int):=by have:=HNN.out;unfold wrap64;omega
   have HWE:=zzb hwE
   have HWJ:=zzb hwj
   clear hwE hwj
   by_cases hb1:b=1
   ·have hbit:(Keys.kn k).testBit n=true:=(zO3 k n).1 (by rw[<-HBT.out,hb1])
    have hmo:=HM.out.2 hbit
    have HMO:=zAI (show zDu W1 v2 (mine k n Q) by rw[hmo.1];exact HPP.out.2) (show zDu W1 v1 (oth k n Q) by rw[hmo.2];exact HPP.out.1)
    obtain⟨mv,hmv⟩:∃ x,x=v2:=⟨_,rfl⟩
    obtain⟨ov,hov⟩:∃ x,x=v1:=⟨_,rfl⟩
    rw[<-hmv,<-hov]at HMO ⊢
    subst hb1
    clear hbit hmo hmv hov HPP
    have hA:=yIa n (oth k n Q) ov vn V1 (by have:=HNN.out;omega) (HMO.out.2.below H7.out.b1) (H1.out.2.2.2.below H7.out.b1 (zzc _)) (H7.out.rise.sublist List.filter_sublist) (zPu HNN.out.2.2) (fun q hq=>H7.out.small q (zNj.1 hq).1) (zzz (List.length_filter_le _ _) H7.out.few)
    rw[show ((256 - n:Nat):Int)=(D:Int)+1 by have:=HNN.out;omega]at hA
    have HA:=zzb hA
    clear hA
    obtain⟨s,hs⟩:∃ s,s=atH n (oth k n Q):=⟨_,rfl⟩
    rw[<-hs]at HA
    have HS:=zzb hs
    clear hs
    go_wp2_with fail
    refine HA.out.mono ?_
    rintro e V2 ⟨rfl,hb⟩
    have H8:=zzb (H7.out.below hb)
    clear hb H7 HA
    have HG:=zzb trivial
    go_wp2_with (have _:=HG;refine zD3 (by rfl) rfl _ _ rfl s rfl rfl ?_;intro V3 hb hr _;obtain⟨r,hr0⟩:∃ x,x=V2.heap.size:=⟨_,rfl⟩;rw[<-hr0]at hr ⊢;have H9:=zAI (H8.out.below hb) hr;clear HG hb hr hr0 H8)
    refine zDd (fun W=>W.rangeAt r 0 (cellsOf s)) [.t 0,.t 1,.t 5,.t 6,.s 2,.e 3 true,.t 4,.t 7,.e 8 false] (by kernel_rfl) (by kernel_rfl) (by rintro _ _(_|_)_ _ h<;>exact h) ?_
    have H10:=zAI (H9.out.1.below (zze _ _).drew) (show V3.drew.rangeAt r 0 (cellsOf s) from H9.out.2)
    clear H9
    generalize V3.drew=V4 at *
    iterate 4
     refine zDp rfl (v:=?_) (by rfl) (fun W=>?_) ?_
     rotate_left
     ·go_simp
      try rfl
     try simp only[zU,zA,zB,zC]
    refine zDl (by exact H10.out.2) rfl (by rfl) _ (by rfl) r 0 (by rfl) s (fun W hW=>hW) ?_
    try simp only[zU,zA,zB,zC]
    refine zD8 rfl (by rfl) (fun K hK=>?_)
    refine zEb _ (by rfl) r 0 (by rfl) s H10.out.2 ?_
    refine hK _ _ ⟨by exact H10.out.2,?_⟩;clear hK K
    try simp only[zU,zA,zB,zC]
    refine zDp rfl (v:=bv s s) (by rfl) (fun W=>zIw _ rfl s s (by rfl) W) ?_
    try simp only[zU,zA,zB,zC]
    have d0:(0:Int)<=(D:Int):=Int.natCast_nonneg _
    have d1:(D:Int)<256:=by have:=HNN.out;omega
    refine zDp rfl (v:=?_) (by rfl) (fun W=>?_) ?_
    rotate_left
    ·go_simp
     try rfl
    try simp only[zU,zA,zB,zC]
    refine zEa rfl (by rfl) (fun K hK=>?_)
    refine zKp _ _ (by rfl) p (32+D*64) s s (by rfl) (by rfl) (H10.out.1.rows.at (by have:=HNN.out;omega)) ?_
    have hnx:=H10.out.1.next (n:=n) (mv:=mv) HNN.out.2.1 HPW.out HNN.out.1 HMO.out.1
    rw[<-HS.out]at hnx
    have HNX:=zzb hnx
    clear hnx H10 d0 d1
    refine hK _ _ ?_;clear hK K
    try simp only[zU,zA,zB,zC]
    change wpS _ _ _ _ _ _ _ (V4.setCells p (32+D*64) (zEi s s))
    generalize V4.setCells p (32+D*64) (zEi s s)=V5 at *
    refine zDn ?_
    go_wp2_with fail
    try rw[HWJ.out]
    exact⟨⟨D+1,mine k n Q,T++[s],by have:=HNN.out;omega,rfl,HNX.out⟩,by simp only[intOf];have:=HNN.out;omega⟩
   ·have hbit:(Keys.kn k).testBit n=false:=by
     cases h:(Keys.kn k).testBit n
     ·rfl
     ·exact absurd ((zO3 k n).2 h) (by rw[<-HBT.out];exact hb1)
    have hmo:=HM.out.1 hbit
    have HMO:=zAI (show zDu W1 v1 (mine k n Q) by rw[hmo.1];exact HPP.out.1) (show zDu W1 v2 (oth k n Q) by rw[hmo.2];exact HPP.out.2)
    obtain⟨mv,hmv⟩:∃ x,x=v1:=⟨_,rfl⟩
    obtain⟨ov,hov⟩:∃ x,x=v2:=⟨_,rfl⟩
    rw[<-hmv,<-hov]at HMO ⊢
    have f1:decide (b=1)=false:=by simpa using hb1
    have f2:decide ((b:Int)=1)=false:=by simp;omega
    have f3:((b:Int) == 1)=false:=by rw[zz4];omega
    clear hbit hmo hmv hov HPP hb1
    have hA:=yIa n (oth k n Q) ov vn V1 (by have:=HNN.out;omega) (HMO.out.2.below H7.out.b1) (H1.out.2.2.2.below H7.out.b1 (zzc _)) (H7.out.rise.sublist List.filter_sublist) (zPu HNN.out.2.2) (fun q hq=>H7.out.small q (zNj.1 hq).1) (zzz (List.length_filter_le _ _) H7.out.few)
    rw[show ((256 - n:Nat):Int)=(D:Int)+1 by have:=HNN.out;omega]at hA
    have HA:=zzb hA
    clear hA
    obtain⟨s,hs⟩:∃ s,s=atH n (oth k n Q):=⟨_,rfl⟩
    rw[<-hs]at HA
    have HS:=zzb hs
    clear hs
    go_wp2_with fail
    refine HA.out.mono ?_
    rintro e V2 ⟨rfl,hb⟩
    have H8:=zzb (H7.out.below hb)
    clear hb H7 HA
    have HG:=zzb trivial
    go_wp2_with (have _:=HG;refine zD3 (by rfl) rfl _ _ rfl s rfl rfl ?_;intro V3 hb hr _;obtain⟨r,hr0⟩:∃ x,x=V2.heap.size:=⟨_,rfl⟩;rw[<-hr0]at hr ⊢;have H9:=zAI (H8.out.below hb) hr;clear HG hb hr hr0 H8)
    refine zDd (fun W=>W.rangeAt r 0 (cellsOf s)) [.t 0,.t 1,.t 5,.t 6,.s 2,.e 3 true,.t 4,.t 7,.e 8 false] (by kernel_rfl) (by kernel_rfl) (by rintro _ _(_|_)_ _ h<;>exact h) ?_
    have H10:=zAI (H9.out.1.below (zze _ _).drew) (show V3.drew.rangeAt r 0 (cellsOf s) from H9.out.2)
    clear H9
    generalize V3.drew=V4 at *
    iterate 4
     refine zDp rfl (v:=?_) (by rfl) (fun W=>?_) ?_
     rotate_left
     ·go_simp
      try rfl
     try simp only[zU,zA,zB,zC]
    refine zDl (by exact H10.out.2) rfl (by rfl) _ (by rfl) r 0 (by rfl) s (fun W hW=>hW) ?_
    try simp only[zU,zA,zB,zC]
    refine zD8 rfl (by rfl) (fun K hK=>?_)
    refine zEb _ (by rfl) r 0 (by rfl) s H10.out.2 ?_
    refine hK _ _ ⟨by exact H10.out.2,?_⟩;clear hK K
    try simp only[zU,zA,zB,zC]
    refine zDp rfl (v:=bv s s) (by rfl) (fun W=>zIw _ rfl s s (by rfl) W) ?_
    try simp only[zU,zA,zB,zC]
    have d0:(0:Int)<=(D:Int):=Int.natCast_nonneg _
    have d1:(D:Int)<256:=by have:=HNN.out;omega
    refine zDp rfl (v:=?_) (by rfl) (fun W=>?_) ?_
    rotate_left
    ·go_simp
     try rfl
    try simp only[zU,zA,zB,zC]
    refine zEa rfl (by rfl) (fun K hK=>?_)
    refine zKp _ _ (by rfl) p (32+D*64) s s (by rfl) (by rfl) (H10.out.1.rows.at (by have:=HNN.out;omega)) ?_
    have hnx:=H10.out.1.next (n:=n) (mv:=mv) HNN.out.2.1 HPW.out HNN.out.1 HMO.out.1
    rw[<-HS.out]at hnx
    have HNX:=zzb hnx
    clear hnx H10 d0 d1
    refine hK _ _ ?_;clear hK K
    try simp only[zU,zA,zB,zC]
    change wpS _ _ _ _ _ _ _ (V4.setCells p (32+D*64) (zEi s s))
    generalize V4.setCells p (32+D*64) (zEi s s)=V5 at *
    refine zDn ?_
    go_wp2_with fail
    try rw[HWJ.out]
    exact⟨⟨D+1,mine k n Q,T++[s],by have:=HNN.out;omega,rfl,HNX.out⟩,by simp only[intOf];have:=HNN.out;omega⟩
  ·have hD6:D=256:=by omega
   subst hD6
   have c1:decide (256<256)=false:=by simp
   have c1':decide (((256:Nat):Int)<256)=false:=by simp
   obtain⟨N,hN⟩:∃ N,N=Q.length:=⟨_,rfl⟩
   have hbe:=HT.out.bes
   have hun:=HT.out.und
   rw[Nat.sub_self,zG8,List.append_nil]at hbe
   rw[Nat.sub_self,zWa]at hun
   have hget:=zUs (k:=k) 256 P HP.out.1 (zMw k P)
   rw[hun]at hget
   have hgl:(Keys.get P k).length<140737488355000:=by
    rw[hget]
    cases Q with
    | nil=>simp
    | cons q r=>exact HT.out.small q zzC
   have HEND:=zAI hbe (zza hget (zza HT.out.len hgl))
   have HNN:=zzb hN
   rw[<-hN]at HT hc1 ⊢
   have q3:(N:Int)<=(cL:Int):=by omega
   have hzk:=(zK HT.out.b1).range H1.out.2.1 id
   have HZK:=zzb hzk
   clear hbe hun hget hgl hN hzk hD hlt
   go_wp2_with (refine zDb rfl _ rfl z 0 rfl k HZK.out ?_)
   refine (zS1 k [] (.slice none 0 0) wr ⟨none,0,rfl,zzc _,zye _,.inl rfl⟩ (by decide)).mono ?_
   rintro rr V1 ⟨ve,rfl,hne,hb⟩
   have H2:=zzb (HT.out.below hb)
   have hpl:p<wr.heap.size:=zEo HT.out.rows.th (by decide)
   have hvp:∀ i,ve.ownBlock=some i->i≠p:=fun i hi=>by have:=(hne.lt i hi).1;omega
   have hen:=H2.out.rows.end_ (by rw[zIn,H2.out.len];exact zzc _) (hne.mono (zye _)) hvp
   obtain⟨c0,hc0⟩:=zzI.1 (H2.out.rows.th 16416 (by decide)).1
   have f0:=(H2.out.rows.th 16416 (by decide)).2
   rw[zzn]at hc0 f0
   have hkw:zDj (fun i=>i=p) V1 (V1.setCell ⟨p,16416,none⟩ ve):=(zDj.refl (fun i=>i=p) V1).setCell (p:=⟨p,16416,none⟩) (.inl rfl) _
   have hbw1:Below W1.heap.size W1 (V1.setCell ⟨p,16416,none⟩ ve):=H2.out.b1.trans (hkw.below H2.out.b1.size (fun i hi=>by rw[hi];exact HPW.out))
   have hve1:ve.cells=#[ve]:=by
    obtain⟨a1,cc1,hve⟩:=hne.form
    rw[hve];rfl
   have HVE:=zzb hve1
   have H3:=zAI hen (zza hbw1 (show ∀ i,ve.ownBlock=some i->i<(V1.setCell ⟨p,16416,none⟩ ve).heap.size from fun i hi=>zzH (hne.lt i hi).2 hkw.size))
   have HPR:=zzb H2.out.prs
   have HFR:=zzb (fun i hi=>zzk (zzk HBW.out.size HT.out.b1.size) (hne.lt i hi).1:∀ i,ve.ownBlock=some i->w.heap.size<=i)
   clear hne hb hvp hen hkw hbw1 hve1 HT H2 HZK hpl
   obtain⟨av,nv,cv,rfl⟩:∃ av nv cv,ve=.slice av nv cv:=by
    obtain⟨a1,cc1,hve,-⟩:=H3.out.1.2.bt
    exact⟨a1,_,cc1,hve⟩
   by_cases hN0:N=0
   ·have hQ:Q=[]:=zzu.1 (by rw[<-HNN.out,hN0])
    have HGE:=zzb (show Keys.get P k=[] by rw[HEND.out.2.1,hQ])
    subst hN0
    clear hQ
    have hzk:=(zK H3.out.2.1).range H1.out.2.1 id
    have HZK:=zzb hzk
    clear hzk
    have H4:=zzb (show zLe (V1.setCell ⟨p,16416,none⟩ (.slice av nv cv)) p 0 (zSn T)/\zSm (V1.setCell ⟨p,16416,none⟩ (.slice av nv cv)) p (.slice av nv cv) (zId k (Keys.get P k))/\(∀ i,Value.ownBlock (.slice av nv cv)=some i->i<(V1.setCell ⟨p,16416,none⟩ (.slice av nv cv)).heap.size)/\Below w.heap.size w (V1.setCell ⟨p,16416,none⟩ (.slice av nv cv)) from ⟨H3.out.1.1,by rw[HGE.out];exact H3.out.1.2,H3.out.2.2,HBW.out.trans (H3.out.2.1.mono HBW.out.size)⟩)
    clear H3
    go_wp2_with (refine zDb rfl _ rfl z 0 rfl k HZK.out ?_)
    refine (yFi k (vl k (Keys.get P k)) T p (.slice av nv cv) (zId k (Keys.get P k)) _ HEND.out.2.2.1 H4.out.1 H4.out.2.1 (by rw[zWz,zOm]) (by have:=zLp k (Keys.get P k);have:=HEND.out.2.2.2;omega) H4.out.2.2.1).mono ?_
    rintro r W9 ⟨rfl,hwy,hk⟩
    have HW:=zAI hwy ((H4.out.2.2.2.trans (hk.below H4.out.2.2.2.size (fun i hi=>by rw[hi];exact HWZ.out))))
    clear hwy hk H4
    go_wp2_with fail
    refine zzM (zzN rfl _ _ _) rfl ?_
    refine⟨p,(.slice av nv cv),rfl,?_,HWZ.out,HFR.out,HW.out.2⟩
    have h:=HW.out.1
    rw[<-HEND.out.1,zQm HP.out.1]at h
    exact h
   ·obtain⟨ba,oa,ca',y,xs,he1,hr1,hy1,hg1⟩:=zEn HPR.out (i:=0) (by rw[<-HNN.out];omega)
    simp only[zzh]at he1
    obtain⟨rfl,-,rfl⟩:=he1
    rw[Nat.zero_mul,Nat.add_zero]at hr1
    have hgx:Keys.get P k=xs:=by
     rw[HEND.out.2.1]
     cases Q with
     | nil=>cases hg1
     | cons q r =>
      simp only[List.getElem?_cons_zero,zzj]at hg1
      rw[hg1]
    have kk:=zK H3.out.2.1
    have HX:=zAI (kk.range H1.out.2.1 id) (zza (kk.range hr1 id) (zza (zDg hy1 H3.out.2.1 (zzc _)) hgx))
    have f1:decide (0<N)=true:=by simp;omega
    have f2:decide ((0:Int)<(N:Int))=true:=by simp;omega
    have f3:(0:Int)<(N:Int):=by omega
    have f4:0<N:=by omega
    clear hr1 hy1 hg1 hgx kk hN0
    go_wp2_with fail
    refine zDd (fun W=>W.rangeAt z 0 (cellsOf k)) [.t 0,.t 2,.t 3,.t 4,.s 1,.e 5 true,.e 6 false,.t 7,.t 8,.e 9 false] (by kernel_rfl) (by kernel_rfl) (by rintro _ _(_|_)_ _ h<;>exact h) ?_
    have H4:=zzb (show (V1.setCell ⟨p,16416,none⟩ (.slice av nv cv)).drew.rangeAt z 0 (cellsOf k)/\(V1.setCell ⟨p,16416,none⟩ (.slice av nv cv)).drew.rangeAt ba oa (zEf y)/\zDk (V1.setCell ⟨p,16416,none⟩ (.slice av nv cv)).drew (peV y) xs/\zLe (V1.setCell ⟨p,16416,none⟩ (.slice av nv cv)).drew p 0 (zSn T)/\Below W1.heap.size W1 (V1.setCell ⟨p,16416,none⟩ (.slice av nv cv)).drew from
     ⟨HX.out.1,HX.out.2.1,zDg HX.out.2.2.1 (zze _ _).drew (zzc _),H3.out.1.1.below (zze _ _).drew,H3.out.2.1.drew⟩)
    have HGX:=zzb HX.out.2.2.2
    clear H3 HX hc0 f0
    generalize World.drew _=V at *
    iterate 4
     refine zDp rfl (v:=?_) (by rfl) (fun W=>?_) ?_
     rotate_left
     ·go_simp
      try rfl
     try simp only[zU,zA,zB,zC]
    refine zDl (by exact H4.out.1) rfl (by rfl) _ (by rfl) z 0 (by rfl) k (fun W hW=>hW) ?_
    try simp only[zU,zA,zB,zC]
    refine zD8 rfl (by rfl) (fun K hK=>?_)
    have g:V.cell? ⟨ba,oa+32,none⟩=some (peV y):=H4.out.2.1 32 (peV y) (by rw[zEf,zzo (by rw[zDa];omega),zDa];rfl)
    go_simp
    refine hK _ _ ⟨by exact H4.out.1,?_⟩;clear hK K
    try simp only[zU,zA,zB,zC]
    clear g
    refine zEa rfl (by rfl) (fun K hK=>?_)
    go_simp
    refine (zS1 k xs (peV y) V H4.out.2.2.1 (by have:=HEND.out.2.2.2;have e:=HGX.out;rw[e]at this;exact this)).mono ?_
    rintro rr V3 ⟨ve,rfl,hne,hb⟩
    have hpl:p<V.heap.size:=zEo H4.out.2.2.2.1.th (by decide)
    have hvp:∀ i,ve.ownBlock=some i->i≠p:=fun i hi=>by have:=(hne.lt i hi).1;omega
    have hr3:=H4.out.2.2.2.1.below hb
    have hen:=hr3.end_ (by rw[zIn,HEND.out.2.2.1];exact zzc _) (hne.mono (zye _)) hvp
    have hb3:=H4.out.2.2.2.2.trans (hb.mono H4.out.2.2.2.2.size)
    obtain⟨c0,hc0⟩:=zzI.1 (hr3.th 16416 (by decide)).1
    have f0:=(hr3.th 16416 (by decide)).2
    rw[zzn]at hc0 f0
    have hkw:zDj (fun i=>i=p) V3 (V3.setCell ⟨p,16416,none⟩ ve):=(zDj.refl (fun i=>i=p) V3).setCell (p:=⟨p,16416,none⟩) (.inl rfl) _
    have hbw1:Below W1.heap.size W1 (V3.setCell ⟨p,16416,none⟩ ve):=hb3.trans (hkw.below hb3.size (fun i hi=>by rw[hi];exact HPW.out))
    have H5:=zzb (show zLe (V3.setCell ⟨p,16416,none⟩ ve) p 0 (zSn T)/\zSm (V3.setCell ⟨p,16416,none⟩ ve) p ve (zId k (Keys.get P k))/\(∀ i,ve.ownBlock=some i->i<(V3.setCell ⟨p,16416,none⟩ ve).heap.size)/\Below w.heap.size w (V3.setCell ⟨p,16416,none⟩ ve) from
     ⟨hen.1,by rw[HGX.out];exact hen.2,fun i hi=>zzH (hne.lt i hi).2 hkw.size,HBW.out.trans (hbw1.mono HBW.out.size)⟩)
    have HZK:=zzb ((zK hbw1).range H1.out.2.1 id)
    have HFR2:=zzb (fun i hi=>zzk (zzk HBW.out.size H4.out.2.2.2.2.size) (hne.lt i hi).1:∀ i,ve.ownBlock=some i->w.heap.size<=i)
    obtain⟨av2,nv2,cv2,rfl⟩:∃ av nv cv,ve=.slice av nv cv:=by
     obtain⟨a1,cc1,hve⟩:=hne.form
     exact⟨a1,_,cc1,hve⟩
    clear hpl hvp hr3 hen hb3 hkw hbw1 hne hb H4
    refine hK _ _ ?_;clear hK K
    try simp only[zU,zA,zB,zC]
    iterate 2
     refine zDp rfl (v:=?_) (by rfl) (fun W=>?_) ?_
     rotate_left
     ·go_simp
      try rfl
     try simp only[zU,zA,zB,zC]
    refine zEa rfl (by rfl) (fun K hK=>?_)
    go_simp
    refine hK _ _ ?_;clear hK K
    try simp only[zU,zA,zB,zC]
    refine zDn ?_
    clear hc0 f0 f1 f2 f3 f4
    go_wp2_with (refine zDb rfl _ rfl z 0 rfl k HZK.out ?_)
    refine (yFi k (vl k (Keys.get P k)) T p (.slice av2 nv2 cv2) (zId k (Keys.get P k)) _ HEND.out.2.2.1 H5.out.1 H5.out.2.1 (by rw[zWz,zOm]) (by have:=zLp k (Keys.get P k);have:=HEND.out.2.2.2;omega) H5.out.2.2.1).mono ?_
    rintro r W9 ⟨rfl,hwy,hk⟩
    have HW:=zAI hwy ((H5.out.2.2.2.trans (hk.below H5.out.2.2.2.size (fun i hi=>by rw[hi];exact HWZ.out))))
    clear hwy hk H5
    go_wp2_with fail
    refine zzM (zzN rfl _ _ _) rfl ?_
    refine⟨p,(.slice av2 nv2 cv2),rfl,?_,HWZ.out,HFR2.out,HW.out.2⟩
    have h:=HW.out.1
    rw[<-HEND.out.1,zQm HP.out.1]at h
    exact h
theorem zO7(l:List UInt8):Lib.bytesOf (l.map fun x=>((x.toNat:Nat):Int))=l:=by
 unfold Lib.bytesOf
 rw[zyk]
 conv=>rhs;rw[<-List.map_id l]
 apply List.map_congr_left
 intro x _
 simp
theorem zY8{c:Nat}{l:List UInt8}(h:zDk w (.slice a l.length c) l):Lib.BytesIn w a l.length (l.map fun x=>((x.toNat:Nat):Int)):=by
 obtain⟨a',cap,he,h1,h2,h3⟩:=h
 by_cases hl:l=[]
 ·subst hl;exact Lib.BytesIn.nil _ _ _
 ·obtain⟨b,o,rfl,hr⟩:=h3.resolve_left hl
  simp only[zzh]at he
  rw[he.1]
  refine Lib.BytesIn.of_cells fun i hi=>?_
  rw[Addr.add_mid]
  refine hr i _ ?_
  simp[zDi,u8v,hi]
theorem zP2(a b:List UInt8)(va vb:Value)(w:World)(ha:zDk w va a)(hb:zDk w vb b):Calls Tryz.prog 114 #[va,vb] w fun e w'=>e=.returned (.bool (decide (a=b)))/\w=w':=by
 obtain⟨aa,ca,rfl,a1,a2,a3⟩:=ha
 obtain⟨ab,cb,rfl,b1,b2,b3⟩:=hb
 refine (Tryz.bytes_Equal_all aa ab a.length ca b.length cb _ _ w (by simp) (by simp) (zY8 ⟨aa,ca,rfl,a1,a2,a3⟩) (zY8 ⟨ab,cb,rfl,b1,b2,b3⟩)).mono ?_
 rintro e w' ⟨rfl,rfl⟩
 rw[zO7,zO7]
 have:(a == b)=decide (a=b):=by by_cases h:a=b<;>simp[h]
 rw[this]
 exact⟨rfl,rfl⟩
def yGu(P:List Keys.Pr)(j:Nat):Prop:=∀ i p,P[i]? = some p->i<j->p.2≠[]/\∀ q,P[i+1]? = some q->i+1<j->Keys.kn p.1<Keys.kn q.1
theorem zY9:∀ {P:List Keys.Pr},(∀ i p q,P[i]? = some p->P[i+1]? = some q->Keys.kn p.1<Keys.kn q.1)->Keys.Rise P
 | [],_=>List.Pairwise.nil
 | [p],_=>List.pairwise_singleton _ _
 | p::q::r,h=>by
  have ih:=zY9 (P:=q::r) (fun i a b h1 h2=>h (i+1) a b h1 h2)
  refine zzL.2 ⟨fun x hx=>?_,ih⟩
  have h0:=h 0 p q rfl rfl
  rcases zzK.1 hx with rfl | hx
  ·exact h0
  ·have:=(zzL.1 ih).1 x hx
   omega
theorem zV4(h:yGu P P.length):May P:=by
 refine⟨zY9 fun i p q h1 h2=>?_,fun p hp=>?_⟩
 ·have l2:=(zzl.1 h2).1
  exact (h i p h1 (by omega)).2 q h2 l2
 ·obtain⟨i,hi⟩:=List.mem_iff_getElem?.1 hp
  exact (h i p hi (zzl.1 hi).1).1
theorem yFl(h:May P){p q:Keys.Pr}(h1:P[i]? = some p)(h2:P[i+1]? = some q):Keys.kn p.1<Keys.kn q.1:=by
 obtain⟨l1,e1⟩:=zzl.1 h1
 obtain⟨l2,e2⟩:=zzl.1 h2
 have:=List.pairwise_iff_getElem.1 h.1 i (i+1) l1 l2 (by omega)
 rwa[e1,e2]at this
theorem zMo{j:Nat}{p:Keys.Pr}(h:yGu P j)(hp:P[j]? = some p)(h0:p.2≠[])(h1:∀ i q,j=i+1->P[i]? = some q->Keys.kn q.1<Keys.kn p.1):yGu P (j+1):=fun i x hx hi=>by
 by_cases hij:i<j
 ·refine⟨(h i x hx hij).1,fun q hq hq1=>?_⟩
  by_cases hq2:i+1<j
  ·exact (h i x hx hij).2 q hq hq2
  ·have e:j=i+1:=by omega
   subst e
   rw[hp,zzj]at hq
   rw[<-hq]
   exact h1 i x rfl hx
 ·have e:i=j:=by omega
  subst e
  rw[hp,zzj]at hx
  rw[<-hx]
  exact⟨h0,fun q hq hq1=>by omega⟩
theorem zXs(P:List Keys.Pr)(v:Value)(w:World)(hv:zDu w v P)(hn:P.length<100000):
  Calls Tryz.prog 106 #[v] w fun e w'=>∃ r:Bool,e=.returned (.bool r)/\(r=true↔May P)/\Below w.heap.size w w':=by
 have HV:=zzb hv
 obtain⟨a,cap,rfl,h1,h2⟩:=zD9 hv
 obtain⟨N,hN⟩:∃ N,N=P.length:=⟨_,rfl⟩
 rw[<-hN]at HV h1 hn ⊢
 have HN:=zAI hN hn
 clear hv hN h2 hn
 have k1:(N:Int)<=(cap:Int):=by omega
 go_enter Tryz.func106,Tryz.ntmps106
 go_wp2_with fail
 go_loopw [7] (fun iv W=>∃ j:Nat,j<=N/\iv=.int .i64 (j:Int)/\yGu P j/\Below w.heap.size w W) (fun iv _=>N - (intOf iv).toNat)
 case atStart=>exact⟨0,by omega,rfl,fun i p _ h=>by omega,zze _ _⟩
 case round =>
  obtain⟨j,hj,rfl,hall,hB⟩:=hrel
  have HB:=zAI hall hB
  clear hall hB
  by_cases hlt:j<N
  ·have c1:decide (j<N)=true:=by simpa using hlt
   have c1':decide ((j:Int)<(N:Int))=true:=by simp;omega
   have hj0:(0:Int)<=(j:Int):=by omega
   have hlt':(j:Int)<(N:Int):=by omega
   obtain⟨ba,oa,ca',y,xs,he1,hr1,hy1,hg1⟩:=zEn (HV.out.below HB.out.2) (i:=j) (by rw[<-HN.out.1];exact hlt)
   simp only[zzh]at he1
   obtain⟨rfl,-,rfl⟩:=he1
   have HX:=zAI hr1 (zza hg1 hy1)
   have HJ:=zAI hj hlt
   obtain⟨yk,ya,yn,yc⟩:=y
   have hyn:yn=xs.length:=by
    obtain⟨a1,c1,he,-⟩:=hy1
    simp only[peV,zzh]at he
    exact he.2.1
   have HYN:=zzb hyn
   clear hr1 hy1 hg1 hj hlt hyn
   have HG:=zzb trivial
   go_wp2_with (first
    | (have _:=HG;refine zEg rfl _ rfl ba (oa+j*33) rfl (yk,ya,yn,yc) HX.out.1 ?_)
    | (have _:=HG;refine zHz (by rfl) rfl _ _ rfl (yk,ya,yn,yc) rfl rfl ?_;intro W2 hb hr;obtain⟨r,hr0⟩:∃ x,x=wr.heap.size:=⟨_,rfl⟩;rw[<-hr0]at hr ⊢;have H2:=zAI (HB.out.2.trans (hb.mono HB.out.2.size)) (zza hr (zza ((zK hb).range HX.out.1 id) (show wr.heap.size<=r by rw[hr0];exact zzc _)));clear HG hb hr hr0))
   have g:W2.drew.cell? ⟨r,32,none⟩=some (.slice ya yn yc):=zJu (y:=(yk,ya,yn,yc)) (zOl H2.out.2.1)
   have H3:=zzb (show Below w.heap.size w W2.drew/\W2.drew.rangeAt r 0 (zEf (yk,ya,yn,yc))/\W2.drew.rangeAt ba (oa+j*33) (zEf (yk,ya,yn,yc))/\wr.heap.size<=r/\zDu W2.drew (.slice (some ⟨ba,oa,none⟩) N cap) P from ⟨H2.out.1.drew,H2.out.2.1,H2.out.2.2.1,H2.out.2.2.2,HV.out.below H2.out.1.drew⟩)
   refine zDd (fun W=>True) [.t 0,.e 1 false,.t 2,.t 3,.t 4,.t 5,.t 6,.t 7,.t 8,.t 9,.t 10,.t 11,.t 12,.t 13,.t 14,.t 15,.e 16 false,.t 17,.t 18,.t 19] (by kernel_rfl) (by kernel_rfl) (by rintro _ _(_|_)_ _ h<;>exact h) ?_
   clear H2
   generalize W2.drew=V at *
   refine zDp rfl (v:=?_) (by rfl) (fun W=>?_) ?_
   rotate_left
   ·go_simp
    try rfl
   try simp only[zU,zA,zB,zC]
   refine zEa rfl (by rfl) (fun K hK=>?_)
   go_simp
   refine hK _ _ ?_;clear hK K
   try simp only[zU,zA,zB,zC]
   clear g
   by_cases hy0:yn=0
   ·have hx0:xs=[]:=zzu.1 (by rw[<-HYN.out,hy0])
    have HNM:=zzb (show ¬May P from fun h=>h.2 (yk,xs) (List.mem_iff_getElem?.2 ⟨j,HX.out.2.1⟩) hx0)
    subst hy0
    clear hx0
    iterate 3
     refine zDp rfl (v:=?_) (by rfl) (fun W=>?_) ?_
     rotate_left
     ·go_simp
      try rfl
     try simp only[zU,zA,zB,zC]
    iterate 11
     refine zD0 rfl (by rfl) ?_
     try simp only[zU,zA,zB,zC]
    refine zFo rfl (by rfl) ?_
    try simp only[zU,zA,zB,zC]
    iterate 2
     refine zD0 rfl (by rfl) ?_
     try simp only[zU,zA,zB,zC]
    refine zDp rfl (v:=?_) (by rfl) (fun W=>?_) ?_
    rotate_left
    ·go_simp
     try rfl
    try simp only[zU,zA,zB,zC]
    refine zDn ?_
    go_wp2_with fail
    refine zzM (zzN rfl _ _ _) rfl ?_
    exact⟨false,rfl,⟨fun h=>(by cases h),fun h=>absurd h HNM.out⟩,H3.out.1⟩
   ·have hx0:xs≠[]:=fun e=>hy0 (by rw[HYN.out,e];rfl)
    have HX0:=zzb hx0
    have f1:decide (yn=0)=false:=by simpa using hy0
    have f2:decide ((yn:Int)=0)=false:=by simp;omega
    have f3:((yn:Int) == 0)=false:=by rw[zz4];omega
    have hwj:wrap64 ((j:Int)+1)=((j+1:Nat):Int):=by have:=HN.out.2;have:=HJ.out.1;unfold wrap64;omega
    have HWJ:=zzb hwj
    clear hx0 hy0 hwj
    cases j with
    | zero =>
     have HST:=zzb (zMo HB.out.1 HX.out.2.1 HX0.out (fun i q h _=>by omega))
     clear HB
     iterate 6
      refine zDp rfl (v:=?_) (by rfl) (fun W=>?_) ?_
      rotate_left
      ·go_simp
       try rfl
      try simp only[zU,zA,zB,zC]
     iterate 8
      refine zD0 rfl (by rfl) ?_
      try simp only[zU,zA,zB,zC]
     refine zFo rfl (by rfl) ?_
     try simp only[zU,zA,zB,zC]
     refine zD0 rfl (by rfl) ?_
     try simp only[zU,zA,zB,zC]
     iterate 2
      refine zDp rfl (v:=?_) (by rfl) (fun W=>?_) ?_
      rotate_left
      ·go_simp
       try rfl
      try simp only[zU,zA,zB,zC]
     refine zDn ?_
     go_wp2_with fail
     exact⟨⟨1,by have:=HJ.out.2;omega,rfl,HST.out,H3.out.1⟩,by simp only[intOf];have:=HJ.out.2;omega⟩
    | succ jj =>
     obtain⟨ba2,oa2,ca2,x,xs2,he1,hr1,_,hg1⟩:=zEn H3.out.2.2.2.2 (i:=jj) (by rw[<-HN.out.1];have:=HJ.out.2;omega)
     simp only[zzh,zzj,zyn,and_true]at he1
     obtain⟨⟨rfl,rfl⟩,-,rfl⟩:=he1
     have HC:=zAI (zNg x.1 yk ba (oa+jj*33) 32 r 0 32 V (zD7 hr1) (zD7 H3.out.2.1)) hg1
     obtain⟨J,hJ⟩:∃ J,J=jj+1:=⟨_,rfl⟩
     rw[<-hJ]at HX HB HJ HWJ H3 c1 c1' hj0 hlt' ⊢
     have HJJ:=zzb hJ
     have hw:IntKind.i64.wrap ((J:Int) - 1)=(jj:Int):=by have:=HN.out.2;have:=HJ.out.1;rw[zzr];omega
     have q0:decide ((0:Int)<(J:Int))=true:=by simp;omega
     have q0':decide (0<J)=true:=by simp;omega
     have q1:(0:Int)<=(jj:Int):=Int.natCast_nonneg _
     have q2:(jj:Int)<(N:Int):=by have:=HJ.out.2;omega
     have q3:jj<N:=by have:=HJ.out.2;omega
     clear hr1 hg1 hJ
     have hkc:=zYh x.1 yk
     obtain⟨R,hR⟩:∃ R,R=yEy x.1 yk:=⟨_,rfl⟩
     rw[<-hR]at HC hkc
     clear hR
     iterate 14
      refine zDp rfl (v:=?_) (by rfl) (fun W=>?_) ?_
      rotate_left
      ·go_simp
       try rfl
      try simp only[zU,zA,zB,zC]
     refine zEa rfl (by rfl) (fun K hK=>?_)
     go_simp
     refine HC.out.1.mono ?_
     rintro rr V1 ⟨rfl,rfl⟩
     refine hK _ _ ?_;clear hK K
     try simp only[zU,zA,zB,zC]
     by_cases hkk:Keys.kn x.1<Keys.kn yk
     ·rw[zz2 hkk]at hkc
      have hR0:R<0:=zz3 hkc
      have p1:decide (0<=R)=false:=by simp;omega
      have p2:decide (R>=0)=false:=by simp;omega
      have HST:=zzb (zMo HB.out.1 HX.out.2.1 HX0.out (fun i q h hq=>by
       have e:i=jj:=by have:=HJJ.out;omega
       subst e
       rw[HC.out.2,zzj]at hq
       rw[<-hq];exact hkk))
      clear hkc hR0 hkk HB
      iterate 3
       refine zDp rfl (v:=?_) (by rfl) (fun W=>?_) ?_
       rotate_left
       ·go_simp
        try rfl
       try simp only[zU,zA,zB,zC]
      refine zDn ?_
      clear hw
      go_wp2_with fail
      try rw[HWJ.out]
      exact⟨⟨J+1,HJ.out.2,rfl,HST.out,H3.out.1⟩,by simp only[intOf];have:=HJ.out.2;have:=HJJ.out;omega⟩
     ·rw[zz1 hkk]at hkc
      have hR0:¬R<0:=zyl hkc
      have p1:decide (0<=R)=true:=by simp;omega
      have HNM:=zzb (show ¬May P from fun h=>hkk (yFl h HC.out.2 (by rw[<-HJJ.out];exact HX.out.2.1)))
      clear hkc hR0 hkk
      iterate 3
       refine zDp rfl (v:=?_) (by rfl) (fun W=>?_) ?_
       rotate_left
       ·go_simp
        try rfl
       try simp only[zU,zA,zB,zC]
      refine zDn ?_
      clear hw
      go_wp2_with fail
      refine zzM (zzN rfl _ _ _) rfl ?_
      exact⟨false,rfl,⟨fun h=>(by cases h),fun h=>absurd h HNM.out⟩,H3.out.1⟩
  ·have hjn:j=N:=by omega
   subst hjn
   have c1:decide (j<j)=false:=by simp
   have c1':decide ((j:Int)<(j:Int))=false:=by simp
   have HM:=zzb (zV4 (P:=P) (by rw[<-HN.out.1];exact HB.out.1))
   go_wp2_with fail
   refine zzM (zzN rfl _ _ _) rfl ?_
   exact⟨true,rfl,⟨fun _=>HM.out,fun _=>rfl⟩,HB.out.2⟩
end Go.Proofs.YtfmgoehnbaiamaaGreatDoor
