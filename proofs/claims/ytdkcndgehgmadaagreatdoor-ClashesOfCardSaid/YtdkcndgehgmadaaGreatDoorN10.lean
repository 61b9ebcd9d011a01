/- Walks: clashes.Link's way down. -/
import Derived.Test.YtdkcndgehgmadaaGreatDoorN6
import Derived.Test.YtdkcndgehgmadaaGreatDoorZBO
set_option maxRecDepth 100000
set_option maxHeartbeats 4000000
open Go Go.RowKit Alm
namespace Go.Proofs.YtdkcndgehgmadaaGreatDoor
structure LW(W0 W:World)(z:Nat)(c:Sum):Prop where
 r:W.rangeAt z 0 (cellsOf c)
 t:W.there z 0 32
 b:Below W0.heap.size W0 W
 s:z+1<=W.heap.size
 z0:W0.heap.size<=z
theorem LW.keep{W0 W W':World}{z:Nat}{c:Sum}{Y:Nat->Prop}(h:LW W0 W z c)(hk:zDj Y W W')(hy:∀ k,Y k->z+1<=k):LW W0 W' z c :=
 ⟨hk.range h.r (fun e=>by have:=hy _ e;omega),hk.there h.t (by omega) (fun e=>by have:=hy _ e;omega),h.b.trans (hk.below h.b.size (fun k e=>by have:=hy _ e;have:=h.z0;omega)),zzk h.s hk.size,h.z0⟩
theorem LW.below{W0 W W':World}{z:Nat}{c:Sum}(h:LW W0 W z c)(hb:Below W.heap.size W W'):LW W0 W' z c:=h.keep (zK hb) (fun _ h=>h.elim)
theorem LW.store{W0 W:World}{z:Nat}{c:Sum}(h:LW W0 W z c)(s:Sum):LW W0 (W.setCells z 0 (cellsOf s)) z s:=by
 have ht:=zzd h.t z 0 (cellsOf s)
 have hk:=zDt z (cellsOf s) 0 W
 exact⟨zDd _ _ _ _ (by rw[zDf];exact ht),ht,zDa _ h.z0 _ _ _ _ h.b,zzk h.s hk.size,h.z0⟩
theorem zKq{ops:Array Oper}{rest:List Oper}{op:Oper}{a:Act}{w:World}{Q:Exit->Act->World->Prop}(hgd:op.guard=none)(x y:Operand)(ho:op.op=.build 150 #[(0,x),(1,y)])(b:Bool)(s:Sum)
  (hx:a.eval x=.bool b) (hy:a.eval y=sv s) (h:wpList Tryz.prog ops Q rest (a.put op.dst (stv (b,s))) w):wpList Tryz.prog ops Q (op::rest) a w :=
 wpList_plain hgd fun _ hK=>by
  unfold Oper.wp
  rw[zIr x y ho b s hx hy w]
  exact hK _ _ h
theorem zV2(a l:List (List UInt8))(p:List Sum)(va vl vp:Value)(W0:World)(A B F K:Nat)
  (hcA:W0.cell? ⟨A,0,none⟩=some va) (hcB:W0.cell? ⟨B,0,none⟩=some vl) (hcF:W0.cell? ⟨F,0,none⟩=some (.int .i64 (a.length:Int))) (hcK:W0.cell? ⟨K,0,none⟩=some vp)
  (ha:zDk W0 va a) (hl:zDk W0 vl l) (hpa:zD1 W0 vp p) (hbe:zIh a.length l.length (sd a) (sd l) p=true) (hne:¬a=l.take a.length) (hn:l.length<1000000) (hsa:SZ a) (hs:SZ l) :
  Calls Tryz.prog 148 #[.pointer (some ⟨A,0,none⟩),.pointer (some ⟨B,0,none⟩),.pointer (some ⟨F,0,none⟩),.pointer (some ⟨K,0,none⟩)] W0 (zGz W0):=by
 have hml:1<=a.length/\a.length<=l.length:=by
  unfold zIh at hbe
  rw[Bool.and_eq_true,Bool.and_eq_true]at hbe
  exact⟨zzW hbe.1.1,zzW hbe.1.2⟩
 have HML:=zzb hml
 have HLA:=zzb ha
 have HL:=zzb hl
 have HPA:=zzb hpa
 have HST:Hid (zK0 (sd a) l a.length p l a.length true p.reverse [] []):=zzb (zK0.start hbe)
 have HX:=zAI hne (zza hn (zza hsa hs))
 have HC:=zAI hcA (zza hcB (zza hcF hcK))
 have hl0:l≠[]:=by intro h;have h1:1<=l.length:=(by omega);rw[h]at h1;simp at h1
 have ha0:a≠[]:=by intro h;have h1:=hml.1;rw[h]at h1;simp at h1
 obtain⟨bl,ol,cl,rfl,l1,l2⟩:=hl.form hl0
 obtain⟨bA,oA,cA,rfl,a1,a2⟩:=ha.form ha0
 obtain⟨pa,pc,rfl,hp1,hp2,hz1⟩:=hpa
 clear hz1 ha hl hbe hne hn hsa hs hl0 ha0
 have HQL:Hid (p.reverse.length=p.length):=zzb (List.length_reverse)
 obtain⟨np,hnp⟩:∃ n,n=p.length:=⟨_,rfl⟩
 rw[<-hnp]at hp1 HQL hcK HC HPA
 have HNP:=zzb hnp;clear hnp
 obtain⟨nl,hnl⟩:∃ n,n=l.length:=⟨_,rfl⟩
 rw[<-hnl]at HL l1 hcB HC hml
 have HNL0:=zzb hnl;clear hnl
 obtain⟨m,hm⟩:∃ n,n=a.length:=⟨_,rfl⟩
 rw[<-hm]at HLA a1 hcA hcF HC HST hml
 have HNM:=zzb hm;clear hm
 obtain⟨sa,hsa⟩:∃ s,s=sd a:=⟨_,rfl⟩
 rw[<-hsa]at HST
 have HSA:=zzb hsa;clear hsa
 unfold maxLen at hp2
 have hw6:wrap64 ((np:Int) - 1)=(np:Int) - 1:=by unfold wrap64;omega
 have HCP:=zAI hp1 hp2
 have hnl6:nl<1000000:=by rw[HNL0.out];exact HX.out.2.1
 go_enter Tryz.func148,Tryz.ntmps148
 go_wp2_with fail
 refine (zFu a _ W0 HLA.out (by have:=HNM.out;omega) (fun x hx=>Nat.lt_trans (HX.out.2.2.1 x hx) (by decide))).mono ?_
 rw[show rt (a.map lf)=sa from HSA.out.symm]
 rintro e W1 ⟨rfl,hb⟩
 have HB1:=zzb hb;clear hb
 go_wp2_with (refine zEd (by rfl) rfl _ _ rfl sa rfl rfl ?_;intro W2 hb2 hr2 ht2 hlt2;have HW2:=zzb (show LW W0 W2 W1.heap.size sa from ⟨hr2,ht2,HB1.out.trans (hb2.mono HB1.out.size),hlt2,HB1.out.size⟩);clear hb2 hr2 ht2 hlt2)
 obtain⟨z4,hz4⟩:∃ z,z=W1.heap.size:=⟨_,rfl⟩
 rw[<-hz4]at HW2 ⊢
 clear hz4
 refine zDb (fun V=>V.cell? ⟨B,0,none⟩=some (.slice (some ⟨bl,ol,none⟩) nl cl)/\V.cell? ⟨F,0,none⟩=some (.int .i64 (m:Int))) [.s 0,.t 2,.e 1 true,.t 3,.t 4] (by kernel_rfl) (by kernel_rfl) (by rintro _ _(_|_)_ _ h<;>exact h) ?_
 have HW3:=zzb (HW2.out.below (zze W2.heap.size W2).drew)
 clear HW2
 generalize W2.drew=V at *
 have HS:=zzb (show V.cell? ⟨B,0,none⟩=some (.slice (some ⟨bl,ol,none⟩) nl cl)/\V.cell? ⟨F,0,none⟩=some (.int .i64 (m:Int)) from ⟨bc HC.out.2.1 HW3.out.b,bc HC.out.2.2.1 HW3.out.b⟩)
 refine zD6 (by exact HS.out) rfl (v:=?_) (by rfl) (fun W hSW=>?_) ?_
 rotate_left
 ·go_simp
  try rfl
 try simp only[zU,zA,zB,zC]
 refine zDi rfl (v:=?_) (by rfl) (fun W=>?_) ?_
 rotate_left
 ·go_simp
  try rfl
 try simp only[zU,zA,zB,zC]
 have g:=HS.out.2
 refine zDx rfl (by rfl) (fun K hK=>?_)
 go_simp
 refine hK _ _ ⟨by exact HS.out,?_⟩;clear hK K
 try simp only[zU,zA,zB,zC]
 clear g
 iterate 2
  refine zDi rfl (v:=?_) (by rfl) (fun W=>?_) ?_
  rotate_left
  ·go_simp
   try rfl
  try simp only[zU,zA,zB,zC]
 refine zDn ?_
 clear HS
 have hcK3:=bc HC.out.2.2.2 HW3.out.b
 clear hcA hcB hcF hcK
 go_wp2_with fail
 clear hw6 hp1 hp2 hcK3
 go_loopw [5,6,7,8,9,10] (fun v5 v6 v7 v8 v9 i W=>∃ (lj:List (List UInt8)) (mj:Nat) (ej:Bool) (q:List Sum) (T:List (Bool×Sum)) (th:List (Sum×Sum)),i=.int .i64 ((q.length:Int) - 1)/\v8=.int .i64 (mj:Int)/\v9=.bool ej/\zDk W0 v7 lj/\zK0 sa l m p lj mj ej q T th/\LW W0 W z4 sa/\TR (z4+1) W v5 v6 T th) (fun _ _ _ _ _ i _=>(intOf i+1).toNat)
 case atStart=>exact⟨l,m,true,p.reverse,[],[],by rw[HQL.out],rfl,rfl,HL.out,HST.out,HW3.out,⟨World.ownsRow_nil _ _ _ _,World.ownsRow_nil _ _ _ _,fun _=>rfl,fun _=>rfl,fun k e=>by cases e⟩⟩
 case round =>
  obtain⟨lj,mj,ej,q,T,th,rfl,rfl,rfl,hlj,hst,hlw,htr⟩:=hrel
  have HST:=zzb hst
  have HLJ:=zzb hlj
  have HLW:=zzb hlw
  have HTR:=zzb htr
  obtain⟨bj,oj,cj,rfl,hj1,hj2⟩:=hlj.form (by intro h;have:=hst.pm;rw[h]at this;simp at this;omega)
  clear hlj hst hlw htr
  obtain⟨nj,hnj⟩:∃ n,n=lj.length:=⟨_,rfl⟩
  rw[<-hnj]at HLJ hj1 ⊢
  have HNJ:=zzb hnj;clear hnj
  have HNL:Hid (nj<=l.length/\l.length<1000000):=zzb ⟨by rw[HNJ.out];exact HST.out.pn,HX.out.2.1⟩
  have hpm:1<=mj/\mj<=nj:=by rw[HNJ.out];exact HST.out.pm
  by_cases h2:mj<nj
  ·have h2':(mj:Int)<(nj:Int):=by omega
   obtain⟨k,hk⟩:∃ k,k=cut nj:=⟨_,rfl⟩
   have hk1:1<=k:=by rw[hk];exact zE3 nj
   have hkn:k<nj:=by rw[hk];exact zE9 (by omega)
   have HK:=zAI hk (zza hk1 hkn)
   clear hk hk1 hkn
   obtain⟨x,r,hq,hpx,hrl,hL,hR⟩:=HST.out.step (by rw[<-HNJ.out];exact h2)
   rw[<-HNJ.out,<-HK.out.1]at hL hR
   subst hq
   obtain⟨nr,hnr⟩:∃ n,n=r.length:=⟨_,rfl⟩
   have hqi:(((x::r).length:Nat):Int) - 1=(nr:Int):=by rw[zzA,hnr];omega
   rw[hqi]
   rw[<-hnr]at hpx hrl
   rw[<-HNP.out]at hrl
   have hfm:∃ pb po,pa=some ⟨pb,po,none⟩/\W0.rangeAt pb (po+nr*32) (cellsOf x):=by
    obtain⟨a,c,h1,_,_,h4⟩:=HPA.out
    have hpn:p≠[]:=by intro h;have:=HNP.out;rw[h]at this;simp at this;omega
    obtain⟨pb,po,ha,hr⟩:=h4.resolve_left hpn
    simp only[zzh]at h1
    have hi:nr<p.length:=by rw[<-HNP.out];exact hrl
    have h5:=zE8 hr hi
    have h6:p[nr]=x:=by rw[zzf hi]at hpx;simpa using hpx
    rw[h6]at h5
    exact⟨pb,po,by rw[h1.1,ha],h5⟩
   obtain⟨pb,po,rfl,hpr⟩:=hfm
   have HPR:=zzb hpr
   have HLR:=zAI hL hR
   have HR:=zAI hnr hrl
   have hr0:(0:Int)<=(nr:Int):=by omega
   have hr1:(nr:Int)<(np:Int):=by omega
   have HSM:Hid (1<=k/\k<nj/\mj<nj/\nj<1000000):=zzb ⟨HK.out.2.1,HK.out.2.2,h2,by have:=HNL.out;omega⟩
   clear hpr hL hR hpx hrl hqi hnr
   go_wp2_with fail
   refine (zR0 nj wr (by omega) (by have:=HNL.out;omega)).mono ?_
   rw[<-HK.out.1]
   rintro e V1 ⟨rfl,rfl⟩
   go_wp2_with fail
   have hsd:=zMz lj k bj oj cj wr (by rw[<-HNJ.out];exact HLJ.out.below HLW.out.b) HK.out.2.1 (by rw[<-HNJ.out];exact HK.out.2.2) (by rw[<-HNJ.out];have:=HNL.out;omega) (fun x hx=>by have:=HX.out.2.2.2 x (HST.out.pz x hx);omega)
   rw[<-HNJ.out]at hsd
   refine hsd.mono ?_
   rintro e V1 ⟨rfl,hb⟩
   have HW1:=zAI (HLW.out.below hb) (HTR.out.below hb)
   have HLR2:=zAI HLR.out.1 HLR.out.2
   obtain⟨sl_,hsl⟩:∃ s,s=rt ((lj.take k).map lf):=⟨_,rfl⟩
   obtain⟨sr_,hsr⟩:∃ s,s=rt ((lj.drop k).map lf):=⟨_,rfl⟩
   unfold sd at HLR2
   rw[<-hsl,<-hsr]at HLR2 ⊢
   clear hsd hb HLW HTR HLR hsl hsr
   obtain⟨nt,hnt⟩:∃ n,n=th.length:=⟨_,rfl⟩
   obtain⟨ns,hns⟩:∃ n,n=T.length:=⟨_,rfl⟩
   have HNT:=zAI hnt.symm hns.symm
   have hsz:ns<1000000:=by rw[hns,HST.out.pd.lens];have:=HST.out.pd.short;have:=HNL.out;omega
   have hsz2:nt<1000000:=by rw[hnt];have:=HST.out.pd.short;have:=HNL.out;omega
   clear hnt hns
   have HSZ:=zAI hsz hsz2
   have k0:(0:Int)<=(k:Int):=by omega
   have k1:(k:Int)<=(nj:Int):=by have:=HSM.out;omega
   have k2:(k:Int)<=(cj:Int):=by have:=HSM.out;omega
   have k3:k<=cj:=by have:=HSM.out;omega
   have k4:¬(cj=k):=by have:=HSM.out;omega
   have k6:¬(k=cj):=by have:=HSM.out;omega
   have hw9:wrap64 ((nr:Int) - 1)=(nr:Int) - 1:=by have:=HR.out.2;have:=HCP.out;unfold wrap64;omega
   by_cases hmk:mj<=k
   ·have hmk':(mj:Int)<=(k:Int):=by omega
    go_wp2_with (first
     | (refine zG6 rfl _ rfl (sl_,sr_) rfl ?_;have hb2:=al (zze V1.heap.size V1) (.cells (zD3 (sl_,sr_)).toArray 147);have HL1:=zAI (HW1.out.1.below hb2) (zza (HW1.out.2.below hb2) (zDl V1 _ _ _ rfl:(V1.alloc (.cells (zD3 (sl_,sr_)).toArray 147)).rangeAt V1.heap.size 0 (zD3 (sl_,sr_))));clear hb2;generalize V1.alloc (.cells (zD3 (sl_,sr_)).toArray 147)=V2 at *;generalize V1.heap.size=z9 at *)
     | (at_builtin;refine zFz rfl _ _ rfl (z4+1) _ th (sl_,sr_) nt HNT.out.1 rfl (by have:=HL1.out.2.1.t;rw[HNT.out.1]at this;exact this) z9 0 1 rfl HL1.out.2.2 (by omega) (HL1.out.1.s) ?_;intro g4 c4 w4 ho4 hg4 hat4 _;have HW4:=zAI (HL1.out.1.keep (zDj.of_grown (X:=fun k=>u6.ownBlock=some k) hg4 (fun k h=>h)) (fun k hk=>(HL1.out.2.1.t.lt k hk).1)) (HL1.out.2.1.growT HNT.out.1 hg4 hat4 ho4);have g7:=bc HC.out.2.2.2 HW4.out.1.b;clear ho4 hg4 hat4 HL1 HW1)
     | (refine zDe rfl _ rfl pb (po+nr*32) rfl x (br HW4.out.1.b HPR.out) ?_)
     | (refine zKq rfl _ _ rfl true x rfl rfl ?_;refine zMy rfl _ rfl (true,x) rfl ?_;have hb2:=al (zze w4.heap.size w4) (.cells (zEb (true,x)).toArray 150);have HL2:=zAI (HW4.out.1.below hb2) (zza (HW4.out.2.below hb2) (zDl w4 _ _ _ rfl:(w4.alloc (.cells (zEb (true,x)).toArray 150)).rangeAt w4.heap.size 0 (zEb (true,x))));clear hb2 g7 HW4;generalize w4.alloc (.cells (zEb (true,x)).toArray 150)=V3 at *;generalize w4.heap.size=z8 at *)
     | (at_builtin;refine zKk rfl _ _ rfl (z4+1) _ T (true,x) ns HNT.out.2 rfl (by have:=HL2.out.2.1.s;rw[HNT.out.2]at this;exact this) z8 0 1 rfl HL2.out.2.2 (by have:=HSZ.out;omega) (HL2.out.1.s) ?_;intro g5 c5 w5 ho5 hg5 hat5 _;have HW6:=zAI (HL2.out.1.keep (zDj.of_grown (X:=fun k=>u5.ownBlock=some k) hg5 (fun k h=>h)) (fun k hk=>(HL2.out.2.1.s.lt k hk).1)) (HL2.out.2.1.growS HNT.out.2 hg5 hat5 ho5);clear ho5 hg5 hat5 HL2))
    refine⟨⟨lj.take k,mj,ej,r,T++[(true,x)],th++[(sl_,sr_)],by rw[<-HR.out.1,hw9],rfl,rfl,HLJ.out.take k (by rw[<-HNJ.out];exact zzQ HSM.out.2.1),HLR2.out.1 hmk,HW6.out.1,HW6.out.2⟩,by simp[intOf];omega⟩
   ·have hmk':¬(mj:Int)<=(k:Int):=by omega
    have k8:(k:Int)<=(mj:Int):=by omega
    have hw8:wrap64 ((mj:Int) - (k:Int))=(((mj - k:Nat)):Int):=by have:=HSM.out;unfold wrap64;omega
    go_wp2_with (first
     | (refine zG6 rfl _ rfl (sl_,sr_) rfl ?_;have hb2:=al (zze V1.heap.size V1) (.cells (zD3 (sl_,sr_)).toArray 147);have HL1:=zAI (HW1.out.1.below hb2) (zza (HW1.out.2.below hb2) (zDl V1 _ _ _ rfl:(V1.alloc (.cells (zD3 (sl_,sr_)).toArray 147)).rangeAt V1.heap.size 0 (zD3 (sl_,sr_))));clear hb2;generalize V1.alloc (.cells (zD3 (sl_,sr_)).toArray 147)=V2 at *;generalize V1.heap.size=z9 at *)
     | (at_builtin;refine zFz rfl _ _ rfl (z4+1) _ th (sl_,sr_) nt HNT.out.1 rfl (by have:=HL1.out.2.1.t;rw[HNT.out.1]at this;exact this) z9 0 1 rfl HL1.out.2.2 (by omega) (HL1.out.1.s) ?_;intro g4 c4 w4 ho4 hg4 hat4 _;have HW4:=zAI (HL1.out.1.keep (zDj.of_grown (X:=fun k=>u6.ownBlock=some k) hg4 (fun k h=>h)) (fun k hk=>(HL1.out.2.1.t.lt k hk).1)) (HL1.out.2.1.growT HNT.out.1 hg4 hat4 ho4);have g7:=bc HC.out.2.2.2 HW4.out.1.b;clear ho4 hg4 hat4 HL1 HW1)
     | (refine zDe rfl _ rfl pb (po+nr*32) rfl x (br HW4.out.1.b HPR.out) ?_)
     | (refine zKq rfl _ _ rfl false x rfl rfl ?_;refine zMy rfl _ rfl (false,x) rfl ?_;have hb2:=al (zze w4.heap.size w4) (.cells (zEb (false,x)).toArray 150);have HL2:=zAI (HW4.out.1.below hb2) (zza (HW4.out.2.below hb2) (zDl w4 _ _ _ rfl:(w4.alloc (.cells (zEb (false,x)).toArray 150)).rangeAt w4.heap.size 0 (zEb (false,x))));clear hb2 g7 HW4;generalize w4.alloc (.cells (zEb (false,x)).toArray 150)=V3 at *;generalize w4.heap.size=z8 at *)
     | (at_builtin;refine zKk rfl _ _ rfl (z4+1) _ T (false,x) ns HNT.out.2 rfl (by have:=HL2.out.2.1.s;rw[HNT.out.2]at this;exact this) z8 0 1 rfl HL2.out.2.2 (by have:=HSZ.out;omega) (HL2.out.1.s) ?_;intro g5 c5 w5 ho5 hg5 hat5 _;have HW6:=zAI (HL2.out.1.keep (zDj.of_grown (X:=fun k=>u5.ownBlock=some k) hg5 (fun k h=>h)) (fun k hk=>(HL2.out.2.1.s.lt k hk).1)) (HL2.out.2.1.growS HNT.out.2 hg5 hat5 ho5);clear ho5 hg5 hat5 HL2))
    have hLd:=HLJ.out.drop k (cj - k) (by rw[<-HNJ.out];exact zzQ HSM.out.2.1) (by rw[<-HNJ.out];omega) (by omega)
    rw[<-HNJ.out]at hLd
    refine⟨⟨lj.drop k,mj - k,false,r,T++[(false,x)],th++[(sl_,sr_)],by rw[<-HR.out.1,hw9],by rw[hw8],rfl,hLd,HLR2.out.2 hmk,HW6.out.1,HW6.out.2⟩,by simp[intOf];omega⟩
  ·have h2':¬(mj:Int)<(nj:Int):=by omega
   obtain⟨f,hf1,hf2,hside,hold,hoh⟩:=HST.out.fin (by rw[<-HNJ.out];exact h2)
   cases ej with
   | true =>
    have hf:=hf1 rfl
    subst hf
    clear hf1 hf2
    have hmn:mj=nj:=by omega
    have HSD:=zAI hside (zza hold hoh)
    have hsh:th.length<1000000/\T.length=th.length:=⟨by have:=HST.out.pd.short;have:=HNL.out;omega,HST.out.pd.lens⟩
    have HSH:=zzb hsh
    clear hside hold hoh hsh HST HQL
    have HLW2:=HLW
    clear HLW
    have HRT:=zzb (zJy zEk HTR.out.s HTR.out.sn)
    have HTR2:=HTR
    clear HTR
    obtain⟨WA,hWA⟩:∃ W,W=wr:=⟨_,rfl⟩
    rw[<-hWA]at HLW2 HRT HTR2
    go_wp2_with fail
    rw[<-hWA]
    clear hWA
    refine (zNl WA _ _ T HRT.out (by have:=HSH.out;omega)).mono ?_
    rintro e w1 ⟨rfl,hrow,hk⟩
    have HW1:=zAI (HLW2.out.keep hk (fun k e=>(HTR2.out.s.lt k e).1)) (zza (zJy zD5 (hk.owns HTR2.out.t (fun k e y=>HTR2.out.d k y e)) HTR2.out.tn) hrow)
    clear hk hrow HLW2 HTR2 HRT
    go_wp2_with (refine zDe rfl _ rfl z4 0 rfl _ HW1.out.1.r ?_)
    refine (yDd f T.reverse _ _ w1 HW1.out.2.2 (by rw[List.length_reverse];have:=HSH.out;omega)).mono ?_
    rintro e w3 ⟨u,rfl,hu,hb⟩
    have hkb:=zK hb
    rw[(zKe f T).1]at hu
    have HW3:=zAI (HW1.out.1.below hb) (zza (HW1.out.2.1.keep (by omega) hkb (fun _ _ h=>h)) (zza hu (show ∀ k,u6.ownBlock=some k->¬u.ownBlock=some k from fun k e y=>by
     have h1:=hu.own k y
     have h2:k<w1.heap.size:=by
      rcases HW1.out.2.1 with ⟨rfl,_⟩ | ⟨g,cap,rfl,h0,_,_,_,h4,_⟩
      ·cases e
      ·simp only[Value.ownBlock,zzj]at e
       subst e
       exact zEp h4 (by intro h;have h6:=zG0 zD5 th;rw[h]at h6;have h7:=zzR.2 h0;rw[zzO]at h6;omega)
     omega)))
    have HSZ3:=zzb (HW1.out.1.s)
    clear hu hb hkb HW1
    go_wp2_with fail
    refine (zNe w3 _ _ _ HW3.out.2.2.1 (by rw[List.length_reverse,zEq];have:=HSH.out;omega)).mono ?_
    rintro e w4 ⟨rfl,hrow,hk⟩
    rw[List.reverse_reverse]at hrow
    have HW4:=zAI (HW3.out.1.keep hk (fun k e=>by have:=HW3.out.2.2.1.own k e;have:=HSZ3.out;omega)) (zza (HW3.out.2.1.keep (by omega) hk (fun k e y=>HW3.out.2.2.2 k e y)) hrow)
    clear hk hrow HW3
    have hv5:∃ a c,u6=.slice a th.length c:=by
     rcases HW4.out.2.1 with ⟨h1,h2⟩ | ⟨g,cap,h1,_⟩
     ·exact⟨none,0,by rw[h1,h2];rfl⟩
     ·exact⟨_,cap,h1⟩
    obtain⟨a5,c5,rfl⟩:=hv5
    have hv8:∃ a c,u=.slice a th.length c:=by
     rcases HW4.out.2.2 with ⟨h1,h2⟩ | ⟨g,cap,h1,_⟩
     ·refine⟨none,0,?_⟩
      have:=zEq f T
      rw[h2]at this
      have h9:=HSH.out.2
      rw[h1,<-h9,<-this];rfl
     ·exact⟨_,cap,by rw[h1,zEq,HSH.out.2]⟩
    obtain⟨a8,c8,rfl⟩:=hv8
    obtain⟨nt,hnt⟩:∃ n,n=th.length:=⟨_,rfl⟩
    rw[<-hnt]at HW4 HSH ⊢
    have HNT:=zzb hnt
    clear hnt
    have hnt6:(nt:Int)<1000000:=by have:=HSH.out.1;omega
    go_wp2_with fail
    go_loopw [74] (fun i W=>∃ j:Nat,j<=nt/\i=.int .i64 (j:Int)/\zWc f lj (T.drop j) (th.drop j)/\(zE2 f T).drop j=zE2 f (T.drop j)/\th.take j=(zE2 f T).take j/\Below w4.heap.size w4 W) (fun i _=>nt - (intOf i).toNat)
    case atStart=>exact⟨0,by omega,rfl,HSD.out.1,rfl,rfl,zze _ _⟩
    case round =>
     obtain⟨j,hj,rfl,hside,hsaid,htake,hB⟩:=hrel
     have HSI:=zAI hside (zza hsaid htake)
     have HW:=zzb (HW4.out.1.below hB)
     have HB:=zzb hB
     have HRW:=zAI (HW4.out.2.1.keep (by omega) (zK hB) (fun _ _ h=>h)) (HW4.out.2.2.keep (by omega) (zK hB) (fun _ _ h=>h))
     clear hside hsaid htake hB
     by_cases hlt:j<nt
     ·have hlt':(j:Int)<(nt:Int):=by omega
      have hj0:(0:Int)<=(j:Int):=by omega
      have hjt:j<th.length:=by rw[<-HNT.out];exact hlt
      have hjs:j<(zE2 f T).length:=by rw[zEq,HSH.out.2];exact hlt
      have hr1:∃ g,a5=some ⟨g,0,none⟩/\wr.rangeAt g (0+j*64) (zD3 th[j]):=by
       rcases HRW.out.1 with ⟨h1,h2⟩ | ⟨g,cap,h1,_,_,_,_,h4,_⟩
       ·rw[h2]at hjt;simp at hjt
       ·simp only[zzh]at h1
        exact⟨g,h1.1,zGb zD5 h4 hjt⟩
      have hr2:∃ g,a8=some ⟨g,0,none⟩/\wr.rangeAt g (0+j*64) (zD3 (zE2 f T)[j]):=by
       rcases HRW.out.2 with ⟨h1,h2⟩ | ⟨g,cap,h1,_,_,_,_,h4,_⟩
       ·rw[h2]at hjs;simp at hjs
       ·simp only[zzh]at h1
        exact⟨g,h1.1,zGb zD5 h4 hjs⟩
      obtain⟨g6,rfl,hr1⟩:=hr1
      obtain⟨g8,rfl,hr2⟩:=hr2
      have hd1:th.drop j=th[j]::th.drop (j+1):=zz2 hjt
      have hd2:zE2 f (T.drop j)=(zE2 f T)[j]::(zE2 f T).drop (j+1):=by rw[<-HSI.out.2.1];exact zz2 hjs
      have hd3:th.take (j+1)=th.take j++[th[j]]:=zzH hjt
      have hd4:(zE2 f T).take (j+1)=(zE2 f T).take j++[(zE2 f T)[j]]:=zzH hjs
      rw[zzn]at hr1 hr2
      have HD:=zAI hd1 (zza hd2 (zza hd3 hd4))
      have HRR:=zAI hr1 hr2
      clear hd1 hd2 hd3 hd4 hr1 hr2
      generalize th[j]=p1 at *
      generalize (zE2 f T)[j]=p2 at *
      clear hjt hjs
      go_wp2_with (first
       | (refine zGo rfl _ rfl g6 (j*64) rfl p1 HRR.out.1 ?_)
       | (refine zF6 rfl rfl ?_)
       | (refine zG9 (by rfl) rfl _ _ rfl p1 rfl rfl ?_;intro W5 z5 hz5 hb5 hr5 _ _;have HW5:=zAI (HW.out.below hb5) (zza (HB.out.trans (hb5.mono HB.out.size)) (zza hr5 (br hb5 HRR.out.2)));rw[<-hz5];clear hz5 hb5 hr5))
      refine zDb (fun V=>V.rangeAt z5 0 (zD3 p1)/\V.rangeAt g8 (j*64) (zD3 p2)) [.t 1,.t 2,.t 3,.s 0,.e 4 true,.e 5 false] (by kernel_rfl) (by kernel_rfl) (by rintro _ _(_|_)_ _ h<;>exact h) ?_
      have hbd:=(zze W5.heap.size W5).drew
      have HW6:=zAI (HW5.out.1.below hbd) (HW5.out.2.1.trans (hbd.mono HW5.out.2.1.size))
      have HS:=zzb (show W5.drew.rangeAt z5 0 (zD3 p1)/\W5.drew.rangeAt g8 (j*64) (zD3 p2) from HW5.out.2.2)
      clear hbd HW5 HRR HW
      generalize W5.drew=V9 at *
      iterate 3
       refine zDi rfl (v:=?_) (by rfl) (fun W=>?_) ?_
       rotate_left
       ·go_simp
        try rfl
       try simp only[zU,zA,zB,zC]
      refine zJx (by exact HS.out) rfl (by rfl) _ (by rfl) z5 0 (by rfl) p1 (fun V hV=>hV.1) ?_
      try simp only[zU,zA,zB,zC]
      refine zDx rfl (by rfl) (fun K hK=>?_)
      refine zLf _ (by rfl) g8 (j*64) (by rfl) p2 HS.out.2 ?_
      refine hK _ _ ⟨by exact HS.out,?_⟩;clear hK K
      try simp only[zU,zA,zB,zC]
      refine zD7 rfl (by rfl) (fun K hK=>?_)
      go_simp
      by_cases hpp:p1=p2
      ·subst hpp
       obtain⟨s',T',hT,hs2,hside⟩:=HSI.out.1.step HD.out.1 HD.out.2.1
       have hT2:T.drop (j+1)=T':=by
        have:=congrArg (List.drop 1) hT
        rw[zyd]at this
        simpa using this
       have HSJ:=zzb (show zWc f lj (T.drop (j+1)) (th.drop (j+1))/\(zE2 f T).drop (j+1)=zE2 f (T.drop (j+1))/\th.take (j+1)=(zE2 f T).take (j+1) from by rw[hT2,HD.out.2.2.1,HD.out.2.2.2,HSI.out.2.2];exact⟨hside,hs2,rfl⟩)
       clear hT hs2 hside hT2
       refine (zLg p1.1 p1.2 V9).mono ?_
       rintro e V1 ⟨rfl,hb⟩
       have HF:=zzb (HW6.out.2.trans (hb.mono HW6.out.2.size))
       clear hb
       refine hK _ _ ?_;clear hK K
       try simp only[zU,zA,zB,zC]
       refine zDn ?_
       go_wp2_with fail
       exact⟨⟨j+1,by omega,by simp,HSJ.out.1,HSJ.out.2.1,HSJ.out.2.2,HF.out⟩,by simp[intOf];omega⟩
      ·refine (zKa p1.1 p1.2 p2.1 p2.2 V9 (fun h=>hpp (Prod.ext h.1 h.2)) (HSI.out.1.clash HD.out.1 HD.out.2.1)).mono ?_
       intro e w9 h
       have hF:=h.from_ HW6.out.1.b
       obtain⟨va,vb,A,B,rfl,_⟩:=h
       exact⟨rfl,hF⟩
     ·have hjn:j=nt:=by omega
      subst hjn
      have hend:=HSI.out.1.end_ (List.drop_eq_nil_of_le (by rw[<-HNT.out];exact zzc _))
      have hth:th=zE2 f T:=by
       have:=HSI.out.2.2
       rw[zzB (by rw[<-HNT.out];exact zzc _),zzB (by rw[zEq,HSH.out.2];exact zzc _)]at this
       exact this
      have hroot:=zW0 HSD.out.2.1 HSD.out.2.2 hth hend
      rw[HSA.out]at hroot
      have HE:=zzb hroot
      clear hend hth hroot
      have q0:(0:Int)<=(m:Int):=by omega
      have q1:(m:Int)<=(nl:Int):=by omega
      have q2:(m:Int)<=(cl:Int):=by omega
      have q3:m<=cl:=by omega
      go_wp2_with fail
      refine zDb (fun V=>V.cell? ⟨A,0,none⟩=some (.slice (some ⟨bA,oA,none⟩) m cA)/\V.cell? ⟨B,0,none⟩=some (.slice (some ⟨bl,ol,none⟩) nl cl)/\V.cell? ⟨F,0,none⟩=some (.int .i64 (m:Int))) [.s 0,.s 1,.e 2 true,.t 3,.t 4,.e 5 false] (by kernel_rfl) (by kernel_rfl) (by rintro _ _(_|_)_ _ h<;>exact h) ?_
      have HW6:=zzb ((HW.out.below (zze wr.heap.size wr).drew).b)
      clear HW HRW
      generalize wr.drew=V9 at *
      have HS:=zzb (show V9.cell? ⟨A,0,none⟩=some (.slice (some ⟨bA,oA,none⟩) m cA)/\V9.cell? ⟨B,0,none⟩=some (.slice (some ⟨bl,ol,none⟩) nl cl)/\V9.cell? ⟨F,0,none⟩=some (.int .i64 (m:Int)) from ⟨bc HC.out.1 HW6.out,bc HC.out.2.1 HW6.out,bc HC.out.2.2.1 HW6.out⟩)
      refine zD6 (by exact HS.out) rfl (v:=?_) (by rfl) (fun W hSW=>?_) ?_
      rotate_left
      ·go_simp
       try rfl
      try simp only[zU,zA,zB,zC]
      refine zD6 (by exact HS.out) rfl (v:=?_) (by rfl) (fun W hSW=>?_) ?_
      rotate_left
      ·go_simp
       try rfl
      try simp only[zU,zA,zB,zC]
      have g:=HS.out.2.2
      refine zDx rfl (by rfl) (fun K hK=>?_)
      go_simp
      refine hK _ _ ⟨by exact HS.out,?_⟩;clear hK K
      try simp only[zU,zA,zB,zC]
      clear g
      iterate 2
       refine zDi rfl (v:=?_) (by rfl) (fun W=>?_) ?_
       rotate_left
       ·go_simp
        try rfl
       try simp only[zU,zA,zB,zC]
      refine zD7 rfl (by rfl) (fun K hK=>?_)
      go_simp
      have htk:=(HL.out.below HW6.out).take m (by rw[<-HNL0.out];exact hml.2)
      have htl:(l.take m).length=a.length:=by rw[zzq,<-HNL0.out,Nat.min_eq_left hml.2];exact HNM.out
      refine (zOl a.length a (l.take m) _ _ V9 (zzc _) (HLA.out.below HW6.out) htk HML.out.1 htl.symm (by rw[HNM.out];exact HX.out.1) HE.out (by have:=HML.out;have:=HX.out.2.1;omega) HX.out.2.2.1 (fun x hx=>HX.out.2.2.2 x (List.mem_of_mem_take hx))).mono ?_
      intro e w9 h
      have hF:=h.from_ HW6.out
      obtain⟨va,vb,A,B,rfl,_⟩:=h
      exact⟨rfl,hF⟩
   | false =>
    have hp0:=hf2 rfl
    clear hf1 hf2
    have hmn:mj=nj:=by omega
    have HSD:=zAI hside (zza hold hoh)
    have hsh:th.length<1000000/\T.length=th.length:=⟨by have:=HST.out.pd.short;have:=HNL.out;omega,HST.out.pd.lens⟩
    have HSH:=zzb hsh
    clear hside hold hoh hsh HST HQL
    have hfm:∃ pb po,pa=some ⟨pb,po,none⟩/\W0.rangeAt pb po (cellsOf f)/\1<=np:=by
     obtain⟨a,c,h1,_,_,h4⟩:=HPA.out
     have hpn:p≠[]:=by intro h;rw[h]at hp0;simp at hp0
     obtain⟨pb,po,ha,hr⟩:=h4.resolve_left hpn
     simp only[zzh]at h1
     have hi:0<p.length:=zzR.2 hpn
     have h5:=zE8 hr hi
     have h6:p[0]=f:=by rw[zzf hi]at hp0;simpa using hp0
     rw[h6,Nat.zero_mul,Nat.add_zero]at h5
     exact⟨pb,po,by rw[h1.1,ha],h5,by rw[HNP.out];exact hi⟩
    obtain⟨pb,po,rfl,hpr,hnp1⟩:=hfm
    have HPR:=zzb hpr
    clear hpr hp0
    have hcK:=bc HC.out.2.2.2 HLW.out.b
    have hnp2:(0:Int)<(np:Int):=by omega
    go_wp2_with (first
     | (refine zDe rfl _ rfl pb po rfl f (br HLW.out.b HPR.out) ?_)
     | (refine zDp rfl _ _ rfl z4 0 f rfl rfl HLW.out.t ?_;have HLW2:=zzb (HLW.out.store f);have HTR2:=zzb (HTR.out.keep (zDt z4 (cellsOf f) 0 wr) (fun k hk=>by omega));generalize wr.setCells z4 0 (cellsOf f)=WA at *;clear hcK HLW HTR))
    have HRT:=zzb (zJy zEk HTR2.out.s HTR2.out.sn)
    refine (zNl WA _ _ T HRT.out (by have:=HSH.out;omega)).mono ?_
    rintro e w1 ⟨rfl,hrow,hk⟩
    have HW1:=zAI (HLW2.out.keep hk (fun k e=>(HTR2.out.s.lt k e).1)) (zza (zJy zD5 (hk.owns HTR2.out.t (fun k e y=>HTR2.out.d k y e)) HTR2.out.tn) hrow)
    clear hk hrow HLW2 HTR2 HRT
    go_wp2_with (refine zDe rfl _ rfl z4 0 rfl _ HW1.out.1.r ?_)
    refine (yDd f T.reverse _ _ w1 HW1.out.2.2 (by rw[List.length_reverse];have:=HSH.out;omega)).mono ?_
    rintro e w3 ⟨u,rfl,hu,hb⟩
    have hkb:=zK hb
    rw[(zKe f T).1]at hu
    have HW3:=zAI (HW1.out.1.below hb) (zza (HW1.out.2.1.keep (by omega) hkb (fun _ _ h=>h)) (zza hu (show ∀ k,u6.ownBlock=some k->¬u.ownBlock=some k from fun k e y=>by
     have h1:=hu.own k y
     have h2:k<w1.heap.size:=by
      rcases HW1.out.2.1 with ⟨rfl,_⟩ | ⟨g,cap,rfl,h0,_,_,_,h4,_⟩
      ·cases e
      ·simp only[Value.ownBlock,zzj]at e
       subst e
       exact zEp h4 (by intro h;have h6:=zG0 zD5 th;rw[h]at h6;have h7:=zzR.2 h0;rw[zzO]at h6;omega)
     omega)))
    have HSZ3:=zzb (HW1.out.1.s)
    clear hu hb hkb HW1
    go_wp2_with fail
    refine (zNe w3 _ _ _ HW3.out.2.2.1 (by rw[List.length_reverse,zEq];have:=HSH.out;omega)).mono ?_
    rintro e w4 ⟨rfl,hrow,hk⟩
    rw[List.reverse_reverse]at hrow
    have HW4:=zAI (HW3.out.1.keep hk (fun k e=>by have:=HW3.out.2.2.1.own k e;have:=HSZ3.out;omega)) (zza (HW3.out.2.1.keep (by omega) hk (fun k e y=>HW3.out.2.2.2 k e y)) hrow)
    clear hk hrow HW3
    have hv5:∃ a c,u6=.slice a th.length c:=by
     rcases HW4.out.2.1 with ⟨h1,h2⟩ | ⟨g,cap,h1,_⟩
     ·exact⟨none,0,by rw[h1,h2];rfl⟩
     ·exact⟨_,cap,h1⟩
    obtain⟨a5,c5,rfl⟩:=hv5
    have hv8:∃ a c,u=.slice a th.length c:=by
     rcases HW4.out.2.2 with ⟨h1,h2⟩ | ⟨g,cap,h1,_⟩
     ·refine⟨none,0,?_⟩
      have:=zEq f T
      rw[h2]at this
      have h9:=HSH.out.2
      rw[h1,<-h9,<-this];rfl
     ·exact⟨_,cap,by rw[h1,zEq,HSH.out.2]⟩
    obtain⟨a8,c8,rfl⟩:=hv8
    obtain⟨nt,hnt⟩:∃ n,n=th.length:=⟨_,rfl⟩
    rw[<-hnt]at HW4 HSH ⊢
    have HNT:=zzb hnt
    clear hnt
    have hnt6:(nt:Int)<1000000:=by have:=HSH.out.1;omega
    go_wp2_with fail
    go_loopw [74] (fun i W=>∃ j:Nat,j<=nt/\i=.int .i64 (j:Int)/\zWc f lj (T.drop j) (th.drop j)/\(zE2 f T).drop j=zE2 f (T.drop j)/\th.take j=(zE2 f T).take j/\Below w4.heap.size w4 W) (fun i _=>nt - (intOf i).toNat)
    case atStart=>exact⟨0,by omega,rfl,HSD.out.1,rfl,rfl,zze _ _⟩
    case round =>
     obtain⟨j,hj,rfl,hside,hsaid,htake,hB⟩:=hrel
     have HSI:=zAI hside (zza hsaid htake)
     have HW:=zzb (HW4.out.1.below hB)
     have HB:=zzb hB
     have HRW:=zAI (HW4.out.2.1.keep (by omega) (zK hB) (fun _ _ h=>h)) (HW4.out.2.2.keep (by omega) (zK hB) (fun _ _ h=>h))
     clear hside hsaid htake hB
     by_cases hlt:j<nt
     ·have hlt':(j:Int)<(nt:Int):=by omega
      have hj0:(0:Int)<=(j:Int):=by omega
      have hjt:j<th.length:=by rw[<-HNT.out];exact hlt
      have hjs:j<(zE2 f T).length:=by rw[zEq,HSH.out.2];exact hlt
      have hr1:∃ g,a5=some ⟨g,0,none⟩/\wr.rangeAt g (0+j*64) (zD3 th[j]):=by
       rcases HRW.out.1 with ⟨h1,h2⟩ | ⟨g,cap,h1,_,_,_,_,h4,_⟩
       ·rw[h2]at hjt;simp at hjt
       ·simp only[zzh]at h1
        exact⟨g,h1.1,zGb zD5 h4 hjt⟩
      have hr2:∃ g,a8=some ⟨g,0,none⟩/\wr.rangeAt g (0+j*64) (zD3 (zE2 f T)[j]):=by
       rcases HRW.out.2 with ⟨h1,h2⟩ | ⟨g,cap,h1,_,_,_,_,h4,_⟩
       ·rw[h2]at hjs;simp at hjs
       ·simp only[zzh]at h1
        exact⟨g,h1.1,zGb zD5 h4 hjs⟩
      obtain⟨g6,rfl,hr1⟩:=hr1
      obtain⟨g8,rfl,hr2⟩:=hr2
      have hd1:th.drop j=th[j]::th.drop (j+1):=zz2 hjt
      have hd2:zE2 f (T.drop j)=(zE2 f T)[j]::(zE2 f T).drop (j+1):=by rw[<-HSI.out.2.1];exact zz2 hjs
      have hd3:th.take (j+1)=th.take j++[th[j]]:=zzH hjt
      have hd4:(zE2 f T).take (j+1)=(zE2 f T).take j++[(zE2 f T)[j]]:=zzH hjs
      rw[zzn]at hr1 hr2
      have HD:=zAI hd1 (zza hd2 (zza hd3 hd4))
      have HRR:=zAI hr1 hr2
      clear hd1 hd2 hd3 hd4 hr1 hr2
      generalize th[j]=p1 at *
      generalize (zE2 f T)[j]=p2 at *
      clear hjt hjs
      go_wp2_with (first
       | (refine zGo rfl _ rfl g6 (j*64) rfl p1 HRR.out.1 ?_)
       | (refine zF6 rfl rfl ?_)
       | (refine zG9 (by rfl) rfl _ _ rfl p1 rfl rfl ?_;intro W5 z5 hz5 hb5 hr5 _ _;have HW5:=zAI (HW.out.below hb5) (zza (HB.out.trans (hb5.mono HB.out.size)) (zza hr5 (br hb5 HRR.out.2)));rw[<-hz5];clear hz5 hb5 hr5))
      refine zDb (fun V=>V.rangeAt z5 0 (zD3 p1)/\V.rangeAt g8 (j*64) (zD3 p2)) [.t 1,.t 2,.t 3,.s 0,.e 4 true,.e 5 false] (by kernel_rfl) (by kernel_rfl) (by rintro _ _(_|_)_ _ h<;>exact h) ?_
      have hbd:=(zze W5.heap.size W5).drew
      have HW6:=zAI (HW5.out.1.below hbd) (HW5.out.2.1.trans (hbd.mono HW5.out.2.1.size))
      have HS:=zzb (show W5.drew.rangeAt z5 0 (zD3 p1)/\W5.drew.rangeAt g8 (j*64) (zD3 p2) from HW5.out.2.2)
      clear hbd HW5 HRR HW
      generalize W5.drew=V9 at *
      iterate 3
       refine zDi rfl (v:=?_) (by rfl) (fun W=>?_) ?_
       rotate_left
       ·go_simp
        try rfl
       try simp only[zU,zA,zB,zC]
      refine zJx (by exact HS.out) rfl (by rfl) _ (by rfl) z5 0 (by rfl) p1 (fun V hV=>hV.1) ?_
      try simp only[zU,zA,zB,zC]
      refine zDx rfl (by rfl) (fun K hK=>?_)
      refine zLf _ (by rfl) g8 (j*64) (by rfl) p2 HS.out.2 ?_
      refine hK _ _ ⟨by exact HS.out,?_⟩;clear hK K
      try simp only[zU,zA,zB,zC]
      refine zD7 rfl (by rfl) (fun K hK=>?_)
      go_simp
      by_cases hpp:p1=p2
      ·subst hpp
       obtain⟨s',T',hT,hs2,hside⟩:=HSI.out.1.step HD.out.1 HD.out.2.1
       have hT2:T.drop (j+1)=T':=by
        have:=congrArg (List.drop 1) hT
        rw[zyd]at this
        simpa using this
       have HSJ:=zzb (show zWc f lj (T.drop (j+1)) (th.drop (j+1))/\(zE2 f T).drop (j+1)=zE2 f (T.drop (j+1))/\th.take (j+1)=(zE2 f T).take (j+1) from by rw[hT2,HD.out.2.2.1,HD.out.2.2.2,HSI.out.2.2];exact⟨hside,hs2,rfl⟩)
       clear hT hs2 hside hT2
       refine (zLg p1.1 p1.2 V9).mono ?_
       rintro e V1 ⟨rfl,hb⟩
       have HF:=zzb (HW6.out.2.trans (hb.mono HW6.out.2.size))
       clear hb
       refine hK _ _ ?_;clear hK K
       try simp only[zU,zA,zB,zC]
       refine zDn ?_
       go_wp2_with fail
       exact⟨⟨j+1,by omega,by simp,HSJ.out.1,HSJ.out.2.1,HSJ.out.2.2,HF.out⟩,by simp[intOf];omega⟩
      ·refine (zKa p1.1 p1.2 p2.1 p2.2 V9 (fun h=>hpp (Prod.ext h.1 h.2)) (HSI.out.1.clash HD.out.1 HD.out.2.1)).mono ?_
       intro e w9 h
       have hF:=h.from_ HW6.out.1.b
       obtain⟨va,vb,A,B,rfl,_⟩:=h
       exact⟨rfl,hF⟩
     ·have hjn:j=nt:=by omega
      subst hjn
      have hend:=HSI.out.1.end_ (List.drop_eq_nil_of_le (by rw[<-HNT.out];exact zzc _))
      have hth:th=zE2 f T:=by
       have:=HSI.out.2.2
       rw[zzB (by rw[<-HNT.out];exact zzc _),zzB (by rw[zEq,HSH.out.2];exact zzc _)]at this
       exact this
      have hroot:=zW0 HSD.out.2.1 HSD.out.2.2 hth hend
      rw[HSA.out]at hroot
      have HE:=zzb hroot
      clear hend hth hroot
      have q0:(0:Int)<=(m:Int):=by omega
      have q1:(m:Int)<=(nl:Int):=by omega
      have q2:(m:Int)<=(cl:Int):=by omega
      have q3:m<=cl:=by omega
      go_wp2_with fail
      refine zDb (fun V=>V.cell? ⟨A,0,none⟩=some (.slice (some ⟨bA,oA,none⟩) m cA)/\V.cell? ⟨B,0,none⟩=some (.slice (some ⟨bl,ol,none⟩) nl cl)/\V.cell? ⟨F,0,none⟩=some (.int .i64 (m:Int))) [.s 0,.s 1,.e 2 true,.t 3,.t 4,.e 5 false] (by kernel_rfl) (by kernel_rfl) (by rintro _ _(_|_)_ _ h<;>exact h) ?_
      have HW6:=zzb ((HW.out.below (zze wr.heap.size wr).drew).b)
      clear HW HRW
      generalize wr.drew=V9 at *
      have HS:=zzb (show V9.cell? ⟨A,0,none⟩=some (.slice (some ⟨bA,oA,none⟩) m cA)/\V9.cell? ⟨B,0,none⟩=some (.slice (some ⟨bl,ol,none⟩) nl cl)/\V9.cell? ⟨F,0,none⟩=some (.int .i64 (m:Int)) from ⟨bc HC.out.1 HW6.out,bc HC.out.2.1 HW6.out,bc HC.out.2.2.1 HW6.out⟩)
      refine zD6 (by exact HS.out) rfl (v:=?_) (by rfl) (fun W hSW=>?_) ?_
      rotate_left
      ·go_simp
       try rfl
      try simp only[zU,zA,zB,zC]
      refine zD6 (by exact HS.out) rfl (v:=?_) (by rfl) (fun W hSW=>?_) ?_
      rotate_left
      ·go_simp
       try rfl
      try simp only[zU,zA,zB,zC]
      have g:=HS.out.2.2
      refine zDx rfl (by rfl) (fun K hK=>?_)
      go_simp
      refine hK _ _ ⟨by exact HS.out,?_⟩;clear hK K
      try simp only[zU,zA,zB,zC]
      clear g
      iterate 2
       refine zDi rfl (v:=?_) (by rfl) (fun W=>?_) ?_
       rotate_left
       ·go_simp
        try rfl
       try simp only[zU,zA,zB,zC]
      refine zD7 rfl (by rfl) (fun K hK=>?_)
      go_simp
      have htk:=(HL.out.below HW6.out).take m (by rw[<-HNL0.out];exact hml.2)
      have htl:(l.take m).length=a.length:=by rw[zzq,<-HNL0.out,Nat.min_eq_left hml.2];exact HNM.out
      refine (zOl a.length a (l.take m) _ _ V9 (zzc _) (HLA.out.below HW6.out) htk HML.out.1 htl.symm (by rw[HNM.out];exact HX.out.1) HE.out (by have:=HML.out;have:=HX.out.2.1;omega) HX.out.2.2.1 (fun x hx=>HX.out.2.2.2 x (List.mem_of_mem_take hx))).mono ?_
      intro e w9 h
      have hF:=h.from_ HW6.out
      obtain⟨va,vb,A,B,rfl,_⟩:=h
      exact⟨rfl,hF⟩
end Go.Proofs.YtdkcndgehgmadaaGreatDoor
