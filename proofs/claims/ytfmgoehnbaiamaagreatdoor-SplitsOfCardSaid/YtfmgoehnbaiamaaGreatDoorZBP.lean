/- Joined: Q4, Q5, Q6, MP2, VTB2. -/
import Derived.Test.YtfmgoehnbaiamaaGreatDoorZBO
set_option maxRecDepth 100000
set_option maxHeartbeats 4000000
open Go Go.RowKit Alm
namespace Go.Proofs.YtfmgoehnbaiamaaGreatDoor
variable {L:List (Value×List Keys.Pr)}{q:Nat}{vn:Value}{W w:World}
theorem zK5(l r:Sum)(w:World):Calls Tryz.prog 155 #[sv l,sv r] w fun e w'=>∃ v,e=.returned v/\zDk w' v (zJ9 (l,r))/\Below w.heap.size w w'/\∀ k,v.ownBlock=some k->w.heap.size<=k:=by
 obtain⟨w1,hw1⟩:∃ x,x=w.alloc (.cells (cellsOf l).toArray 24):=⟨_,rfl⟩
 obtain⟨w2,hw2⟩:∃ x,x=w1.alloc (.cells (cellsOf r).toArray 24):=⟨_,rfl⟩
 have r1:w1.rangeAt w.heap.size 0 (cellsOf l):=by rw[hw1];exact zDh w _ _ _ rfl
 have r2:w2.rangeAt w1.heap.size 0 (cellsOf r):=by rw[hw2];exact zDh w1 _ _ _ rfl
 have b1:Below w.heap.size w w1:=by rw[hw1];exact al (zze _ _) _
 have b2:Below w1.heap.size w1 w2:=by rw[hw2];exact al (zze _ _) _
 have r12:=(zK b2).range r1 id
 have b12:=b1.trans (b2.mono b1.size)
 have s1:w1.heap.size=w.heap.size+1:=by rw[hw1,zzp]
 have s2:w2.heap.size=w.heap.size+2:=by rw[hw2,zzp,s1]
 have H0:=zAI r12 (zza r2 (zza b12 (zza s1 s2)))
 have HW:=zAI hw1 hw2
 clear r1 r2 b1 b2 r12 b12 s1 s2 hw1 hw2
 go_enter Tryz.func155,Tryz.ntmps155
 refine Alm.wp_cut 1 ?_
 intro T hT
 dsimp only[zKi]
 replace hT:=zzb hT
 go_wp2_with fail
 refine hT.out _ _ ?_
 clear hT
 dsimp only[zF0]
 rw[<-HW.out.1]
 change Code.wp _ _ _ _ (w1.alloc (.cells (cellsOf r).toArray 24))
 rw[<-HW.out.2]
 obtain⟨r1,r2,b12,s1,s2⟩:=H0.out
 rw[s1]at r2
 have hd:=(zze w2.heap.size w2).drew
 have HV:=zAI ((zK hd).range r1 id) (zza ((zK hd).range r2 id) (zza b12.drew (show w2.drew.heap.size=w.heap.size+2 from s2)))
 clear r1 r2 b12 s1 s2 hd H0 HW
 go_wp2_with fail
 refine zDd (fun V=>Below w2.drew.heap.size w2.drew V) [.t 1,.t 3,.e 0 false,.e 2 false,.e 4 false,.t 5] (by kernel_rfl) (by kernel_rfl) (by rintro _ _(_|_)_ _ h<;>exact h) ?_
 generalize w2.drew=V at *
 iterate 2
  refine zDp rfl (v:=?_) (by rfl) (fun W=>?_) ?_
  rotate_left
  ·go_simp
   try rfl
  try simp only[zU,zA,zB,zC]
 refine zEa rfl (by rfl) (fun K hK=>?_)
 go_simp
 have ho:=zNo (w:=V) 4 #[.int .u8 4] rfl
 have hba:=al (zze V.heap.size V) (.cells #[.int .u8 4] 5)
 have HO:=zAI ho hba
 clear ho hba
 refine hK _ _ ?_;clear hK K
 try simp only[zU,zA,zB,zC]
 generalize V.alloc (.cells #[.int .u8 4] 5)=V1 at *
 refine zEa rfl (by rfl) (fun K hK=>?_)
 have hr1:=(zK HO.out.2).range HV.out.1 id
 refine zI9 _ _ rfl V.heap.size _ [4] l.toList 1 32 rfl (zJr l) (by rfl) HO.out.1 w.heap.size 0 32 (by rfl) hr1 (by omega) (by omega) HO.out.2.size ?_
 intro g2 c2 V2 ho2 hg2
 have hb2:=zGr HO.out.2 HO.out.1 hg2 HO.out.2.size
 have H2:=zAI ho2 hb2
 clear ho2 hb2 hg2 hr1
 refine hK _ _ ?_;clear hK K
 try simp only[zU,zA,zB,zC]
 refine zEa rfl (by rfl) (fun K hK=>?_)
 have hr2:=(zK H2.out.2).range HV.out.2.1 id
 refine zI9 _ _ rfl V.heap.size _ ([4]++l.toList) r.toList 33 32 (by simp) (zJr r) (by rfl) H2.out.1 (w.heap.size+1) 0 32 (by rfl) hr2 (by omega) (by omega) H2.out.2.size ?_
 intro g3 c3 V3 ho3 hg3
 have hb3:=zGr H2.out.2 H2.out.1 hg3 H2.out.2.size
 have hby:zDk V3 (.slice (some ⟨g3,0,none⟩) (33+32) c3) ([4]++l.toList++r.toList):=by
  have hlen:([4]++l.toList++r.toList:List UInt8).length=33+32:=by simp
  have:=zH2 (l:=[4]++l.toList++r.toList) (by rw[hlen];exact ho3) (by rw[hlen];omega)
  exact this
 have hno:∀ k,(Value.slice (some ⟨g3,0,none⟩) (33+32) c3).ownBlock=some k->w.heap.size<=k:=fun k hk=>by have h1:=zFx ho3 k hk;have h2:=HV.out.2.2.2;omega
 have H3:=zAI hby (zza (HV.out.2.2.1.trans (hb3.mono HV.out.2.2.1.size)) hno)
 clear hno ho3 hb3 hg3 hby hr2
 refine hK _ _ ?_;clear hK K
 try simp only[zU,zA,zB,zC]
 refine zDp rfl (v:=?_) (by rfl) (fun W=>?_) ?_
 rotate_left
 ·go_simp
  try rfl
 try simp only[zU,zA,zB,zC]
 refine zDn ?_
 go_wp2_with fail
 exact zzM (zzN (t:=4) rfl _ _ _) rfl ⟨_,rfl,H3.out.1,H3.out.2.1,H3.out.2.2⟩
theorem zNt(k:Sum)(b:List UInt8)(v:Value)(w:World)(hv:zDk w v b)(hl:b.length<900000):Calls Tryz.prog 116 #[sv k,v] w fun e w'=>∃ u,e=.returned u/\zDk w' u (zId k b)/\Below w.heap.size w w':=by
 obtain⟨s,hs⟩:∃ s,s=zId k b:=⟨_,rfl⟩
 rw[<-hs]
 have hs':s=if b=[] then [2] else 3::(k.toList++b):=hs
 have HS:=zzb hs'
 clear hs hs'
 obtain⟨w1,hw1⟩:∃ x,x=w.alloc (.cells (cellsOf k).toArray 24):=⟨_,rfl⟩
 have r1:w1.rangeAt w.heap.size 0 (cellsOf k):=by rw[hw1];exact zDh w _ _ _ rfl
 have b01:Below w.heap.size w w1:=by rw[hw1];exact al (zze _ _) _
 have hv1:=zDg hv b01 (zzc _)
 have H0:=zAI b01 (zza hv1 (zza hl r1))
 have HW:=zzb hw1
 obtain⟨av,cv,rfl,hv5,_,_⟩:=id hv
 obtain⟨n,hn⟩:∃ n,n=b.length:=⟨_,rfl⟩
 rw[<-hn]at H0 ⊢
 have HN:=zzb hn
 obtain⟨db,hdb⟩:∃ d:Bool,d=decide (n=0):=⟨_,rfl⟩
 have e1:decide ((n:Int)=0)=db:=by rw[hdb,zzX];omega
 have e2:decide (n=0)=db:=hdb.symm
 have e3:((n:Int) == 0)=db:=by rw[hdb,zyo,zyp,zzW];omega
 have HD:=zzb hdb
 clear hdb hn r1 b01 hv hv1 hl hw1 hv5
 go_enter Tryz.func116,Tryz.ntmps116
 refine Alm.wp_cut 1 ?_
 intro T hT
 dsimp only[zKi]
 replace hT:=zzb hT
 go_wp2_with fail
 refine hT.out _ _ ?_
 clear hT
 dsimp only[zF0]
 rw[<-HW.out]
 clear HW
 have ho0:=zNo (w:=w1) 2 #[.int .u8 2] rfl
 have ho3:=zNo (w:=w1) 3 #[.int .u8 3] rfl
 have hb2:=al (zze w1.heap.size w1) (.cells #[.int .u8 2] 5)
 have hb3:=al (zze w1.heap.size w1) (.cells #[.int .u8 3] 5)
 have HO:=zAI ho0 (zza hb2 (zza ho3 hb3))
 clear ho0 ho3 hb2 hb3
 cases db with
 | true =>
  have hbe:b=[]:=by have:=HD.out;have h2:=HN.out;have:n=0:=zz3 this.symm;exact zzu.1 (by rw[<-h2,this])
  have hs2:s=[2]:=by rw[HS.out,zzY hbe]
  have hby:zDk (w1.alloc (.cells #[.int .u8 2] 5)) (.slice (some ⟨w1.heap.size,0,none⟩) 1 1) s:=by rw[hs2];exact zK8 2 _ rfl rfl
  have H3:=zAI hby (H0.out.1.trans (HO.out.2.1.mono H0.out.1.size))
  clear hbe hs2 hby
  go_wp2_with fail
  exact zzM (zzN (t:=4) rfl _ _ _) rfl ⟨_,rfl,H3.out.1,H3.out.2⟩
 | false =>
  have hbe:b≠[]:=by intro e0;have h1:=HD.out;have h2:=HN.out;rw[e0]at h2;have:¬n=0:=zyl h1.symm;exact this (by rw[h2];rfl)
  have hs2:s=3::(k.toList++b):=by rw[HS.out,zzZ hbe]
  have HS2:=zzb hs2
  clear hbe hs2
  refine Alm.wp_cut 1 ?_
  intro T hT
  dsimp only[zKi]
  replace hT:=zzb hT
  go_wp2_with fail
  refine hT.out _ _ ?_
  clear hT
  dsimp only[zF0]
  refine wp_seq_k fun K1 hK1=>?_
  refine wp_region_lit ?_
  refine wpList_plain rfl fun K hK=>?_
  go_simp
  refine hK _ _ ?_
  clear hK K
  try simp only[zU,zA,zB,zC]
  have HV1:=zAI HO.out.2.2.1 (zza HO.out.2.2.2 (zza (zDg H0.out.2.1 HO.out.2.2.2 (zzc _)) ((zK HO.out.2.2.2).range H0.out.2.2.2 id)))
  clear HO
  generalize w1.alloc (.cells #[.int .u8 3] 5)=w2 at *
  refine wpList_plain rfl fun K hK=>?_
  go_simp
  refine hK _ _ ?_
  clear hK K
  try simp only[zU,zA,zB,zC]
  have hks:zDk w2 (.slice (some ⟨w.heap.size,0,none⟩) 32 32) k.toList:=⟨_,32,by simp,by simp,by decide,.inr ⟨_,_,rfl,HV1.out.2.2.2⟩⟩
  refine zGp rfl _ _ rfl w1.heap.size _ _ [3] k.toList 1 32 rfl (zJr k) rfl HV1.out.1 rfl hks (by omega) HV1.out.2.1.size ?_
  intro v3 w3 ho3 hg3
  have hb3:=zGr HV1.out.2.1 HV1.out.1 hg3 HV1.out.2.1.size
  have H3:=zAI ho3 (zza hb3 (zDg H0.out.2.1 hb3 (zzc _)))
  clear ho3 hb3 hg3 hks HV1
  go_wp2_with (at_builtin;refine Hid.out ?_)
  refine zzb ?_
  refine zGp rfl _ _ rfl w1.heap.size _ _ ([3]++k.toList) b 33 n (by simp) HN.out.symm rfl H3.out.1 rfl H3.out.2.2 (by have:=H0.out.2.2.1;have:=HN.out;omega) H3.out.2.1.size ?_
  intro v4 w4 ho4 hg4
  have hb4:=zGr H3.out.2.1 H3.out.1 hg4 H3.out.2.1.size
  have hby:zDk w4 v4 (3::(k.toList++b)):=by
   have hlen:(3::(k.toList++b):List UInt8).length=33+n:=by have:=HN.out;simp;omega
   exact zH2 (l:=3::(k.toList++b)) (by rw[hlen];exact ho4) (by have:=H0.out.2.2.1;have:=HN.out;rw[hlen];omega)
  rw[<-HS2.out]at hby
  have H4:=zAI hby (H0.out.1.trans (hb4.mono H0.out.1.size))
  clear ho4 hb4 hg4 hby H3
  go_wp2_with fail
  exact zzM (zzN (t:=4) rfl _ _ _) rfl ⟨_,rfl,H4.out.1,H4.out.2⟩
theorem zRd(n:Nat)(P:List Keys.Pr)(v:Value)(w:World)(hn:n<=255)(hv:zDu w v P)(hl:P.length<100000):
  Calls Tryz.prog 154 #[v,.int .i64 ((255 - n:Nat):Int)] w fun e w'=>∃ v1 v2,e=.returned (.tuple #[v1,v2])/\zDu w' v1 (P.filter (fun p=>!(Keys.kn p.1).testBit n))/\zDu w' v2 (P.filter (fun p=>(Keys.kn p.1).testBit n))/\Below w.heap.size w w':=by
 obtain⟨ab,ca,rfl,hca,_⟩:=zD9 hv
 obtain⟨one,h1⟩:∃ x,x=P.filter (fun p=>!(Keys.kn p.1).testBit n):=⟨_,rfl⟩
 obtain⟨two,h2⟩:∃ x,x=P.filter (fun p=>(Keys.kn p.1).testBit n):=⟨_,rfl⟩
 rw[<-h1,<-h2]
 have HFI:=zAI h1 h2
 obtain⟨D,hD⟩:∃ D,D=255 - n:=⟨_,rfl⟩
 rw[<-hD]
 have HDE:=zzb (show D<=255/\255 - D=n by omega)
 obtain⟨N,hNN⟩:∃ N,N=P.length:=⟨_,rfl⟩
 rw[<-hNN]at hv hca hl ⊢
 have HPA:=zzb hv
 have HNN:=zzb hNN
 have HNB:=zzb hl
 have q3:(N:Int)<=(ca:Int):=by omega
 clear hv hNN hl hn hD h1 h2 hca
 go_enter Tryz.func154,Tryz.ntmps154
 go_wp2_with fail
 go_loopw [6,7,8] (fun u7 u8 iv W=>∃ (j:Nat) (p1 p2:List (PE×List UInt8)),j<=N/\iv=.int .i64 (j:Int)/\(∃ a c,u7=.slice a p1.length c)/\(∃ a c,u8=.slice a p2.length c)/\zTd w W u7 u8 p1 p2/\p1.map (fun c=>(c.1.1,c.2))=(P.take j).filter (fun p=>!(Keys.kn p.1).testBit n)/\p2.map (fun c=>(c.1.1,c.2))=(P.take j).filter (fun p=>(Keys.kn p.1).testBit n)) (fun _ _ iv _=>N - (intOf iv).toNat)
 case atStart=>exact⟨0,[],[],by omega,rfl,⟨_,_,rfl⟩,⟨_,_,rfl⟩,zTd.nil _,rfl,rfl⟩
 case round =>
  obtain⟨j,p1,p2,hj,rfl,⟨a1,c1,rfl⟩,⟨a2,c2,rfl⟩,hR,hF1,hF2⟩:=hrel
  have HR:=zzb hR
  have HF:=zAI hF1 hF2
  have HLN:=zAI (zMq hF1) (zMq hF2)
  clear hR hF1 hF2
  by_cases hlt:j<N
  ·have g1:decide (j<N)=true:=by simpa using hlt
   have g1':decide ((j:Int)<(N:Int))=true:=by simp;omega
   have hj0:(0:Int)<=(j:Int):=by omega
   have hlt':(j:Int)<(N:Int):=by omega
   have HJ:=zAI hj hlt
   clear hj
   have hPA:=HPA.out
   rw[HNN.out]at hPA
   obtain⟨ba,oa,ca',y,yb,he1,hr1,hyb,hyP⟩:=zEn hPA (i:=j) (by rw[<-HNN.out];exact hlt)
   simp only[zzh]at he1
   obtain⟨rfl,-,rfl⟩:=he1
   have HYB:=zzb hyb
   have HYP:=zzb hyP
   have HX1:=zzb ((zK HR.out.below).range hr1 id)
   clear hPA hr1 hyb hyP hlt
   have hbit:=Keys.bit_odd (Keys.kn y.1) n
   obtain⟨qb,hqb⟩:∃ q,q=(Keys.kn y.1>>>n)%2:=⟨_,rfl⟩
   have hbi:=fun W=>zIz y.1 D W (by have:=HDE.out;omega)
   rw[HDE.out.2,<-hqb]at hbi
   rw[<-hqb]at hbit
   have hq2:qb<2:=by rw[hqb];exact zym _ (by decide)
   clear hqb
   have hcase:qb=0∨qb=1:=by omega
   rcases hcase with rfl | rfl
   ·rw[show ((0:Nat):Int)=0 from rfl]at hbi
    have HBI:=zzb hbi
    have hbt:(Keys.kn y.1).testBit n=false:=by rw[hbit];rfl
    have HBT:=zzb hbt
    clear hbi hbit hq2 hbt
    go_wp2_with (refine zDb rfl _ rfl ba (oa+j*33) rfl y.1 (zD7 HX1.out) ?_)
    refine (HBI.out _).mono ?_
    rintro e V1 ⟨rfl,hb1⟩
    have HR1:=zzb (HR.out.mem hb1)
    have HX:=zzb ((zK hb1).range HX1.out id)
    clear HX1 HR hb1 HBI
    have HX1:=zzb HX.out
    clear HX
    have HG:=zzb trivial
    go_wp2_with (first
     | (have _:=HG;refine zEg rfl _ rfl ba (oa+j*33) rfl y HX1.out ?_)
     | (have _:=HG;refine zE3 rfl 1 _ rfl [y] rfl (by omega) (by omega) rfl ?_;have hb2:=al (zze V1.heap.size V1) (.cells (zDz [y]).toArray 41);have HP3:=zAI (HR1.out.mem hb2) (zDh V1 (zDz [y]).toArray 41 _ rfl);clear HG hb2;generalize V1.heap.size=y8 at *;generalize V1.alloc (.cells (zDz [y]).toArray 41)=V2 at *)
     | (have _:=HP3;refine zEr rfl _ _ rfl w.heap.size (.slice a1 p1.length c1) (p1.map Prod.fst) [y] p1.length 1 (by rw[zzm]) rfl rfl (by have hx:=HP3.out.1.r1;exact hx) y8 0 1 rfl HP3.out.2 (by omega) (by have:=HLN.out;have:=HNB.out;have:=HJ.out;omega) HP3.out.1.below.size ?_;intro g9 cap9 V4 ho9 hg9 hat9 _;have HQ9:=zzb ((HP3.out.1.push (y:=y) (b:=yb) (m:=p1.length+1) HYB.out (by rfl) ho9 hg9 hat9));clear ho9 hg9 hat9 HP3))
    have hwj:wrap64 ((j:Int)+1)=((j+1:Nat):Int):=by have:=HNB.out;have:=HJ.out;unfold wrap64;omega
    try rw[hwj]
    clear hwj
    exact⟨⟨j+1,p1++[(y,yb)],p2,by have:=HJ.out;omega,rfl,⟨_,_,by rw[zzi,zzy]⟩,⟨_,_,rfl⟩,HQ9.out,by rw[zFv HYP.out,zyh,HF.out.1];simp[HBT.out],by rw[zFv HYP.out,HF.out.2];simp[HBT.out]⟩,by simp only[intOf];have:=HJ.out;omega⟩
   ·rw[show ((1:Nat):Int)=1 from rfl]at hbi
    have HBI:=zzb hbi
    have hbt:(Keys.kn y.1).testBit n=true:=by rw[hbit];rfl
    have HBT:=zzb hbt
    clear hbi hbit hq2 hbt
    go_wp2_with (refine zDb rfl _ rfl ba (oa+j*33) rfl y.1 (zD7 HX1.out) ?_)
    refine (HBI.out _).mono ?_
    rintro e V1 ⟨rfl,hb1⟩
    have HR1:=zzb (HR.out.mem hb1)
    have HX:=zzb ((zK hb1).range HX1.out id)
    clear HX1 HR hb1 HBI
    have HX1:=zzb HX.out
    clear HX
    have HG:=zzb trivial
    go_wp2_with (first
     | (have _:=HG;refine zEg rfl _ rfl ba (oa+j*33) rfl y HX1.out ?_)
     | (have _:=HG;refine zE3 rfl 1 _ rfl [y] rfl (by omega) (by omega) rfl ?_;have hb2:=al (zze V1.heap.size V1) (.cells (zDz [y]).toArray 41);have HP3:=zAI (HR1.out.mem hb2) (zDh V1 (zDz [y]).toArray 41 _ rfl);clear HG hb2;generalize V1.heap.size=y8 at *;generalize V1.alloc (.cells (zDz [y]).toArray 41)=V2 at *)
     | (have _:=HP3;refine zEr rfl _ _ rfl w.heap.size (.slice a2 p2.length c2) (p2.map Prod.fst) [y] p2.length 1 (by rw[zzm]) rfl rfl (by have hx:=HP3.out.1.r2;exact hx) y8 0 1 rfl HP3.out.2 (by omega) (by have:=HLN.out;have:=HNB.out;have:=HJ.out;omega) HP3.out.1.below.size ?_;intro g9 cap9 V4 ho9 hg9 hat9 _;have HQ9:=zzb ((HP3.out.1.swap.push (y:=y) (b:=yb) (m:=p2.length+1) HYB.out (by rfl) ho9 hg9 hat9).swap);clear ho9 hg9 hat9 HP3))
    have hwj:wrap64 ((j:Int)+1)=((j+1:Nat):Int):=by have:=HNB.out;have:=HJ.out;unfold wrap64;omega
    try rw[hwj]
    clear hwj
    exact⟨⟨j+1,p1,p2++[(y,yb)],by have:=HJ.out;omega,rfl,⟨_,_,rfl⟩,⟨_,_,by rw[zzi,zzy]⟩,HQ9.out,by rw[zFv HYP.out,HF.out.1];simp[HBT.out],by rw[zFv HYP.out,zyh,HF.out.2];simp[HBT.out]⟩,by simp only[intOf];have:=HJ.out;omega⟩
  ·have g1:decide (j<N)=false:=by simpa using hlt
   have g1':decide ((j:Int)<(N:Int))=false:=by simp;omega
   have hjN:j=N:=by omega
   have htk:P.take j=P:=zzD (by rw[<-HNN.out];omega)
   have hF1:=HF.out.1
   have hF2:=HF.out.2
   rw[htk,<-HFI.out.1]at hF1
   rw[htk,<-HFI.out.2]at hF2
   have H1:=zAI (HR.out.pairs hF1) (zza (HR.out.swap.pairs hF2) HR.out.below)
   clear hF1 hF2 htk hjN hlt hj HR HF
   go_wp2_with fail
   exact zzM (results_tmp2 (t:=4) (u:=5) rfl _ _ _) rfl ⟨_,_,rfl,H1.out.1,H1.out.2.1,H1.out.2.2⟩
structure DN(w W:World)(q:Nat)(L:List (Value×List Keys.Pr))(vn:Value):Prop where
 q:QW w W q
 p:∀ x∈L,zDu W x.1 x.2
 n:zD1 W vn zJp
theorem DN.mem{W':World}(h:DN w W q L vn)(hb:Below W.heap.size W W'):DN w W' q L vn :=
 ⟨h.q.below hb,fun x hx=>(h.p x hx).below hb,h.n.below hb (zzc _)⟩
theorem DN.add(h:DN w W q L vn){v:Value}{P:List Keys.Pr}(hv:zDu W v P):DN w W q ((v,P)::L) vn :=
 ⟨h.q,fun x hx=>(zzK.1 hx).elim (fun e=>by rw[e];exact hv) (h.p x),h.n⟩
theorem yE9:∀ (n:Nat) (A B:List Keys.Pr) (va vb vn:Value) (w:World),n<=256->zDu w va A->zDu w vb B->zD1 w vn zJp->(∀ p∈A,p.2.length<900000)->(∀ p∈B,p.2.length<900000)->A.length<100000->B.length<100000 ->
  Calls Tryz.prog 112 #[va,vb,.int .i64 ((256 - n:Nat):Int),vn] w fun e w'=>(∃ x y,e=.returned (.agg #[x,y])/\x.oneCell'=true/\y.oneCell'=true)/\Below w.heap.size w w':=by
 intro n
 induction n with
 | zero =>
  intro Pa Pb va vb vn w hn ha hb hN hFA hFB hlA hlB
  obtain⟨aa,ca,rfl,hca,_⟩:=zD9 ha
  obtain⟨ab,cb,rfl,hcb,_⟩:=zD9 hb
  rw[show ((256 - 0:Nat):Int)=256 from rfl]
  obtain⟨Na,hNa⟩:∃ N,N=Pa.length:=⟨_,rfl⟩
  obtain⟨Nb,hNb⟩:∃ N,N=Pb.length:=⟨_,rfl⟩
  rw[<-hNa]at ha hca hlA ⊢
  rw[<-hNb]at hb hcb hlB ⊢
  have HNa:=zzb hNa
  have HNb:=zzb hNb
  have HSa:=zzb hFA
  have HSb:=zzb hFB
  obtain⟨W0,hW0⟩:∃ x,x=w.alloc (.cells #[.slice none 0 0,.slice none 0 0] 82):=⟨_,rfl⟩
  have hq0:=QW.start w
  have hb0:=al (zze w.heap.size w) (.cells #[.slice none 0 0,.slice none 0 0] 82)
  rw[<-hW0]at hq0 hb0
  have HD0:DN w W0 w.heap.size [(.slice aa Na ca,Pa),(.slice ab Nb cb,Pb)] vn:=⟨hq0,fun x hx=>by
   rcases zzK.1 hx with rfl | hx
   ·exact ha.below hb0
   ·rw[zzx.1 hx];exact hb.below hb0,hN.below hb0 (zzc _)⟩
  obtain⟨V,hV⟩:∃ x,x=(W0.alloc (.cells #[.int .u8 2] 5)).alloc (.cells #[.int .u8 2] 5):=⟨_,rfl⟩
  have hdv:=HD0.mem (al (al (zze W0.heap.size W0) (.cells #[.int .u8 2] 5)) (.cells #[.int .u8 2] 5))
  rw[<-hV]at hdv
  obtain⟨q,hq⟩:∃ q,q=w.heap.size:=⟨_,rfl⟩
  rw[<-hq]at hdv
  have HV:=zzb hV
  have HQ:=zzb (show w.heap.size<=q by rw[hq];exact zzc _)
  have HQE:=zzb hq
  have HDV:=zzb hdv
  have HW0:=zzb hW0
  have q1:(Na:Int)<=(ca:Int):=by omega
  have q2:(Nb:Int)<=(cb:Int):=by omega
  clear ha hb hN hFA hFB hlA hlB hca hcb hNa hNb hW0 hq0 hb0 HD0 hV hdv hq hn
  obtain⟨da,hda⟩:∃ d,d=decide (0<Na):=⟨_,rfl⟩
  obtain⟨db,hdb⟩:∃ d,d=decide (0<Nb):=⟨_,rfl⟩
  have fa1:decide (0<Na)=da:=hda.symm
  have fb1:decide (0<Nb)=db:=hdb.symm
  have fa2:decide ((0:Int)<(Na:Int))=da:=by rw[hda,zzX];omega
  have fb2:decide ((0:Int)<(Nb:Int))=db:=by rw[hdb,zzX];omega
  have HA:=zzb hda
  have HB:=zzb hdb
  clear hda hdb
  go_enter Tryz.func112,Tryz.ntmps112
  refine Alm.wp_cut 1 ?_
  intro T hT
  dsimp only[zKi]
  replace hT:=zzb hT
  go_wp2_with fail
  refine hT.out _ _ ?_
  clear hT
  dsimp only[zF0]
  change Code.wp _ _ _ _ (w.alloc (.cells #[.slice none 0 0,.slice none 0 0] 82))
  rw[<-HW0.out,<-HQE.out]
  clear HW0
  cases da with
  | false =>
   cases db with
   | false =>
    go_wp2_with ((try rw[<-HV.out]);refine zDo rfl _ _ rfl q _ _ rfl rfl rfl rfl HDV.out.q.there ?_)
    try rw[zzs]
    exact zzM (zEy Tryz.results112 _ _ q 0 [_,_] _ rfl (zDf _ _ _ _ (zzd HDV.out.q.there _ _ _)) Tryz.underlying82 rfl zD2) rfl ⟨⟨_,_,rfl,rfl,rfl⟩,zDc _ (zzc _) _ _ _ _ (by rw[HQE.out];exact HDV.out.q.bw)⟩
   | true =>
    have hpb:0<Nb:=zz3 HB.out.symm
    have hib:(0:Int)<(Nb:Int):=by omega
    obtain⟨bab,oab,cab',yb,xsb,heb,hrb,hyb,hgb⟩:=zEn (HDV.out.p (.slice ab Nb cb,Pb) (by simp)) (i:=0) (by rw[<-HNb.out];omega)
    simp only[zzh]at heb
    obtain⟨rfl,-,rfl⟩:=heb
    rw[Nat.zero_mul,Nat.add_zero]at hrb
    have HFb:=zzb (HSb.out (yb.1,xsb) (List.mem_iff_getElem?.2 ⟨0,hgb⟩))
    have hcellb:=yEr hrb
    have hdb:=(zze V.heap.size V).drew
    have HDb:=zzb (HDV.out.mem hdb)
    have HCb:=zzb (show (World.drew V).rangeAt bab oab (cellsOf yb.1)/\(World.drew V).cell? ⟨bab,oab+32,none⟩=some (peV yb) from zza (zD7 hrb) hcellb)
    have HYb:=zzb (zDg hyb hdb (zzc _))
    clear hrb hyb hgb hcellb hdb HDV
    go_wp2_with fail
    change Code.wp _ _ _ _ ((W0.alloc (.cells #[.int .u8 2] 5)).alloc (.cells #[.int .u8 2] 5))
    rw[<-HV.out]
    refine zDd (fun W=>W.rangeAt bab oab (cellsOf yb.1)/\W.cell? ⟨bab,oab+32,none⟩=some (peV yb)) [.t 0,.t 1,.t 2,.t 4,.t 5,.t 6,.s 3,.e 7 true,.e 8 false,.t 9] (by kernel_rfl) (by kernel_rfl) (by rintro _ _(_|_)_ _ h<;>exact h) ?_
    generalize World.drew V=Vdb at *
    iterate 6
     refine zDp rfl (v:=?_) (by rfl) (fun W=>?_) ?_
     rotate_left
     ·go_simp
      try rfl
     try simp only[zU,zA,zB,zC]
    refine zDl (by exact HCb.out) rfl (by rfl) _ (by rfl) bab oab (by rfl) yb.1 (fun V hV=>hV.1) ?_
    try simp only[zU,zA,zB,zC]
    refine zD8 rfl (by rfl) (fun K hK=>?_)
    have g:=HCb.out.2
    go_simp
    refine hK _ _ ⟨by exact HCb.out,?_⟩;clear hK K
    try simp only[zU,zA,zB,zC]
    clear g
    refine zEa rfl (by rfl) (fun K hK=>?_)
    go_simp
    refine (zNt yb.1 xsb (peV yb) Vdb HYb.out HFb.out).mono ?_
    rintro e V1 ⟨ub,rfl,hu,hb⟩
    have HE:=zzb (HDb.out.mem hb)
    obtain⟨axb,nxb,cxb,rfl⟩:=zE1 hu
    clear hu hb HDb HYb HCb HFb
    refine hK _ _ ?_;clear hK K
    try simp only[zU,zA,zB,zC]
    refine zDp rfl (v:=?_) (by rfl) (fun W=>?_) ?_
    rotate_left
    ·go_simp
     try rfl
    try simp only[zU,zA,zB,zC]
    refine zDn ?_
    go_wp2_with (refine zDo rfl _ _ rfl q _ _ rfl rfl rfl rfl HE.out.q.there ?_)
    try rw[zzs]
    exact zzM (zEy Tryz.results112 _ _ q 0 [_,_] _ rfl (zDf _ _ _ _ (zzd HE.out.q.there _ _ _)) Tryz.underlying82 rfl zD2) rfl ⟨⟨_,_,rfl,rfl,rfl⟩,zDc _ (zzc _) _ _ _ _ (by rw[HQE.out];exact HE.out.q.bw)⟩
  | true =>
   have hpa:0<Na:=zz3 HA.out.symm
   have hia:(0:Int)<(Na:Int):=by omega
   obtain⟨baa,oaa,caa',ya,xsa,hea,hra,hya,hga⟩:=zEn (HDV.out.p (.slice aa Na ca,Pa) (by simp)) (i:=0) (by rw[<-HNa.out];omega)
   simp only[zzh]at hea
   obtain⟨rfl,-,rfl⟩:=hea
   rw[Nat.zero_mul,Nat.add_zero]at hra
   have HFa:=zzb (HSa.out (ya.1,xsa) (List.mem_iff_getElem?.2 ⟨0,hga⟩))
   have hcella:=yEr hra
   have hda:=(zze V.heap.size V).drew
   have HDa:=zzb (HDV.out.mem hda)
   have HCa:=zzb (show (World.drew V).rangeAt baa oaa (cellsOf ya.1)/\(World.drew V).cell? ⟨baa,oaa+32,none⟩=some (peV ya) from zza (zD7 hra) hcella)
   have HYa:=zzb (zDg hya hda (zzc _))
   clear hra hya hga hcella hda HDV
   go_wp2_with fail
   change Code.wp _ _ _ _ ((W0.alloc (.cells #[.int .u8 2] 5)).alloc (.cells #[.int .u8 2] 5))
   rw[<-HV.out]
   refine zDd (fun W=>W.rangeAt baa oaa (cellsOf ya.1)/\W.cell? ⟨baa,oaa+32,none⟩=some (peV ya)) [.t 0,.t 1,.t 2,.t 4,.t 5,.t 6,.s 3,.e 7 true,.e 8 false,.t 9] (by kernel_rfl) (by kernel_rfl) (by rintro _ _(_|_)_ _ h<;>exact h) ?_
   generalize World.drew V=Vda at *
   iterate 6
    refine zDp rfl (v:=?_) (by rfl) (fun W=>?_) ?_
    rotate_left
    ·go_simp
     try rfl
    try simp only[zU,zA,zB,zC]
   refine zDl (by exact HCa.out) rfl (by rfl) _ (by rfl) baa oaa (by rfl) ya.1 (fun V hV=>hV.1) ?_
   try simp only[zU,zA,zB,zC]
   refine zD8 rfl (by rfl) (fun K hK=>?_)
   have g:=HCa.out.2
   go_simp
   refine hK _ _ ⟨by exact HCa.out,?_⟩;clear hK K
   try simp only[zU,zA,zB,zC]
   clear g
   refine zEa rfl (by rfl) (fun K hK=>?_)
   go_simp
   refine (zNt ya.1 xsa (peV ya) Vda HYa.out HFa.out).mono ?_
   rintro e V1 ⟨ua,rfl,hu,hb⟩
   have HG:=zzb (HDa.out.mem hb)
   obtain⟨axa,nxa,cxa,rfl⟩:=zE1 hu
   clear hu hb HDa HYa HCa HFa
   refine hK _ _ ?_;clear hK K
   try simp only[zU,zA,zB,zC]
   refine zDp rfl (v:=?_) (by rfl) (fun W=>?_) ?_
   rotate_left
   ·go_simp
    try rfl
   try simp only[zU,zA,zB,zC]
   refine zDn ?_
   cases db with
   | false =>
    go_wp2_with (refine zDo rfl _ _ rfl q _ _ rfl rfl rfl rfl HG.out.q.there ?_)
    try rw[zzs]
    exact zzM (zEy Tryz.results112 _ _ q 0 [_,_] _ rfl (zDf _ _ _ _ (zzd HG.out.q.there _ _ _)) Tryz.underlying82 rfl zD2) rfl ⟨⟨_,_,rfl,rfl,rfl⟩,zDc _ (zzc _) _ _ _ _ (by rw[HQE.out];exact HG.out.q.bw)⟩
   | true =>
    have hpb:0<Nb:=zz3 HB.out.symm
    have hib:(0:Int)<(Nb:Int):=by omega
    obtain⟨bab,oab,cab',yb,xsb,heb,hrb,hyb,hgb⟩:=zEn (HG.out.p (.slice ab Nb cb,Pb) (by simp)) (i:=0) (by rw[<-HNb.out];omega)
    simp only[zzh]at heb
    obtain⟨rfl,-,rfl⟩:=heb
    rw[Nat.zero_mul,Nat.add_zero]at hrb
    have HFb:=zzb (HSb.out (yb.1,xsb) (List.mem_iff_getElem?.2 ⟨0,hgb⟩))
    have hcellb:=yEr hrb
    have hdb:=(zze V1.heap.size V1).drew
    have HDb:=zzb (HG.out.mem hdb)
    have HCb:=zzb (show (World.drew V1).rangeAt bab oab (cellsOf yb.1)/\(World.drew V1).cell? ⟨bab,oab+32,none⟩=some (peV yb) from zza (zD7 hrb) hcellb)
    have HYb:=zzb (zDg hyb hdb (zzc _))
    clear hrb hyb hgb hcellb hdb HG
    go_wp2_with fail
    refine zDd (fun W=>W.rangeAt bab oab (cellsOf yb.1)/\W.cell? ⟨bab,oab+32,none⟩=some (peV yb)) [.t 0,.t 1,.t 2,.t 4,.t 5,.t 6,.s 3,.e 7 true,.e 8 false,.t 9] (by kernel_rfl) (by kernel_rfl) (by rintro _ _(_|_)_ _ h<;>exact h) ?_
    generalize World.drew V1=Vdb at *
    iterate 6
     refine zDp rfl (v:=?_) (by rfl) (fun W=>?_) ?_
     rotate_left
     ·go_simp
      try rfl
     try simp only[zU,zA,zB,zC]
    refine zDl (by exact HCb.out) rfl (by rfl) _ (by rfl) bab oab (by rfl) yb.1 (fun V hV=>hV.1) ?_
    try simp only[zU,zA,zB,zC]
    refine zD8 rfl (by rfl) (fun K hK=>?_)
    have g:=HCb.out.2
    go_simp
    refine hK _ _ ⟨by exact HCb.out,?_⟩;clear hK K
    try simp only[zU,zA,zB,zC]
    clear g
    refine zEa rfl (by rfl) (fun K hK=>?_)
    go_simp
    refine (zNt yb.1 xsb (peV yb) Vdb HYb.out HFb.out).mono ?_
    rintro e V2 ⟨ub,rfl,hu,hb⟩
    have HE:=zzb (HDb.out.mem hb)
    obtain⟨axb,nxb,cxb,rfl⟩:=zE1 hu
    clear hu hb HDb HYb HCb HFb
    refine hK _ _ ?_;clear hK K
    try simp only[zU,zA,zB,zC]
    refine zDp rfl (v:=?_) (by rfl) (fun W=>?_) ?_
    rotate_left
    ·go_simp
     try rfl
    try simp only[zU,zA,zB,zC]
    refine zDn ?_
    go_wp2_with (refine zDo rfl _ _ rfl q _ _ rfl rfl rfl rfl HE.out.q.there ?_)
    try rw[zzs]
    exact zzM (zEy Tryz.results112 _ _ q 0 [_,_] _ rfl (zDf _ _ _ _ (zzd HE.out.q.there _ _ _)) Tryz.underlying82 rfl zD2) rfl ⟨⟨_,_,rfl,rfl,rfl⟩,zDc _ (zzc _) _ _ _ _ (by rw[HQE.out];exact HE.out.q.bw)⟩
 | succ n ih =>
  intro Pa Pb va vb vn w hn ha hb hN hFA hFB hlA hlB
  obtain⟨Al,hAl⟩:∃ x,x=Pa.filter (fun p=>!(Keys.kn p.1).testBit n):=⟨_,rfl⟩
  obtain⟨Ar,hAr⟩:∃ x,x=Pa.filter (fun p=>(Keys.kn p.1).testBit n):=⟨_,rfl⟩
  obtain⟨Bl,hBl⟩:∃ x,x=Pb.filter (fun p=>!(Keys.kn p.1).testBit n):=⟨_,rfl⟩
  obtain⟨Br,hBr⟩:∃ x,x=Pb.filter (fun p=>(Keys.kn p.1).testBit n):=⟨_,rfl⟩
  have la:∀ {P Q:List Keys.Pr} {f:Keys.Pr->Bool},Q=P.filter f->P.length<100000->Q.length<100000:=fun {P Q f} h1 h2=>by rw[h1];exact zzz (List.length_filter_le _ _) h2
  have lF:∀ {P Q:List Keys.Pr} {f:Keys.Pr->Bool},Q=P.filter f->(∀ p∈P,p.2.length<900000)->∀ p∈Q,p.2.length<900000:=fun {P Q f} h1 h2 p hp=>h2 p (by rw[h1]at hp;exact (List.mem_filter.1 hp).1)
  have iA:=fun (W:World) g=>zRd n Pa va W (by omega) g hlA
  have iB:=fun (W:World) g=>zRd n Pb vb W (by omega) g hlB
  rw[<-hAl,<-hAr]at iA
  rw[<-hBl,<-hBr]at iB
  have i1:=fun (v vn:Value) (W:World) g1 g2=>zOu n Al v vn W (by omega) g1 g2 (lF hAl hFA) (la hAl hlA)
  have i2:=fun (v vn:Value) (W:World) g1 g2=>zOu n Ar v vn W (by omega) g1 g2 (lF hAr hFA) (la hAr hlA)
  have i3:=fun (v vn:Value) (W:World) g1 g2=>zOu n Bl v vn W (by omega) g1 g2 (lF hBl hFB) (la hBl hlB)
  have i4:=fun (v vn:Value) (W:World) g1 g2=>zOu n Br v vn W (by omega) g1 g2 (lF hBr hFB) (la hBr hlB)
  have i5:=fun (v v' vn:Value) (W:World) g1 g2 g3=>ih Al Bl v v' vn W (by omega) g1 g2 g3 (lF hAl hFA) (lF hBl hFB) (la hAl hlA) (la hBl hlB)
  have i6:=fun (v v' vn:Value) (W:World) g1 g2 g3=>ih Ar Br v v' vn W (by omega) g1 g2 g3 (lF hAr hFA) (lF hBr hFB) (la hAr hlA) (la hBr hlB)
  have i7:=fun (v v':Value) (W:World) g1 g2=>zWq Al Bl v v' W g1 g2 (la hAl hlA)
  obtain⟨X1,hX1⟩:∃ A,A=atH n Al:=⟨_,rfl⟩
  obtain⟨X2,hX2⟩:∃ A,A=atH n Ar:=⟨_,rfl⟩
  obtain⟨X3,hX3⟩:∃ A,A=atH n Bl:=⟨_,rfl⟩
  obtain⟨X4,hX4⟩:∃ A,A=atH n Br:=⟨_,rfl⟩
  rw[<-hX1]at i1
  rw[<-hX2]at i2
  rw[<-hX3]at i3
  rw[<-hX4]at i4
  obtain⟨ds,hds⟩:∃ d,d=decide (Al=Bl):=⟨_,rfl⟩
  rw[<-hds]at i7
  obtain⟨D,hD⟩:∃ D,D=256 - (n+1):=⟨_,rfl⟩
  obtain⟨E,hE⟩:∃ E,E=256 - n:=⟨_,rfl⟩
  rw[show 255 - n=D by omega]at iA iB
  rw[<-hE]at i1 i2 i3 i4 i5 i6
  rw[<-hD]
  have HI:=zAI iA iB
  have HJ:=zAI i1 (zza i2 (zza i3 i4))
  have HK:=zAI i5 (zza i6 i7)
  obtain⟨W0,hW0⟩:∃ x,x=w.alloc (.cells #[.slice none 0 0,.slice none 0 0] 82):=⟨_,rfl⟩
  have hq0:=QW.start w
  have hb0:=al (zze w.heap.size w) (.cells #[.slice none 0 0,.slice none 0 0] 82)
  rw[<-hW0]at hq0 hb0
  have hd0:DN w W0 w.heap.size [(va,Pa),(vb,Pb)] vn:=⟨hq0,fun x hx=>by
   rcases zzK.1 hx with rfl | hx
   ·exact ha.below hb0
   ·rw[zzx.1 hx];exact hb.below hb0,hN.below hb0 (zzc _)⟩
  obtain⟨q,hq⟩:∃ q,q=w.heap.size:=⟨_,rfl⟩
  rw[<-hq]at hd0
  have HQE:=zzb hq
  have H0:=zzb hd0
  have HW0:=zzb hW0
  have hw:IntKind.i64.wrap ((D:Int)+1)=(E:Int):=by rw[zzr];omega
  have f4:decide (D=256)=false:=by simp;omega
  have f5:decide ((D:Int)=256)=false:=by simp;omega
  have f6:((D:Int) == 256)=false:=by rw[zz4];omega
  clear ha hb hN hFA hFB hlA hlB hW0 hq0 hb0 hd0 hq hn i1 i2 i3 i4 i5 i6 i7 iA iB la lF hAl hAr hBl hBr hX1 hX2 hX3 hX4 hds hD hE ih
  go_enter Tryz.func112,Tryz.ntmps112
  refine Alm.wp_cut 1 ?_
  intro T hT
  dsimp only[zKi]
  replace hT:=zzb hT
  go_wp2_with fail
  refine hT.out _ _ ?_
  clear hT
  dsimp only[zF0]
  change Code.wp _ _ _ _ (w.alloc (.cells #[.slice none 0 0,.slice none 0 0] 82))
  rw[<-HW0.out,<-HQE.out]
  clear HW0
  refine Alm.wp_cut 5 ?_
  intro T hT
  dsimp only[zKi]
  replace hT:=zzb hT
  go_wp2_with (first
   | (have _:=H0;go_at_call 154;refine (HI.out.1 _ (H0.out.p (_,_) zzC)).mono ?_;rintro e V1 ⟨vl,vr,rfl,hl,hr,hb⟩;have H1:=zzb (((H0.out.mem hb).add hr).add hl);clear H0 hl hr hb)
   | (have _:=H1;go_at_call 154;refine (HI.out.2 _ (H1.out.p (_,_) (by simp))).mono ?_;rintro e V2 ⟨vm,vq,rfl,hl,hr,hb⟩;have H2:=zzb (((H1.out.mem hb).add hr).add hl);clear H1 hl hr hb)
   | (have _:=H2;go_at_call 65;refine (HJ.out.1 _ _ _ (H2.out.p (vl,Al) (by simp)) H2.out.n).mono ?_;rintro e V3 ⟨rfl,hb⟩;have H3:=zzb (H2.out.mem hb);clear H2 hb)
   | (have _:=H3;go_at_call 65;refine (HJ.out.2.1 _ _ _ (H3.out.p (vr,Ar) (by simp)) H3.out.n).mono ?_;rintro e V4 ⟨rfl,hb⟩;have H4:=zzb (H3.out.mem hb);clear H3 hb)
   | (have _:=H4;go_at_call 155;refine (zK5 X1 X2 _).mono ?_;rintro e V5 ⟨vx,rfl,hx,hb,-⟩;obtain⟨ax,nx,cx,rfl⟩:=zE1 hx;have H5:=zAI (H4.out.mem hb) hx;clear H4 hb hx)
   | (have _:=H5;go_at_call 65;refine (HJ.out.2.2.1 _ _ _ (H5.out.1.p (vm,Bl) (by simp)) H5.out.1.n).mono ?_;rintro e V6 ⟨rfl,hb⟩;have H6:=zAI (H5.out.1.mem hb) (zDg H5.out.2 hb (zzc _));clear H5 hb)
   | (have _:=H6;go_at_call 65;refine (HJ.out.2.2.2 _ _ _ (H6.out.1.p (vq,Br) (by simp)) H6.out.1.n).mono ?_;rintro e V7 ⟨rfl,hb⟩;have H7:=zAI (H6.out.1.mem hb) (zDg H6.out.2 hb (zzc _));clear H6 hb)
   | (have _:=H7;go_at_call 155;refine (zK5 X3 X4 _).mono ?_;rintro e V8 ⟨vy,rfl,hy,hb,-⟩;obtain⟨ay,ny,cy,rfl⟩:=zE1 hy;have H8:=zzb (H7.out.1.mem hb);have HC:=zAI (zDg H7.out.2 hb (zzc _)) hy;clear H7 hb hy;have hc1:=zGu HC.out.1;have hc2:=zGu HC.out.2;clear HC;generalize zXv (zJ9 (X1,X2))=s1 at hc1;generalize zXv (zJ9 (X3,X4))=s2 at hc2;obtain⟨db,hdb⟩:∃ d,(s1.toList == s2.toList)=d:=⟨_,rfl⟩))
  refine hT.out _ _ ?_
  clear hT
  dsimp only[zF0]
  cases db with
  | false =>
   go_wp2_with (refine zDo rfl _ _ rfl q _ _ rfl rfl rfl rfl H8.out.q.there ?_)
   try rw[zzs]
   exact zzM (zEy Tryz.results112 _ _ q 0 [_,_] _ rfl (zDf _ _ _ _ (zzd H8.out.q.there _ _ _)) Tryz.underlying82 rfl zD2) rfl ⟨⟨_,_,rfl,rfl,rfl⟩,zDc _ (zzc _) _ _ _ _ (by rw[HQE.out];exact H8.out.q.bw)⟩
  | true =>
   cases ds with
   | false =>
    go_wp2_with (first
     | (have _:=H8;go_at_call 111;refine (HK.out.2.2 _ _ _ (H8.out.p (vl,Al) (by simp)) (H8.out.p (vm,Bl) (by simp))).mono ?_;rintro e V9 ⟨rfl,hb⟩;have H9:=zzb (H8.out.mem hb);clear H8 hb hc1 hc2 hdb)
     | (have _:=H9;go_at_call 112;refine (HK.out.1 _ _ _ _ (H9.out.p (vl,Al) (by simp)) (H9.out.p (vm,Bl) (by simp)) H9.out.n).mono ?_;rintro e Va ⟨⟨gx,gy,rfl,hgx,hgy⟩,hb⟩;have Ha:=zzb (H9.out.mem hb);have HG:=zAI hgx hgy;clear H9 hb hgx hgy)
     | (have _:=Ha;refine zDo rfl _ _ rfl q gx gy rfl rfl HG.out.1 HG.out.2 Ha.out.q.there ?_))
    try rw[zzs]
    exact zzM (zEy Tryz.results112 _ _ q 0 [_,_] _ rfl (zDf _ _ _ _ (zzd Ha.out.q.there _ _ _)) Tryz.underlying82 rfl zD2) rfl ⟨⟨_,_,rfl,HG.out.1,HG.out.2⟩,zDc _ (zzc _) _ _ _ _ (by rw[HQE.out];exact Ha.out.q.bw)⟩
   | true =>
    go_wp2_with (first
     | (have _:=H8;go_at_call 111;refine (HK.out.2.2 _ _ _ (H8.out.p (vl,Al) (by simp)) (H8.out.p (vm,Bl) (by simp))).mono ?_;rintro e V9 ⟨rfl,hb⟩;have H9:=zzb (H8.out.mem hb);clear H8 hb hc1 hc2 hdb)
     | (have _:=H9;go_at_call 112;refine (HK.out.2.1 _ _ _ _ (H9.out.p (vr,Ar) (by simp)) (H9.out.p (vq,Br) (by simp)) H9.out.n).mono ?_;rintro e Va ⟨⟨gx,gy,rfl,hgx,hgy⟩,hb⟩;have Ha:=zzb (H9.out.mem hb);have HG:=zAI hgx hgy;clear H9 hb hgx hgy)
     | (have _:=Ha;refine zDo rfl _ _ rfl q gx gy rfl rfl HG.out.1 HG.out.2 Ha.out.q.there ?_))
    try rw[zzs]
    exact zzM (zEy Tryz.results112 _ _ q 0 [_,_] _ rfl (zDf _ _ _ _ (zzd Ha.out.q.there _ _ _)) Tryz.underlying82 rfl zD2) rfl ⟨⟨_,_,rfl,HG.out.1,HG.out.2⟩,zDc _ (zzc _) _ _ _ _ (by rw[HQE.out];exact Ha.out.q.bw)⟩
theorem zOh(l:List UInt8)(vt v:Value)(base:Nat)(w:World)(ht:zH7 w base vt l)(hv:zDk w v l)(hl:l.length<900000):Calls Tryz.prog 33 #[vt,v] w fun e w'=>e=.returned (.bool true)/\Below w.heap.size w w':=by
 have hv0:=hv
 obtain⟨va,vc,rfl,hc1,hc2,h3⟩:=hv
 have ht0:=ht
 obtain⟨g,cap,rfl,hlie⟩:=ht
 have hcp:l.length+1<=cap/\w.rangeAt g 0 (zDi (l++[77])):=by
  rcases hlie with ⟨h0,_⟩ | ⟨g',cap',hv4,_,_,hnc,_,hr,_⟩
  ·cases h0
  ·simp only[zzh,zzj,zyn,and_true]at hv4
   obtain⟨rfl,_,rfl⟩:=hv4
   rw[zFu,zzi,zzy]at hnc
   rw[zQz]at hr
   exact⟨hnc,hr⟩
 obtain⟨n,hn⟩:∃ n,n=l.length:=⟨_,rfl⟩
 rw[<-hn]at hc1 hv0 hl hcp ⊢
 obtain⟨k1,k2,k3,k4,k5,k6,k7,k8,k9,k10⟩:=zQy hl hcp.1
 obtain⟨n1,hn1⟩:∃ m,m=n+1:=⟨_,rfl⟩
 rw[<-hn1]at k1 k6 k8 k10
 have HV:=zAI hv0 (zza hn (zza hc1 (zza hc2 (zza hl (zza hn1 hcp.2)))))
 clear hv0 hn hc1 hc2 hl hn1 hcp hlie ht0 h3
 go_enter Tryz.func33,Tryz.ntmps33
 go_wp2_with fail
 go_loopw [5] (fun iv W=>∃ i:Nat,i<=n/\iv=.int .i64 (i:Int)/\Below w.heap.size w W) (fun iv _=>n - (intOf iv).toNat)
 case atStart=>exact⟨0,zye _,rfl,zze _ _⟩
 case round =>
  obtain⟨i,hi,rfl,hB⟩:=hrel
  by_cases hlt:i<n
  ·obtain⟨d1,d2,d3,d4⟩:=zHy hlt
   have hil:i<l.length:=by rw[<-HV.out.2.1];exact hlt
   have hne:l≠[]:=by intro h;rw[h]at hil;simp at hil
   obtain⟨b,o,cap',hvf,_,_,hr⟩:=zQ6 HV.out.1 hne
   simp only[zzh]at hvf
   obtain⟨rfl,-,rfl⟩:=hvf
   have hx:=bcl hB (zN3 hr hil)
   have hr2:=zN3 HV.out.2.2.2.2.2.2 (i:=i) (by rw[zzi,zzy];omega)
   rw[List.getElem_append_left hil,zzn]at hr2
   have hx2:=bcl hB hr2
   have hd:=(zze wr.heap.size wr).drew
   generalize l[i]=s at *
   have HX:=zAI (bcl hd hx) (zza (bcl hd hx2) hB.drew)
   clear hx hx2 hr hr2 hne hil hd hB
   go_wp2_with fail
   refine zDd (fun V=>V.cell? ⟨g,i,none⟩=some (.int .u8 ((s.toNat:Nat):Int))/\V.cell? ⟨b,o+i,none⟩=some (.int .u8 ((s.toNat:Nat):Int))) [.t 0,.t 1,.t 2,.t 4,.t 5,.t 6,.s 3,.s 7,.t 8] (by kernel_rfl) (by kernel_rfl) (by rintro _ _(_|_)_ _ h<;>exact h) ?_
   generalize wr.drew=V at *
   iterate 6
    refine zDp rfl (v:=?_) (by rfl) (fun W=>?_) ?_
    rotate_left
    ·go_simp
     try rfl
    try simp only[zU,zA,zB,zC]
   refine zEx (by exact zza HX.out.2.1 HX.out.1) rfl (v:=?_) (by rfl) (fun W hSW=>?_) ?_
   rotate_left
   ·go_simp
    try rfl
   try simp only[zU,zA,zB,zC]
   refine zEx (by exact zza HX.out.2.1 HX.out.1) rfl (v:=?_) (by rfl) (fun W hSW=>?_) ?_
   rotate_left
   ·go_simp
    try rfl
   try simp only[zU,zA,zB,zC]
   refine zDp rfl (v:=?_) (by rfl) (fun W=>?_) ?_
   rotate_left
   ·go_simp
    try rfl
   try simp only[zU,zA,zB,zC]
   refine zDn ?_
   go_wp2_with fail
   have hwi:=yEg (k:=i) (by have:=HV.out;omega)
   try rw[hwi]
   have h9:=HX.out.2.2
   clear hwi HX HV k1 k2 k3 k4 k5 k6 k7 k8 k9 k10 d1 d2 d3 d4
   refine⟨⟨i+1,hlt,rfl,h9⟩,?_⟩
   clear h9
   simp only[intOf,zzF]
   omega
  ·obtain rfl:i=n:=by omega
   have hr2:=zN3 HV.out.2.2.2.2.2.2 (i:=i) (by rw[zzi,zzy,<-HV.out.2.1];omega)
   rw[List.getElem_append_right (by rw[<-HV.out.2.1];omega),zzn]at hr2
   simp only[List.getElem_singleton]at hr2
   have hx2:=bcl hB hr2
   have HX:=zzb hB
   clear hr2 hB
   have hx3:wr.cell? ⟨g,i,none⟩=some (.int .u8 77):=hx2
   clear hx2
   go_wp2_with fail
   exact zzM (zzN rfl _ _ _) rfl ⟨rfl,HX.out⟩
end Go.Proofs.YtfmgoehnbaiamaaGreatDoor
