/- Walks: splits.cut, splits.empty, splits.at. -/
import Derived.Test.YtfmgoehnbaiamaaGreatDoorD7
set_option maxRecDepth 100000
set_option maxHeartbeats 2000000
open Go Go.RowKit Alm
namespace Go.Proofs.YtfmgoehnbaiamaaGreatDoor
theorem zYz(P:List Keys.Pr)(v:Value)(d:Nat)(w:World)(hv:zDu w v P)(hd:d<256)(hn:P.length<100000)(hr:Keys.Rise P)(hs:Keys.Same (255 - d+1) P) :
  Calls Tryz.prog 149 #[v,.int .i64 (d:Int)] w fun e w'=>e=.returned (.int .i64 ((zO2 (255 - d) P:Nat):Int))/\Below w.heap.size w w':=by
 have HV:=zzb hv
 obtain⟨a,cap,rfl,h1,h2⟩:=zD9 hv
 obtain⟨N,hN⟩:∃ N,N=P.length:=⟨_,rfl⟩
 rw[<-hN]at HV h1 hn ⊢
 have HN:=zAI hN (zza hn (zza hd (zza hr hs)))
 clear hv hN h2 hn hd hr hs
 have k1:(N:Int)<=(cap:Int):=by omega
 go_enter Tryz.func149,Tryz.ntmps149
 go_wp2_with fail
 go_loopw [9] (fun iv W=>∃ j:Nat,j<=N/\iv=.int .i64 (j:Int)/\(∀ i p,P[i]? = some p->i<j->(Keys.kn p.1).testBit (255 - d)=false)/\Below w.heap.size w W) (fun iv _=>N - (intOf iv).toNat)
 case atStart=>exact⟨0,by omega,rfl,fun i p _ h=>by omega,zze _ _⟩
 case round =>
  obtain⟨j,hj,rfl,hall,hB⟩:=hrel
  have HB:=zAI hall hB
  clear hall hB
  by_cases hlt:j<N
  ·have c1:decide (j<N)=true:=by simpa using hlt
   have c1':decide ((j:Int)<(N:Int))=true:=by simp;omega
   have hj0:(0:Int)<=(j:Int):=by omega
   have hlt':(j:Int)<(N:Int):=by omega
   obtain⟨ba,oa,ca',y,xs,he1,hr1,hy1,hg1⟩:=zEn (HV.out.below HB.out.2) (i:=j) (by rw[<-HN.out.1];exact hlt)
   simp only[zzh]at he1
   obtain⟨rfl,-,rfl⟩:=he1
   have HX:=zAI hr1 hg1
   have HJ:=zAI hj hlt
   clear hr1 hy1 hg1 hj hlt
   have HG:=zzb trivial
   go_wp2_with (first
    | (have _:=HG;refine zEg rfl _ rfl ba (oa+j*33) rfl y HX.out.1 ?_)
    | (have _:=HG;refine zHz (by rfl) rfl _ _ rfl y rfl rfl ?_;intro W2 hb hr;have H2:=zAI (HB.out.2.trans (hb.mono HB.out.2.size)) (zD7 hr);clear HG hb hr)
    | (have _:=H2;refine zDb rfl _ rfl wr.heap.size 0 rfl y.1 H2.out.2 ?_))
   obtain⟨b,hb0⟩:∃ b,b=(Keys.kn y.1>>>(255 - d))%2:=⟨_,rfl⟩
   have hc:=zJe y.1 d W2 HN.out.2.2.1
   rw[<-hb0]at hc
   have HBT:=zzb hb0
   clear hb0
   refine hc.mono ?_
   clear hc
   rintro rr W3 ⟨rfl,hb⟩
   have H3:=zzb (H2.out.1.trans (hb.mono H2.out.1.size))
   clear hb H2
   by_cases hb1:b=1
   ·have hbit:(Keys.kn y.1).testBit (255 - d)=true:=(zO3 y.1 (255 - d)).1 (by rw[<-HBT.out,hb1])
    have hcc:j=zO2 (255 - d) P:=yGz HN.out.2.2.2.1 HN.out.2.2.2.2 (by rw[<-HN.out.1];exact HJ.out.1) (fun i p hp hi=>HB.out.1 i p hp hi) (fun p hp=>by
     rw[HX.out.2,zzj]at hp
     rw[<-hp];exact hbit)
    have HCC:=zzb hcc
    subst hb1
    clear hbit hcc
    go_wp2_with fail
    refine zzM (zzN rfl _ _ _) rfl ?_
    rw[<-HCC.out]
    exact⟨rfl,H3.out⟩
   ·have hbit:(Keys.kn y.1).testBit (255 - d)=false:=by
     cases h:(Keys.kn y.1).testBit (255 - d)
     ·rfl
     ·exact absurd ((zO3 y.1 (255 - d)).2 h) (by rw[<-HBT.out];exact hb1)
    have HBF:=zzb hbit
    have f1:decide (b=1)=false:=by simpa using hb1
    have f2:decide ((b:Int)=1)=false:=by simp;omega
    have f3:((b:Int) == 1)=false:=by rw[zz4];omega
    have hwj:wrap64 ((j:Int)+1)=((j+1:Nat):Int):=by have:=HN.out.2.1;have:=HJ.out.1;unfold wrap64;omega
    have HWJ:=zzb hwj
    clear hbit hb1 hwj
    go_wp2_with fail
    try rw[HWJ.out]
    refine⟨⟨j+1,HJ.out.2,rfl,fun i p hp hi=>?_,H3.out⟩,by simp only[intOf];have:=HJ.out.2;omega⟩
    by_cases hij:i<j
    ·exact HB.out.1 i p hp hij
    ·have:i=j:=by omega
     subst this
     rw[HX.out.2,zzj]at hp
     rw[<-hp];exact HBF.out
  ·have hjn:j=N:=by omega
   subst hjn
   have c1:decide (j<j)=false:=by simp
   have c1':decide ((j:Int)<(j:Int))=false:=by simp
   have hcc:j=zO2 (255 - d) P:=yGz HN.out.2.2.2.1 HN.out.2.2.2.2 (by rw[<-HN.out.1];exact zzc _) (fun i p hp hi=>HB.out.1 i p hp hi) (fun p hp=>by
    have:=(zzl.1 hp).1
    rw[<-HN.out.1]at this
    omega)
   have HCC:=zzb hcc
   clear hcc
   go_wp2_with fail
   refine zzM (zzN rfl _ _ _) rfl ?_
   rw[<-HCC.out]
   exact⟨rfl,HB.out.2⟩
theorem yEl(w:World):Calls Tryz.prog 148 #[] w fun e w'=>∃ v,e=.returned v/\zD1 w' v zJp/\(∃ a c,v=.slice a 257 c)/\Below w.heap.size w w':=by
 go_enter Tryz.func148,Tryz.ntmps148
 go_wp2_with fail
 have HE:=zzb (zNz 0 w (by omega))
 refine HE.out.mono ?_
 rintro e w1 ⟨rfl,hb1⟩
 have HB1:=zzb hb1
 clear hb1 HE
 go_wp2_with (refine wpList_plain rfl fun K hK=>?_;refine zHh 1 _ (by rfl) [em 0] rfl (by omega) (by omega) (by rfl) ?_;refine hK _ _ ?_;clear hK K)
 obtain⟨g0,hg0⟩:∃ g,g=w1.heap.size:=⟨_,rfl⟩
 have hw1:=HB1.out.size
 have h0:EW w (w1.alloc (.cells (zDs [em 0]).toArray 24)) g0 0 1:=⟨al HB1.out _,by
  rw[hg0]
  have e1:ems (0+1)=[em 0]:=rfl
  rw[e1]
  have e2:(zDs [em 0]).length=32:=by simp[zDs,zDa]
  exact⟨e2,.inr ⟨w1.heap.size,1,_,rfl,hw1,heap_alloc_new w1 _,zzc _,by unfold maxLen;omega,by rw[zzE,e2],by rw[zzD (by rw[List.toList_toArray,e2];omega)]⟩⟩⟩
 have H0:=zzb h0
 rw[<-hg0]
 clear h0 hw1 hg0 HB1
 generalize w1.alloc (.cells (zDs [em 0]).toArray 24)=W1 at *
 clear w1
 go_loopw [1,4] (fun sv_ iv W=>∃ (j:Nat) (g cap:Nat),j<=256/\sv_=.slice (some ⟨g,0,none⟩) (j+1) cap/\iv=.int .i64 (j:Int)/\EW w W g j cap) (fun _ iv _=>256 - (intOf iv).toNat)
 case atStart=>exact⟨0,g0,1,by omega,rfl,rfl,H0.out⟩
 case round =>
  clear H0
  obtain⟨j,g,cap,hj,rfl,rfl,hE⟩:=hrel
  have HE:=zzb hE
  clear hE
  by_cases hlt:j<256
  ·have c1:decide (j<256)=true:=by simpa using hlt
   have c1':decide ((j:Int)<256)=true:=by simp;omega
   obtain⟨J,hJ⟩:∃ J,J=j+1:=⟨_,rfl⟩
   have ho:=HE.out.own
   have hr:=zLm ho
   have hr1:=zG1 hr (i:=j) (by rw[zE8];omega)
   have hg1:(ems (j+1))[j]'(by rw[zE8];omega)=em j:=by
    have:=zX3 (n:=j+1) (i:=j) (by omega)
    rw[zzf (by rw[zE8];omega),zzj]at this
    exact this
   rw[hg1,zzn]at hr1
   rw[<-hJ]at ho ⊢
   have HJ:=zAI hJ hlt
   have HO:=zzb ho
   have HR:=zzb hr1
   have hw:IntKind.i64.wrap ((J:Int) - 1)=(j:Int):=by rw[zzr];omega
   have hjJ:(j:Int)<(J:Int):=by omega
   have hj0:(0:Int)<=(j:Int):=by omega
   clear ho hr hr1 hg1 hJ hlt
   go_wp2_with fail
   refine zDd (fun W=>W.rangeAt g (j*32) (cellsOf (em j))) [.t 0,.t 1,.t 2,.t 3,.t 4,.t 5,.t 7,.t 8,.t 9,.t 10,.t 11,.s 6,.e 12 true,.e 13 false,.e 14 false,.e 15 false,.t 16] (by kernel_rfl) (by kernel_rfl) (by rintro _ _(_|_)_ _ h<;>exact h) ?_
   have HB1:=zAI HE.out.bw.drew (zza (show wr.drew.rangeAt g (j*32) (cellsOf (em j)) from HR.out) (show wr.drew.ownsRow w.heap.size 24 32 (.slice (some ⟨g,0,none⟩) J cap) J (zDs (ems J)) from HO.out))
   clear HE HR HO
   generalize wr.drew=V at *
   iterate 11
    refine zDp rfl (v:=?_) (by rfl) (fun W=>?_) ?_
    rotate_left
    ·go_simp
     try rfl
    try simp only[zU,zA,zB,zC]
   refine zDl (by exact HB1.out.2.1) rfl (by rfl) _ (by rfl) g (j*32) (by rfl) (em j) (fun V hV=>hV) ?_
   try simp only[zU,zA,zB,zC]
   refine zD8 rfl (by rfl) (fun K hK=>?_)
   refine zEb _ (by rfl) g (j*32) (by rfl) (em j) HB1.out.2.1 ?_
   refine hK _ _ ⟨by exact HB1.out.2.1,?_⟩;clear hK K
   try simp only[zU,zA,zB,zC]
   refine zEa rfl (by rfl) (fun K hK=>?_)
   go_simp
   refine (zJh (em j) (em j) V).mono ?_
   rintro e V1 ⟨rfl,hb1⟩
   rw[<-zJf,<-HJ.out.1]
   have HB2:=zAI (HB1.out.1.trans (hb1.mono HB1.out.1.size)) ((zK hb1).owns HB1.out.2.2 (fun _ _ h=>h))
   clear HB1 hb1
   refine hK _ _ ?_;clear hK K
   try simp only[zU,zA,zB,zC]
   refine zEa rfl (by rfl) (fun K hK=>?_)
   refine zHh 1 _ (by rfl) [em J] rfl (by omega) (by omega) (by rfl) ?_
   have hb2:=al (zze V1.heap.size V1) (.cells (zDs [em J]).toArray 24)
   have HB3:=zAI (HB2.out.1.trans (hb2.mono HB2.out.1.size)) (zza ((zK hb2).owns HB2.out.2 (fun _ _ h=>h)) (zDh V1 (zDs [em J]).toArray 24 _ rfl))
   clear HB2 hb2
   refine hK _ _ ?_;clear hK K
   try simp only[zU,zA,zB,zC]
   generalize V1.heap.size=q at *
   generalize V1.alloc (.cells (zDs [em J]).toArray 24)=V2 at *
   refine zEa rfl (by rfl) (fun K hK=>?_)
   refine zIv _ _ (by rfl) w.heap.size (.slice (some ⟨g,0,none⟩) J cap) (ems J) [em J] J 1 (zE8 J) rfl (by rfl) HB3.out.2.1 q 0 1 (by rfl) HB3.out.2.2 (by omega) (by have:=HJ.out;omega) HB3.out.1.size ?_
   intro g3 cap3 V3 ho3 hg3 _ _
   rw[<-zZg]at ho3
   have HE3:=zzb (show EW w V3 g3 J cap3 from ⟨HB3.out.1.grown hg3 HB3.out.1.size (fun k hk=>zFx HB3.out.2.1 k hk),ho3⟩)
   clear ho3 hg3 HB3
   refine hK _ _ ?_;clear hK K
   try simp only[zU,zA,zB,zC]
   refine zDp rfl (v:=?_) (by rfl) (fun W=>?_) ?_
   rotate_left
   ·go_simp
    try rfl
   try simp only[zU,zA,zB,zC]
   refine zDn ?_
   go_wp2_with fail
   refine⟨⟨J,g3,cap3,by have:=HJ.out;omega,rfl,congrArg _ (by have:=HJ.out;omega),HE3.out⟩,?_⟩
   simp only[intOf]
   have:=HJ.out
   omega
  ·have hj6:j=256:=by omega
   subst hj6
   have hne:ems 257≠[]:=fun e=>by have:=zE8 257;rw[e]at this;cases this
   have hn:=zYg (l:=ems 257) (by rw[zE8];exact HE.out.own) hne
   have HN:=zzb hn
   have HB:=zzb HE.out.bw
   clear hn hne HE hj hlt
   go_wp2_with fail
   refine (zOy wr w.heap.size _ (ems 257) HN.out (by rw[zE8];omega)).mono ?_
   rintro e w2 ⟨rfl,hn2,hk2⟩
   have HN2:=zAI hn2.sums (HB.out.trans (hk2.below HB.out.size (fun k hk=>HN.out.own k hk)))
   clear hn2 hk2 HN HB
   go_wp2_with fail
   exact zzM (zzN rfl _ _ _) rfl ⟨.slice (some ⟨g,0,none⟩) 257 cap,rfl,HN2.out.1,⟨_,_,rfl⟩,HN2.out.2⟩
theorem yHb(n:Nat)(a:Option Addr)(cap:Nat)(vn:Value)(w:World)(hn:n<=256)(hN:zD1 w vn zJp) :
  Calls Tryz.prog 150 #[.slice a 0 cap,.int .i64 ((256 - n:Nat):Int),vn] w fun e w'=>e=.returned (sv (atH n []))/\Below w.heap.size w w':=by
 obtain⟨bn,on,cn,rfl,hcn,hr⟩:=zGz hN
 have hb0:=al (zze _ w) (.cells (zDi (List.replicate 32 0)).toArray 24)
 have ht0:=zD5 w (zDi (List.replicate 32 0)).toArray 24
 have HB0:=zAI hb0 (zza ht0 (hr _ hb0 n hn))
 obtain⟨A,hA⟩:∃ A,A=em n:=⟨_,rfl⟩
 rw[zOf,<-hA]
 rw[<-hA]at HB0
 obtain⟨D,hD⟩:∃ D,D=256 - n:=⟨_,rfl⟩
 rw[<-hD]at HB0 ⊢
 have hD0:(0:Int)<=(D:Int):=by omega
 have hD1:(D:Int)<257:=by omega
 clear hb0 ht0 hr hA hD hN
 go_enter Tryz.func150,Tryz.ntmps150
 go_wp2_with (first
  | (refine zDb rfl _ rfl bn (on+D*32) rfl A HB0.out.2.2 ?_)
  | (refine zDm rfl _ _ rfl w.heap.size 0 A rfl rfl HB0.out.2.1 ?_))
 try rw[zzs]
 exact zzM (zEe Tryz.results150 _ _ _ _ rfl (zzd HB0.out.2.1 _ _ _)) rfl ⟨rfl,zDc _ (zzc _) _ _ _ _ HB0.out.1⟩
def Small(l:List Keys.Pr):Prop:=∀ p∈l,p.2.length<140737488355000
theorem yIa:∀ (n:Nat) (P:List Keys.Pr) (v vn:Value) (w:World),n<=256->zDu w v P->zD1 w vn zJp->Keys.Rise P->Keys.Same n P->Small P->P.length<100000 ->
  Calls Tryz.prog 150 #[v,.int .i64 ((256 - n:Nat):Int),vn] w fun e w'=>e=.returned (sv (atH n P))/\Below w.heap.size w w':=by
 intro n
 induction n with
 | zero =>
  intro P v vn w hn hv hN hR hS hF hl
  by_cases hP:P=[]
  ·subst hP
   obtain⟨a,cap,rfl,h1,h2⟩:=zD9 hv
   exact yHb 0 a cap vn w hn hN
  ·obtain⟨ba,oa,ca,y,xs,rfl,hr1,hy1,hg1⟩:=zEn hv (i:=0) (zzV.2 hP)
   rw[Nat.zero_mul,Nat.add_zero]at hr1
   obtain⟨bn,on,cn,rfl,hcn,_⟩:=zGz hN
   have hxs:xs.length<140737488355000:=hF (y.1,xs) (List.mem_iff_getElem?.2 ⟨0,hg1⟩)
   have hat:atH 0 P=vl y.1 xs:=by
    rw[zPl]
    cases P with
    | nil=>cases hg1
    | cons p r =>
     simp only[List.getElem?_cons_zero,zzj]at hg1
     rw[hg1]
   obtain⟨N,hNN⟩:∃ N,N=P.length:=⟨_,rfl⟩
   have h0:N≠0:=fun e=>hP (zzu.1 (by rw[<-hNN,e]))
   rw[<-hNN]at hv ⊢
   have hb0:=al (zze _ w) (.cells (zDi (List.replicate 32 0)).toArray 24)
   have ht0:=zD5 w (zDi (List.replicate 32 0)).toArray 24
   have kk:=zK hb0
   obtain⟨A,hA⟩:∃ A,A=vl y.1 xs:=⟨_,rfl⟩
   rw[hat,<-hA]
   have HB0:=zAI hb0 (zza ht0 (zza (kk.range hr1 id) (zza (zDg hy1 hb0 (zzc _)) (zza hxs hA))))
   clear hb0 ht0 kk hr1 hy1 hg1 hxs hA hat hv hNN hN hR hS hF hl hn
   have f1:decide (N=0)=false:=by simpa using h0
   have f2:decide ((N:Int)=0)=false:=by simp;omega
   have f3:((N:Int) == 0)=false:=by rw[zz4];omega
   have f4:(0:Int)<(N:Int):=by omega
   have f5:0<N:=by omega
   obtain⟨q,hq⟩:∃ q,q=w.heap.size:=⟨_,rfl⟩
   have HQ:=zzb hq
   clear hq
   go_enter Tryz.func150,Tryz.ntmps150
   go_wp2_with fail
   have hcell:(World.drew (w.alloc (.cells (zDi (List.replicate 32 0)).toArray 24))).cell? ⟨ba,oa+32,none⟩=some (peV y):=HB0.out.2.2.1 32 (peV y) (by rw[zEf,zzo (by rw[zDa];omega),zDa];rfl)
   have HC:=zzb (show (World.drew (w.alloc (.cells (zDi (List.replicate 32 0)).toArray 24))).rangeAt ba oa (cellsOf y.1)/\_ from zza (zD7 HB0.out.2.2.1) hcell)
   have HD:=zzb (show Below w.heap.size w (World.drew (w.alloc (.cells (zDi (List.replicate 32 0)).toArray 24)))/\(World.drew (w.alloc (.cells (zDi (List.replicate 32 0)).toArray 24))).there w.heap.size 0 32/\zDk (World.drew (w.alloc (.cells (zDi (List.replicate 32 0)).toArray 24))) (peV y) xs from ⟨HB0.out.1.drew,HB0.out.2.1,zDg HB0.out.2.2.2.1 (zze _ _).drew (zzc _)⟩)
   have HXA:=zzb HB0.out.2.2.2.2
   clear hcell HB0
   refine zDd (fun W=>W.rangeAt ba oa (cellsOf y.1)/\W.cell? ⟨ba,oa+32,none⟩=some (peV y)) [.t 0,.t 1,.t 2,.t 4,.t 5,.t 6,.s 3,.e 7 true,.e 8 false,.e 9 false,.e 10 false] (by kernel_rfl) (by kernel_rfl) (by rintro _ _(_|_)_ _ h<;>exact h) ?_
   change wpS _ _ _ _ _ _ _ (World.drew (w.alloc (.cells (zDi (List.replicate 32 0)).toArray 24)))
   rw[<-HQ.out]at HD ⊢
   generalize World.drew (w.alloc (.cells (zDi (List.replicate 32 0)).toArray 24))=V at *
   iterate 6
    refine zDp rfl (v:=?_) (by rfl) (fun W=>?_) ?_
    rotate_left
    ·go_simp
     try rfl
    try simp only[zU,zA,zB,zC]
   refine zDl (by exact HC.out) rfl (by rfl) _ (by rfl) ba oa (by rfl) y.1 (fun V hV=>hV.1) ?_
   try simp only[zU,zA,zB,zC]
   refine zD8 rfl (by rfl) (fun K hK=>?_)
   have g:=HC.out.2
   go_simp
   refine hK _ _ ⟨by exact HC.out,?_⟩;clear hK K
   try simp only[zU,zA,zB,zC]
   clear g
   refine zEa rfl (by rfl) (fun K hK=>?_)
   go_simp
   refine (zS1 y.1 xs (peV y) V HD.out.2.2 HXA.out.1).mono ?_
   rintro e V0 ⟨ve,rfl,hne,hb⟩
   have H0:=zAI (HD.out.1.trans (hb.mono (by rw[HQ.out];exact HD.out.1.size))) (zza ((zK hb).there HD.out.2.1 (by decide) id) (zHl hne))
   clear hb hne HD
   refine hK _ _ ?_;clear hK K
   try simp only[zU,zA,zB,zC]
   refine zEa rfl (by rfl) (fun K hK=>?_)
   go_simp
   have HX:=zzb (zY5 (zId y.1 xs) ve V0 H0.out.2.2 (by have:=zLp y.1 xs;have:=HXA.out.1;omega))
   rw[zWz,zOm,<-HXA.out.2]at HX
   refine HX.out.mono ?_
   rintro e V1 ⟨rfl,hb⟩
   have H1:=zAI (H0.out.1.trans (hb.mono (by rw[HQ.out];exact H0.out.1.size))) ((zK hb).there H0.out.2.1 (by decide) id)
   clear hb HX H0
   refine hK _ _ ?_;clear hK K
   try simp only[zU,zA,zB,zC]
   refine zEa rfl (by rfl) (fun K hK=>?_)
   refine zEd _ _ (by rfl) q 0 A (by rfl) (by rfl) H1.out.2 ?_
   refine hK _ _ ?_;clear hK K
   try simp only[zU,zA,zB,zC]
   refine zDn ?_
   go_wp2_with fail
   try rw[zzs]
   exact zzM (zEe Tryz.results150 _ _ _ _ rfl (zzd H1.out.2 _ _ _)) rfl ⟨rfl,zDc _ (by rw[HQ.out];exact zzc _) _ _ _ _ (by rw[<-HQ.out];exact H1.out.1)⟩
 | succ n ih =>
  intro P v vn w hn hv hN hR hS hF hl
  by_cases hP:P=[]
  ·subst hP
   obtain⟨a,cap,rfl,h1,h2⟩:=zD9 hv
   exact yHb (n+1) a cap vn w hn hN
  ·obtain⟨ba,oa,ca,_,_,rfl,_,_,_⟩:=zEn hv (i:=0) (zzV.2 hP)
   obtain⟨bn,on,cn,rfl,hcn,_⟩:=zGz hN
   obtain⟨c,hc⟩:∃ c,c=zO2 n P:=⟨_,rfl⟩
   obtain⟨s1,s2⟩:=zL7 hR hS
   have hcl:c<=P.length:=by rw[hc];exact List.length_filter_le _ _
   rw[<-hc]at s1 s2
   have hat:atH (n+1) P=sd (atH n (P.take c)) (atH n (P.drop c)):=by
    rw[s1,s2]
    unfold atH
    rw[Keys.at']
   obtain⟨A,hA⟩:∃ A,A=atH n (P.take c):=⟨_,rfl⟩
   obtain⟨B,hB⟩:∃ B,B=atH n (P.drop c):=⟨_,rfl⟩
   rw[hat,<-hA,<-hB]
   have hF1:Small (P.take c):=fun p hp=>hF p (List.mem_of_mem_take hp)
   have hF2:Small (P.drop c):=fun p hp=>hF p (List.mem_of_mem_drop hp)
   have hS1:Keys.Same n (P.take c):=by rw[s1];exact zVe hS
   have hS2:Keys.Same n (P.drop c):=by rw[s2];exact zYw hS
   have hR1:Keys.Rise (P.take c):=hR.sublist (List.take_sublist _ _)
   have hR2:Keys.Rise (P.drop c):=hR.sublist (List.drop_sublist _ _)
   have i1:=fun (v vn:Value) (w:World) h1 h2=>ih (P.take c) v vn w (by omega) h1 h2 hR1 hS1 hF1 (by rw[zzq];omega)
   have i2:=fun (v vn:Value) (w:World) h1 h2=>ih (P.drop c) v vn w (by omega) h1 h2 hR2 hS2 hF2 (by rw[zz7];omega)
   rw[<-hA]at i1
   rw[<-hB]at i2
   obtain⟨D,hD⟩:∃ D,D=256 - (n+1):=⟨_,rfl⟩
   obtain⟨E,hE⟩:∃ E,E=256 - n:=⟨_,rfl⟩
   have hcut:=fun (v:Value) (w:World) (hv:zDu w v P)=>zYz P v D w hv (by omega) hl hR (by rw[show 255 - D+1=n+1 by omega];exact hS)
   rw[show 255 - D=n by omega,<-hc]at hcut
   have hDE:D+1=E/\D<=255:=by omega
   rw[<-hE]at i1 i2
   rw[<-hD]
   have HI:=zAI i1 (zza i2 hcut)
   have hb0:=al (zze _ w) (.cells (zDi (List.replicate 32 0)).toArray 24)
   have ht0:=zD5 w (zDi (List.replicate 32 0)).toArray 24
   have HB0:=zAI hb0 (zza ht0 (zza (hv.below hb0) (hN.below hb0 (zzc _))))
   obtain⟨N,hNN⟩:∃ N,N=P.length:=⟨_,rfl⟩
   have h0:N≠0:=fun e=>hP (zzu.1 (by rw[<-hNN,e]))
   rw[<-hNN]at HB0 hcl ⊢
   obtain⟨_,_,he,hca,_⟩:=zD9 (HB0.out.2.2.1)
   simp only[zzh]at he
   obtain⟨-,-,rfl⟩:=he
   rw[<-hNN]at hca
   have HNN:=zzb hNN
   clear hb0 ht0 hv hNN hN hR hS hF hl hn i1 i2 hcut hA hB hat s1 s2 hF1 hF2 hS1 hS2 hR1 hR2 hc ih
   have f1:decide (N=0)=false:=by simpa using h0
   have f2:decide ((N:Int)=0)=false:=by simp;omega
   have f3:((N:Int) == 0)=false:=by rw[zz4];omega
   have f4:decide (D=256)=false:=by simp;omega
   have f5:decide ((D:Int)=256)=false:=by simp;omega
   have f6:((D:Int) == 256)=false:=by rw[zz4];omega
   have q1:(0:Int)<=(c:Int):=by omega
   have q2:(c:Int)<=(N:Int):=by omega
   have q3:(N:Int)<=(ca:Int):=by omega
   have q4:(c:Int)<=(ca:Int):=by omega
   have hw:IntKind.i64.wrap ((D:Int)+1)=(E:Int):=by rw[zzr];omega
   obtain⟨q,hq⟩:∃ q,q=w.heap.size:=⟨_,rfl⟩
   have HQ:=zzb hq
   clear hq hD hE
   go_enter Tryz.func150,Tryz.ntmps150
   go_wp2_with fail
   refine (HI.out.2.2 _ (w.alloc (.cells (zDi (List.replicate 32 0)).toArray 24)) HB0.out.2.2.1).mono ?_
   rintro e W1 ⟨rfl,hb⟩
   have H1:=zAI (HB0.out.1.trans (hb.mono HB0.out.1.size)) (zza ((zK hb).there HB0.out.2.1 (by decide) id) (zza (HB0.out.2.2.1.below hb) (HB0.out.2.2.2.below hb (zzc _))))
   rw[<-HQ.out]at H1 ⊢
   clear hb HB0
   go_wp2_with fail
   refine zDd (fun W=>True) [.t 0,.t 1,.t 2,.t 3,.t 4,.t 5,.t 7,.t 8,.t 9,.t 10,.t 11,.t 12,.e 6 false,.e 13 false,.e 14 false,.e 15 false] (by kernel_rfl) (by kernel_rfl) (by rintro _ _(_|_)_ _ h<;>exact h) ?_
   have H2:=zzb (show Below w.heap.size w W1.drew/\W1.drew.there q 0 32/\zDu W1.drew (.slice (some ⟨ba,oa,none⟩) N ca) P/\zD1 W1.drew (.slice (some ⟨bn,on,none⟩) 257 cn) zJp from ⟨by rw[<-HQ.out];exact H1.out.1.drew,H1.out.2.1,H1.out.2.2.1.below (zze _ _).drew,H1.out.2.2.2.below (zze _ _).drew (zzc _)⟩)
   clear H1
   generalize W1.drew=V at *
   iterate 12
    refine zDp rfl (v:=?_) (by rfl) (fun W=>?_) ?_
    rotate_left
    ·go_simp
     try rfl
    try simp only[zU,zA,zB,zC]
   have hPt:zDu V (.slice (some ⟨ba,oa,none⟩) c ca) (P.take c):=by
    have h:=H2.out.2.2.1
    rw[HNN.out]at h
    exact h.take (by rw[<-HNN.out];exact hcl)
   have hPd:zDu V (.slice (if ca=c then some ⟨ba,oa,none⟩ else some ⟨ba,oa+c*33,none⟩) (N - c) (ca - c)) (P.drop c):=by
    have h:=H2.out.2.2.1
    rw[HNN.out]at h
    have h2:=h.drop' (i:=c) (by rw[<-HNN.out];exact hcl)
    rw[<-HNN.out]at h2
    exact h2
   have HPP:=zAI hPt hPd
   clear hPt hPd
   refine zEa rfl (by rfl) (fun K hK=>?_)
   go_simp
   refine (HI.out.1 _ _ V HPP.out.1 H2.out.2.2.2).mono ?_
   rintro e V1 ⟨rfl,hb⟩
   have H3:=zAI (H2.out.1.trans (hb.mono H2.out.1.size)) (zza ((zK hb).there H2.out.2.1 (by decide) id) (zza (HPP.out.2.below hb) (H2.out.2.2.2.below hb (zzc _))))
   clear hb H2 HPP
   refine hK _ _ ?_;clear hK K
   try simp only[zU,zA,zB,zC]
   refine zEa rfl (by rfl) (fun K hK=>?_)
   go_simp
   refine (HI.out.2.1 _ _ V1 H3.out.2.2.1 H3.out.2.2.2).mono ?_
   rintro e V2 ⟨rfl,hb⟩
   have H4:=zAI (H3.out.1.trans (hb.mono H3.out.1.size)) ((zK hb).there H3.out.2.1 (by decide) id)
   clear hb H3
   refine hK _ _ ?_;clear hK K
   try simp only[zU,zA,zB,zC]
   refine zEa rfl (by rfl) (fun K hK=>?_)
   go_simp
   refine (zJh A B V2).mono ?_
   rintro e V3 ⟨rfl,hb⟩
   have H5:=zAI (H4.out.1.trans (hb.mono H4.out.1.size)) ((zK hb).there H4.out.2 (by decide) id)
   clear hb H4
   refine hK _ _ ?_;clear hK K
   try simp only[zU,zA,zB,zC]
   refine zEa rfl (by rfl) (fun K hK=>?_)
   refine zEd _ _ (by rfl) q 0 (sd A B) (by rfl) (by rfl) H5.out.2 ?_
   refine hK _ _ ?_;clear hK K
   try simp only[zU,zA,zB,zC]
   refine zDn ?_
   go_wp2_with fail
   all_goals exact zzM (zEe Tryz.results150 _ _ _ _ rfl (zzd H5.out.2 _ _ _)) rfl ⟨rfl,zDc _ (by rw[HQ.out];exact zzc _) _ _ _ _ H5.out.1⟩
end Go.Proofs.YtfmgoehnbaiamaaGreatDoor
