/- Joined: SO8, SO4. -/
import Derived.Test.YtfmgoehnbaiamaaGreatDoorZBD
set_option maxRecDepth 100000
set_option maxHeartbeats 4000000
open Go Go.RowKit Alm
namespace Go.Proofs.YtfmgoehnbaiamaaGreatDoor
variable {p1 p2:List (PE×List UInt8)}{L0 Ld P:List Keys.Pr}{S:List Sum}{D j n t:Nat}{k which:Sum}{v1 v2 vS:Value}{W W' W0:World}
structure zTd(W0 W:World)(v1 v2:Value)(p1 p2:List (PE×List UInt8)):Prop where
 below:Below W0.heap.size W0 W
 r1:W.ownsRow W0.heap.size 41 33 v1 p1.length (zDz (p1.map Prod.fst))
 r2:W.ownsRow W0.heap.size 41 33 v2 p2.length (zDz (p2.map Prod.fst))
 e1:∀ c∈p1,zDk W0 (peV c.1) c.2
 e2:∀ c∈p2,zDk W0 (peV c.1) c.2
 dis:∀ k,v1.ownBlock=some k->v2.ownBlock≠some k
theorem zTd.nil(W:World):zTd W W (.slice none 0 0) (.slice none 0 0) [] []:=⟨zze _ _,World.ownsRow_nil _ _ _ _,World.ownsRow_nil _ _ _ _,fun c hc=>(by cases hc),fun c hc=>(by cases hc),fun k hk=>(by cases hk)⟩
theorem zTd.swap(h:zTd W0 W v1 v2 p1 p2):zTd W0 W v2 v1 p2 p1:=⟨h.below,h.r2,h.r1,h.e2,h.e1,fun k hk h2=>h.dis k h2 hk⟩
theorem zTd.mem(h:zTd W0 W v1 v2 p1 p2)(hb:Below W.heap.size W W'):zTd W0 W' v1 v2 p1 p2 :=
 ⟨h.below.trans (hb.mono h.below.size),(zK hb).owns h.r1 (fun _ _ h=>h),(zK hb).owns h.r2 (fun _ _ h=>h),h.e1,h.e2,h.dis⟩
theorem zTd.push(h:zTd W0 W v1 v2 p1 p2){y:PE}{b:List UInt8}(hy:zDk W0 (peV y) b){g m cap:Nat}(hm:m=p1.length+1)
  (ho:W'.ownsRow W0.heap.size 41 33 (.slice (some ⟨g,0,none⟩) m cap) m (zDz (p1.map Prod.fst++[y]))) (hg:W.grownBy W' v1.ownBlock) (hat:v1.ownBlock=some g∨g=W.heap.size):zTd W0 W' (.slice (some ⟨g,0,none⟩) m cap) v2 (p1++[(y,b)]) p2:=by
 have hk:zDj (fun k=>v1.ownBlock=some k) W W':=zDj.of_grown hg (fun k hk=>hk)
 refine⟨h.below.trans (hk.below h.below.size (fun k hk=>zFx h.r1 k hk)),?_,hk.owns h.r2 (fun k h2 h1=>h.dis k h1 h2),fun c hc=>?_,h.e2,fun k ek e2=>?_⟩
 ·rw[zzi,zzy,<-hm,zyh];exact ho
 ·rcases zzO.1 hc with hc | hc
  ·exact h.e1 c hc
  ·rw[zzx.1 hc];exact hy
 ·obtain rfl:g=k:=by simpa[Value.ownBlock]using ek
  rcases hat with e3 | e3
  ·exact h.dis _ e3 e2
  ·have:=zI2 h.r2 e2;omega
theorem zTd.pairs(h:zTd W0 W v1 v2 p1 p2)(hP:p1.map (fun c=>(c.1.1,c.2))=P):zDu W v1 P:=yF7 h.r1 h.e1 h.below hP
theorem zFv{x:Keys.Pr}(h:P[j]? = some x)(f:Keys.Pr->Bool):(P.take (j+1)).filter f=(P.take j).filter f++(if f x then [x] else []):=by
 have hj:=(zzl.1 h).1
 have e:=(zzl.1 h).2
 rw[zzJ hj,List.filter_append,e]
 congr 1
 simp[List.filter_cons]
theorem zMq{p:List (PE×List UInt8)}{f:Keys.Pr->Bool}(h:p.map (fun c=>(c.1.1,c.2))=(P.take j).filter f):p.length<=j:=by
 have h1:=congrArg List.length h
 rw[zzm]at h1
 have h2:=List.length_filter_le f (P.take j)
 rw[zzq]at h2
 omega
theorem yGm(n:Nat)(a:Option Addr)(cap:Nat)(vn:Value)(w:World)(hn:n<=256)(hN:zD1 w vn zJp):
  Calls Tryz.prog 65 #[.slice a 0 cap,.int .i64 ((256 - n:Nat):Int),vn] w fun e w'=>e=.returned (sv (atH n []))/\Below w.heap.size w w':=by
 obtain⟨bn,on,cn,rfl,hcn,hr⟩:=zGz hN
 have hb0:=al (zze _ w) (.cells (zDi (List.replicate 32 0)).toArray 24)
 have ht0:=zD5 w (zDi (List.replicate 32 0)).toArray 24
 have HB0:=zAI hb0 (zza ht0 (hr _ hb0 n hn))
 obtain⟨A,hA⟩:∃ A,A=em n:=⟨_,rfl⟩
 rw[zOf,<-hA]
 rw[<-hA]at HB0
 obtain⟨D,hD⟩:∃ D,D=256 - n:=⟨_,rfl⟩
 rw[<-hD]at HB0 ⊢
 have hD0:(0:Int)<=(D:Int):=by omega
 have hD1:(D:Int)<257:=by omega
 clear hb0 ht0 hr hA hD hN
 go_enter Tryz.func65,Tryz.ntmps65
 go_wp2_with (first
  | (refine zDb rfl _ rfl bn (on+D*32) rfl A HB0.out.2.2 ?_)
  | (refine zDm rfl _ _ rfl w.heap.size 0 A rfl rfl HB0.out.2.1 ?_))
 try rw[zzs]
 exact zzM (zEe Tryz.results65 _ _ _ _ rfl (zzd HB0.out.2.1 _ _ _)) rfl ⟨rfl,zDc _ (zzc _) _ _ _ _ HB0.out.1⟩
theorem zOu:∀ (n:Nat) (P:List Keys.Pr) (v vn:Value) (w:World),n<=256->zDu w v P->zD1 w vn zJp->(∀ p∈P,p.2.length<900000)->P.length<100000 ->
  Calls Tryz.prog 65 #[v,.int .i64 ((256 - n:Nat):Int),vn] w fun e w'=>e=.returned (sv (atH n P))/\Below w.heap.size w w':=by
 intro n
 induction n with
 | zero =>
  intro P v vn w hn hv hN hF hl
  by_cases hP:P=[]
  ·subst hP
   obtain⟨a,cap,rfl,h1,h2⟩:=zD9 hv
   exact yGm 0 a cap vn w hn hN
  ·obtain⟨ba,oa,ca,y,xs,rfl,hr1,hy1,hg1⟩:=zEn hv (i:=0) (zzV.2 hP)
   rw[Nat.zero_mul,Nat.add_zero]at hr1
   obtain⟨bn,on,cn,rfl,hcn,_⟩:=zGz hN
   have hxs:xs.length<900000:=hF (y.1,xs) (List.mem_iff_getElem?.2 ⟨0,hg1⟩)
   have hat:atH 0 P=vl y.1 xs:=by
    rw[zPl]
    cases P with
    | nil=>cases hg1
    | cons p r =>
     simp only[List.getElem?_cons_zero,zzj]at hg1
     rw[hg1]
   obtain⟨N,hNN⟩:∃ N,N=P.length:=⟨_,rfl⟩
   have h0:N≠0:=fun e=>hP (zzu.1 (by rw[<-hNN,e]))
   rw[<-hNN]at hv ⊢
   have hb0:=al (zze _ w) (.cells (zDi (List.replicate 32 0)).toArray 24)
   have ht0:=zD5 w (zDi (List.replicate 32 0)).toArray 24
   have kk:=zK hb0
   obtain⟨A,hA⟩:∃ A,A=vl y.1 xs:=⟨_,rfl⟩
   rw[hat,<-hA]
   have HB0:=zAI hb0 (zza ht0 (zza (kk.range hr1 id) (zza (zDg hy1 hb0 (zzc _)) (zza hxs hA))))
   clear hb0 ht0 kk hr1 hy1 hg1 hxs hA hat hv hNN hN hF hl hn
   have f1:decide (N=0)=false:=by simpa using h0
   have f2:decide ((N:Int)=0)=false:=by simp;omega
   have f3:((N:Int) == 0)=false:=by rw[zz4];omega
   have f4:(0:Int)<(N:Int):=by omega
   have f5:0<N:=by omega
   obtain⟨q,hq⟩:∃ q,q=w.heap.size:=⟨_,rfl⟩
   have HQ:=zzb hq
   clear hq
   go_enter Tryz.func65,Tryz.ntmps65
   go_wp2_with fail
   have hcell:(World.drew (w.alloc (.cells (zDi (List.replicate 32 0)).toArray 24))).cell? ⟨ba,oa+32,none⟩=some (peV y):=HB0.out.2.2.1 32 (peV y) (by rw[zEf,zzo (by rw[zDa];omega),zDa];rfl)
   have HC:=zzb (show (World.drew (w.alloc (.cells (zDi (List.replicate 32 0)).toArray 24))).rangeAt ba oa (cellsOf y.1)/\_ from zza (zD7 HB0.out.2.2.1) hcell)
   have HD:=zzb (show Below w.heap.size w (World.drew (w.alloc (.cells (zDi (List.replicate 32 0)).toArray 24)))/\(World.drew (w.alloc (.cells (zDi (List.replicate 32 0)).toArray 24))).there w.heap.size 0 32/\zDk (World.drew (w.alloc (.cells (zDi (List.replicate 32 0)).toArray 24))) (peV y) xs from ⟨HB0.out.1.drew,HB0.out.2.1,zDg HB0.out.2.2.2.1 (zze _ _).drew (zzc _)⟩)
   have HXA:=zzb HB0.out.2.2.2.2
   clear hcell HB0
   refine zDd (fun W=>W.rangeAt ba oa (cellsOf y.1)/\W.cell? ⟨ba,oa+32,none⟩=some (peV y)) [.t 0,.t 1,.t 2,.t 4,.t 5,.t 6,.s 3,.e 7 true,.e 8 false,.e 9 false] (by kernel_rfl) (by kernel_rfl) (by rintro _ _(_|_)_ _ h<;>exact h) ?_
   change wpS _ _ _ _ _ _ _ (World.drew (w.alloc (.cells (zDi (List.replicate 32 0)).toArray 24)))
   rw[<-HQ.out]at HD ⊢
   generalize World.drew (w.alloc (.cells (zDi (List.replicate 32 0)).toArray 24))=V at *
   iterate 6
    refine zDp rfl (v:=?_) (by rfl) (fun W=>?_) ?_
    rotate_left
    ·go_simp
     try rfl
    try simp only[zU,zA,zB,zC]
   refine zDl (by exact HC.out) rfl (by rfl) _ (by rfl) ba oa (by rfl) y.1 (fun V hV=>hV.1) ?_
   try simp only[zU,zA,zB,zC]
   refine zD8 rfl (by rfl) (fun K hK=>?_)
   have g:=HC.out.2
   go_simp
   refine hK _ _ ⟨by exact HC.out,?_⟩;clear hK K
   try simp only[zU,zA,zB,zC]
   clear g
   refine zEa rfl (by rfl) (fun K hK=>?_)
   go_simp
   have HX:=zzb (zTl y.1 xs (peV y) V HD.out.2.2 (by have:=HXA.out.1;omega))
   rw[<-HXA.out.2]at HX
   refine HX.out.mono ?_
   rintro e V1 ⟨rfl,hb⟩
   have H1:=zAI (HD.out.1.trans (hb.mono (by rw[HQ.out];exact HD.out.1.size))) ((zK hb).there HD.out.2.1 (by decide) id)
   clear hb HX HD
   refine hK _ _ ?_;clear hK K
   try simp only[zU,zA,zB,zC]
   refine zEa rfl (by rfl) (fun K hK=>?_)
   refine zEd _ _ (by rfl) q 0 A (by rfl) (by rfl) H1.out.2 ?_
   refine hK _ _ ?_;clear hK K
   try simp only[Act.put]
   refine zDn ?_
   go_wp2_with fail
   try rw[zzs]
   exact zzM (zEe Tryz.results65 _ _ _ _ rfl (zzd H1.out.2 _ _ _)) rfl ⟨rfl,zDc _ (by rw[HQ.out];exact zzc _) _ _ _ _ (by rw[<-HQ.out];exact H1.out.1)⟩
 | succ n ih =>
  intro P v vn w hn hv hN hF hl
  by_cases hP:P=[]
  ·subst hP
   obtain⟨a,cap,rfl,h1,h2⟩:=zD9 hv
   exact yGm (n+1) a cap vn w hn hN
  ·have hx0:=zEn hv (i:=0) (zzV.2 hP)
   obtain⟨ba,oa,ca,_,_,rfl,_,_,_⟩:=hx0
   obtain⟨_,_,he,hca,_⟩:=zD9 hv
   simp only[zzh]at he
   obtain⟨-,-,rfl⟩:=he
   obtain⟨one,h1⟩:∃ x,x=P.filter (fun p=>!(Keys.kn p.1).testBit n):=⟨_,rfl⟩
   obtain⟨two,h2⟩:∃ x,x=P.filter (fun p=>(Keys.kn p.1).testBit n):=⟨_,rfl⟩
   have hat:atH (n+1) P=sd (atH n one) (atH n two):=by
    rw[h1,h2]
    unfold atH
    rw[Keys.at']
   obtain⟨A,hA⟩:∃ A,A=atH n one:=⟨_,rfl⟩
   obtain⟨B,hB⟩:∃ B,B=atH n two:=⟨_,rfl⟩
   rw[hat,<-hA,<-hB]
   have hl1:one.length<=P.length:=by rw[h1];exact List.length_filter_le _ _
   have hl2:two.length<=P.length:=by rw[h2];exact List.length_filter_le _ _
   have i1:=fun (v vn:Value) (w:World) g1 g2=>ih one v vn w (by omega) g1 g2 (fun p hp=>hF p (by rw[h1]at hp;exact (List.mem_filter.1 hp).1)) (by omega)
   have i2:=fun (v vn:Value) (w:World) g1 g2=>ih two v vn w (by omega) g1 g2 (fun p hp=>hF p (by rw[h2]at hp;exact (List.mem_filter.1 hp).1)) (by omega)
   rw[<-hA]at i1
   rw[<-hB]at i2
   obtain⟨D,hD⟩:∃ D,D=256 - (n+1):=⟨_,rfl⟩
   obtain⟨E,hE⟩:∃ E,E=256 - n:=⟨_,rfl⟩
   rw[<-hE]at i1 i2
   rw[<-hD]
   have HI:=zAI i1 i2
   have HFI:=zAI h1 h2
   obtain⟨W0,hW0⟩:∃ x,x=w.alloc (.cells (zDi (List.replicate 32 0)).toArray 24):=⟨_,rfl⟩
   have hb0:Below w.heap.size w W0:=by rw[hW0];exact al (zze _ w) _
   have ht0:W0.there w.heap.size 0 32:=by rw[hW0];exact zD5 w (zDi (List.replicate 32 0)).toArray 24
   have HB0:=zAI trivial (zza ht0 (zza (hv.below hb0) (hN.below hb0 (zzc _))))
   have HBW:=zzb hb0
   obtain⟨N,hNN⟩:∃ N,N=P.length:=⟨_,rfl⟩
   have h0:N≠0:=fun e=>hP (zzu.1 (by rw[<-hNN,e]))
   rw[<-hNN]at HB0 hca hl ⊢
   have HNN:=zzb hNN
   have HNB:=zzb hl
   have HDE:=zzb (show D+1=E/\D<=255/\255 - D=n by omega)
   have hw:IntKind.i64.wrap ((D:Int)+1)=(E:Int):=by rw[zzr];omega
   have f4:decide (D=256)=false:=by simp;omega
   have f5:decide ((D:Int)=256)=false:=by simp;omega
   have f6:((D:Int) == 256)=false:=by rw[zz4];omega
   clear hb0 ht0 hv hNN hN hF hl hn i1 i2 hA hB hat h1 h2 ih hP hl1 hl2 hD hE
   have f1:decide (N=0)=false:=by simpa using h0
   have f2:decide ((N:Int)=0)=false:=by simp;omega
   have f3:((N:Int) == 0)=false:=by rw[zz4];omega
   have q3:(N:Int)<=(ca:Int):=by omega
   obtain⟨q,hq⟩:∃ q,q=w.heap.size:=⟨_,rfl⟩
   have HQ:=zzb hq
   rw[<-hq]at HB0
   have HW0:=zzb hW0
   clear hq hW0
   go_enter Tryz.func65,Tryz.ntmps65
   refine Alm.wp_cut 1 ?_
   intro T hT
   dsimp only[zKi]
   replace hT:=zzb hT
   go_wp2_with fail
   refine hT.out _ _ ?_
   clear hT
   dsimp only[zF0]
   change Code.wp _ _ _ _ (w.alloc (.cells (zDi (List.replicate 32 0)).toArray 24))
   rw[<-HW0.out,<-HQ.out]
   clear HW0
   go_wp2_with fail
   clear f1 f2 f3 f4 f5 f6
   go_loopw [7,8,9] (fun u7 u8 iv W=>∃ (j:Nat) (p1 p2:List (PE×List UInt8)),j<=N/\iv=.int .i64 (j:Int)/\(∃ a c,u7=.slice a p1.length c)/\(∃ a c,u8=.slice a p2.length c)/\zTd W0 W u7 u8 p1 p2/\p1.map (fun c=>(c.1.1,c.2))=(P.take j).filter (fun p=>!(Keys.kn p.1).testBit n)/\p2.map (fun c=>(c.1.1,c.2))=(P.take j).filter (fun p=>(Keys.kn p.1).testBit n)) (fun _ _ iv _=>N - (intOf iv).toNat)
   case atStart=>exact⟨0,[],[],by omega,rfl,⟨_,_,rfl⟩,⟨_,_,rfl⟩,zTd.nil _,rfl,rfl⟩
   case round =>
    obtain⟨j,p1,p2,hj,rfl,⟨a1,c1,rfl⟩,⟨a2,c2,rfl⟩,hR,hF1,hF2⟩:=hrel
    have HR:=zzb hR
    have HF:=zAI hF1 hF2
    have HLN:=zAI (zMq hF1) (zMq hF2)
    clear hR hF1 hF2
    by_cases hlt:j<N
    ·have g1:decide (j<N)=true:=by simpa using hlt
     have g1':decide ((j:Int)<(N:Int))=true:=by simp;omega
     have hj0:(0:Int)<=(j:Int):=by omega
     have hlt':(j:Int)<(N:Int):=by omega
     have HJ:=zAI hj hlt
     clear hj
     have hPA:=HB0.out.2.2.1
     rw[HNN.out]at hPA
     obtain⟨ba',oa',ca',y,yb,he1,hr1,hyb,hyP⟩:=zEn hPA (i:=j) (by rw[<-HNN.out];exact hlt)
     simp only[zzh,zzj,zyn]at he1
     obtain⟨⟨rfl,rfl,-⟩,-,rfl⟩:=he1
     have HYB:=zzb hyb
     have HYP:=zzb hyP
     have HX1:=zzb ((zK HR.out.below).range hr1 id)
     clear hPA hr1 hyb hyP hlt
     have hbit:=Keys.bit_odd (Keys.kn y.1) n
     obtain⟨qb,hqb⟩:∃ q,q=(Keys.kn y.1>>>n)%2:=⟨_,rfl⟩
     have hbi:=fun W=>zIz y.1 D W (by have:=HDE.out;omega)
     rw[HDE.out.2.2,<-hqb]at hbi
     rw[<-hqb]at hbit
     have hq2:qb<2:=by rw[hqb];exact zym _ (by decide)
     clear hqb
     have hcase:qb=0∨qb=1:=by omega
     rcases hcase with rfl | rfl
     ·rw[show ((0:Nat):Int)=0 from rfl]at hbi
      have HBI:=zzb hbi
      have hbt:(Keys.kn y.1).testBit n=false:=by rw[hbit];rfl
      have HBT:=zzb hbt
      clear hbi hbit hq2 hbt
      go_wp2_with (refine zDb rfl _ rfl ba (oa+j*33) rfl y.1 (zD7 HX1.out) ?_)
      refine (HBI.out _).mono ?_
      rintro e V1 ⟨rfl,hb1⟩
      have HR1:=zzb (HR.out.mem hb1)
      have HX:=zzb ((zK hb1).range HX1.out id)
      clear HX1 HR hb1 HBI
      have HX1:=zzb HX.out
      clear HX
      have HG:=zzb trivial
      go_wp2_with (first
       | (have _:=HG;refine zEg rfl _ rfl ba (oa+j*33) rfl y HX1.out ?_)
       | (have _:=HG;refine zE3 rfl 1 _ rfl [y] rfl (by omega) (by omega) rfl ?_;have hb2:=al (zze V1.heap.size V1) (.cells (zDz [y]).toArray 41);have HP3:=zAI (HR1.out.mem hb2) (zDh V1 (zDz [y]).toArray 41 _ rfl);clear HG hb2;generalize V1.heap.size=y8 at *;generalize V1.alloc (.cells (zDz [y]).toArray 41)=V2 at *)
       | (have _:=HP3;refine zEr rfl _ _ rfl W0.heap.size (.slice a1 p1.length c1) (p1.map Prod.fst) [y] p1.length 1 (by rw[zzm]) rfl rfl (by have hx:=HP3.out.1.r1;exact hx) y8 0 1 rfl HP3.out.2 (by omega) (by have:=HLN.out;have:=HNB.out;have:=HJ.out;omega) HP3.out.1.below.size ?_;intro g9 cap9 V4 ho9 hg9 hat9 _;have HQ9:=zzb ((HP3.out.1.push (y:=y) (b:=yb) (m:=p1.length+1) HYB.out (by rfl) ho9 hg9 hat9));clear ho9 hg9 hat9 HP3))
      have hwj:wrap64 ((j:Int)+1)=((j+1:Nat):Int):=by have:=HNB.out;have:=HJ.out;unfold wrap64;omega
      try rw[hwj]
      clear hwj
      exact⟨⟨j+1,p1++[(y,yb)],p2,by have:=HJ.out;omega,rfl,⟨_,_,by rw[zzi,zzy]⟩,⟨_,_,rfl⟩,HQ9.out,by rw[zFv HYP.out,zyh,HF.out.1];simp[HBT.out],by rw[zFv HYP.out,HF.out.2];simp[HBT.out]⟩,by simp only[intOf];have:=HJ.out;omega⟩
     ·rw[show ((1:Nat):Int)=1 from rfl]at hbi
      have HBI:=zzb hbi
      have hbt:(Keys.kn y.1).testBit n=true:=by rw[hbit];rfl
      have HBT:=zzb hbt
      clear hbi hbit hq2 hbt
      go_wp2_with (refine zDb rfl _ rfl ba (oa+j*33) rfl y.1 (zD7 HX1.out) ?_)
      refine (HBI.out _).mono ?_
      rintro e V1 ⟨rfl,hb1⟩
      have HR1:=zzb (HR.out.mem hb1)
      have HX:=zzb ((zK hb1).range HX1.out id)
      clear HX1 HR hb1 HBI
      have HX1:=zzb HX.out
      clear HX
      have HG:=zzb trivial
      go_wp2_with (first
       | (have _:=HG;refine zEg rfl _ rfl ba (oa+j*33) rfl y HX1.out ?_)
       | (have _:=HG;refine zE3 rfl 1 _ rfl [y] rfl (by omega) (by omega) rfl ?_;have hb2:=al (zze V1.heap.size V1) (.cells (zDz [y]).toArray 41);have HP3:=zAI (HR1.out.mem hb2) (zDh V1 (zDz [y]).toArray 41 _ rfl);clear HG hb2;generalize V1.heap.size=y8 at *;generalize V1.alloc (.cells (zDz [y]).toArray 41)=V2 at *)
       | (have _:=HP3;refine zEr rfl _ _ rfl W0.heap.size (.slice a2 p2.length c2) (p2.map Prod.fst) [y] p2.length 1 (by rw[zzm]) rfl rfl (by have hx:=HP3.out.1.r2;exact hx) y8 0 1 rfl HP3.out.2 (by omega) (by have:=HLN.out;have:=HNB.out;have:=HJ.out;omega) HP3.out.1.below.size ?_;intro g9 cap9 V4 ho9 hg9 hat9 _;have HQ9:=zzb ((HP3.out.1.swap.push (y:=y) (b:=yb) (m:=p2.length+1) HYB.out (by rfl) ho9 hg9 hat9).swap);clear ho9 hg9 hat9 HP3))
      have hwj:wrap64 ((j:Int)+1)=((j+1:Nat):Int):=by have:=HNB.out;have:=HJ.out;unfold wrap64;omega
      try rw[hwj]
      clear hwj
      exact⟨⟨j+1,p1,p2++[(y,yb)],by have:=HJ.out;omega,rfl,⟨_,_,rfl⟩,⟨_,_,by rw[zzi,zzy]⟩,HQ9.out,by rw[zFv HYP.out,HF.out.1];simp[HBT.out],by rw[zFv HYP.out,zyh,HF.out.2];simp[HBT.out]⟩,by simp only[intOf];have:=HJ.out;omega⟩
    ·have g1:decide (j<N)=false:=by simpa using hlt
     have g1':decide ((j:Int)<(N:Int))=false:=by simp;omega
     have hjN:j=N:=by omega
     have htk:P.take j=P:=zzD (by rw[<-HNN.out];omega)
     have hF1:=HF.out.1
     have hF2:=HF.out.2
     rw[htk,<-HFI.out.1]at hF1
     rw[htk,<-HFI.out.2]at hF2
     have H1:=zAI (HBW.out.trans (HR.out.below.mono HBW.out.size)) (zza ((zK HR.out.below).there HB0.out.2.1 (by decide) id) (zza (HR.out.pairs hF1) (zza (HR.out.swap.pairs hF2) (HB0.out.2.2.2.below HR.out.below (zzc _)))))
     clear hF1 hF2 htk hjN hlt hj HR HF
     have HG:=zzb trivial
     go_wp2_with (first
      | (have _:=HG;go_at_call 65;refine (HI.out.1 _ _ _ H1.out.2.2.1 H1.out.2.2.2.2).mono ?_;rintro e V1 ⟨rfl,hb1⟩;have H2:=zAI (H1.out.1.trans (hb1.mono H1.out.1.size)) (zza ((zK hb1).there H1.out.2.1 (by decide) id) (zza (H1.out.2.2.2.1.below hb1) (H1.out.2.2.2.2.below hb1 (zzc _))));clear hb1 HG)
      | (have _:=H2;go_at_call 65;refine (HI.out.2 _ _ _ H2.out.2.2.1 H2.out.2.2.2).mono ?_;rintro e V2 ⟨rfl,hb2⟩;have H3:=zAI (H2.out.1.trans (hb2.mono H2.out.1.size)) ((zK hb2).there H2.out.2.1 (by decide) id);clear hb2 H2)
      | (go_at_call 125;refine (zHm A B _).mono ?_;rintro e V3 ⟨rfl,hb3⟩;have H4:=zAI (H3.out.1.trans (hb3.mono H3.out.1.size)) ((zK hb3).there H3.out.2 (by decide) id);clear hb3 H3)
      | (refine zDm rfl _ _ rfl q 0 (sd A B) rfl rfl H4.out.2 ?_))
     try rw[zzs]
     exact zzM (zEe Tryz.results65 _ _ _ _ rfl (zzd H4.out.2 _ _ _)) rfl ⟨rfl,by have h9:=H4.out.1;rw[<-HQ.out]at h9;exact zDc _ (zzc _) _ _ _ _ h9⟩
structure OQ(W0 W:World)(t:Nat)(k:Sum)(L0:List Keys.Pr)(D:Nat)(Ld:List Keys.Pr)(which:Sum)(S:List Sum)(vS:Value):Prop where
 bw:Below W0.heap.size W0 W
 rise:Keys.Rise Ld
 near:yEv k (256 - D) Ld
 full:∀ p∈Ld,p.2.length<900000
 len:Ld.length<100000
 told:zGf W t which vS S t
 nil:S=[]->vS=.slice none 0 0
 sides:zFb (zFa k 256 L0)=S++zFb (zFa k (256 - D) Ld)
 tl:(zFa k 256 L0).drop D=zFa k (256 - D) Ld
 bits:∀ j,j<256->(Keys.kn which).testBit (255 - j)=(decide (j<D) && ((zFa k 256 L0).getD j none).isSome)
theorem OQ.pos(h:OQ W0 W t k L0 D Ld which S vS)(hn:n=255 - D)(hD:D<256):
  (zFa k 256 L0).drop (D+1)=zFa k n (mine k n Ld)/\(zFa k 256 L0).getD D none=(if atH n (oth k n Ld)=em n then none else some (atH n (oth k n Ld))) /\
   zFb (zFa k 256 L0)=S++((if atH n (oth k n Ld)=em n then none else some (atH n (oth k n Ld))).toList++zFb (zFa k n (mine k n Ld))):=by
 have e:256 - D=n+1:=by omega
 have ht:=h.tl
 have hs:=h.sides
 rw[e,zSv k n Ld]at ht hs
 refine⟨?_,?_,?_⟩
 ·have:(zFa k 256 L0).drop (D+1)=((zFa k 256 L0).drop D).tail:=by rw[List.tail_drop]
  rw[this,ht];rfl
 ·have h1:((zFa k 256 L0).drop D)[0]? = (zFa k 256 L0)[D]?:=by rw[List.getElem?_drop,Nat.add_zero]
  rw[ht]at h1
  rw[zzg,<-h1]
  rfl
 ·rw[hs,zI7]
theorem OQ.quiet(h:OQ W0 W t k L0 D Ld which S vS)(hn:n=255 - D)(hD:D<256)
  (he:atH n (oth k n Ld)=em n) (hb:Below W.heap.size W W'):OQ W0 W' t k L0 (D+1) (mine k n Ld) which S vS:=by
 obtain⟨g1,g2,g3⟩:=h.pos hn hD
 have e:256 - (D+1)=n:=by omega
 rw[zzY he]at g2 g3
 refine⟨h.bw.trans (hb.mono h.bw.size),zH1 h.rise,?_,fun p hp=>h.full p (zKm.1 hp).1,?_,h.told.below hb,h.nil,?_,?_,fun j hj=>?_⟩
 ·rw[e];have:=h.near;rw[show 256 - D=n+1 by omega]at this;exact this.mine
 ·have:=zG7 k n Ld;have:=h.len;omega
 ·rw[e,g3];rfl
 ·rw[e];exact g1
 ·rw[h.bits j hj]
  by_cases hjd:j=D
  ·subst hjd
   rw[g2];simp
  ·have:decide (j<D+1)=decide (j<D):=by rw[zzX];omega
   rw[this]
theorem OQ.loud{vS':Value}(h:OQ W0 W t k L0 D Ld which S vS)(hn:n=255 - D)(hD:D<256)
  (he:atH n (oth k n Ld)≠em n) (hb:Below W0.heap.size W W') (ht:zGf W' t (zIe which D) vS' (S++[atH n (oth k n Ld)]) t) :
  OQ W0 W' t k L0 (D+1) (mine k n Ld) (zIe which D) (S++[atH n (oth k n Ld)]) vS':=by
 obtain⟨g1,g2,g3⟩:=h.pos hn hD
 have e:256 - (D+1)=n:=by omega
 rw[zzZ he]at g2 g3
 refine⟨h.bw.trans hb,zH1 h.rise,?_,fun p hp=>h.full p (zKm.1 hp).1,?_,ht,fun h0=>?_,?_,?_,fun j hj=>?_⟩
 ·rw[e];have:=h.near;rw[show 256 - D=n+1 by omega]at this;exact this.mine
 ·have:=zG7 k n Ld;have:=h.len;omega
 ·simp at h0
 ·rw[e,g3,List.append_assoc];rfl
 ·rw[e];exact g1
 ·rw[yFy which D j hD hj]
  by_cases hjd:j=D
  ·subst hjd
   rw[zzY rfl,g2];simp
  ·have:decide (j<D+1)=decide (j<D):=by rw[zzX];omega
   rw[zzZ hjd,h.bits j hj,this]
theorem OQ.short(h:OQ W0 W t k L0 D Ld which S vS):S.length<=256:=by
 have h1:=congrArg List.length h.sides
 rw[zzi]at h1
 have h2:(zFb (zFa k 256 L0)).length<=(zFa k 256 L0).length:=List.length_filterMap_le _ _
 rw[zMa]at h2
 omega
theorem OQ.below(h:OQ W0 W t k L0 D Ld which S vS)(hb:Below W.heap.size W W'):OQ W0 W' t k L0 D Ld which S vS :=
 ⟨h.bw.trans (hb.mono h.bw.size),h.rise,h.near,h.full,h.len,h.told.below hb,h.nil,h.sides,h.tl,h.bits⟩
end Go.Proofs.YtfmgoehnbaiamaaGreatDoor
