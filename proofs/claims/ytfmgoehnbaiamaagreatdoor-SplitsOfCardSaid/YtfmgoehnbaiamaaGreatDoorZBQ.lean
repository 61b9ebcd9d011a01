/- Joined: MP5, Q7, Q8. -/
import Derived.Test.YtfmgoehnbaiamaaGreatDoorZBP
set_option maxRecDepth 100000
set_option maxHeartbeats 4000000
open Go Go.RowKit Alm
namespace Go.Proofs.YtfmgoehnbaiamaaGreatDoor
variable {P:List Keys.Pr}{g j z:Nat}{k x:Sum}{W W' W0:World}
def zZb:PE:=(zDv,none,0,0)
theorem yGl(x:PE)(l:List UInt8)(w:World)(hs:zDk w (peV x) l)(hl:l.length<900000):
  Calls Tryz.prog 8 #[.agg (zEf x).toArray] w fun e w'=>∃ g cap,e=.returned (.agg (zEf (x.1,some ⟨g,0,none⟩,l.length,cap)).toArray)/\zH7 w' w.heap.size (.slice (some ⟨g,0,none⟩) l.length cap) l/\Below w.heap.size w w':=by
 obtain⟨w1,hw1⟩:∃ y,y=w.alloc (.cells (zEf x).toArray 41):=⟨_,rfl⟩
 obtain⟨w2,hw2⟩:∃ y,y=w1.alloc (.cells (zEf zZb).toArray 41):=⟨_,rfl⟩
 have r1:w1.rangeAt w.heap.size 0 (zEf x):=by rw[hw1];exact zDh w _ _ _ rfl
 have t2:w2.there w1.heap.size 0 33:=by
  have hsz:(zEf zZb).toArray.size=33:=by rw[zzE,zD4]
  have:=zD5 w1 (zEf zZb).toArray 41
  rw[hsz]at this
  rw[hw2];exact this
 have b1:Below w.heap.size w w1:=by rw[hw1];exact al (zze _ _) _
 have b2:Below w1.heap.size w1 w2:=by rw[hw2];exact al (zze _ _) _
 have r12:=(zK b2).range r1 id
 have b12:=b1.trans (b2.mono b1.size)
 have s1:w1.heap.size=w.heap.size+1:=by rw[hw1,zzp]
 rw[s1]at t2
 have H0:=zAI r12 (zza t2 (zza b12 (zDg hs b12 (zzc _))))
 have HW:=zAI hw1 hw2
 clear r1 t2 b1 b2 r12 b12 s1 hw1 hw2 hs
 go_enter Tryz.func8,Tryz.ntmps8
 refine Alm.wp_cut 1 ?_
 intro T hT
 dsimp only[zKi]
 replace hT:=zzb hT
 go_wp2_with fail
 refine hT.out _ _ ?_
 clear hT
 dsimp only[zF0]
 change Code.wp _ _ _ _ ((w.alloc (.cells (zEf x).toArray 41)).alloc (.cells (zEf zZb).toArray 41))
 rw[<-HW.out.1,<-HW.out.2]
 clear HW
 go_wp2_with fail
 refine zDd (fun V=>V.rangeAt w.heap.size 0 (zEf x)) [.t 0,.t 2,.s 1,.e 3 true,.e 4 true,.t 5,.e 6 false] (by kernel_rfl) (by kernel_rfl) (by rintro _ _(_|_)_ _ h<;>exact h) ?_
 have H1:=zAI (show w2.drew.rangeAt w.heap.size 0 (zEf x) from H0.out.1) (zza ((zK (zze w2.heap.size w2).drew).there H0.out.2.1 (by decide) id) (zza H0.out.2.2.1.drew (zDg H0.out.2.2.2 (zze _ _).drew (zzc _))))
 clear H0
 generalize w2.drew=V at *
 iterate 2
  refine zDp rfl (v:=?_) (by rfl) (fun W=>?_) ?_
  rotate_left
  ·go_simp
   try rfl
  try simp only[zU,zA,zB,zC]
 refine zDl (by exact H1.out.1) rfl (by rfl) _ (by rfl) w.heap.size 0 (by rfl) x.1 (fun W hW=>zD7 hW) ?_
 try simp only[zU,zA,zB,zC]
 refine zD8 rfl (by rfl) (fun K hK=>?_)
 have g:=zJu H1.out.1
 go_simp
 refine hK _ _ ⟨by exact H1.out.1,?_⟩;clear hK K
 try simp only[zU,zA,zB,zC]
 clear g
 refine zD8 rfl (by rfl) (fun K hK=>?_)
 go_simp
 refine (zOr l (peV x) V H1.out.2.2.2 hl).mono ?_
 rintro e V1 ⟨v',rfl,ht,hb⟩
 have kk:=zK hb
 obtain⟨g,cap,rfl,ht'⟩:=id ht
 have hgt:∀ i,(Value.slice (some ⟨g,0,none⟩) l.length cap).ownBlock=some i->V.heap.size<=i:=fun i hi=>((zH7.lie ht).lt i hi).1
 have H2:=zAI (kk.range H1.out.1 id) (zza (kk.there H1.out.2.1 (by decide) id) (zza (H1.out.2.2.1.trans (hb.mono H1.out.2.2.1.size)) (zza ht (zza hgt (zEo H1.out.2.1 (by decide))))))
 clear kk hb ht hgt ht'
 refine hK _ _ ⟨by exact H2.out.1,?_⟩;clear hK K
 try simp only[zU,zA,zB,zC]
 obtain⟨y,hy⟩:∃ y:PE,y=(x.1,some ⟨g,0,none⟩,l.length,cap):=⟨_,rfl⟩
 refine zDp rfl (v:=.agg (zEf y).toArray) (by rfl) (fun W=>zJt _ rfl y (by rw[hy];rfl) W) ?_
 try simp only[zU,zA,zB,zC]
 have HY:=zzb hy
 clear hy
 have hsz':(zEf y).toArray.size=33:=by rw[zzE,zD4]
 refine zEa rfl (by rfl) (fun K hK=>?_)
 refine wp_store_mid 41 _ _ rfl (w.heap.size+1) 0 (zEf y).toArray (by rfl) (by rfl) (by rw[hsz'];exact H2.out.2.1) (by rw[hsz'];exact zLf) (zPy y) ?_
 refine hK _ _ ?_;clear hK K
 try simp only[Act.put]
 refine zDn ?_
 go_wp2_with fail
 have k2:=zDy (w.heap.size+1) (zEf y) 0 V1
 have ht9:=H2.out.2.2.2.1.keep k2 (fun x hx e=>by have h1:=H2.out.2.2.2.2.1 x hx;have h2:=H2.out.2.2.2.2.2;omega)
 have hVs:w.heap.size<=V.heap.size:=by have:=H2.out.2.2.2.2.2;omega
 have ht8:zH7 (V1.setCells (w.heap.size+1) 0 (zEf y)) w.heap.size (.slice (some ⟨g,0,none⟩) l.length cap) l:=by
  obtain⟨g',cap',he,hl⟩:=ht9
  exact⟨g',cap',he,hl.mono hVs⟩
 exact zzM (zEy Tryz.results8 _ _ (w.heap.size+1) 0 (zEf y) _ rfl (zDf _ _ _ _ (by rw[zD4];exact zzd H2.out.2.1 _ _ _)) Tryz.underlying41 rfl (by rw[zD4];exact zLf)) rfl
  ⟨g,cap,by rw[HY.out],ht8,zDc _ (by omega) _ _ _ _ H2.out.2.2.1⟩
theorem yF0(y x:PE)(hxy:y.1=x.1)(l:List UInt8)(base:Nat)(w:World)(ht:zH7 w base (peV y) l)(hv:zDk w (peV x) l)(hl:l.length<900000):Calls Tryz.prog 10 #[.agg (zEf y).toArray,.agg (zEf x).toArray] w fun e w'=>e=.returned (.bool true)/\Below w.heap.size w w':=by
 have hz:(w.alloc (.cells (zEf y).toArray 41)).heap.size=w.heap.size+1:=zzT _
 have h1:((w.alloc (.cells (zEf y).toArray 41)).alloc (.cells (zEf x).toArray 41)).rangeAt w.heap.size 0 (zEf y):=zzt (zDh w (zEf y).toArray 41 _ rfl) _
 have h2:((w.alloc (.cells (zEf y).toArray 41)).alloc (.cells (zEf x).toArray 41)).rangeAt (w.heap.size+1) 0 (zEf x):=by rw[<-hz];exact zDh _ (zEf x).toArray 41 _ rfl
 have hB:=al (al (zze _ w) (.cells (zEf y).toArray 41)) (.cells (zEf x).toArray 41)
 have hb2:=zDg hv hB (zzc _)
 have H:=zAI h1 (zza h2 (zza hB (zza (ht.below hB) hb2)))
 clear h1 h2 hz hB hb2 ht hv
 have heq:=zHi y.1 x.1
 have hd:decide (y.1=x.1)=true:=by simpa using hxy
 rw[hd]at heq
 clear hd hxy
 have c1:=zJu H.out.1
 have c2:=zJu H.out.2.1
 have HL:=zzb hl
 clear hl
 go_enter Tryz.func10,Tryz.ntmps10
 go_wp2_with (first
  | (refine zDb rfl _ rfl w.heap.size 0 rfl y.1 (zD7 H.out.1) ?_)
  | (refine zDb rfl _ rfl (w.heap.size+1) 0 rfl x.1 (zD7 H.out.2.1) ?_))
 refine (zOh l (peV y) (peV x) base _ H.out.2.2.2.1 H.out.2.2.2.2 HL.out).mono ?_
 rintro e W1 ⟨rfl,hb1⟩
 have HB:=zzb (H.out.2.2.1.trans (hb1.mono H.out.2.2.1.size))
 clear hb1
 go_wp2_with fail
 exact zzM (zzN rfl _ _ _) rfl ⟨rfl,HB.out⟩
theorem yMn{bs:List UInt8}(h:P[j]? = some (k,bs))(hn:∀ p∈P.take j,p.1≠k):Keys.get P k=bs:=by
 have hj:=(zzl.1 h).1
 have he:=(zzl.1 h).2
 have e:P.find? (fun p=>decide (p.1=k))=some (k,bs):=by
  conv=>lhs;rw[<-zz8 j P,List.find?_append,zz9 hj,he]
  have h0:(P.take j).find? (fun p=>decide (p.1=k))=none:=List.find?_eq_none.2 fun p hp=>by simpa using hn p hp
  rw[h0]
  simp
 unfold Keys.get
 rw[e]
theorem yIt(hn:∀ p∈P,p.1≠k):Keys.get P k=[]:=by
 have h0:P.find? (fun p=>decide (p.1=k))=none:=List.find?_eq_none.2 fun p hp=>by simpa using hn p hp
 unfold Keys.get
 rw[h0]
theorem yJg(P:List Keys.Pr)(k:Sum)(vl:Value)(w:World)(hl:zDu w vl P)(hb:∀ p∈P,p.2.length<4000000000)(hN:P.length<100000):
  Calls Tryz.prog 18 #[vl,sv k] w fun e w'=>∃ v,e=.returned v/\zDk w' v (Keys.get P k)/\Below w.heap.size w w':=by
 obtain⟨al_,cl,hv,hl1,hl2⟩:=zD9 hl
 subst hv
 obtain⟨N,hNN⟩:∃ N,N=P.length:=⟨_,rfl⟩
 rw[<-hNN]at hl hl1 ⊢
 obtain⟨z,hz⟩:∃ z,z=w.heap.size:=⟨_,rfl⟩
 have hb0:=al (zze _ w) (.cells (cellsOf k).toArray 24)
 have hr0:(w.alloc (.cells (cellsOf k).toArray 24)).rangeAt z 0 (cellsOf k):=by rw[hz];exact zDh w (cellsOf k).toArray 24 _ rfl
 have H0:=zAI hr0 (hl.below hb0)
 have HBW:=zzb hb0
 have HZ:=zzb hz
 have HN:=zAI hN (zza hNN hb)
 have k1:(N:Int)<=(cl:Int):=by omega
 clear hb0 hz hr0 hl hb hN hNN hl2
 go_enter Tryz.func18,Tryz.ntmps18
 go_wp2_with fail
 rw[<-HZ.out]
 generalize w.alloc (.cells (cellsOf k).toArray 24)=W0 at *
 go_loopw [5] (fun iv W=>∃ j:Nat,j<=N/\iv=.int .i64 (j:Int)/\(∀ p∈P.take j,p.1≠k)/\Below W0.heap.size W0 W) (fun iv _=>N - (intOf iv).toNat)
 case atStart=>exact⟨0,zye _,rfl,(fun p hp=>by simp at hp),zze _ _⟩
 case round =>
  obtain⟨j,hj,rfl,hn,hB⟩:=hrel
  have HR:=zAI hn hB
  clear hn hB
  by_cases hlt:j<N
  ·obtain⟨c1,c1',hj0,hlt'⟩:=zHy hlt
   have hPA:=H0.out.2.below HR.out.2
   obtain⟨ba,oa,ca,y,yb,he1,hr1,hyb,hyP⟩:=zEn hPA (i:=j) (by rw[<-HN.out.2.1];exact hlt)
   simp only[zzh]at he1
   obtain⟨rfl,-,rfl⟩:=he1
   have hmem:(y.1,yb)∈P:=List.mem_of_getElem? hyP
   have HY:=zAI hyb (zza hyP (HN.out.2.2 _ hmem))
   have HX:=zAI hr1 ((zK HR.out.2).range H0.out.1 id)
   have HJ:=zAI hj hlt
   clear hPA hr1 hyb hyP hmem hj
   go_wp2_with fail
   refine zDd (fun V=>V.rangeAt ba (oa+j*33) (cellsOf y.1)) [.t 0,.t 1,.t 2,.t 3,.s 4,.e 5 true,.t 6] (by kernel_rfl) (by kernel_rfl) (by rintro _ _(_|_)_ _ h<;>exact h) ?_
   have hd:=(zze wr.heap.size wr).drew
   have kk:=zK hd
   have HXY:=zAI (kk.range HX.out.1 id) (zza (kk.range HX.out.2 id) (zza (zDg HY.out.1 hd (zzc _)) (HR.out.2.trans (hd.mono HR.out.2.size))))
   clear hd kk
   generalize World.drew _=VV at *
   have heq:=zHi y.1 k
   obtain⟨d,hdd⟩:∃ d,d=decide (y.1=k):=⟨_,rfl⟩
   rw[<-hdd]at heq
   have HD:=zzb hdd
   clear hdd
   iterate 4
    refine zDp rfl (v:=?_) (by rfl) (fun W=>?_) ?_
    rotate_left
    ·go_simp
     try rfl
    try simp only[zU,zA,zB,zC]
   refine zDl (by exact zD7 HXY.out.1) rfl (by rfl) _ (by rfl) ba (oa+j*33) (by rfl) y.1 (fun V hV=>hV) ?_
   try simp only[zU,zA,zB,zC]
   refine zD8 rfl (by rfl) (fun K hK=>?_)
   refine zEb _ (by rfl) z 0 (by rfl) k HXY.out.2.1 ?_
   refine hK _ _ ⟨by exact zD7 HXY.out.1,?_⟩;clear hK K
   try simp only[zU,zA,zB,zC]
   refine zDp rfl (v:=?_) (by rfl) (fun W=>?_) ?_
   rotate_left
   ·go_simp
    try rfl
   try simp only[zU,zA,zB,zC]
   refine zDn ?_
   clear heq
   cases d with
   | true =>
    have hky:y.1=k:=zz3 HD.out.symm
    have hget:=yMn (P:=P) (k:=k) (bs:=yb) (by rw[<-hky];exact HY.out.2.1) HR.out.1
    have HG:=zzb hget
    clear hky hget
    have gy:VV.cell? ⟨ba,oa+j*33+32,none⟩=some (peV y):=by
     have:=HXY.out.1 32 (peV y) (by rw[zEf,zzo (by rw[zDa];omega),zDa];rfl)
     exact this
    go_wp2_with (at_builtin;refine wpList_plain rfl fun _ hK=>zJg _ _ rfl rfl (peV y) yb rfl HXY.out.2.2.1 HY.out.2.2 ?_;intro ax cx V1 hb1 hbx hbo;refine hK _ _ ?_;have HF:=zAI hbx (HXY.out.2.2.2.trans (hb1.mono HXY.out.2.2.2.size));clear hb1 hbx hbo hK)
    refine zzM (zzN rfl _ _ _) rfl ⟨_,rfl,by rw[HG.out];exact HF.out.1,HBW.out.trans (HF.out.2.mono HBW.out.size)⟩
   | false =>
    have hky:¬y.1=k:=zyl HD.out.symm
    have hn2:∀ p∈P.take (j+1),p.1≠k:=fun p hp=>by
     have hjP:j<P.length:=by rw[<-HN.out.2.1];exact hlt
     rw[zzJ hjP,zzO,zzx]at hp
     rcases hp with hp | hp
     ·exact HR.out.1 p hp
     ·have h1:=HY.out.2.1
      rw[zzf hjP,zzj]at h1
      rw[hp,h1];exact hky
    have HN2:=zzb hn2
    have hwj:wrap64 ((j:Int)+1)=((j+1:Nat):Int):=by have:=HN.out.1;have:=HN.out.2.1;have:=HJ.out.2;unfold wrap64;omega
    have HWJ:=zzb hwj
    clear hky hn2 hwj
    go_wp2_with fail
    rw[HWJ.out]
    exact⟨⟨j+1,hlt,rfl,HN2.out,HXY.out.2.2.2⟩,by simp only[intOf,zzF];omega⟩
  ·have hjn:j=N:=by omega
   subst hjn
   have hm:=yIt (P:=P) (k:=k) (by have h:=HR.out.1;rwa[zzD (by rw[HN.out.2.1];exact zzc _)]at h)
   have HM:=zzb hm
   clear hm
   go_wp2_with fail
   exact zzM (zzN rfl _ _ _) rfl ⟨_,rfl,by rw[HM.out];exact⟨none,0,rfl,zzc _,by decide,.inl rfl⟩,HBW.out.trans (HR.out.2.mono HBW.out.size)⟩
theorem zQ9(P:List Keys.Pr)(v:Value)(w:World)(hv:zDu w v P)(hb:∀ p∈P,p.2.length<900000)(hN:P.length<100000):
  Calls Tryz.prog 21 #[v] w fun e w'=>e=.returned (sv (atH 256 P))/\Below w.heap.size w w':=by
 obtain⟨w1,hw1⟩:∃ x,x=w.alloc (.cells (zDi (List.replicate 32 0)).toArray 24):=⟨_,rfl⟩
 have b1:Below w.heap.size w w1:=by rw[hw1];exact al (zze _ _) _
 have t1:w1.there w.heap.size 0 32:=by rw[hw1];exact zD5 w (zDi (List.replicate 32 0)).toArray 24
 have H0:=zAI (hv.below b1) (zza b1 t1)
 have HW:=zzb hw1
 have HN:=zAI hb hN
 obtain⟨R,hR⟩:∃ R,R=atH 256 P:=⟨_,rfl⟩
 rw[<-hR]
 have HR:=zzb hR
 clear hw1 b1 t1 hv hb hN hR
 go_enter Tryz.func21,Tryz.ntmps21
 refine Alm.wp_cut 1 ?_
 intro T hT
 dsimp only[zKi]
 replace hT:=zzb hT
 go_wp2_with fail
 refine hT.out _ _ ?_
 clear hT
 dsimp only[zF0]
 change Code.wp _ _ _ _ (w.alloc (.cells (zDi (List.replicate 32 0)).toArray 24))
 rw[<-HW.out]
 clear HW
 go_wp2_with (go_at_call 66;refine (zN8 w1).mono ?_;rintro e w2 ⟨vn,rfl,hn,hb2⟩;refine Hid.out ?_)
 refine zzb ?_
 have kk:=zK hb2
 have hat:=zOu 256 P v vn w2 (zzc _) (H0.out.1.below hb2) hn HN.out.1 HN.out.2
 rw[<-HR.out]at hat
 rw[show ((256 - 256:Nat):Int)=0 from rfl]at hat
 have HA:=zAI hat (zza (H0.out.2.1.trans (hb2.mono H0.out.2.1.size)) (kk.there H0.out.2.2 (by decide) id))
 clear hat kk hn hb2
 go_wp2_with (go_at_call 65;refine HA.out.1.mono ?_;rintro e w3 ⟨rfl,hb3⟩;refine Hid.out ?_)
 refine zzb ?_
 have HF:=zAI (HA.out.2.1.trans (hb3.mono HA.out.2.1.size)) ((zK hb3).there HA.out.2.2 (by decide) id)
 clear hb3
 go_wp2_with (refine zDm rfl _ _ rfl w.heap.size 0 R rfl rfl HF.out.2 ?_)
 exact zzM (zEe Tryz.results21 _ _ _ _ rfl (zzd HF.out.2 _ _ _)) rfl ⟨rfl,zDc _ (zzc _) _ _ _ _ HF.out.1⟩
structure QP(w W:World)(q:Nat)(va:Value)(A:List Keys.Pr)(vb:Value)(B:List Keys.Pr):Prop where
 q:QW w W q
 a:zDu W va A
 b:zDu W vb B
theorem QP.mem{w:World}{q:Nat}{va vb:Value}{A B:List Keys.Pr}(h:QP w W q va A vb B)(hb:Below W.heap.size W W'):QP w W' q va A vb B:=⟨h.q.below hb,h.a.below hb,h.b.below hb⟩
def QC(r:Bool)(e:Ending):Prop:=∃ x y,e=.returned (.tuple #[.agg #[x,y],.bool r])/\x.oneCell'=true/\y.oneCell'=true
open Classical in
theorem yF5(A B:List Keys.Pr)(va vb:Value)(w:World)(ha:zDu w va A)(hb:zDu w vb B)(hFA:∀ p∈A,p.2.length<900000)(hFB:∀ p∈B,p.2.length<900000)(hlA:A.length<100000)(hlB:B.length<100000):
  Calls Tryz.prog 39 #[va,vb] w fun e w'=>QC (zEj A B).isSome e/\Below w.heap.size w w':=by
 obtain⟨m1,hm1⟩:∃ d,d=decide (May A):=⟨_,rfl⟩
 obtain⟨m2,hm2⟩:∃ d,d=decide (May B):=⟨_,rfl⟩
 obtain⟨ds,hds⟩:∃ d,d=decide (A=B):=⟨_,rfl⟩
 obtain⟨dr,hdr⟩:∃ d,d=decide (zEz A=zEz B):=⟨_,rfl⟩
 have HR:(zEj A B).isSome=(m1 && m2 && !ds && dr):=by
  rw[yH1,hm1,hm2,hds,hdr]
  by_cases h1:May A<;>by_cases h2:May B<;>by_cases h3:A=B<;>by_cases h4:zEz A=zEz B<;>simp[h1,h2,h3,h4]
 rw[HR]
 have hM:∀ (P:List Keys.Pr) (v:Value) (W:World) (m:Bool),m=decide (May P)->P.length<100000->zDu W v P->Calls Tryz.prog 110 #[v] W fun e w'=>e=.returned (.bool m)/\Below W.heap.size W w':=fun P v W m h1 h2 h3=>by
  refine (zZp P v W h3 h2).mono ?_
  rintro e w' ⟨r,rfl,hr,hb⟩
  refine⟨?_,hb⟩
  rw[h1]
  congr 2
  rw[zyo,zzW];exact hr
 have i1:=fun (W:World) g=>hM A va W m1 hm1 hlA g
 have i2:=fun (W:World) g=>hM B vb W m2 hm2 hlB g
 have i3:=fun (W:World) g1 g2=>zWq A B va vb W g1 g2 hlA
 have i4:=fun (W:World) g=>zQ9 A va W g hFA hlA
 have i5:=fun (W:World) g=>zQ9 B vb W g hFB hlB
 have i6:∀ (vn:Value) (W:World),zDu W va A->zDu W vb B->zD1 W vn zJp->Calls Tryz.prog 112 #[va,vb,.int .i64 0,vn] W fun e w'=>(∃ x y,e=.returned (.agg #[x,y])/\x.oneCell'=true/\y.oneCell'=true)/\Below W.heap.size W w':=fun vn W g1 g2 g3=>yE9 256 A B va vb vn W (zzc _) g1 g2 g3 hFA hFB hlA hlB
 obtain⟨X1,hX1⟩:∃ A',A'=atH 256 A:=⟨_,rfl⟩
 obtain⟨X2,hX2⟩:∃ A',A'=atH 256 B:=⟨_,rfl⟩
 have hdr':dr=decide (X1=X2):=by rw[hdr,hX1,hX2];rfl
 rw[<-hds]at i3
 rw[<-hX1]at i4
 rw[<-hX2]at i5
 have HI:=zAI i1 (zza i2 (zza i3 (zza i4 (zza i5 i6))))
 have hq:=zHi X1 X2
 rw[<-hdr']at hq
 have HX:=zzb hq
 obtain⟨W0,hW0⟩:∃ x,x=w.alloc (.cells #[.slice none 0 0,.slice none 0 0] 82):=⟨_,rfl⟩
 have hq0:=QW.start w
 have hb0:=al (zze w.heap.size w) (.cells #[.slice none 0 0,.slice none 0 0] 82)
 rw[<-hW0]at hq0 hb0
 have hd0:QP w W0 w.heap.size va A vb B:=⟨hq0,ha.below hb0,hb.below hb0⟩
 obtain⟨q,hq'⟩:∃ q,q=w.heap.size:=⟨_,rfl⟩
 rw[<-hq']at hd0
 have HQE:=zzb hq'
 have H0:=zzb hd0
 have HW0:=zzb hW0
 clear ha hb hFA hFB hlA hlB hm1 hm2 hds hdr HR hM i1 i2 i3 i4 i5 i6 hX1 hX2 hdr' hq hW0 hq0 hb0 hd0 hq'
 go_enter Tryz.func39,Tryz.ntmps39
 refine Alm.wp_cut 1 ?_
 intro T hT
 dsimp only[zKi]
 replace hT:=zzb hT
 go_wp2_with fail
 refine hT.out _ _ ?_
 clear hT
 dsimp only[zF0]
 change Code.wp _ _ _ _ (w.alloc (.cells #[.slice none 0 0,.slice none 0 0] 82))
 rw[<-HW0.out,<-HQE.out]
 clear HW0
 cases m1 with
 | false =>
  go_wp2_with (first
   | (have _:=H0;go_at_call 110;refine (HI.out.1 _ H0.out.a).mono ?_;rintro e V1 ⟨rfl,hb⟩;have H1:=zzb (H0.out.mem hb);clear H0 hb)
   | (have _:=H1;refine zDo rfl _ _ rfl q (.slice none 0 0) (.slice none 0 0) rfl rfl rfl rfl H1.out.q.there ?_))
  try rw[zzs]
  exact zzM (zDq Tryz.results39 _ _ q 0 [_,_] _ rfl (zDf _ _ _ _ (zzd H1.out.q.there _ _ _)) Tryz.underlying82 rfl zD2) rfl ⟨⟨_,_,rfl,rfl,rfl⟩,zDc _ (zzc _) _ _ _ _ (by rw[HQE.out];exact H1.out.q.bw)⟩
 | true =>
  cases m2 with
  | false =>
   go_wp2_with (first
    | (have _:=H0;go_at_call 110;refine (HI.out.1 _ H0.out.a).mono ?_;rintro e V1 ⟨rfl,hb⟩;have H1:=zzb (H0.out.mem hb);clear H0 hb)
    | (have _:=H1;go_at_call 110;refine (HI.out.2.1 _ H1.out.b).mono ?_;rintro e V2 ⟨rfl,hb⟩;have H2:=zzb (H1.out.mem hb);clear H1 hb)
    | (have _:=H2;refine zDo rfl _ _ rfl q (.slice none 0 0) (.slice none 0 0) rfl rfl rfl rfl H2.out.q.there ?_))
   try rw[zzs]
   exact zzM (zDq Tryz.results39 _ _ q 0 [_,_] _ rfl (zDf _ _ _ _ (zzd H2.out.q.there _ _ _)) Tryz.underlying82 rfl zD2) rfl ⟨⟨_,_,rfl,rfl,rfl⟩,zDc _ (zzc _) _ _ _ _ (by rw[HQE.out];exact H2.out.q.bw)⟩
  | true =>
   cases ds with
   | true =>
    go_wp2_with (first
     | (have _:=H0;go_at_call 110;refine (HI.out.1 _ H0.out.a).mono ?_;rintro e V1 ⟨rfl,hb⟩;have H1:=zzb (H0.out.mem hb);clear H0 hb)
     | (have _:=H1;go_at_call 110;refine (HI.out.2.1 _ H1.out.b).mono ?_;rintro e V2 ⟨rfl,hb⟩;have H2:=zzb (H1.out.mem hb);clear H1 hb)
     | (have _:=H2;go_at_call 111;refine (HI.out.2.2.1 _ H2.out.a H2.out.b).mono ?_;rintro e V3 ⟨rfl,hb⟩;have H3:=zzb (H2.out.mem hb);clear H2 hb)
     | (have _:=H3;refine zDo rfl _ _ rfl q (.slice none 0 0) (.slice none 0 0) rfl rfl rfl rfl H3.out.q.there ?_))
    try rw[zzs]
    exact zzM (zDq Tryz.results39 _ _ q 0 [_,_] _ rfl (zDf _ _ _ _ (zzd H3.out.q.there _ _ _)) Tryz.underlying82 rfl zD2) rfl ⟨⟨_,_,rfl,rfl,rfl⟩,zDc _ (zzc _) _ _ _ _ (by rw[HQE.out];exact H3.out.q.bw)⟩
   | false =>
    cases dr with
    | false =>
     have hq:=HX.out
     go_wp2_with (first
      | (have _:=H0;go_at_call 110;refine (HI.out.1 _ H0.out.a).mono ?_;rintro e V1 ⟨rfl,hb⟩;have H1:=zzb (H0.out.mem hb);clear H0 hb)
      | (have _:=H1;go_at_call 110;refine (HI.out.2.1 _ H1.out.b).mono ?_;rintro e V2 ⟨rfl,hb⟩;have H2:=zzb (H1.out.mem hb);clear H1 hb)
      | (have _:=H2;go_at_call 111;refine (HI.out.2.2.1 _ H2.out.a H2.out.b).mono ?_;rintro e V3 ⟨rfl,hb⟩;have H3:=zzb (H2.out.mem hb);clear H2 hb)
      | (have _:=H3;go_at_call 21;refine (HI.out.2.2.2.1 _ H3.out.a).mono ?_;rintro e V4 ⟨rfl,hb⟩;have H4:=zzb (H3.out.mem hb);clear H3 hb)
      | (have _:=H4;go_at_call 21;refine (HI.out.2.2.2.2.1 _ H4.out.b).mono ?_;rintro e V5 ⟨rfl,hb⟩;have H5:=zzb (H4.out.mem hb);clear H4 hb)
      | (have _:=H5;refine zDo rfl _ _ rfl q (.slice none 0 0) (.slice none 0 0) rfl rfl rfl rfl H5.out.q.there ?_))
     try rw[zzs]
     exact zzM (zDq Tryz.results39 _ _ q 0 [_,_] _ rfl (zDf _ _ _ _ (zzd H5.out.q.there _ _ _)) Tryz.underlying82 rfl zD2) rfl ⟨⟨_,_,rfl,rfl,rfl⟩,zDc _ (zzc _) _ _ _ _ (by rw[HQE.out];exact H5.out.q.bw)⟩
    | true =>
     have hq:=HX.out
     go_wp2_with (first
      | (have _:=H0;go_at_call 110;refine (HI.out.1 _ H0.out.a).mono ?_;rintro e V1 ⟨rfl,hb⟩;have H1:=zzb (H0.out.mem hb);clear H0 hb)
      | (have _:=H1;go_at_call 110;refine (HI.out.2.1 _ H1.out.b).mono ?_;rintro e V2 ⟨rfl,hb⟩;have H2:=zzb (H1.out.mem hb);clear H1 hb)
      | (have _:=H2;go_at_call 111;refine (HI.out.2.2.1 _ H2.out.a H2.out.b).mono ?_;rintro e V3 ⟨rfl,hb⟩;have H3:=zzb (H2.out.mem hb);clear H2 hb)
      | (have _:=H3;go_at_call 21;refine (HI.out.2.2.2.1 _ H3.out.a).mono ?_;rintro e V4 ⟨rfl,hb⟩;have H4:=zzb (H3.out.mem hb);clear H3 hb)
      | (have _:=H4;go_at_call 21;refine (HI.out.2.2.2.2.1 _ H4.out.b).mono ?_;rintro e V5 ⟨rfl,hb⟩;have H5:=zzb (H4.out.mem hb);clear H4 hb)
      | (have _:=H5;go_at_call 66;refine (zN8 _).mono ?_;rintro e V6 ⟨vn,rfl,hn,hb⟩;have H6:=zAI (H5.out.mem hb) hn;clear H5 hb hn)
      | (have _:=H6;go_at_call 112;refine (HI.out.2.2.2.2.2 _ _ H6.out.1.a H6.out.1.b H6.out.2).mono ?_;rintro e V7 ⟨⟨gx,gy,rfl,hgx,hgy⟩,hb⟩;have H7:=zzb (H6.out.1.mem hb);have HG:=zAI hgx hgy;clear H6 hb hgx hgy)
      | (have _:=H7;refine zDo rfl _ _ rfl q gx gy rfl rfl HG.out.1 HG.out.2 H7.out.q.there ?_))
     try rw[zzs]
     exact zzM (zDq Tryz.results39 _ _ q 0 [_,_] _ rfl (zDf _ _ _ _ (zzd H7.out.q.there _ _ _)) Tryz.underlying82 rfl zD2) rfl ⟨⟨_,_,rfl,HG.out.1,HG.out.2⟩,zDc _ (zzc _) _ _ _ _ (by rw[HQE.out];exact H7.out.q.bw)⟩
theorem yFt:∃ i z,Tryz.prog.info? 39=some i/\i.zero=some z/\i.size=1/\i.bytes=24:=by
 have h:(Tryz.prog.info? 39).map (fun i=>(i.zero.isSome,i.size,i.bytes))=some (true,1,24):=by kernel_rfl
 obtain⟨i,h1,h2⟩:=zzv.1 h
 simp only[zyc]at h2
 obtain⟨z,hz⟩:=zzI.1 h2.1
 exact⟨i,z,h1,hz,h2.2.1,h2.2.2⟩
def zT7(W:World)(g:Nat):Prop:=∀ d,d<256->∃ u l,W.cell? ⟨g,d,none⟩=some u/\zDk W u l
theorem zT7.below(h:zT7 W g)(hb:Below W.heap.size W W'):zT7 W' g:=fun d hd=>by
 obtain⟨u,l,h1,h2⟩:=h d hd
 exact⟨u,l,(zK hb).cell h1 id,zDg h2 hb (zzc _)⟩
structure SD(W0 W:World)(z g j:Nat)(x:Sum):Prop where
 bw:Below W0.heap.size W0 W
 zr:W.rangeAt z 0 (cellsOf x)
 zt:W.there z 0 32
 gt:W.there g 0 256
 ln:∀ n,n<j->∃ u l,W.cell? ⟨g,255 - n,none⟩=some u/\zDk W u l/\∀ k,u.ownBlock=some k->g<k
 z0:W0.heap.size<=z
 zg:z<g
theorem SD.call(h:SD W0 W z g j x)(hb:Below W.heap.size W W'):SD W0 W' z g j x:=by
 have kk:=zK hb
 refine⟨h.bw.trans (hb.mono h.bw.size),kk.range h.zr id,kk.there h.zt (by decide) id,kk.there h.gt (by decide) id,fun n hn=>?_,h.z0,h.zg⟩
 obtain⟨u,l,h1,h2,h3⟩:=h.ln n hn
 exact⟨u,l,kk.cell h1 id,zDg h2 hb (zzc _),h3⟩
theorem SD.setx(h:SD W0 W z g j x)(x':Sum):SD W0 (W.setCells z 0 (cellsOf x')) z g j x':=by
 have kk:=zDy z (cellsOf x') 0 W
 have hne:¬g=z:=by have:=h.zg;omega
 refine⟨zDc _ h.z0 _ _ _ _ h.bw,zDf _ _ _ _ (by rw[zDa];exact zzd h.zt _ _ _),zzd h.zt _ _ _,zzd h.gt _ _ _,fun n hn=>?_,h.z0,h.zg⟩
 obtain⟨u,l,h1,h2,h3⟩:=h.ln n hn
 exact⟨u,l,kk.cell h1 hne,zFz kk h2 (fun k hk e=>by have h4:=h3 k hk;have h5:=h.zg;have e':k=z:=e;omega),h3⟩
theorem SD.line(h:SD W0 W z g j x)(hj:j<256){u:Value}{l:List UInt8}(hu:zDk W u l)(hn:∀ k,u.ownBlock=some k->g<k):SD W0 (W.setCell ⟨g,255 - j,none⟩ u) z g (j+1) x:=by
 have kk:zDj (·=g) W (W.setCell ⟨g,255 - j,none⟩ u):=zDy g [u] (255 - j) W
 have hne:¬z=g:=by have:=h.zg;omega
 have ht:(W.setCell ⟨g,255 - j,none⟩ u).there g 0 256:=zzd h.gt g (255 - j) [u]
 refine⟨zDc g (by have:=h.z0;have:=h.zg;omega) [u] (255 - j) _ _ h.bw,kk.range h.zr hne,zzd h.zt g (255 - j) [u],ht,fun n hn'=>?_,h.z0,h.zg⟩
 by_cases e:n=j
 ·subst e
  have h1:(W.setCells g (255 - n) [u]).rangeAt g (255 - n) [u]:=zDf _ _ _ _ (fun q hq=>by
   have:=ht (255 - n+q) (by have:q<1:=hq;omega)
   rwa[zzn]at this)
  exact⟨u,l,h1 0 u rfl,zFz kk hu (fun k hk e=>by have h4:=hn k hk;have e':k=g:=e;omega),hn⟩
 ·obtain⟨u',l',h1,h2,h3⟩:=h.ln n (by omega)
  refine⟨u',l',?_,zFz kk h2 (fun k hk e=>by have h4:=h3 k hk;have e':k=g:=e;omega),h3⟩
  have h4:W.rangeAt g (255 - n) [u']:=fun q v hq=>by
   match q,hq with
   | 0,hq=>cases hq;exact h1
  exact zzA h4 g (255 - j) [u] (by right;simp only[zzy];omega) 0 u' rfl
theorem SD.lines(h:SD W0 W z g 256 x):zT7 W g:=fun d hd=>by
 obtain⟨u,l,h1,h2,_⟩:=h.ln (255 - d) (by omega)
 rw[show 255 - (255 - d)=d by omega]at h1
 exact⟨u,l,h1,h2⟩
theorem zR7(k which:Sum)(v vS:Value)(bs:List UInt8)(S:List Sum)(w:World)(hv:zDk w v bs)(hs:zD1 w vS S)(hS:S.length<100000)(hbs:bs.length<900000)(hok:(zIc k which 256 (vl k bs,S,false)).2.2=false):
  Calls Tryz.prog 115 #[sv k,v,shV which vS] w fun e w'=>∃ g,e=.returned (.slice (some ⟨g,0,none⟩) 256 256)/\zT7 w' g/\Below w.heap.size w w':=by
 obtain⟨w1,hw1⟩:∃ x,x=w.alloc (.cells (cellsOf k).toArray 24):=⟨_,rfl⟩
 obtain⟨w2,hw2⟩:∃ x,x=w1.alloc (.cells (zDe which vS).toArray 63):=⟨_,rfl⟩
 have r1:w1.rangeAt w.heap.size 0 (cellsOf k):=by rw[hw1];exact zDh w _ _ _ rfl
 have r2:w2.rangeAt w1.heap.size 0 (zDe which vS):=by rw[hw2];exact zDh w1 _ _ _ rfl
 have b1:Below w.heap.size w w1:=by rw[hw1];exact al (zze _ _) _
 have b2:Below w1.heap.size w1 w2:=by rw[hw2];exact al (zze _ _) _
 have r13:=(zK b2).range r1 id
 have b13:=b1.trans (b2.mono b1.size)
 have s1:w1.heap.size=w.heap.size+1:=by rw[hw1,zzp]
 rw[s1]at r2
 have H0:=zAI r13 (zza r2 (zza b13 (zza (zDg hv b13 (zzc _)) (hs.below b13 (zzc _)))))
 have HW:=zAI hw1 hw2
 have HL:=zAI hS hbs
 obtain⟨a0,c0,rfl,_,_,_⟩:=id hv
 obtain⟨n0,hn0⟩:∃ n,n=bs.length:=⟨_,rfl⟩
 obtain⟨aS,cS,rfl,hcS,_,_⟩:=id hs
 obtain⟨M,hM⟩:∃ n,n=S.length:=⟨_,rfl⟩
 rw[<-hn0,<-hM]at H0
 rw[<-hM]at HW hcS
 rw[<-hn0,<-hM]
 have HM:=zzb hM
 clear r1 r2 b1 b2 r13 b13 s1 hw1 hw2 hv hs hS hbs hM hn0
 obtain⟨z5,hz5⟩:∃ z,z=w.heap.size+1:=⟨_,rfl⟩
 have HZ:=zzb hz5
 rw[<-hz5]at H0
 have k0:(M:Int)<=(cS:Int):=by omega
 clear hz5
 obtain⟨x0,hx0⟩:∃ x,x=vl k bs:=⟨_,rfl⟩
 have hval:=fun W hW=>zTl k bs (.slice a0 n0 c0) W hW HL.out.2
 rw[<-hx0]at hval hok
 have HVAL:=zzb hval
 have HOK:=zzb hok
 obtain⟨i0,zs0,hi0,hiz0,his0,hib0⟩:=yFt
 have HI:=zAI hi0 (zza hiz0 (zza his0 hib0))
 clear hval hx0 hok hi0 hiz0 his0 hib0
 unfold shV
 go_enter Tryz.func115,Tryz.ntmps115
 refine Alm.wp_cut 1 ?_
 intro T hT
 dsimp only[zKi]
 replace hT:=zzb hT
 go_wp2_with fail
 refine hT.out _ _ ?_
 clear hT
 dsimp only[zF0]
 rw[<-HZ.out]
 change Code.wp _ _ _ _ ((w.alloc (.cells (cellsOf k).toArray 24)).alloc (.cells (zDe which (.slice aS M cS)).toArray 63))
 rw[<-HW.out.1,<-HW.out.2]
 clear HW
 go_wp2_with fail
 refine (zN8 w2).mono ?_
 rintro e w4 ⟨vn,rfl,hvn,hb⟩
 obtain⟨bn,on,cn,rfl,hcn,hnr⟩:=zGz hvn
 have kk:=zK hb
 have H4:=zAI (kk.range H0.out.1 id) (zza (kk.range H0.out.2.1 id) (zza (H0.out.2.2.1.trans (hb.mono H0.out.2.2.1.size)) (zza (zDg H0.out.2.2.2.1 hb (zzc _)) (zza (H0.out.2.2.2.2.below hb (zzc _)) hvn))))
 clear kk hb hvn H0 hnr
 go_wp2_with (refine zDb rfl _ rfl w.heap.size 0 rfl k H4.out.1 ?_)
 refine (HVAL.out w4 H4.out.2.2.2.1).mono ?_
 rintro e w5 ⟨rfl,hb⟩
 have kk:=zK hb
 have HK:=zAI (kk.range H4.out.1 id) (zza (kk.range H4.out.2.1 id) (zza (H4.out.2.2.1.trans (hb.mono H4.out.2.2.1.size)) (zza (H4.out.2.2.2.2.1.below hb (zzc _)) (H4.out.2.2.2.2.2.below hb (zzc _)))))
 clear kk hb H4 HVAL
 obtain⟨z8,hz8⟩:∃ z,z=w5.heap.size:=⟨_,rfl⟩
 have HZ8:=zzb hz8
 clear hz8
 have HG:=zzb trivial
 go_wp2_with (first
  | (have _:=HG;refine zD3 (by rfl) rfl _ _ rfl x0 rfl rfl ?_;intro W6 hb hr ht;rw[<-HZ8.out]at hr ht ⊢;have H6:=zAI hb (zza hr ht);have g6:=zKk ((zK hb).range HK.out.2.1 id);clear HG hb hr ht)
  | (at_make;refine wpList_make_full _ rfl _ _ _ rfl W6.heap.size 39 i0 zs0 1 Tryz.underlying130 HI.out.1 HI.out.2.1 HI.out.2.2.1 .i64 .i64 256 256 256 rfl rfl rfl rfl (by rw[HI.out.2.2.2];omega) (by unfold maxLen;omega) (zzc _) ?_;intro W7 ho7 hg7;obtain⟨g,hg⟩:∃ g,g=W6.heap.size:=⟨_,rfl⟩;have hzg:=zEo H6.out.2.2 (by decide);rw[<-hg]at hzg;have hb7:Below W6.heap.size W6 W7:=zDj.below (B:=W6.heap.size) (zDj.of_grown (X:=fun _=>False) hg7 (fun k hk=>by cases hk)) (zzc _) (fun _ h=>h.elim);have k7:=zK hb7;have ht7:=zQg ho7;rw[<-hg]at ht7 ⊢;have H7:=zzb (show SD w5 W7 z8 g 0 x0 from ⟨H6.out.1.trans (hb7.mono H6.out.1.size),k7.range H6.out.2.1 id,k7.there H6.out.2.2 (by decide) id,ht7,fun n hn=>absurd hn (Nat.not_lt_zero _),by rw[HZ8.out];exact zzc _,hzg⟩);clear ho7 hg7 hzg hb7 k7 ht7 hg H6))
 clear g6 HI
 go_loopw [9,11,12] (fun lv iv _ W=>∃ (j left:Nat) (x:Sum),j<=256/\iv=.int .i64 (255 - (j:Int))/\lv=.int .i64 (left:Int)/\left<=M/\zIc k which j (x0,S,false)=(x,S.take left,false)/\SD w5 W z8 g j x) (fun _ iv _ _=>(intOf iv+1).toNat)
 case atStart=>exact⟨0,M,x0,by omega,rfl,rfl,zzc _,by rw[HM.out,List.take_length];rfl,H7.out⟩
 case round =>
  clear H7
  obtain⟨j,left,x,hj,rfl,rfl,hlM,hrun,hB⟩:=hrel
  have HRUN:=zAI hlM hrun
  have HB:=zzb hB
  clear hlM hrun hB
  by_cases hlt:j<256
  ·obtain⟨D,hD⟩:∃ D,D=255 - j:=⟨_,rfl⟩
   have hd:(255:Int) - (j:Int)=(D:Int):=by omega
   rw[hd]
   obtain⟨E,hE⟩:∃ E,E=D+1:=⟨_,rfl⟩
   have c1:decide ((0:Int)<=(D:Int))=true:=by simp
   have hw:IntKind.i64.wrap ((D:Int)+1)=(E:Int):=by rw[zzr];omega
   have hE0:(0:Int)<=(E:Int):=by omega
   have hE1:(E:Int)<257:=by omega
   have hE2:E<257:=by omega
   have hD0:(0:Int)<=(D:Int):=by omega
   have hD1:(D:Int)<256:=by omega
   obtain⟨bn',on',cn',hen,hcn',hnr⟩:=zGz HK.out.2.2.2.2
   simp only[zzh,zzj,zyn,and_true,true_and]at hen
   obtain⟨⟨rfl,rfl⟩,rfl⟩:=hen
   have hrn:=hnr wr HB.out.bw j (by omega)
   rw[show 256 - j=E by omega]at hrn
   have HRN:=zzb hrn
   have HD:=zAI hD (zza hE hlt)
   clear hD hd hE hlt hj hnr hrn
   have HG:=zzb trivial
   go_wp2_with (first
    | (have _:=HG;refine zDb rfl _ rfl bn (on+E*32) rfl (em j) HRN.out ?_)
    | (have _:=HG;refine zD3 (by rfl) rfl _ _ rfl (em j) rfl rfl ?_;intro V hb hr ht;obtain⟨z12,hz12⟩:∃ z,z=wr.heap.size:=⟨_,rfl⟩;rw[<-hz12]at hr ht ⊢;have HV:=zAI hb (zza hr ht);have HZ12:=zzb (show z12=wr.heap.size/\g<z12 from ⟨hz12,by rw[hz12];exact zEo HB.out.gt (by decide)⟩);clear HG hb hr ht hz12)
    | (have _:=HZ12;refine zDb rfl _ rfl z5 0 rfl which (zNx ((zK (HB.out.call HV.out.1).bw).range HK.out.2.1 id)) ?_))
   have hbw:=fun W=>zIz which D W (by have:=HD.out;omega)
   obtain⟨qw,hqw⟩:∃ y,y=(Keys.kn which>>>j)%2:=⟨_,rfl⟩
   rw[show 255 - D=j by have:=HD.out;omega,<-hqw]at hbw
   have hwb:=Keys.bit_odd (Keys.kn which) j
   rw[<-hqw]at hwb
   have hq2:qw<2:=by rw[hqw];exact zym _ (by decide)
   clear hqw
   have hw01:qw=0∨qw=1:=by omega
   rcases hw01 with rfl | rfl
   ·rw[show ((0:Nat):Int)=0 from rfl]at hbw
    have HBW:=zzb hbw
    have HWB:=zzb (show (Keys.kn which).testBit j=false by rw[hwb];rfl)
    clear hbw hwb hq2
    refine (HBW.out V).mono ?_
    rintro e V7 ⟨rfl,hb7⟩
    have HV7:=zAI (HV.out.1.trans (hb7.mono HV.out.1.size)) ((zK hb7).range HV.out.2.1 id)
    clear hb7 HV HBW
    have HV:=zzb HV7.out
    clear HV7
    have hbk:=fun W=>zIz k D W (by have:=HD.out;omega)
    obtain⟨qk,hqk⟩:∃ y,y=(Keys.kn k>>>j)%2:=⟨_,rfl⟩
    rw[show 255 - D=j by have:=HD.out;omega,<-hqk]at hbk
    have hkb:=Keys.bit_odd (Keys.kn k) j
    rw[<-hqk]at hkb
    have hq2:qk<2:=by rw[hqk];exact zym _ (by decide)
    clear hqk
    have hk01:qk=0∨qk=1:=by omega
    rcases hk01 with rfl | rfl
    ·rw[show ((0:Nat):Int)=0 from rfl]at hbk
     have HBK:=zzb hbk
     have HKB:=zzb (show (Keys.kn k).testBit j=false by rw[hkb];rfl)
     clear hbk hkb hq2
     go_wp2_with (refine zDb rfl _ rfl w.heap.size 0 rfl k ((zK (HB.out.call HV.out.1).bw).range HK.out.1 id) ?_)
     refine (HBK.out _).mono ?_
     rintro e V8 ⟨rfl,hb8⟩
     have HV8:=zAI (HB.out.call (HV.out.1.trans (hb8.mono HV.out.1.size))) ((zK hb8).range HV.out.2 id)
     clear hb8 HV HBK
     go_wp2_with (first
      | (have _:=HV8;refine zDb rfl _ rfl z8 0 rfl x HV8.out.1.zr ?_)
      | (have _:=HV8;refine zDb rfl _ rfl z12 0 rfl (em j) HV8.out.2 ?_)
      | (have _:=HV8;go_at_call 155;refine (zK5 (x) (em j) _).mono ?_;rintro e V9 ⟨u9,rfl,hu,hb9,hn9⟩;obtain⟨au,nu,cu,rfl⟩:=zE1 hu;have h9:=HV8.out.1.call hb9;have hln:=h9.line (by have:=HD.out;omega) hu (fun k hk=>by have h1:=hn9 k hk;have h2:=zEo HV8.out.1.gt (by decide);omega);rw[show 255 - j=D by have:=HD.out;omega]at hln;have hz:=(zK hb9).range HV8.out.2 id;have kg:zDj (·=g) V9 (V9.setCell ⟨g,D,none⟩ (.slice au nu cu)):=zDy g [_] D V9;have hz2:=kg.range hz (show ¬z12=g by have h1:=HZ12.out;omega);have HS:=zAI hln hz2;have hth:=h9.gt D (by have:=HD.out;omega);rw[zzn]at hth;obtain⟨old,hold⟩:=zzI.1 hth.1;have hfz:=hth.2;clear hb9 hu hn9 h9 hln hz hz2 kg hth HV8)
      | (have _:=HS;refine zDb rfl _ rfl z8 0 rfl x HS.out.1.zr ?_)
      | (have _:=HS;refine zDb rfl _ rfl z12 0 rfl (em j) HS.out.2 ?_)
      | (have _:=HS;go_at_call 125;refine (zHm (x) (em j) _).mono ?_;rintro e V11 ⟨rfl,hb11⟩;have HS11:=zzb (HS.out.1.call hb11);clear hb11 HS)
      | (refine zDm rfl _ _ rfl z8 0 (sd (x) (em j)) rfl rfl HS11.out.zt ?_))
     refine⟨⟨j+1,left,sd (x) (em j),by have:=HD.out;omega,congrArg _ (by have:=HD.out;first | omega | (unfold wrap64;omega)),rfl,HRUN.out.1,by rw[zIc,zMn HWB.out,HRUN.out.2,zN6 HKB.out],HS11.out.setx _⟩,by simp only[intOf];have:=HD.out;first | omega | (unfold wrap64;omega)⟩
    ·rw[show ((1:Nat):Int)=1 from rfl]at hbk
     have HBK:=zzb hbk
     have HKB:=zzb (show (Keys.kn k).testBit j=true by rw[hkb];rfl)
     clear hbk hkb hq2
     go_wp2_with (refine zDb rfl _ rfl w.heap.size 0 rfl k ((zK (HB.out.call HV.out.1).bw).range HK.out.1 id) ?_)
     refine (HBK.out _).mono ?_
     rintro e V8 ⟨rfl,hb8⟩
     have HV8:=zAI (HB.out.call (HV.out.1.trans (hb8.mono HV.out.1.size))) ((zK hb8).range HV.out.2 id)
     clear hb8 HV HBK
     go_wp2_with (first
      | (have _:=HV8;refine zDb rfl _ rfl z8 0 rfl x HV8.out.1.zr ?_)
      | (have _:=HV8;refine zDb rfl _ rfl z12 0 rfl (em j) HV8.out.2 ?_)
      | (have _:=HV8;go_at_call 155;refine (zK5 (em j) (x) _).mono ?_;rintro e V9 ⟨u9,rfl,hu,hb9,hn9⟩;obtain⟨au,nu,cu,rfl⟩:=zE1 hu;have h9:=HV8.out.1.call hb9;have hln:=h9.line (by have:=HD.out;omega) hu (fun k hk=>by have h1:=hn9 k hk;have h2:=zEo HV8.out.1.gt (by decide);omega);rw[show 255 - j=D by have:=HD.out;omega]at hln;have hz:=(zK hb9).range HV8.out.2 id;have kg:zDj (·=g) V9 (V9.setCell ⟨g,D,none⟩ (.slice au nu cu)):=zDy g [_] D V9;have hz2:=kg.range hz (show ¬z12=g by have h1:=HZ12.out;omega);have HS:=zAI hln hz2;have hth:=h9.gt D (by have:=HD.out;omega);rw[zzn]at hth;obtain⟨old,hold⟩:=zzI.1 hth.1;have hfz:=hth.2;clear hb9 hu hn9 h9 hln hz hz2 kg hth HV8)
      | (have _:=HS;refine zDb rfl _ rfl z8 0 rfl x HS.out.1.zr ?_)
      | (have _:=HS;refine zDb rfl _ rfl z12 0 rfl (em j) HS.out.2 ?_)
      | (have _:=HS;go_at_call 125;refine (zHm (em j) (x) _).mono ?_;rintro e V11 ⟨rfl,hb11⟩;have HS11:=zzb (HS.out.1.call hb11);clear hb11 HS)
      | (refine zDm rfl _ _ rfl z8 0 (sd (em j) (x)) rfl rfl HS11.out.zt ?_))
     refine⟨⟨j+1,left,sd (em j) (x),by have:=HD.out;omega,congrArg _ (by have:=HD.out;first | omega | (unfold wrap64;omega)),rfl,HRUN.out.1,by rw[zIc,zMn HWB.out,HRUN.out.2,zPv HKB.out],HS11.out.setx _⟩,by simp only[intOf];have:=HD.out;first | omega | (unfold wrap64;omega)⟩
   ·rw[show ((1:Nat):Int)=1 from rfl]at hbw
    have HBW:=zzb hbw
    have HWB:=zzb (show (Keys.kn which).testBit j=true by rw[hwb];rfl)
    clear hbw hwb hq2
    refine (HBW.out V).mono ?_
    rintro e V7 ⟨rfl,hb7⟩
    have kk:=zK hb7
    have HV7:=zAI (HV.out.1.trans (hb7.mono HV.out.1.size)) (zza (kk.range HV.out.2.1 id) (kk.there HV.out.2.2 (by decide) id))
    clear kk hb7 HV HBW
    cases left with
    | zero =>
     have hout:=yGi HWB.out (s:=(x0,S,false)) (by rw[HRUN.out.2];rfl)
     have hall:=zS7 k which (x0,S,false) hout (255 - j)
     rw[show j+1+(255 - j)=256 by have:=HD.out;omega,HOK.out]at hall
     cases hall
    | succ left =>
     have hb57:=(HB.out.call HV7.out.1).bw
     have hsl:=zKk ((zK hb57).range HK.out.2.1 id)
     have hsa:=zQr (HK.out.2.2.2.1.below hb57 (zzc _)) (i:=left) (by rw[<-HM.out];have:=HRUN.out.1;omega)
     obtain⟨bS,oS,cS',hes,_,hrs⟩:=hsa
     simp only[zzh]at hes
     obtain⟨rfl,-,rfl⟩:=hes
     obtain⟨t,ht⟩:∃ t,t=S.getD left zDv:=⟨_,rfl⟩
     rw[<-ht]at hrs
     have hgt:S[left]? = some t:=by
      have hl:left<S.length:=by rw[<-HM.out];have:=HRUN.out.1;omega
      rw[ht,zzg,zzf hl];rfl
     have HGT:=zzb hgt
     have HRS:=zzb hrs
     have f4:IntKind.i64.wrap (((left+1:Nat):Int) - 1)=(left:Int):=by rw[zzr];have:=HRUN.out.1;have:=HL.out.1;have:=HM.out;omega
     have f6:(left:Int)<(M:Int):=by have:=HRUN.out.1;omega
     have f7:(0:Int)<=(left:Int):=by omega
     clear ht hgt hrs hb57
     obtain⟨L1,hL1⟩:∃ y,y=left+1:=⟨_,rfl⟩
     rw[<-hL1]at f4 HRUN ⊢
     have HL1:=zzb hL1
     clear hL1
     have HG:=zzb trivial
     go_wp2_with (first
      | (have _:=HG;refine zDb rfl _ rfl bS (oS+left*32) rfl t HRS.out ?_)
      | (have _:=HG;refine zDm rfl _ _ rfl z12 0 t rfl rfl HV7.out.2.2 ?_;have HV:=zAI (zDc z12 (by rw[HZ12.out.1];exact zzc _) (cellsOf t) 0 _ _ HV7.out.1) (zDf z12 (cellsOf t) 0 V7 (by rw[zDa];exact zzd HV7.out.2.2 _ _ _));clear HG;refine Hid.out ?_))
     refine zzb ?_
     clear f4 f6 f7 hsl HV7
     have hbk:=fun W=>zIz k D W (by have:=HD.out;omega)
     obtain⟨qk,hqk⟩:∃ y,y=(Keys.kn k>>>j)%2:=⟨_,rfl⟩
     rw[show 255 - D=j by have:=HD.out;omega,<-hqk]at hbk
     have hkb:=Keys.bit_odd (Keys.kn k) j
     rw[<-hqk]at hkb
     have hq2:qk<2:=by rw[hqk];exact zym _ (by decide)
     clear hqk
     have hk01:qk=0∨qk=1:=by omega
     rcases hk01 with rfl | rfl
     ·rw[show ((0:Nat):Int)=0 from rfl]at hbk
      have HBK:=zzb hbk
      have HKB:=zzb (show (Keys.kn k).testBit j=false by rw[hkb];rfl)
      clear hbk hkb hq2
      go_wp2_with (refine zDb rfl _ rfl w.heap.size 0 rfl k ((zK (HB.out.call HV.out.1).bw).range HK.out.1 id) ?_)
      refine (HBK.out _).mono ?_
      rintro e V8 ⟨rfl,hb8⟩
      have HV8:=zAI (HB.out.call (HV.out.1.trans (hb8.mono HV.out.1.size))) ((zK hb8).range HV.out.2 id)
      clear hb8 HV HBK
      go_wp2_with (first
       | (have _:=HV8;refine zDb rfl _ rfl z8 0 rfl x HV8.out.1.zr ?_)
       | (have _:=HV8;refine zDb rfl _ rfl z12 0 rfl (t) HV8.out.2 ?_)
       | (have _:=HV8;go_at_call 155;refine (zK5 (x) (t) _).mono ?_;rintro e V9 ⟨u9,rfl,hu,hb9,hn9⟩;obtain⟨au,nu,cu,rfl⟩:=zE1 hu;have h9:=HV8.out.1.call hb9;have hln:=h9.line (by have:=HD.out;omega) hu (fun k hk=>by have h1:=hn9 k hk;have h2:=zEo HV8.out.1.gt (by decide);omega);rw[show 255 - j=D by have:=HD.out;omega]at hln;have hz:=(zK hb9).range HV8.out.2 id;have kg:zDj (·=g) V9 (V9.setCell ⟨g,D,none⟩ (.slice au nu cu)):=zDy g [_] D V9;have hz2:=kg.range hz (show ¬z12=g by have h1:=HZ12.out;omega);have HS:=zAI hln hz2;have hth:=h9.gt D (by have:=HD.out;omega);rw[zzn]at hth;obtain⟨old,hold⟩:=zzI.1 hth.1;have hfz:=hth.2;clear hb9 hu hn9 h9 hln hz hz2 kg hth HV8)
       | (have _:=HS;refine zDb rfl _ rfl z8 0 rfl x HS.out.1.zr ?_)
       | (have _:=HS;refine zDb rfl _ rfl z12 0 rfl (t) HS.out.2 ?_)
       | (have _:=HS;go_at_call 125;refine (zHm (x) (t) _).mono ?_;rintro e V11 ⟨rfl,hb11⟩;have HS11:=zzb (HS.out.1.call hb11);clear hb11 HS)
       | (refine zDm rfl _ _ rfl z8 0 (sd (x) (t)) rfl rfl HS11.out.zt ?_))
      refine⟨⟨j+1,left,sd (x) (t),by have:=HD.out;omega,congrArg _ (by have:=HD.out;first | omega | (unfold wrap64;omega)),rfl,by have:=HRUN.out.1;have:=HL1.out;omega,by rw[zTt HWB.out (by rw[<-HL1.out];exact HRUN.out.2) HGT.out,zN6 HKB.out],HS11.out.setx _⟩,by simp only[intOf];have:=HD.out;first | omega | (unfold wrap64;omega)⟩
     ·rw[show ((1:Nat):Int)=1 from rfl]at hbk
      have HBK:=zzb hbk
      have HKB:=zzb (show (Keys.kn k).testBit j=true by rw[hkb];rfl)
      clear hbk hkb hq2
      go_wp2_with (refine zDb rfl _ rfl w.heap.size 0 rfl k ((zK (HB.out.call HV.out.1).bw).range HK.out.1 id) ?_)
      refine (HBK.out _).mono ?_
      rintro e V8 ⟨rfl,hb8⟩
      have HV8:=zAI (HB.out.call (HV.out.1.trans (hb8.mono HV.out.1.size))) ((zK hb8).range HV.out.2 id)
      clear hb8 HV HBK
      go_wp2_with (first
       | (have _:=HV8;refine zDb rfl _ rfl z8 0 rfl x HV8.out.1.zr ?_)
       | (have _:=HV8;refine zDb rfl _ rfl z12 0 rfl (t) HV8.out.2 ?_)
       | (have _:=HV8;go_at_call 155;refine (zK5 (t) (x) _).mono ?_;rintro e V9 ⟨u9,rfl,hu,hb9,hn9⟩;obtain⟨au,nu,cu,rfl⟩:=zE1 hu;have h9:=HV8.out.1.call hb9;have hln:=h9.line (by have:=HD.out;omega) hu (fun k hk=>by have h1:=hn9 k hk;have h2:=zEo HV8.out.1.gt (by decide);omega);rw[show 255 - j=D by have:=HD.out;omega]at hln;have hz:=(zK hb9).range HV8.out.2 id;have kg:zDj (·=g) V9 (V9.setCell ⟨g,D,none⟩ (.slice au nu cu)):=zDy g [_] D V9;have hz2:=kg.range hz (show ¬z12=g by have h1:=HZ12.out;omega);have HS:=zAI hln hz2;have hth:=h9.gt D (by have:=HD.out;omega);rw[zzn]at hth;obtain⟨old,hold⟩:=zzI.1 hth.1;have hfz:=hth.2;clear hb9 hu hn9 h9 hln hz hz2 kg hth HV8)
       | (have _:=HS;refine zDb rfl _ rfl z8 0 rfl x HS.out.1.zr ?_)
       | (have _:=HS;refine zDb rfl _ rfl z12 0 rfl (t) HS.out.2 ?_)
       | (have _:=HS;go_at_call 125;refine (zHm (t) (x) _).mono ?_;rintro e V11 ⟨rfl,hb11⟩;have HS11:=zzb (HS.out.1.call hb11);clear hb11 HS)
       | (refine zDm rfl _ _ rfl z8 0 (sd (t) (x)) rfl rfl HS11.out.zt ?_))
      refine⟨⟨j+1,left,sd (t) (x),by have:=HD.out;omega,congrArg _ (by have:=HD.out;first | omega | (unfold wrap64;omega)),rfl,by have:=HRUN.out.1;have:=HL1.out;omega,by rw[zTt HWB.out (by rw[<-HL1.out];exact HRUN.out.2) HGT.out,zPv HKB.out],HS11.out.setx _⟩,by simp only[intOf];have:=HD.out;first | omega | (unfold wrap64;omega)⟩
  ·have hj6:j=256:=by omega
   subst hj6
   have c1:decide ((0:Int)<=255 - ((256:Nat):Int))=false:=by decide
   have HE:=zAI HB.out.lines (HK.out.2.2.1.trans (HB.out.bw.mono HK.out.2.2.1.size))
   clear hj hlt HB
   go_wp2_with fail
   exact zzM (zzN (t:=6) rfl _ _ _) rfl ⟨_,rfl,HE.out.1,HE.out.2⟩
end Go.Proofs.YtfmgoehnbaiamaaGreatDoor
