/- Joined: SO10, SO11, VTW2, SO12. -/
import Derived.Test.YtfmgoehnbaiamaaGreatDoorZBF
set_option maxRecDepth 100000
set_option maxHeartbeats 1000000
open Go Go.RowKit Alm
namespace Go.Proofs.YtfmgoehnbaiamaaGreatDoor
variable {b n:Nat}{k t which x:Sum}{v:Value}{w:World}
theorem zNx(h:w.rangeAt b 0 (zDe which v)):w.rangeAt b 0 (cellsOf which):=(zDt.1 h).1
theorem zKk(h:w.rangeAt b 0 (zDe which v)):w.cell? ⟨b,32,none⟩=some v:=by
 have:=h 32 v (by rw[zDe,zzo (by rw[zDa];omega),zDa];rfl)
 rwa[zzn]at this
theorem zN6(h:(Keys.kn k).testBit n=false):join k n t x=sd x t:=by unfold join;rw[zzZ (by rw[h];decide)]
theorem zPv(h:(Keys.kn k).testBit n=true):join k n t x=sd t x:=by unfold join;rw[zzY h]
theorem zV9{S:List Sum}{left:Nat}(h:left<=S.length):(S.take left=[])↔left=0:=by
 constructor
 ·intro h0
  have:=congrArg List.length h0
  rw[zzq,zzS]at this
  omega
 ·rintro rfl;exact List.take_zero
theorem zOi(k which:Sum)(v vS:Value)(bs:List UInt8)(S:List Sum)(w:World)(hv:zDk w v bs)(hs:zD1 w vS S)(hS:S.length<100000)(hbs:bs.length<900000):
  Calls Tryz.prog 103 #[sv k,v,shV which vS] w fun e w'=>∃ (x:Sum) (ok:Bool),e=.returned (.tuple #[sv x,.bool ok])/\ok=decide ((zIc k which 256 (vl k bs,S,false)).2.2=false/\(zIc k which 256 (vl k bs,S,false)).2.1=[])/\(ok=true->x=(zIc k which 256 (vl k bs,S,false)).1)/\Below w.heap.size w w':=by
 obtain⟨w1,hw1⟩:∃ x,x=w.alloc (.cells (cellsOf k).toArray 24):=⟨_,rfl⟩
 obtain⟨w2,hw2⟩:∃ x,x=w1.alloc (.cells (zDe which vS).toArray 63):=⟨_,rfl⟩
 obtain⟨w3,hw3⟩:∃ x,x=w2.alloc (.cells (cellsOf zDv).toArray 24):=⟨_,rfl⟩
 have r1:w1.rangeAt w.heap.size 0 (cellsOf k):=by rw[hw1];exact zDh w _ _ _ rfl
 have r2:w2.rangeAt w1.heap.size 0 (zDe which vS):=by rw[hw2];exact zDh w1 _ _ _ rfl
 have t3:w3.there w2.heap.size 0 32:=by rw[hw3];exact zD5 w2 (cellsOf zDv).toArray _
 have b1:Below w.heap.size w w1:=by rw[hw1];exact al (zze _ _) _
 have b2:Below w1.heap.size w1 w2:=by rw[hw2];exact al (zze _ _) _
 have b3:Below w2.heap.size w2 w3:=by rw[hw3];exact al (zze _ _) _
 have r13:=(zK b3).range ((zK b2).range r1 id) id
 have r23:=(zK b3).range r2 id
 have b13:=(b1.trans (b2.mono b1.size)).trans (b3.mono (zzk b1.size b2.size))
 have s1:w1.heap.size=w.heap.size+1:=by rw[hw1,zzp]
 have s2:w2.heap.size=w.heap.size+2:=by rw[hw2,zzp,s1]
 rw[s1]at r23
 rw[s2]at t3
 have H0:=zAI r13 (zza r23 (zza t3 (zza b13 (zza (zDg hv b13 (zzc _)) (hs.below b13 (zzc _))))))
 have HW:=zAI hw1 (zza hw2 hw3)
 have HL:=zAI hS hbs
 obtain⟨a0,c0,rfl,_,_,_⟩:=id hv
 obtain⟨n0,hn0⟩:∃ n,n=bs.length:=⟨_,rfl⟩
 obtain⟨aS,cS,rfl,hcS,_,_⟩:=id hs
 obtain⟨M,hM⟩:∃ n,n=S.length:=⟨_,rfl⟩
 rw[<-hn0,<-hM]at H0
 rw[<-hM]at HW hcS
 rw[<-hn0,<-hM]
 have HM:=zzb hM
 clear r1 r2 t3 b1 b2 b3 r13 r23 b13 s1 s2 hw1 hw2 hw3 hv hs hS hbs hM hn0
 obtain⟨z3,hz3⟩:∃ z,z=w.heap.size:=⟨_,rfl⟩
 obtain⟨z5,hz5⟩:∃ z,z=w.heap.size+1:=⟨_,rfl⟩
 obtain⟨z6,hz6⟩:∃ z,z=w.heap.size+2:=⟨_,rfl⟩
 have HZ:=zAI hz3 (zza hz5 hz6)
 rw[<-hz5,<-hz6]at H0
 have k0:(M:Int)<=(cS:Int):=by omega
 clear hz3 hz5 hz6
 obtain⟨x0,hx0⟩:∃ x,x=vl k bs:=⟨_,rfl⟩
 have hval:=fun W hW=>zTl k bs (.slice a0 n0 c0) W hW HL.out.2
 rw[<-hx0]at hval ⊢
 have HVAL:=zzb hval
 clear hval hx0
 unfold shV
 go_enter Tryz.func103,Tryz.ntmps103
 refine Alm.wp_cut 1 ?_
 intro T hT
 dsimp only[zKi]
 replace hT:=zzb hT
 go_wp2_with fail
 refine hT.out _ _ ?_
 clear hT
 dsimp only[zF0]
 rw[show w.heap.size+1+1=w.heap.size+2 from rfl,<-HZ.out.2.1,<-HZ.out.2.2]
 change Code.wp _ _ _ _ (((w.alloc (.cells (cellsOf k).toArray 24)).alloc (.cells (zDe which (.slice aS M cS)).toArray 63)).alloc (.cells (cellsOf zDv).toArray 24))
 rw[<-HW.out.1,<-HW.out.2.1,<-HW.out.2.2]
 clear HW
 go_wp2_with fail
 refine (zN8 w3).mono ?_
 rintro e w4 ⟨vn,rfl,hvn,hb⟩
 obtain⟨bn,on,cn,rfl,hcn,hnr⟩:=zGz hvn
 have kk:=zK hb
 have H4:=zAI (kk.range H0.out.1 id) (zza (kk.range H0.out.2.1 id) (zza (kk.there H0.out.2.2.1 (by decide) id) (zza (H0.out.2.2.2.1.trans (hb.mono H0.out.2.2.2.1.size)) (zza (zDg H0.out.2.2.2.2.1 hb (zzc _)) (zza (H0.out.2.2.2.2.2.below hb (zzc _)) (zza hvn trivial))))))
 clear kk hb hvn H0 hnr
 go_wp2_with (refine zDb rfl _ rfl w.heap.size 0 rfl k H4.out.1 ?_)
 refine (HVAL.out w4 H4.out.2.2.2.2.1).mono ?_
 rintro e w5 ⟨rfl,hb⟩
 have kk:=zK hb
 have HK:=zAI (kk.range H4.out.1 id) (zza (kk.range H4.out.2.1 id) (zza (kk.there H4.out.2.2.1 (by decide) id) (zza (H4.out.2.2.2.1.trans (hb.mono H4.out.2.2.2.1.size)) (zza (H4.out.2.2.2.2.2.1.below hb (zzc _)) (H4.out.2.2.2.2.2.2.1.below hb (zzc _))))))
 clear kk hb H4 HVAL
 obtain⟨z9,hz9⟩:∃ z,z=w5.heap.size:=⟨_,rfl⟩
 have HZ9:=zzb hz9
 have hq6:z6<z9:=by rw[hz9];exact zEo HK.out.2.2.1 (by decide)
 have HQ6:=zzb hq6
 clear hz9 hq6
 have HG:=zzb trivial
 go_wp2_with (have _:=HG;refine zD3 (by rfl) rfl _ _ rfl x0 rfl rfl ?_;intro W6 hb hr ht;rw[<-HZ9.out]at hr ht ⊢;have H6:=zAI hb (zza hr ht);have g6:=zKk ((zK hb).range HK.out.2.1 id);clear HG hb hr ht)
 clear g6
 go_loopw [10,11,12] (fun lv iv _ W=>∃ (j left:Nat) (x:Sum),j<=256/\iv=.int .i64 (255 - (j:Int))/\lv=.int .i64 (left:Int)/\left<=M/\zIc k which j (x0,S,false)=(x,S.take left,false)/\Below w5.heap.size w5 W/\W.rangeAt z9 0 (cellsOf x)/\W.there z9 0 32) (fun _ iv _ _=>(intOf iv+1).toNat)
 case atStart=>exact⟨0,M,x0,by omega,rfl,rfl,zzc _,by rw[HM.out,List.take_length];rfl,H6.out⟩
 case round =>
  clear H6
  obtain⟨j,left,x,hj,rfl,rfl,hlM,hrun,hB,hr9,ht9⟩:=hrel
  have HRUN:=zAI hlM hrun
  have HB:=zAI hB (zza hr9 ht9)
  clear hlM hrun hB hr9 ht9
  by_cases hlt:j<256
  ·obtain⟨D,hD⟩:∃ D,D=255 - j:=⟨_,rfl⟩
   have hd:(255:Int) - (j:Int)=(D:Int):=by omega
   rw[hd]
   obtain⟨E,hE⟩:∃ E,E=D+1:=⟨_,rfl⟩
   have c1:decide ((0:Int)<=(D:Int))=true:=by simp
   have hw:IntKind.i64.wrap ((D:Int)+1)=(E:Int):=by rw[zzr];omega
   have hE0:(0:Int)<=(E:Int):=by omega
   have hE1:(E:Int)<257:=by omega
   have hE2:E<257:=by omega
   obtain⟨bn',on',cn',hen,hcn',hnr⟩:=zGz HK.out.2.2.2.2.2
   simp only[zzh,zzj,zyn,and_true,true_and]at hen
   obtain⟨⟨rfl,rfl⟩,rfl⟩:=hen
   have hrn:=hnr wr HB.out.1 j (by omega)
   rw[show 256 - j=E by omega]at hrn
   have HRN:=zzb hrn
   have HD:=zAI hD (zza hE hlt)
   clear hD hd hE hlt hj hnr hrn
   have HG:=zzb trivial
   go_wp2_with (first
    | (have _:=HG;refine zDb rfl _ rfl bn (on+E*32) rfl (em j) HRN.out ?_)
    | (have _:=HG;refine zD3 (by rfl) rfl _ _ rfl (em j) rfl rfl ?_;intro V hb hr ht;obtain⟨z12,hz12⟩:∃ z,z=wr.heap.size:=⟨_,rfl⟩;rw[<-hz12]at hr ht ⊢;have kk:=zK hb;have HV:=zAI (HB.out.1.trans (hb.mono HB.out.1.size)) (zza (kk.range HB.out.2.1 id) (zza (kk.there HB.out.2.2 (by decide) id) (zza hr ht)));have HZ12:=zzb (by rw[hz12];exact zEo HB.out.2.2 (by decide):z9<z12);clear HG hb hr ht hz12 kk HB)
    | (have _:=HZ12;refine zDb rfl _ rfl z5 0 rfl which (zNx ((zK HV.out.1).range HK.out.2.1 id)) ?_))
   have hbw:=fun W=>zIz which D W (by have:=HD.out;omega)
   obtain⟨qw,hqw⟩:∃ y,y=(Keys.kn which>>>j)%2:=⟨_,rfl⟩
   rw[show 255 - D=j by have:=HD.out;omega,<-hqw]at hbw
   have hwb:=Keys.bit_odd (Keys.kn which) j
   rw[<-hqw]at hwb
   have hq2:qw<2:=by rw[hqw];exact zym _ (by decide)
   clear hqw
   have hw01:qw=0∨qw=1:=by omega
   rcases hw01 with rfl | rfl
   ·rw[show ((0:Nat):Int)=0 from rfl]at hbw
    have HBW:=zzb hbw
    have HWB:=zzb (show (Keys.kn which).testBit j=false by rw[hwb];rfl)
    clear hbw hwb hq2
    refine (HBW.out V).mono ?_
    rintro e V7 ⟨rfl,hb7⟩
    have kk:=zK hb7
    have HV7:=zAI (HV.out.1.trans (hb7.mono HV.out.1.size)) (zza (kk.range HV.out.2.1 id) (zza (kk.there HV.out.2.2.1 (by decide) id) (kk.range HV.out.2.2.2.1 id)))
    clear kk hb7 HV HBW
    have HV:=zzb HV7.out
    clear HV7
    have hbk:=fun W=>zIz k D W (by have:=HD.out;omega)
    obtain⟨qk,hqk⟩:∃ y,y=(Keys.kn k>>>j)%2:=⟨_,rfl⟩
    rw[show 255 - D=j by have:=HD.out;omega,<-hqk]at hbk
    have hkb:=Keys.bit_odd (Keys.kn k) j
    rw[<-hqk]at hkb
    have hq2:qk<2:=by rw[hqk];exact zym _ (by decide)
    clear hqk
    have hk01:qk=0∨qk=1:=by omega
    rcases hk01 with rfl | rfl
    ·rw[show ((0:Nat):Int)=0 from rfl]at hbk
     have HBK:=zzb hbk
     have HKB:=zzb (show (Keys.kn k).testBit j=false by rw[hkb];rfl)
     clear hbk hkb hq2
     go_wp2_with (refine zDb rfl _ rfl w.heap.size 0 rfl k ((zK HV.out.1).range HK.out.1 id) ?_)
     refine (HBK.out _).mono ?_
     rintro e V8 ⟨rfl,hb8⟩
     have kk:=zK hb8
     have HV8:=zAI (HV.out.1.trans (hb8.mono HV.out.1.size)) (zza (kk.range HV.out.2.1 id) (zza (kk.there HV.out.2.2.1 (by decide) id) (kk.range HV.out.2.2.2 id)))
     clear kk hb8 HV HBK
     go_wp2_with (first
      | (refine zDb rfl _ rfl z9 0 rfl x HV8.out.2.1 ?_)
      | (refine zDb rfl _ rfl z12 0 rfl (em j) HV8.out.2.2.2 ?_)
      | (go_at_call 125;refine (zHm (x) (em j) _).mono ?_;rintro e V9 ⟨rfl,hb9⟩;have HV9:=zAI (HV8.out.1.trans (hb9.mono HV8.out.1.size)) ((zK hb9).there HV8.out.2.2.1 (by decide) id);clear hb9)
      | (refine zDm rfl _ _ rfl z9 0 (sd (x) (em j)) rfl rfl HV9.out.2 ?_))
     refine⟨⟨j+1,left,sd (x) (em j),by have:=HD.out;omega,congrArg _ (by have:=HD.out;first | omega | (unfold wrap64;omega)),rfl,HRUN.out.1,by rw[zIc,zMn HWB.out,HRUN.out.2,zN6 HKB.out],zDc _ (by rw[HZ9.out];exact zzc _) _ _ _ _ HV9.out.1,zDf _ _ _ _ (by rw[zDa];exact zzd HV9.out.2 _ _ _),zzd HV9.out.2 _ _ _⟩,by simp only[intOf];have:=HD.out;first | omega | (unfold wrap64;omega)⟩
    ·rw[show ((1:Nat):Int)=1 from rfl]at hbk
     have HBK:=zzb hbk
     have HKB:=zzb (show (Keys.kn k).testBit j=true by rw[hkb];rfl)
     clear hbk hkb hq2
     go_wp2_with (refine zDb rfl _ rfl w.heap.size 0 rfl k ((zK HV.out.1).range HK.out.1 id) ?_)
     refine (HBK.out _).mono ?_
     rintro e V8 ⟨rfl,hb8⟩
     have kk:=zK hb8
     have HV8:=zAI (HV.out.1.trans (hb8.mono HV.out.1.size)) (zza (kk.range HV.out.2.1 id) (zza (kk.there HV.out.2.2.1 (by decide) id) (kk.range HV.out.2.2.2 id)))
     clear kk hb8 HV HBK
     go_wp2_with (first
      | (refine zDb rfl _ rfl z9 0 rfl x HV8.out.2.1 ?_)
      | (refine zDb rfl _ rfl z12 0 rfl (em j) HV8.out.2.2.2 ?_)
      | (go_at_call 125;refine (zHm (em j) (x) _).mono ?_;rintro e V9 ⟨rfl,hb9⟩;have HV9:=zAI (HV8.out.1.trans (hb9.mono HV8.out.1.size)) ((zK hb9).there HV8.out.2.2.1 (by decide) id);clear hb9)
      | (refine zDm rfl _ _ rfl z9 0 (sd (em j) (x)) rfl rfl HV9.out.2 ?_))
     refine⟨⟨j+1,left,sd (em j) (x),by have:=HD.out;omega,congrArg _ (by have:=HD.out;first | omega | (unfold wrap64;omega)),rfl,HRUN.out.1,by rw[zIc,zMn HWB.out,HRUN.out.2,zPv HKB.out],zDc _ (by rw[HZ9.out];exact zzc _) _ _ _ _ HV9.out.1,zDf _ _ _ _ (by rw[zDa];exact zzd HV9.out.2 _ _ _),zzd HV9.out.2 _ _ _⟩,by simp only[intOf];have:=HD.out;first | omega | (unfold wrap64;omega)⟩
   ·rw[show ((1:Nat):Int)=1 from rfl]at hbw
    have HBW:=zzb hbw
    have HWB:=zzb (show (Keys.kn which).testBit j=true by rw[hwb];rfl)
    clear hbw hwb hq2
    refine (HBW.out V).mono ?_
    rintro e V7 ⟨rfl,hb7⟩
    have kk:=zK hb7
    have HV7:=zAI (HV.out.1.trans (hb7.mono HV.out.1.size)) (zza (kk.range HV.out.2.1 id) (zza (kk.there HV.out.2.2.1 (by decide) id) (zza (kk.range HV.out.2.2.2.1 id) (kk.there HV.out.2.2.2.2 (by decide) id))))
    clear kk hb7 HV HBW
    cases left with
    | zero =>
     have hout:=yGi HWB.out (s:=(x0,S,false)) (by rw[HRUN.out.2];rfl)
     have hall:=zS7 k which (x0,S,false) hout (255 - j)
     rw[show j+1+(255 - j)=256 by have:=HD.out;omega]at hall
     have HALL:=zzb hall
     have HT6:=zzb ((zK HV7.out.1).there HK.out.2.2.1 (by decide) id)
     clear hout hall
     go_wp2_with (refine zDm rfl _ _ rfl z6 0 zDv rfl rfl HT6.out ?_)
     try rw[zzs]
     have hbz:Below w.heap.size w V7:=HK.out.2.2.2.1.trans (HV7.out.1.mono HK.out.2.2.2.1.size)
     exact zzM (zDq Tryz.results103 _ _ z6 0 (cellsOf zDv) _ rfl (zDf _ _ _ _ (by rw[zDa];exact zzd HT6.out _ _ _)) Tryz.underlying24 rfl (by rw[zDa];exact zF8)) rfl
      ⟨zDv,false,rfl,(zz1 (fun h=>by rw[HALL.out]at h;exact Bool.noConfusion h.1)).symm,(fun h=>(by cases h)),zDc _ (by rw[HZ.out.2.2];omega) _ _ _ _ hbz⟩
    | succ left =>
     have hsl:=zKk ((zK HV7.out.1).range HK.out.2.1 id)
     have hsa:=zQr (HK.out.2.2.2.2.1.below HV7.out.1 (zzc _)) (i:=left) (by rw[<-HM.out];have:=HRUN.out.1;omega)
     obtain⟨bS,oS,cS',hes,_,hrs⟩:=hsa
     simp only[zzh]at hes
     obtain⟨rfl,-,rfl⟩:=hes
     obtain⟨t,ht⟩:∃ t,t=S.getD left zDv:=⟨_,rfl⟩
     rw[<-ht]at hrs
     have hgt:S[left]? = some t:=by
      have hl:left<S.length:=by rw[<-HM.out];have:=HRUN.out.1;omega
      rw[ht,zzg,zzf hl];rfl
     have HGT:=zzb hgt
     have HRS:=zzb hrs
     have f1:decide (left+1=0)=false:=by simp
     have f2:decide (((left+1:Nat):Int)=0)=false:=by simp;omega
     have f3:((((left+1:Nat)):Int) == 0)=false:=by rw[zz4];omega
     have f4:IntKind.i64.wrap (((left+1:Nat):Int) - 1)=(left:Int):=by rw[zzr];have:=HRUN.out.1;have:=HL.out.1;have:=HM.out;omega
     have f6:(left:Int)<(M:Int):=by have:=HRUN.out.1;omega
     have f7:(0:Int)<=(left:Int):=by omega
     have HT12:=zzb HV7.out.2.2.2.2
     clear ht hgt hrs
     obtain⟨L1,hL1⟩:∃ y,y=left+1:=⟨_,rfl⟩
     rw[<-hL1]at f1 f2 f3 f4 HRUN ⊢
     have HL1:=zzb hL1
     clear hL1
     have HG:=zzb trivial
     go_wp2_with (first
      | (have _:=HG;refine zDb rfl _ rfl bS (oS+left*32) rfl t HRS.out ?_)
      | (have _:=HG;refine zDm rfl _ _ rfl z12 0 t rfl rfl HT12.out ?_;have k12:=zDy z12 (cellsOf t) 0 V7;have HV:=zAI (HV7.out.1.trans (k12.below HV7.out.1.size (fun i hi=>by have:=HZ12.out;have:=HZ9.out;omega))) (zza (k12.range HV7.out.2.1 (show ¬z9=z12 by have:=HZ12.out;omega)) (zza (k12.there HV7.out.2.2.1 (by decide) (show ¬z9=z12 by have:=HZ12.out;omega)) (zDf z12 (cellsOf t) 0 V7 (by rw[zDa];exact zzd HT12.out _ _ _))));clear HG k12;refine Hid.out ?_))
     refine zzb ?_
     clear f1 f2 f3 f4 f6 f7 hsl HT12 HV7
     have hbk:=fun W=>zIz k D W (by have:=HD.out;omega)
     obtain⟨qk,hqk⟩:∃ y,y=(Keys.kn k>>>j)%2:=⟨_,rfl⟩
     rw[show 255 - D=j by have:=HD.out;omega,<-hqk]at hbk
     have hkb:=Keys.bit_odd (Keys.kn k) j
     rw[<-hqk]at hkb
     have hq2:qk<2:=by rw[hqk];exact zym _ (by decide)
     clear hqk
     have hk01:qk=0∨qk=1:=by omega
     rcases hk01 with rfl | rfl
     ·rw[show ((0:Nat):Int)=0 from rfl]at hbk
      have HBK:=zzb hbk
      have HKB:=zzb (show (Keys.kn k).testBit j=false by rw[hkb];rfl)
      clear hbk hkb hq2
      go_wp2_with (refine zDb rfl _ rfl w.heap.size 0 rfl k ((zK HV.out.1).range HK.out.1 id) ?_)
      refine (HBK.out _).mono ?_
      rintro e V8 ⟨rfl,hb8⟩
      have kk:=zK hb8
      have HV8:=zAI (HV.out.1.trans (hb8.mono HV.out.1.size)) (zza (kk.range HV.out.2.1 id) (zza (kk.there HV.out.2.2.1 (by decide) id) (kk.range HV.out.2.2.2 id)))
      clear kk hb8 HV HBK
      go_wp2_with (first
       | (refine zDb rfl _ rfl z9 0 rfl x HV8.out.2.1 ?_)
       | (refine zDb rfl _ rfl z12 0 rfl (t) HV8.out.2.2.2 ?_)
       | (go_at_call 125;refine (zHm (x) (t) _).mono ?_;rintro e V9 ⟨rfl,hb9⟩;have HV9:=zAI (HV8.out.1.trans (hb9.mono HV8.out.1.size)) ((zK hb9).there HV8.out.2.2.1 (by decide) id);clear hb9)
       | (refine zDm rfl _ _ rfl z9 0 (sd (x) (t)) rfl rfl HV9.out.2 ?_))
      refine⟨⟨j+1,left,sd (x) (t),by have:=HD.out;omega,congrArg _ (by have:=HD.out;first | omega | (unfold wrap64;omega)),rfl,by have:=HRUN.out.1;have:=HL1.out;omega,by rw[zTt HWB.out (by rw[<-HL1.out];exact HRUN.out.2) HGT.out,zN6 HKB.out],zDc _ (by rw[HZ9.out];exact zzc _) _ _ _ _ HV9.out.1,zDf _ _ _ _ (by rw[zDa];exact zzd HV9.out.2 _ _ _),zzd HV9.out.2 _ _ _⟩,by simp only[intOf];have:=HD.out;first | omega | (unfold wrap64;omega)⟩
     ·rw[show ((1:Nat):Int)=1 from rfl]at hbk
      have HBK:=zzb hbk
      have HKB:=zzb (show (Keys.kn k).testBit j=true by rw[hkb];rfl)
      clear hbk hkb hq2
      go_wp2_with (refine zDb rfl _ rfl w.heap.size 0 rfl k ((zK HV.out.1).range HK.out.1 id) ?_)
      refine (HBK.out _).mono ?_
      rintro e V8 ⟨rfl,hb8⟩
      have kk:=zK hb8
      have HV8:=zAI (HV.out.1.trans (hb8.mono HV.out.1.size)) (zza (kk.range HV.out.2.1 id) (zza (kk.there HV.out.2.2.1 (by decide) id) (kk.range HV.out.2.2.2 id)))
      clear kk hb8 HV HBK
      go_wp2_with (first
       | (refine zDb rfl _ rfl z9 0 rfl x HV8.out.2.1 ?_)
       | (refine zDb rfl _ rfl z12 0 rfl (t) HV8.out.2.2.2 ?_)
       | (go_at_call 125;refine (zHm (t) (x) _).mono ?_;rintro e V9 ⟨rfl,hb9⟩;have HV9:=zAI (HV8.out.1.trans (hb9.mono HV8.out.1.size)) ((zK hb9).there HV8.out.2.2.1 (by decide) id);clear hb9)
       | (refine zDm rfl _ _ rfl z9 0 (sd (t) (x)) rfl rfl HV9.out.2 ?_))
      refine⟨⟨j+1,left,sd (t) (x),by have:=HD.out;omega,congrArg _ (by have:=HD.out;first | omega | (unfold wrap64;omega)),rfl,by have:=HRUN.out.1;have:=HL1.out;omega,by rw[zTt HWB.out (by rw[<-HL1.out];exact HRUN.out.2) HGT.out,zPv HKB.out],zDc _ (by rw[HZ9.out];exact zzc _) _ _ _ _ HV9.out.1,zDf _ _ _ _ (by rw[zDa];exact zzd HV9.out.2 _ _ _),zzd HV9.out.2 _ _ _⟩,by simp only[intOf];have:=HD.out;first | omega | (unfold wrap64;omega)⟩
  ·have hj6:j=256:=by omega
   subst hj6
   have c1:decide ((0:Int)<=255 - ((256:Nat):Int))=false:=by decide
   obtain⟨B,hBd⟩:∃ B:Bool,B=decide (left=0):=⟨_,rfl⟩
   have e1:decide ((left:Int)=0)=B:=by rw[hBd,zzX];omega
   have e2:decide (left=0)=B:=hBd.symm
   have e3:((left:Int) == 0)=B:=by rw[hBd,zyo,zyp,zzW];omega
   have HBD:=zzb hBd
   have HT6:=zzb ((zK HB.out.1).there HK.out.2.2.1 (by decide) id)
   clear hj hlt hBd
   go_wp2_with (first
    | (refine zDb rfl _ rfl z9 0 rfl x HB.out.2.1 ?_)
    | (refine zDm rfl _ _ rfl z6 0 x rfl rfl HT6.out ?_))
   try rw[zzs]
   have hbz:Below w.heap.size w wr:=HK.out.2.2.2.1.trans (HB.out.1.mono HK.out.2.2.2.1.size)
   exact zzM (zDq Tryz.results103 _ _ z6 0 (cellsOf x) _ rfl (zDf _ _ _ _ (by rw[zDa];exact zzd HT6.out _ _ _)) Tryz.underlying24 rfl (by rw[zDa];exact zF8)) rfl
    ⟨x,B,rfl,by
     rw[HRUN.out.2,HBD.out,zzX]
     exact⟨fun h=>⟨rfl,(zV9 (by rw[<-HM.out];exact HRUN.out.1)).2 h⟩,fun h=>(zV9 (by rw[<-HM.out];exact HRUN.out.1)).1 h.2⟩,(fun _=>by rw[HRUN.out.2]),zDc _ (by rw[HZ.out.2.2];omega) _ _ _ _ hbz⟩
theorem yDl(root k which:Sum)(v vS:Value)(bs:List UInt8)(S:List Sum)(w:World)(hv:zDk w v bs)(hs:zD1 w vS S)(hS:S.length<100000)(hbs:bs.length<900000):
  Calls Tryz.prog 31 #[sv root,sv k,v,shV which vS] w fun e w'=>e=.returned (.bool (zGh root k bs which S))/\Below w.heap.size w w':=by
 obtain⟨w1,hw1⟩:∃ x,x=w.alloc (.cells (cellsOf root).toArray 24):=⟨_,rfl⟩
 obtain⟨w2,hw2⟩:∃ x,x=w1.alloc (.cells (cellsOf k).toArray 24):=⟨_,rfl⟩
 obtain⟨w3,hw3⟩:∃ x,x=w2.alloc (.cells (zDe which vS).toArray 63):=⟨_,rfl⟩
 have r1:w1.rangeAt w.heap.size 0 (cellsOf root):=by rw[hw1];exact zDh w _ _ _ rfl
 have r2:w2.rangeAt w1.heap.size 0 (cellsOf k):=by rw[hw2];exact zDh w1 _ _ _ rfl
 have r3:w3.rangeAt w2.heap.size 0 (zDe which vS):=by rw[hw3];exact zDh w2 _ _ _ rfl
 have b1:Below w.heap.size w w1:=by rw[hw1];exact al (zze _ _) _
 have b2:Below w1.heap.size w1 w2:=by rw[hw2];exact al (zze _ _) _
 have b3:Below w2.heap.size w2 w3:=by rw[hw3];exact al (zze _ _) _
 have r13:=(zK b3).range ((zK b2).range r1 id) id
 have r23:=(zK b3).range r2 id
 have b13:=(b1.trans (b2.mono b1.size)).trans (b3.mono (zzk b1.size b2.size))
 have s1:w1.heap.size=w.heap.size+1:=by rw[hw1,zzp]
 have s2:w2.heap.size=w.heap.size+2:=by rw[hw2,zzp,s1]
 rw[s1]at r23
 rw[s2]at r3
 have H0:=zAI r13 (zza r23 (zza r3 (zza b13 (zza (zDg hv b13 (zzc _)) (hs.below b13 (zzc _))))))
 have HW:=zAI hw1 (zza hw2 hw3)
 obtain⟨a0,c0,rfl,_,_,_⟩:=id hv
 obtain⟨n0,hn0⟩:∃ n,n=bs.length:=⟨_,rfl⟩
 rw[<-hn0]at H0 ⊢
 have hla:=fun W h1 h2=>zOi k which (.slice a0 n0 c0) vS bs S W h1 h2 hS hbs
 obtain⟨R,hR⟩:∃ R,R=zGh root k bs which S:=⟨_,rfl⟩
 rw[<-hR]
 unfold zGh at hR
 obtain⟨r,hr⟩:∃ r,r=zIc k which 256 (vl k bs,S,false):=⟨_,rfl⟩
 rw[<-hr]at hR
 simp only[<-hr]at hla
 have HLA:=zzb hla
 have HR:=zzb hR
 clear r1 r2 r3 b1 b2 b3 r13 r23 b13 s1 s2 hw1 hw2 hw3 hv hs hS hbs hn0 hla hR hr
 unfold shV
 go_enter Tryz.func31,Tryz.ntmps31
 refine Alm.wp_cut 1 ?_
 intro T hT
 dsimp only[zKi]
 replace hT:=zzb hT
 go_wp2_with fail
 refine hT.out _ _ ?_
 clear hT
 dsimp only[zF0]
 rw[show w.heap.size+1+1=w.heap.size+2 from rfl]
 change Code.wp _ _ _ _ (((w.alloc (.cells (cellsOf root).toArray 24)).alloc (.cells (cellsOf k).toArray 24)).alloc (.cells (zDe which vS).toArray 63))
 rw[<-HW.out.1,<-HW.out.2.1,<-HW.out.2.2]
 clear HW
 go_wp2_with (first
  | (refine zDb rfl _ rfl (w.heap.size+1) 0 rfl k H0.out.2.1 ?_)
  | (refine wpList_load_mid rfl 63 _ rfl (w.heap.size+2) 0 rfl (zDe which vS) _ H0.out.2.2.1 Tryz.underlying63 rfl (by rw[zDw];exact zG2) ?_))
 refine (HLA.out w3 H0.out.2.2.2.2.1 H0.out.2.2.2.2.2).mono ?_
 rintro e w4 ⟨x,ok,rfl,hok,hx,hb⟩
 have H4:=zAI ((zK hb).range H0.out.1 id) (H0.out.2.2.2.1.trans (hb.mono H0.out.2.2.2.1.size))
 have hR2:R=(ok && decide (x=root)):=by
  rw[HR.out]
  cases hok':ok with
  | false =>
   rw[hok']at hok
   have:=zyl hok.symm
   rw[Bool.false_and]
   exact zz1 fun h=>this ⟨h.1,h.2.1⟩
  | true =>
   rw[hok']at hok
   have h2:=zz3 hok.symm
   rw[Bool.true_and,hx hok',zzX]
   exact⟨fun h=>h.2.2,fun h=>⟨h2.1,h2.2,h⟩⟩
 have HR2:=zzb hR2
 clear hb hok hx H0 HLA HR hR2
 have heq:=zHi x root
 obtain⟨dq,hdq⟩:∃ d,d=decide (x=root):=⟨_,rfl⟩
 rw[<-hdq]at heq HR2
 clear hdq
 have HG:=zzb trivial
 cases ok with
 | false =>
  go_wp2_with (have _:=HG;refine zD3 (by rfl) rfl _ _ rfl x rfl rfl ?_;intro V hb hr ht;obtain⟨z9,hz9⟩:∃ z,z=w4.heap.size:=⟨_,rfl⟩;rw[<-hz9]at hr ⊢;have HV:=zAI hr (zza ((zK hb).range H4.out.1 id) (H4.out.2.trans (hb.mono H4.out.2.size)));clear HG hb hr ht hz9)
  have hr2:R=false:=by rw[HR2.out];rfl
  exact zzM (zzN rfl _ _ _) rfl ⟨by rw[hr2];rfl,HV.out.2.2⟩
 | true =>
  go_wp2_with (first
   | (have _:=HG;refine zD3 (by rfl) rfl _ _ rfl x rfl rfl ?_;intro V hb hr ht;obtain⟨z9,hz9⟩:∃ z,z=w4.heap.size:=⟨_,rfl⟩;rw[<-hz9]at hr ⊢;have HV:=zAI hr (zza ((zK hb).range H4.out.1 id) (H4.out.2.trans (hb.mono H4.out.2.size)));clear HG hb hr ht hz9)
   | (refine zE9 (by rfl) _ rfl z9 0 rfl x HV.out.1 ?_)
   | (refine zE9 (by rfl) _ rfl w.heap.size 0 rfl root HV.out.2.1 ?_))
  have hr2:R=dq:=by rw[HR2.out];cases dq<;>rfl
  exact zzM (zzN rfl _ _ _) rfl ⟨by rw[hr2];rfl,HV.out.2.2⟩
theorem zQy{cap:Nat}(h:n<900000)(hc:n+1<=cap):wrap64 ((n:Int)+1)=((n+1:Nat):Int)/\(n:Int)<(cap:Int)/\¬(cap:Int)<=(n:Int)/\decide ((cap:Int)<=(n:Int))=false/\decide (cap<=n)=false/\((n+1:Nat):Int)<=(cap:Int)/\(0:Int)<=(n:Int)/\(n:Int)<((n+1:Nat):Int)/\¬cap<=n/\n+1<=cap:=by
 refine⟨by unfold wrap64;omega,by omega,by omega,by simp;omega,by simp;omega,by omega,by omega,by omega,by omega,hc⟩
theorem yG1(l:List Sum)(vt v:Value)(base:Nat)(w:World)(ht:zJn w base vt l)(hv:zD1 w v l)(hl:l.length<900000):Calls Tryz.prog 104 #[vt,v] w fun e w'=>e=.returned (.bool true)/\Below w.heap.size w w':=by
 have hv0:=hv
 obtain⟨va,vc,rfl,hc1,hc2,h3⟩:=hv
 have ht0:=ht
 obtain⟨g,cap,rfl,hlie⟩:=ht
 have hcp:l.length+1<=cap/\w.rangeAt g 0 (zDs (l++[mkS 77])):=by
  rcases hlie with ⟨h0,_⟩ | ⟨g',cap',hv4,_,_,hnc,_,hr,_⟩
  ·cases h0
  ·simp only[zzh,zzj,zyn,and_true]at hv4
   obtain⟨rfl,_,rfl⟩:=hv4
   rw[zzm,zzi,zzy]at hnc
   rw[zRz]at hr
   exact⟨hnc,hr⟩
 obtain⟨n,hn⟩:∃ n,n=l.length:=⟨_,rfl⟩
 rw[<-hn]at hc1 hv0 hl hcp ⊢
 obtain⟨k1,k2,k3,k4,k5,k6,k7,k8,k9,k10⟩:=zQy hl hcp.1
 obtain⟨n1,hn1⟩:∃ m,m=n+1:=⟨_,rfl⟩
 rw[<-hn1]at k1 k6 k8 k10
 have HV:=zAI hv0 (zza hn (zza hc1 (zza hc2 (zza hl (zza hn1 hcp.2)))))
 clear hv0 hn hc1 hc2 hl hn1 hcp hlie ht0 h3
 have hes:=zMi
 go_enter Tryz.func104,Tryz.ntmps104
 go_wp2_with fail
 go_loopw [5] (fun iv W=>∃ i:Nat,i<=n/\iv=.int .i64 (i:Int)/\Below w.heap.size w W) (fun iv _=>n - (intOf iv).toNat)
 case atStart=>exact⟨0,zye _,rfl,zze _ _⟩
 case round =>
  obtain⟨i,hi,rfl,hB⟩:=hrel
  by_cases hlt:i<n
  ·obtain⟨d1,d2,d3,d4⟩:=zHy hlt
   have hil:i<l.length:=by rw[<-HV.out.2.1];exact hlt
   have hne:l≠[]:=by intro h;rw[h]at hil;simp at hil
   obtain⟨b,o,cap',hvf,_,_,hr⟩:=zSx HV.out.1 hne
   simp only[zzh]at hvf
   obtain⟨rfl,-,rfl⟩:=hvf
   have hx:=zEm hB (zG1 hr hil) (zFm (zG1 hr hil) (by intro h;have:=zDa l[i];rw[h]at this;cases this))
   have hr2:=zG1 HV.out.2.2.2.2.2.2 (i:=i) (by rw[zzi,zzy];omega)
   rw[List.getElem_append_left hil,zzn]at hr2
   have hx2:=zEm hB hr2 (zFm hr2 (by intro h;have:=zDa l[i];rw[h]at this;cases this))
   have hd:=(zze wr.heap.size wr).drew
   generalize l[i]=s at *
   have HX:=zAI ((zK hd).range hx id) (zza ((zK hd).range hx2 id) hB.drew)
   clear hx hx2 hr hr2 hne hil hd hB
   go_wp2_with fail
   refine zDd (fun V=>V=wr.drew) [.t 0,.t 1,.t 2,.t 4,.t 5,.t 6,.s 3,.s 7,.t 8] (by kernel_rfl) (by kernel_rfl) (by rintro _ _(_|_)_ _ h<;>exact h) ?_
   generalize wr.drew=V at *
   iterate 6
    refine zDp rfl (v:=?_) (by rfl) (fun W=>?_) ?_
    rotate_left
    ·go_simp
     try rfl
    try simp only[zU,zA,zB,zC]
   refine zFj rfl rfl (by rfl) _ _ rfl g (i*32) (by rfl) (cellsOf s) _ (fun W hW=>by rw[hW];exact HX.out.2.1) Tryz.underlying24 rfl (by rw[zDa];exact zF8) ?_
   try simp only[zU,zA,zB,zC]
   refine zFj rfl rfl (by rfl) _ _ rfl b (o+i*32) (by rfl) (cellsOf s) _ (fun W hW=>by rw[hW];exact HX.out.1) Tryz.underlying24 rfl (by rw[zDa];exact zF8) ?_
   try simp only[zU,zA,zB,zC]
   refine zDp rfl (v:=?_) (by rfl) (fun W=>?_) ?_
   rotate_left
   ·go_simp
    try rfl
   try simp only[zU,zA,zB,zC]
   refine zDn ?_
   go_wp2_with fail
   have hwi:=yEg (k:=i) (by have:=HV.out;omega)
   try rw[hwi]
   have h9:=HX.out.2.2
   clear hwi HX HV hes k1 k2 k3 k4 k5 k6 k7 k8 k9 k10 d1 d2 d3 d4
   refine⟨⟨i+1,hlt,rfl,h9⟩,?_⟩
   clear h9
   simp only[intOf,zzF]
   omega
  ·obtain rfl:i=n:=by omega
   have hr2:=zG1 HV.out.2.2.2.2.2.2 (i:=i) (by rw[zzi,zzy,<-HV.out.2.1];omega)
   rw[List.getElem_append_right (by rw[<-HV.out.2.1];omega),zzn]at hr2
   simp only[List.getElem_singleton]at hr2
   have hx2:=zEm hB hr2 (zFm hr2 (by intro h;have:=zDa (mkS 77);rw[h]at this;cases this))
   have HX:=zAI hx2 hB
   clear hx2 hr2 hB
   go_wp2_with (first
    | (refine zDb rfl _ rfl g (i*32) rfl (mkS 77) HX.out.1 ?_)
    | (refine zD3 (by rfl) rfl _ _ rfl (mkS 77) rfl rfl ?_;refine Hid.out ?_))
   refine zzb ?_
   intro W2 hb hr2 ht2
   have H2:=zAI hr2 (HX.out.2.trans (hb.mono HX.out.2.size))
   clear hb hr2 ht2
   go_wp2_with (first
    | (refine zDb rfl _ rfl wr.heap.size 0 rfl (mkS 77) H2.out.1 ?_)
    | (refine zJ5 rfl rfl ?_))
   exact zzM (zzN rfl _ _ _) rfl ⟨rfl,H2.out.2⟩
theorem zV6(which:Sum)(va vb:Value)(A:List Sum)(base:Nat)(w:World)(ha:zJn w base va A)(hb:zD1 w vb A)(hl:A.length<900000):
  Calls Tryz.prog 32 #[shV which va,shV which vb] w fun e w'=>e=.returned (.bool true)/\Below w.heap.size w w':=by
 obtain⟨w1,hw1⟩:∃ x,x=w.alloc (.cells (zDe which va).toArray 63):=⟨_,rfl⟩
 obtain⟨w2,hw2⟩:∃ x,x=w1.alloc (.cells (zDe which vb).toArray 63):=⟨_,rfl⟩
 have r1:w1.rangeAt w.heap.size 0 (zDe which va):=by rw[hw1];exact zDh w _ _ _ rfl
 have r2:w2.rangeAt w1.heap.size 0 (zDe which vb):=by rw[hw2];exact zDh w1 _ _ _ rfl
 have b1:Below w.heap.size w w1:=by rw[hw1];exact al (zze _ _) _
 have b2:Below w1.heap.size w1 w2:=by rw[hw2];exact al (zze _ _) _
 have r12:=(zK b2).range r1 id
 have b12:=b1.trans (b2.mono b1.size)
 have s1:w1.heap.size=w.heap.size+1:=by rw[hw1,zzp]
 rw[s1]at r2
 have hcall:=yG1 A va vb base w2 ((ha.below b1).below b2) (hb.below b12 (zzc _)) hl
 have H0:=zAI (zNx r12) (zza (zNx r2) (zza hcall b12))
 have HW:=zAI hw1 hw2
 have g1:=zKk r12
 have g2:=zKk r2
 have heq:=zHi which which
 rw[zz2 rfl]at heq
 clear r1 r2 b1 b2 r12 b12 s1 hw1 hw2 ha hb hl hcall
 unfold shV
 go_enter Tryz.func32,Tryz.ntmps32
 refine Alm.wp_cut 1 ?_
 intro T hT
 dsimp only[zKi]
 replace hT:=zzb hT
 go_wp2_with fail
 refine hT.out _ _ ?_
 clear hT
 dsimp only[zF0]
 change Code.wp _ _ _ _ ((w.alloc (.cells (zDe which va).toArray 63)).alloc (.cells (zDe which vb).toArray 63))
 rw[<-HW.out.1,<-HW.out.2]
 clear HW
 go_wp2_with (first
  | (refine zDb rfl _ rfl w.heap.size 0 rfl which H0.out.1 ?_)
  | (refine zDb rfl _ rfl (w.heap.size+1) 0 rfl which H0.out.2.1 ?_))
 refine H0.out.2.2.1.mono ?_
 rintro e w3 ⟨rfl,hb⟩
 have HB:=zzb (H0.out.2.2.2.trans (hb.mono H0.out.2.2.2.size))
 clear hb
 go_wp2_with fail
 exact zzM (zzN rfl _ _ _) rfl ⟨rfl,HB.out⟩
theorem yF2(b0 b1 b2 b3 b4 b5 b6 b7 b8 b9 b10 b11 b12 b13 b14 b15 b16 b17 b18 b19 b20 b21 b22 b23 b24 b25 b26 b27 b28 b29 b30 b31:UInt8)(a:Option Addr)(n c:Nat)(w:World):(Instr.build 63 #[(0,.agg #[.int .u8 ((b0.toNat:Nat):Int),.int .u8 ((b1.toNat:Nat):Int),.int .u8 ((b2.toNat:Nat):Int),.int .u8 ((b3.toNat:Nat):Int),.int .u8 ((b4.toNat:Nat):Int),.int .u8 ((b5.toNat:Nat):Int),.int .u8 ((b6.toNat:Nat):Int),.int .u8 ((b7.toNat:Nat):Int),.int .u8 ((b8.toNat:Nat):Int),.int .u8 ((b9.toNat:Nat):Int),.int .u8 ((b10.toNat:Nat):Int),.int .u8 ((b11.toNat:Nat):Int),.int .u8 ((b12.toNat:Nat):Int),.int .u8 ((b13.toNat:Nat):Int),.int .u8 ((b14.toNat:Nat):Int),.int .u8 ((b15.toNat:Nat):Int),.int .u8 ((b16.toNat:Nat):Int),.int .u8 ((b17.toNat:Nat):Int),.int .u8 ((b18.toNat:Nat):Int),.int .u8 ((b19.toNat:Nat):Int),.int .u8 ((b20.toNat:Nat):Int),.int .u8 ((b21.toNat:Nat):Int),.int .u8 ((b22.toNat:Nat):Int),.int .u8 ((b23.toNat:Nat):Int),.int .u8 ((b24.toNat:Nat):Int),.int .u8 ((b25.toNat:Nat):Int),.int .u8 ((b26.toNat:Nat):Int),.int .u8 ((b27.toNat:Nat):Int),.int .u8 ((b28.toNat:Nat):Int),.int .u8 ((b29.toNat:Nat):Int),.int .u8 ((b30.toNat:Nat):Int),.int .u8 ((b31.toNat:Nat):Int)]),(1,.slice a n c)]).run Tryz.prog w=.ok (.agg #[.int .u8 ((b0.toNat:Nat):Int),.int .u8 ((b1.toNat:Nat):Int),.int .u8 ((b2.toNat:Nat):Int),.int .u8 ((b3.toNat:Nat):Int),.int .u8 ((b4.toNat:Nat):Int),.int .u8 ((b5.toNat:Nat):Int),.int .u8 ((b6.toNat:Nat):Int),.int .u8 ((b7.toNat:Nat):Int),.int .u8 ((b8.toNat:Nat):Int),.int .u8 ((b9.toNat:Nat):Int),.int .u8 ((b10.toNat:Nat):Int),.int .u8 ((b11.toNat:Nat):Int),.int .u8 ((b12.toNat:Nat):Int),.int .u8 ((b13.toNat:Nat):Int),.int .u8 ((b14.toNat:Nat):Int),.int .u8 ((b15.toNat:Nat):Int),.int .u8 ((b16.toNat:Nat):Int),.int .u8 ((b17.toNat:Nat):Int),.int .u8 ((b18.toNat:Nat):Int),.int .u8 ((b19.toNat:Nat):Int),.int .u8 ((b20.toNat:Nat):Int),.int .u8 ((b21.toNat:Nat):Int),.int .u8 ((b22.toNat:Nat):Int),.int .u8 ((b23.toNat:Nat):Int),.int .u8 ((b24.toNat:Nat):Int),.int .u8 ((b25.toNat:Nat):Int),.int .u8 ((b26.toNat:Nat):Int),.int .u8 ((b27.toNat:Nat):Int),.int .u8 ((b28.toNat:Nat):Int),.int .u8 ((b29.toNat:Nat):Int),.int .u8 ((b30.toNat:Nat):Int),.int .u8 ((b31.toNat:Nat):Int),.slice a n c]) w:=by kernel_rfl
theorem yEq(x:PE)(w:World):(Instr.build 63 #[(0,sv x.1),(1,peV x)]).run Tryz.prog w=.ok (shV x.1 (peV x)) w:=by
 obtain⟨b0,b1,b2,b3,b4,b5,b6,b7,b8,b9,b10,b11,b12,b13,b14,b15,b16,b17,b18,b19,b20,b21,b22,b23,b24,b25,b26,b27,b28,b29,b30,b31,h⟩:=yF3 x.1.toList (by simp)
 have h1:cellsOf x.1=[.int .u8 ((b0.toNat:Nat):Int),.int .u8 ((b1.toNat:Nat):Int),.int .u8 ((b2.toNat:Nat):Int),.int .u8 ((b3.toNat:Nat):Int),.int .u8 ((b4.toNat:Nat):Int),.int .u8 ((b5.toNat:Nat):Int),.int .u8 ((b6.toNat:Nat):Int),.int .u8 ((b7.toNat:Nat):Int),.int .u8 ((b8.toNat:Nat):Int),.int .u8 ((b9.toNat:Nat):Int),.int .u8 ((b10.toNat:Nat):Int),.int .u8 ((b11.toNat:Nat):Int),.int .u8 ((b12.toNat:Nat):Int),.int .u8 ((b13.toNat:Nat):Int),.int .u8 ((b14.toNat:Nat):Int),.int .u8 ((b15.toNat:Nat):Int),.int .u8 ((b16.toNat:Nat):Int),.int .u8 ((b17.toNat:Nat):Int),.int .u8 ((b18.toNat:Nat):Int),.int .u8 ((b19.toNat:Nat):Int),.int .u8 ((b20.toNat:Nat):Int),.int .u8 ((b21.toNat:Nat):Int),.int .u8 ((b22.toNat:Nat):Int),.int .u8 ((b23.toNat:Nat):Int),.int .u8 ((b24.toNat:Nat):Int),.int .u8 ((b25.toNat:Nat):Int),.int .u8 ((b26.toNat:Nat):Int),.int .u8 ((b27.toNat:Nat):Int),.int .u8 ((b28.toNat:Nat):Int),.int .u8 ((b29.toNat:Nat):Int),.int .u8 ((b30.toNat:Nat):Int),.int .u8 ((b31.toNat:Nat):Int)]:=by unfold cellsOf;rw[h];rfl
 show (Instr.build 63 #[(0,.agg (cellsOf x.1).toArray),(1,.slice x.2.1 x.2.2.1 x.2.2.2)]).run Tryz.prog w=.ok (.agg (cellsOf x.1++[Value.slice x.2.1 x.2.2.1 x.2.2.2]).toArray) w
 rw[h1]
 exact yF2 b0 b1 b2 b3 b4 b5 b6 b7 b8 b9 b10 b11 b12 b13 b14 b15 b16 b17 b18 b19 b20 b21 b22 b23 b24 b25 b26 b27 b28 b29 b30 b31 _ _ _ w
theorem zRi{f:Operand->Value}{o:Oper}(parts:Array (Nat×Operand))(ho:o.op=.build 63 parts)(x:PE)(hp:(parts.toList.map fun (i,y)=>(i,f y))=[(0,sv x.1),(1,peV x)])(W:World):
  (execOp f o).run Tryz.prog W=.ok (.value (shV x.1 (peV x))) W:=by
 have:(parts.map fun (i,y)=>(i,f y))=#[(0,sv x.1),(1,peV x)]:=by
  apply Array.toList_inj.1
  rw[Array.toList_map];exact hp
 unfold execOp
 simp only[ho,Sem.run_bind,Sem.run_pure,Result.andThen_ok,this,yEq]
theorem yJl{W:World}{b' size:Nat}{xs:List (List Value)}(h:Lie W b size v xs)(hb:b'<=b):Lie W b' size v xs:=by
 rcases h with h | ⟨g,cap,rfl,h1,h2⟩
 ·exact .inl h
 ·exact .inr ⟨g,cap,rfl,zzk hb h1,h2⟩
theorem zU3(which:Sum)(v:Value)(l:List Sum)(w:World)(hs:zD1 w v l)(hl:l.length<900000):
  Calls Tryz.prog 25 #[shV which v] w fun e w'=>∃ v',e=.returned (shV which v')/\zJn w' w.heap.size v' l/\Below w.heap.size w w':=by
 obtain⟨w1,hw1⟩:∃ x,x=w.alloc (.cells (zDe which v).toArray 63):=⟨_,rfl⟩
 obtain⟨w2,hw2⟩:∃ x,x=w1.alloc (.cells (zDe zDv (.slice none 0 0)).toArray 63):=⟨_,rfl⟩
 have r1:w1.rangeAt w.heap.size 0 (zDe which v):=by rw[hw1];exact zDh w _ _ _ rfl
 have t2:w2.there w1.heap.size 0 33:=by
  have hsz:(zDe zDv (.slice none 0 0)).toArray.size=33:=by rw[zzE,zDw]
  have:=zD5 w1 (zDe zDv (.slice none 0 0)).toArray 63
  rw[hsz]at this
  rw[hw2];exact this
 have b1:Below w.heap.size w w1:=by rw[hw1];exact al (zze _ _) _
 have b2:Below w1.heap.size w1 w2:=by rw[hw2];exact al (zze _ _) _
 have r12:=(zK b2).range r1 id
 have b12:=b1.trans (b2.mono b1.size)
 have s1:w1.heap.size=w.heap.size+1:=by rw[hw1,zzp]
 rw[s1]at t2
 have H0:=zAI r12 (zza t2 (zza b12 (hs.below b12 (zzc _))))
 have HW:=zAI hw1 hw2
 clear r1 t2 b1 b2 r12 b12 s1 hw1 hw2 hs
 unfold shV
 go_enter Tryz.func25,Tryz.ntmps25
 refine Alm.wp_cut 1 ?_
 intro T hT
 dsimp only[zKi]
 replace hT:=zzb hT
 go_wp2_with fail
 refine hT.out _ _ ?_
 clear hT
 dsimp only[zF0]
 change Code.wp _ _ _ _ ((w.alloc (.cells (zDe which v).toArray 63)).alloc (.cells (zDe zDv (.slice none 0 0)).toArray 63))
 rw[<-HW.out.1,<-HW.out.2]
 clear HW
 go_wp2_with fail
 refine zDd (fun V=>V.rangeAt w.heap.size 0 (zDe which v)) [.t 0,.t 2,.s 1,.e 3 true,.e 4 true,.t 5,.e 6 false] (by kernel_rfl) (by kernel_rfl) (by rintro _ _(_|_)_ _ h<;>exact h) ?_
 have H1:=zAI (show w2.drew.rangeAt w.heap.size 0 (zDe which v) from H0.out.1) (zza ((zK (zze w2.heap.size w2).drew).there H0.out.2.1 (by decide) id) (zza H0.out.2.2.1.drew (H0.out.2.2.2.below (zze _ _).drew (zzc _))))
 clear H0
 generalize w2.drew=V at *
 iterate 2
  refine zDp rfl (v:=?_) (by rfl) (fun W=>?_) ?_
  rotate_left
  ·go_simp
   try rfl
  try simp only[zU,zA,zB,zC]
 refine zDl (by exact H1.out.1) rfl (by rfl) _ (by rfl) w.heap.size 0 (by rfl) which (fun W hW=>zNx hW) ?_
 try simp only[zU,zA,zB,zC]
 refine zD8 rfl (by rfl) (fun K hK=>?_)
 have g:=zKk H1.out.1
 go_simp
 refine hK _ _ ⟨by exact H1.out.1,?_⟩;clear hK K
 try simp only[zU,zA,zB,zC]
 clear g
 refine zD8 rfl (by rfl) (fun K hK=>?_)
 go_simp
 refine (yFm l v V H1.out.2.2.2 hl).mono ?_
 rintro e V1 ⟨v',rfl,ht,hb⟩
 have kk:=zK hb
 obtain⟨g,cap,rfl,ht'⟩:=id ht
 have h1c:(Value.slice (some ⟨g,0,none⟩) l.length cap).oneCell'=true:=rfl
 have hgt:∀ i,(Value.slice (some ⟨g,0,none⟩) l.length cap).ownBlock=some i->V.heap.size<=i:=fun i hi=>((zJn.lie ht).lt i hi).1
 have H2:=zAI (kk.range H1.out.1 id) (zza (kk.there H1.out.2.1 (by decide) id) (zza (H1.out.2.2.1.trans (hb.mono H1.out.2.2.1.size)) (zza ht (zza hgt (zEo H1.out.2.1 (by decide))))))
 clear kk hb ht hgt ht'
 refine hK _ _ ⟨by exact H2.out.1,?_⟩;clear hK K
 try simp only[zU,zA,zB,zC]
 refine zDp rfl (v:=shV which (.slice (some ⟨g,0,none⟩) l.length cap)) (by rfl) (fun W=>zRi _ rfl (which,some ⟨g,0,none⟩,l.length,cap) (by rfl) W) ?_
 try simp only[zU,zA,zB,zC]
 have hsz':(zDe which (.slice (some ⟨g,0,none⟩) l.length cap)).toArray.size=33:=by rw[zzE,zDw]
 refine zEa rfl (by rfl) (fun K hK=>?_)
 refine wp_store_mid 63 _ _ rfl (w.heap.size+1) 0 (zDe which (.slice (some ⟨g,0,none⟩) l.length cap)).toArray (by rfl) (by rfl) (by rw[hsz'];exact H2.out.2.1) (by rw[hsz'];exact zG2) (zJo which h1c) ?_
 refine hK _ _ ?_;clear hK K
 try simp only[zU,zA,zB,zC]
 refine zDn ?_
 go_wp2_with fail
 have k2:=zDy (w.heap.size+1) (zDe which (.slice (some ⟨g,0,none⟩) l.length cap)) 0 V1
 have ht9:=H2.out.2.2.2.1.keep k2 (fun x hx e=>by have h1:=H2.out.2.2.2.2.1 x hx;have h2:=H2.out.2.2.2.2.2;omega)
 have hVs:w.heap.size<=V.heap.size:=by have:=H2.out.2.2.2.2.2;omega
 have ht8:zJn (V1.setCells (w.heap.size+1) 0 (zDe which (.slice (some ⟨g,0,none⟩) l.length cap))) w.heap.size (.slice (some ⟨g,0,none⟩) l.length cap) l:=by
  obtain⟨g',cap',he,hl⟩:=ht9
  exact⟨g',cap',he,yJl hl hVs⟩
 exact zzM (zEy Tryz.results25 _ _ (w.heap.size+1) 0 (zDe which (.slice (some ⟨g,0,none⟩) l.length cap)) _ rfl (zDf _ _ _ _ (by rw[zDw];exact zzd H2.out.2.1 _ _ _)) Tryz.underlying63 rfl (by rw[zDw];exact zG2)) rfl
  ⟨_,rfl,ht8,zDc _ (by omega) _ _ _ _ H2.out.2.2.1⟩
end Go.Proofs.YtfmgoehnbaiamaaGreatDoor
