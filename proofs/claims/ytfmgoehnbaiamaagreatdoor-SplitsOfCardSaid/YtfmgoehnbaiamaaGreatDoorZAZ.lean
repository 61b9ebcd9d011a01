/- Joined: GB2, MP6, SO6, V1, S1. -/
import Derived.Test.YtfmgoehnbaiamaaGreatDoorZAY
set_option maxRecDepth 100000
set_option maxHeartbeats 2000000
open Go Go.RowKit Alm
namespace Go.Proofs.YtfmgoehnbaiamaaGreatDoor
variable {T:List (Option Sum)}{cs:List (PE×List UInt8)}{i n:Nat}{k which:Sum}
theorem yD3(base q n:Nat)(F:Nat->Value)(H:List zFt)(a:Nat->Nat)(L:Nat->Value)(w:World)(hb:zHw w q n F)(h:KG w 140 33 base q (F 6) mkP H a L)(hN:∀ i,i<H.length->num H i<256)(hA:∀ i,i<H.length->a i<900000)(hH:H.length<100000):Calls Tryz.prog 90 #[.pointer (some ⟨q,0,none⟩)] w fun e w'=>e=.returned (.bool true)/\Below w.heap.size w w':=by
 have hll:=zEu H L H.length
 refine zU4 base q n (F 6) F (zH0 H L H.length) a w hb rfl h.row (fun i hi=>?_) (fun i hi=>?_) (fun i hi=>?_) (fun i hi=>?_) (by rw[hll];exact hH)
 ·rw[hll]at hi
  rw[(zF1 H L i hi).1,(zF1 H L i hi).2.2]
  exact h.lies i hi
 ·rw[hll]at hi
  rw[(zF1 H L i hi).2.1,(zF1 H L i hi).2.2]
  exact h.long i hi
 ·rw[hll]at hi
  rw[(zF1 H L i hi).2.2]
  exact hN i hi
 ·rw[hll]at hi
  exact hA i hi
theorem yE8(base q n:Nat)(F:Nat->Value)(H:Nat->List zFt)(S:Nat->Nat->List (List Value))(w:World)(hb:zHn w base q n F H S)(hn:n<256)(hH:∀ j,(H j).length<90000)(h0:∀ j,j≠1->j≠5->j≠6->H j=[]):
  Calls Tryz.prog 22 #[.pointer (some ⟨q,0,none⟩)] w fun e w'=>e=.returned (.bool true)/\zDj (OfG q F H) w w':=by
 have HM:=zzb hb
 have hN:∀ j,1<=j->j<10->∀ i,i<(H j).length->num (H j) i<256:=fun j h1 h2 i hi=>zzz ((hb.k j h1 h2).nums i hi) hn
 have HN:=zAI hN hH
 have HX:=zzb (fun (i j k:Nat) (h1:1<=i/\i<10/\1<=j/\j<10/\i≠j)=>hb.x i j h1.1 h1.2.1 h1.2.2.1 h1.2.2.2.1 h1.2.2.2.2 k)
 have HNU:=zzb (fun j (h:j≠1/\j≠5/\j≠6)=>hb.nul j (h0 j h.1 h.2.1 h.2.2))
 have HB0:=zzb hb.bk
 have HKB0:=zzb (show KB w 136 1 base q n (F 1) (H 1) (S 1) from hb.k 1 (by decide) (by decide))
 have HKS0:=zzb (show KB w 155 32 base q n (F 5) (H 5) (S 5) from hb.k 5 (by decide) (by decide))
 have HKP0:=zzb (show KB w 140 33 base q n (F 6) (H 6) (S 6) from hb.k 6 (by decide) (by decide))
 have H1:=zzb (zVu base q n (F 1) F (H 1) (S 1) w HB0.out rfl HKB0.out.row HKB0.out.lies HKB0.out.ap (HN.out.1 1 (by decide) (by decide)) (fun i hi=>Nat.lt_trans (HKB0.out.lens i hi) (by decide)) (Nat.lt_trans (HN.out.2 1) (by decide)) HKB0.out.lngs)
 clear hb hN hn hH h0
 go_enter Tryz.func22,Tryz.ntmps22
 go_wp2_with (first
  | (go_at_call 67;refine H1.out.mono ?_;rintro e w1 ⟨rfl,hl,hk⟩;refine Hid.out ?_))
 refine zzb ?_
 have HB1:=zzb (HB0.out.keep hk (zSs HKB0.out.ap))
 have HKB1:=zzb (HKB0.out.fill hl hk)
 have HKS1:=zzb (HKS0.out.keep hk (fun k hk e=>HX.out 5 1 k (by decide) hk (.inr e)))
 have HKP1:=zzb (HKP0.out.keep hk (fun k hk e=>HX.out 6 1 k (by decide) hk (.inr e)))
 have HKE1:=zzb (hk.mono (Y:=OfG q F H) fun k h=>.inr ⟨1,by decide,by decide,.inr h⟩)
 clear hl hk H1
 have H2:=zzb (zW6 base q n (F 5) F (H 5) (S 5) w1 HB1.out rfl HKS1.out.row HKS1.out.lies HKS1.out.ap (HN.out.1 5 (by decide) (by decide)) (fun i hi=>Nat.lt_trans (HKS1.out.lens i hi) (by decide)) (Nat.lt_trans (HN.out.2 5) (by decide)) HKS1.out.lngs)
 go_wp2_with (first
  | (go_at_call 68;refine (zXd q _ F _ HB1.out (HNU.out 2 (by decide))).mono ?_;rintro e w2 ⟨rfl,rfl⟩)
  | (go_at_call 69;refine (zWm q _ F _ HB1.out (HNU.out 3 (by decide))).mono ?_;rintro e w2 ⟨rfl,rfl⟩)
  | (go_at_call 70;refine (zPf q _ F _ HB1.out (HNU.out 4 (by decide))).mono ?_;rintro e w2 ⟨rfl,rfl⟩)
  | (go_at_call 71;refine H2.out.mono ?_;rintro e w2 ⟨rfl,hl,hk⟩;refine Hid.out ?_))
 refine zzb ?_
 have HB2:=zzb (HB1.out.keep hk (zSs HKS1.out.ap))
 have HKB2:=zzb (HKB1.out.keep hk (fun k hk e=>HX.out 1 5 k (by decide) hk (.inr e)))
 have HKS2:=zzb (HKS1.out.fill hl hk)
 have HKP2:=zzb (HKP1.out.keep hk (fun k hk e=>HX.out 6 5 k (by decide) hk (.inr e)))
 have HKE2:=zzb (hk.mono (Y:=OfG q F H) fun k h=>.inr ⟨5,by decide,by decide,.inr h⟩)
 clear hl hk H2
 have H3:=zzb (zUv base q n (F 6) F (H 6) (S 6) w2 HB2.out rfl HKP2.out.row HKP2.out.lies HKP2.out.ap (HN.out.1 6 (by decide) (by decide)) (fun i hi=>Nat.lt_trans (HKP2.out.lens i hi) (by decide)) (Nat.lt_trans (HN.out.2 6) (by decide)) HKP2.out.lngs)
 go_wp2_with (first
  | (go_at_call 72;refine H3.out.mono ?_;rintro e w3 ⟨rfl,hl,hk⟩;refine Hid.out ?_))
 refine zzb ?_
 have HB3:=zzb (HB2.out.keep hk (zSs HKP2.out.ap))
 have HKB3:=zzb (HKB2.out.keep hk (fun k hk e=>HX.out 1 6 k (by decide) hk (.inr e)))
 have HKS3:=zzb (HKS2.out.keep hk (fun k hk e=>HX.out 5 6 k (by decide) hk (.inr e)))
 have HKP3:=zzb (HKP2.out.fill hl hk)
 have HKE3:=zzb (hk.mono (Y:=OfG q F H) fun k h=>.inr ⟨6,by decide,by decide,.inr h⟩)
 clear hl hk H3
 have HBS3:=zzb (show base<=w3.heap.size from zzk HM.out.bs (zzk HKE1.out.size (zzk HKE2.out.size HKE3.out.size)))
 have H4:=zzb (zUu base q n (F 1) F (H 1) (zLz mkB (H 1) (S 1)) w3 HB3.out rfl HKB3.out.row HKB3.out.lies HKB3.out.ap (HN.out.1 1 (by decide) (by decide)) HKB3.out.lens (Nat.lt_trans (HN.out.2 1) (by decide)) HKB3.out.lngs HBS3.out)
 go_wp2_with (first
  | (go_at_call 73;refine (zRk q _ F _ HB3.out (HNU.out 7 (by decide))).mono ?_;rintro e w4 ⟨rfl,rfl⟩)
  | (go_at_call 74;refine (zT6 q _ F _ HB3.out (HNU.out 8 (by decide))).mono ?_;rintro e w4 ⟨rfl,rfl⟩)
  | (go_at_call 75;refine (zTr q _ F _ HB3.out (HNU.out 9 (by decide))).mono ?_;rintro e w4 ⟨rfl,rfl⟩)
  | (go_at_call 76;refine H4.out.mono ?_;rintro e w4 ⟨rfl,LB,hG⟩;refine Hid.out ?_))
 refine zzb ?_
 have HB4:=zzb hG.book
 have HBS4:=zzb (zzk HBS3.out hG.keep.size)
 have HGB:=zzb hG
 have HKGB4:=zzb (KG.of_grow hG)
 have HKS4:=zzb (HKS3.out.keep hG.keep (fun k hk e=>HX.out 5 1 k (by decide) hk (by
  rcases e with e | e
  ·exact .inr e
  ·exact .inl e)))
 have HKP4:=zzb (HKP3.out.keep hG.keep (fun k hk e=>HX.out 6 1 k (by decide) hk (by
  rcases e with e | e
  ·exact .inr e
  ·exact .inl e)))
 have HKE4:=zzb (hG.keep.mono (Y:=OfG q F H) fun k h=>.inr ⟨1,by decide,by decide,by
  rcases h with h | h
  ·exact .inr h
  ·exact .inl h⟩)
 clear hG H4
 have H5:=zzb (zWv base q n (F 5) F (H 5) (zLz mkC (H 5) (S 5)) w4 HB4.out rfl HKS4.out.row HKS4.out.lies HKS4.out.ap (HN.out.1 5 (by decide) (by decide)) HKS4.out.lens (Nat.lt_trans (HN.out.2 5) (by decide)) HKS4.out.lngs HBS4.out)
 go_wp2_with (first
  | (go_at_call 77;refine (zYa q _ F _ HB4.out (HNU.out 2 (by decide))).mono ?_;rintro e w5 ⟨rfl,rfl⟩)
  | (go_at_call 78;refine (zVl q _ F _ HB4.out (HNU.out 3 (by decide))).mono ?_;rintro e w5 ⟨rfl,rfl⟩)
  | (go_at_call 79;refine (zPh q _ F _ HB4.out (HNU.out 4 (by decide))).mono ?_;rintro e w5 ⟨rfl,rfl⟩)
  | (go_at_call 80;refine H5.out.mono ?_;rintro e w5 ⟨rfl,LS,hG⟩;refine Hid.out ?_))
 refine zzb ?_
 have HB5:=zzb hG.book
 have HBS5:=zzb (zzk HBS4.out hG.keep.size)
 have HGS:=zzb hG
 have HKGS5:=zzb (KG.of_grow hG)
 have hx:∀ k,zHx (F 5) (H 5) k->¬zQ0 (F 1) (H 1) LB k:=fun k hk e=>by
  rcases zTm HGB.out e with e | e
  ·exact HX.out 1 5 k (by decide) e hk
  ·have:=(HKS3.out.lt hk).2;omega
 have HKGB5:=zzb (HKGB4.out.keep hG.keep (fun k hk e=>hx k (by
  rcases e with e | e
  ·exact .inr e
  ·exact .inl e) hk))
 clear hx
 have HKP5:=zzb (HKP4.out.keep hG.keep (fun k hk e=>HX.out 6 5 k (by decide) hk (by
  rcases e with e | e
  ·exact .inr e
  ·exact .inl e)))
 have HKE5:=zzb (hG.keep.mono (Y:=OfG q F H) fun k h=>.inr ⟨5,by decide,by decide,by
  rcases h with h | h
  ·exact .inr h
  ·exact .inl h⟩)
 clear hG H5
 have H6:=zzb (zVk base q n (F 6) F (H 6) (zLz mkP (H 6) (S 6)) w5 HB5.out rfl HKP5.out.row HKP5.out.lies HKP5.out.ap (HN.out.1 6 (by decide) (by decide)) HKP5.out.lens (Nat.lt_trans (HN.out.2 6) (by decide)) HKP5.out.lngs HBS5.out)
 go_wp2_with (first
  | (go_at_call 81;refine H6.out.mono ?_;rintro e w6 ⟨rfl,LP,hG⟩;refine Hid.out ?_))
 refine zzb ?_
 have HB6:=zzb hG.book
 have HBS6:=zzb (zzk HBS5.out hG.keep.size)
 have HGP:=zzb hG
 have HKGP6:=zzb (KG.of_grow hG)
 have hx:∀ k,zHx (F 6) (H 6) k->¬zQ0 (F 1) (H 1) LB k:=fun k hk e=>by
  rcases zTm HGB.out e with e | e
  ·exact HX.out 1 6 k (by decide) e hk
  ·have:=(HKP3.out.lt hk).2;omega
 have HKGB6:=zzb (HKGB5.out.keep hG.keep (fun k hk e=>hx k (by
  rcases e with e | e
  ·exact .inr e
  ·exact .inl e) hk))
 clear hx
 have hx:∀ k,zHx (F 6) (H 6) k->¬zQ0 (F 5) (H 5) LS k:=fun k hk e=>by
  rcases zTm HGS.out e with e | e
  ·exact HX.out 5 6 k (by decide) e hk
  ·have:=(HKP4.out.lt hk).2;omega
 have HKGS6:=zzb (HKGS5.out.keep hG.keep (fun k hk e=>hx k (by
  rcases e with e | e
  ·exact .inr e
  ·exact .inl e) hk))
 clear hx
 have HKE6:=zzb (hG.keep.mono (Y:=OfG q F H) fun k h=>.inr ⟨6,by decide,by decide,by
  rcases h with h | h
  ·exact .inr h
  ·exact .inl h⟩)
 clear hG H6
 have H7:=zzb (zZ4 base q n F (H 1) _ LB w6 HB6.out HKGB6.out (HN.out.1 1 (by decide) (by decide)) (fun i hi=>(HM.out.k 1 (by decide) (by decide)).lens i hi) (Nat.lt_trans (HN.out.2 1) (by decide)))
 go_wp2_with (first
  | (go_at_call 82;refine (zRs q _ F _ HB6.out (HNU.out 7 (by decide))).mono ?_;rintro e w7 ⟨rfl,rfl⟩)
  | (go_at_call 83;refine (zTj q _ F _ HB6.out (HNU.out 8 (by decide))).mono ?_;rintro e w7 ⟨rfl,rfl⟩)
  | (go_at_call 84;refine (zT2 q _ F _ HB6.out (HNU.out 9 (by decide))).mono ?_;rintro e w7 ⟨rfl,rfl⟩)
  | (go_at_call 85;refine H7.out.mono ?_;rintro e w7 ⟨rfl,hb⟩;refine Hid.out ?_))
 refine zzb ?_
 have HB7:=zzb (HB6.out.below hb)
 have HKGS7:=zzb (HKGS6.out.below hb)
 have HKGP7:=zzb (HKGP6.out.below hb)
 have HKE7:=zzb (zDj.of_below (X:=OfG q F H) hb)
 clear hb H7
 have H8:=zzb (yHc base q n F (H 5) _ LS w7 HB7.out HKGS7.out (HN.out.1 5 (by decide) (by decide)) (fun i hi=>(HM.out.k 5 (by decide) (by decide)).lens i hi) (Nat.lt_trans (HN.out.2 5) (by decide)))
 go_wp2_with (first
  | (go_at_call 86;refine (zYf q _ F _ HB7.out (HNU.out 2 (by decide))).mono ?_;rintro e w8 ⟨rfl,rfl⟩)
  | (go_at_call 87;refine (zV2 q _ F _ HB7.out (HNU.out 3 (by decide))).mono ?_;rintro e w8 ⟨rfl,rfl⟩)
  | (go_at_call 88;refine (zPk q _ F _ HB7.out (HNU.out 4 (by decide))).mono ?_;rintro e w8 ⟨rfl,rfl⟩)
  | (go_at_call 89;refine H8.out.mono ?_;rintro e w8 ⟨rfl,hb⟩;refine Hid.out ?_))
 refine zzb ?_
 have HB8:=zzb (HB7.out.below hb)
 have HKGP8:=zzb (HKGP7.out.below hb)
 have HKE8:=zzb (zDj.of_below (X:=OfG q F H) hb)
 clear hb H8
 have H9:=zzb (yD3 base q n F (H 6) _ LP w8 HB8.out HKGP8.out (HN.out.1 6 (by decide) (by decide)) (fun i hi=>(HM.out.k 6 (by decide) (by decide)).lens i hi) (Nat.lt_trans (HN.out.2 6) (by decide)))
 go_wp2_with (first
  | (go_at_call 90;refine H9.out.mono ?_;rintro e w9 ⟨rfl,hb⟩;refine Hid.out ?_))
 refine zzb ?_
 have HB9:=zzb (HB8.out.below hb)
 have HKE9:=zzb (zDj.of_below (X:=OfG q F H) hb)
 clear hb H9
 have HKF:=zzb ((((((((HKE1.out.trans HKE2.out).trans HKE3.out).trans HKE4.out).trans HKE5.out).trans HKE6.out).trans HKE7.out).trans HKE8.out).trans HKE9.out)
 go_wp2_with (first
  | (go_at_call 91;refine (zRm q _ F _ HB9.out (HNU.out 7 (by decide))).mono ?_;rintro e w10 ⟨rfl,rfl⟩)
  | (go_at_call 92;refine (zS8 q _ F _ HB9.out (HNU.out 8 (by decide))).mono ?_;rintro e w10 ⟨rfl,rfl⟩)
  | (go_at_call 93;refine (zTo q _ F _ HB9.out (HNU.out 9 (by decide))).mono ?_;rintro e w10 ⟨rfl,rfl⟩))
 exact zzM (zzN rfl _ _ _) rfl ⟨rfl,HKF.out⟩
theorem yDt(y:PE)(xs:List (List Value))(base q n:Nat)(F:Nat->Value)(H:Nat->List zFt)(S:Nat->Nat->List (List Value))(w:World)(hb:zHn w base q n F H S)(hv:Lie w base 1 (peV y) xs)(hx:∀ k,(peV y).ownBlock=some k->¬OfG q F H k)(hn:n<90000)(hH:(H 1).length<90000)(hl:xs.length<900000):
  Calls Tryz.prog 57 #[.pointer (some ⟨q,0,none⟩),.agg (zEf y).toArray] w fun e w'=>e=.returned (.tuple #[])/\∃ v',zHn w' base q (n+1) (put F 1 v') (zWt H 1 (H 1++[(peV y,.slice none 0 0,n+1)])) (zWt S 1 (yIr (H 1) (S 1) xs))/\(∀ k,v'.ownBlock=some k->(F 1).ownBlock=some k∨w.heap.size<=k)/\zDj (fun i=>i=q∨(F 1).ownBlock=some i) w w':=by
 obtain⟨w1,hw1⟩:∃ x,x=w.alloc (.cells (zEf y).toArray 41):=⟨_,rfl⟩
 have r1:w1.rangeAt w.heap.size 0 (zEf y):=by rw[hw1];exact zDh w _ _ _ rfl
 have b1:Below w.heap.size w w1:=by rw[hw1];exact al (zze _ _) _
 have g1:=zJu r1
 have hc:=zLr y.2.1 y.2.2.1 y.2.2.2 xs base q n F H S w1 (hb.below b1) (hv.below b1) hx hn hH hl
 have HC:=zzb hc
 have HW:=zzb hw1
 have HB1:=zzb b1
 clear hc hb hv hx hH hl hn r1 hw1 b1
 go_enter Tryz.func57,Tryz.ntmps57
 refine Alm.wp_cut 1 ?_
 intro T hT
 dsimp only[zKi]
 replace hT:=zzb hT
 go_wp2_with fail
 refine hT.out _ _ ?_
 clear hT
 dsimp only[zF0]
 change Code.wp _ _ _ _ (w.alloc (.cells (zEf y).toArray 41))
 rw[<-HW.out]
 clear HW
 go_wp2_with fail
 refine HC.out.mono ?_
 rintro e w2 ⟨rfl,v',h1,h2,h3⟩
 have H2:=zAI h1 (zza (fun k hk=>(h2 k hk).imp_right (fun h=>zzk HB1.out.size h):∀ k,v'.ownBlock=some k->(F 1).ownBlock=some k∨w.heap.size<=k) ((zDj.of_below HB1.out).trans h3))
 clear h1 h2 h3
 go_wp2_with fail
 exact zz6 (zz5 rfl _ _ _) rfl ⟨rfl,v',H2.out.1,H2.out.2.1,H2.out.2.2⟩
structure yHv(w:World)(base q n:Nat)(F:Nat->Value)(H:Nat->List zFt)(cs:List (PE×List UInt8))(i:Nat)(F':Nat->Value)(H':Nat->List zFt)(S':Nat->Nat->List (List Value))(W:World):Prop where
 bk:zHn W base q (n+i) F' H' S'
 len:(H' 1).length=(H 1).length+i
 oth:∀ j,j≠1->H' j=H j/\F' j=F j
 of:∀ k,OfG q F' H' k->OfG q F H k∨w.heap.size<=k∨∃ c∈cs.take i,(peV c.1).ownBlock=some k
 row:∀ k,(F' 1).ownBlock=some k->(F 1).ownBlock=some k∨w.heap.size<=k
 keep:zDj (fun i=>i=q∨(F 1).ownBlock=some i) w W
theorem yNj{W:World}{g:Nat}(h:W.rangeAt g 0 (cs.map fun c=>zEf c.1).flatten)(hi:i<cs.length):W.rangeAt g (i*33) (zEf cs[i].1):=by
 rw[zN0]at h
 have h8:=zJ3 h (i:=i) (by rw[zzm];exact hi)
 rw[zzg,zzf (by rw[zzm];exact hi),List.getElem_map,Option.getD_some,zzn]at h8
 exact h8
theorem zYc(h:zR5 cs)(hi:i<cs.length){c:PE×List UInt8}(hc:c∈cs.take i):∀ k,(peV c.1).ownBlock=some k->(peV cs[i].1).ownBlock≠some k:=by
 have h2:cs=cs.take i++cs[i]::cs.drop (i+1):=by rw[<-zz9 hi,zz8]
 unfold zR5 at h
 rw[h2,List.pairwise_append]at h
 exact h.2.2 c hc cs[i] zzC
theorem zW5(v:Value)(cs:List (PE×List UInt8))(base q n:Nat)(F:Nat->Value)(H:Nat->List zFt)(S:Nat->Nat->List (List Value))(w:World)(hb:zHn w base q n F H S)(hL:zKf w base v cs)(hx:∀ k,v.ownBlock=some k->¬OfG q F H k)(hxe:∀ c∈cs,∀ k,(peV c.1).ownBlock=some k->¬OfG q F H k)(hn:n+cs.length<90000)(hH:(H 1).length+cs.length<90000)(hH6:(H 6).length<90000)(hl:∀ c∈cs,c.2.length<900000):
  Calls Tryz.prog 16 #[.pointer (some ⟨q,0,none⟩),v] w fun e w'=>e=.returned (.tuple #[])/\∃ F' H' S',zHn w' base q (n+cs.length+1) F' H' S'/\(H' 1).length=(H 1).length+cs.length/\(H' 6).length=(H 6).length+1/\(∀ j,j≠1->j≠6->H' j=H j)/\(∀ k,OfG q F' H' k->OfG q F H k∨w.heap.size<=k∨v.ownBlock=some k∨∃ c∈cs,(peV c.1).ownBlock=some k)/\zDj (fun i=>i=q∨(F 1).ownBlock=some i∨(F 6).ownBlock=some i) w w':=by
 obtain⟨av,cv,hform⟩:=hL.row.form
 rw[zzm]at hform
 obtain⟨N,hNN⟩:∃ N,N=cs.length:=⟨_,rfl⟩
 rw[<-hNN]at hform
 subst hform
 have hqk:∀ k,OfG q F H k->k<w.heap.size:=fun k hk=>(hb.lt hk).2
 have H0:=zzb (show yHv w base q n F H cs 0 F H S w from ⟨hb,rfl,fun _ _=>⟨rfl,rfl⟩,fun k hk=>.inl hk,fun k hk=>.inl hk,zDj.refl _ _⟩)
 have HH:=zAI hL (zza hx (zza hxe (zza hn (zza hH (zza hH6 (zza hl (zza hNN hqk)))))))
 have HB0:=zzb hb
 rw[<-hNN]
 clear hb hL hx hxe hn hH hH6 hl hNN hqk
 go_enter Tryz.func16,Tryz.ntmps16
 go_wp2_with fail
 go_loopw [4] (fun iv W=>∃ i:Nat,i<=N/\iv=.int .i64 (i:Int)/\∃ F' H' S',yHv w base q n F H cs i F' H' S' W) (fun iv _=>N - (intOf iv).toNat)
 case atStart=>exact⟨0,zye _,rfl,_,_,_,H0.out⟩
 case round =>
  clear H0
  obtain⟨i,hi,rfl,F',H',S',hI⟩:=hrel
  have HI:=zzb hI
  obtain⟨hL,hx,hxe,hn,hH,hH6,hl,hNN,hqk⟩:=HH.out
  have hno:∀ k,(k=q∨(F 1).ownBlock=some k)->OfG q F H k:=fun k hk=>by
   rcases hk with rfl | hk
   ·exact .inl rfl
   ·exact .inr ⟨1,by decide,by decide,.inl hk⟩
  have hLW:zKf wr base (.slice av N cv) cs:=hL.keep hI.keep (fun k hk e=>hx k hk (hno k e)) (fun c hc k hk e=>hxe c hc k hk (hno k e))
  have HLW:=zzb hLW
  clear hI hL
  by_cases hlt:i<N
  ·obtain⟨c1,c1',hj0,hlt'⟩:=zHy hlt
   have hic:i<cs.length:=by rw[<-hNN];exact hlt
   obtain⟨y,hy⟩:∃ y,y=cs[i]:=⟨_,rfl⟩
   have hymem:y∈cs:=by rw[hy];exact List.getElem_mem hic
   have hcap:∃ g,av=some ⟨g,0,none⟩/\wr.rangeAt g (i*33) (zEf y.1)/\N<=cv:=by
    rcases hLW.row with ⟨h0,_⟩ | ⟨g,cap,h1,_,_,h2,_,hr,_⟩
    ·simp only[zzh]at h0;omega
    ·simp only[zzh]at h1
     obtain⟨rfl,h3,rfl⟩:=h1
     exact⟨g,rfl,by rw[hy];exact yNj hr hic,by rw[h3];exact h2⟩
   obtain⟨g,rfl,hr,hNc⟩:=hcap
   have hfr:∀ k,(peV y.1).ownBlock=some k->¬OfG q F' H' k:=fun k hk e=>by
    rcases HI.out.of k e with e | e | ⟨c,hc,e⟩
    ·exact hxe y hymem k hk e
    ·have:=((HH.out.1.each y hymem).lt k hk).2;omega
    ·exact zYc HH.out.1.apart hic hc k e (by rw[<-hy];exact hk)
   have htell:=yDt y.1 (zIx y.2) base q (n+i) F' H' S' wr HI.out.bk (HLW.out.each y hymem) hfr (by omega) (by rw[HI.out.len];omega) (by rw[zFu];exact hl y hymem)
   have HT:=zzb htell
   have HY:=zAI hr (zza hymem (zza hic hy))
   have k1:(N:Int)<=(cv:Int):=by omega
   have hwi:wrap64 ((i:Int)+1)=((i+1:Nat):Int):=zE2 (m:=100000) (by omega) (by decide)
   have HWI:=zzb hwi
   clear hxe hx hl hqk hH6 hH hn hno hLW hr hNc hfr htell hwi hymem hy hNN
   go_wp2_with (refine zEg rfl _ rfl g (i*33) rfl y.1 HY.out.1 ?_)
   refine HT.out.mono ?_
   rintro e W2 ⟨rfl,v',h1,h2,h3⟩
   have hnx:yHv w base q n F H cs (i+1) (put F' 1 v') (zWt H' 1 (H' 1++[(peV y.1,.slice none 0 0,n+i+1)])) (zWt S' 1 (yIr (H' 1) (S' 1) (zIx y.2))) W2:=by
    refine⟨h1,by rw[zGg,zzi,HI.out.len];rfl,fun j hj=>by rw[zFg _ _ hj,zI1 _ _ hj];exact HI.out.oth j hj,fun k hk=>?_,fun k hk=>?_,HI.out.keep.trans' h3 (fun k hk=>?_)⟩
    ·rcases zMr (N:=wr.heap.size) (by decide) (by decide) h2 hk with e | e | e
     ·rcases HI.out.of k e with e | e | ⟨c,hc,e⟩
      ·exact .inl e
      ·exact .inr (.inl e)
      ·exact .inr (.inr ⟨c,List.take_subset_take_left cs (Nat.le_succ i) hc,e⟩)
     ·exact .inr (.inl (zzk HI.out.keep.size e))
     ·refine .inr (.inr ⟨y,?_,e⟩)
      rw[zzJ HY.out.2.2.1,<-HY.out.2.2.2]
      exact List.mem_append_right _ (zzx.2 rfl)
    ·rw[zLu]at hk
     rcases h2 k hk with e | e
     ·exact HI.out.row k e
     ·exact .inr (zzk HI.out.keep.size e)
    ·rcases hk with e | e
     ·exact .inl (.inl e)
     ·rcases HI.out.row k e with e | e
      ·exact .inl (.inr e)
      ·exact .inr e
   have HNX:=zzb hnx
   clear h1 h2 h3 hnx
   go_wp2_with fail
   rw[HWI.out]
   exact⟨⟨i+1,hlt,rfl,_,_,_,HNX.out⟩,by simp only[intOf,zzF];omega⟩
  ·have hjn:i=N:=by omega
   subst hjn
   have hfr:∀ k,(Value.slice av i cv).ownBlock=some k->¬OfG q F' H' k:=fun k hk e=>by
    rcases HI.out.of k e with e | e | ⟨c,hc,e⟩
    ·exact hx k hk e
    ·have:=(HH.out.1.row.lt k hk).2;omega
    ·exact HH.out.1.off c (List.mem_of_mem_take hc) k e hk
   have hkp:=zUq av i cv (F' 6) base q (n+i) F' (H' 6) wr HI.out.bk.bk rfl (HI.out.bk.k 6 (by decide) (by decide)).row HI.out.bk.bs (by omega) (by rw[(HI.out.oth 6 (by decide)).1];omega)
   have HK:=zAI hkp hfr
   clear hxe hx hl hqk hH6 hH hn hno hLW hfr hkp hNN
   go_wp2_with fail
   refine HK.out.1.mono ?_
   rintro e W2 ⟨rfl,hv',hbk,hrow,hblk,hk⟩
   have hnc:i=cs.length:=HH.out.2.2.2.2.2.2.2.1
   have hF:=HI.out.bk.tell (j:=6) (by decide) (by decide) hbk hrow hblk hk HLW.out.row HK.out.2 (by rw[zzm,<-hnc];have:=HH.out.2.2.2.1;omega)
   have HFF:=zAI hF (zza hblk hk)
   clear hF hbk hrow hblk hk hnc
   go_wp2_with fail
   refine zz6 (zz5 rfl _ _ _) rfl ⟨rfl,_,_,_,HFF.out.1,?_,?_,fun j h1 h6=>?_,fun k hk=>?_,?_⟩
   ·rw[zFg _ _ (by decide:(1:Nat)≠6)];exact HI.out.len
   ·rw[zGg,zzi,(HI.out.oth 6 (by decide)).1];rfl
   ·rw[zFg _ _ h6];exact (HI.out.oth j h1).1
   ·rcases zMr (N:=wr.heap.size) (by decide) (by decide) HFF.out.2.1 hk with e | e | e
    ·rcases HI.out.of k e with e | e | ⟨c,hc,e⟩
     ·exact .inl e
     ·exact .inr (.inl e)
     ·exact .inr (.inr (.inr ⟨c,List.mem_of_mem_take hc,e⟩))
    ·exact .inr (.inl (zzk HI.out.keep.size e))
    ·exact .inr (.inr (.inl e))
   ·refine (HI.out.keep.mono (Y:=fun i=>i=q∨(F 1).ownBlock=some i∨(F 6).ownBlock=some i) fun k h=>h.imp_right .inl).trans' HFF.out.2.2 (fun k hk=>?_)
    rcases hk with e | e
    ·exact .inl (.inl e)
    ·rw[(HI.out.oth 6 (by decide)).2]at e
     exact .inl (.inr (.inr e))
theorem zIz(k:Sum)(d:Nat)(w:World)(hd:d<256):Calls Tryz.prog 101 #[sv k,.int .i64 (d:Int)] w fun e w'=>e=.returned (.int .i64 (((Keys.kn k>>>(255 - d))%2:Nat):Int))/\Below w.heap.size w w':=by
 have hb:=al (zze _ w) (.cells (cellsOf k).toArray 24)
 obtain⟨c,hcn⟩:∃ c,c=k.toList.getD (d / 8) 0:=⟨_,rfl⟩
 have hc:(cellsOf k)[d / 8]? = some (.int .u8 ((c.toNat:Nat):Int)):=by
  have h1:d / 8<32:=by omega
  unfold cellsOf
  rw[hcn,zzP,zzg,zzf (by simpa using h1)];rfl
 have d0:decide ((d:Int)<0)=false:=by simp
 have d1:decide (256<=(d:Int))=false:=by simp;omega
 have d2:(0:Int)<=(d:Int)/\(d:Int)<256:=by omega
 have HB:=zzb hb
 have HC:=zzb hcn
 clear hb hcn
 go_enter Tryz.func101,Tryz.ntmps101
 go_wp2_with fail
 have hx:c.toNat<256:=c.toNat_lt
 have hy:c.toNat / 2 ^ (7 - d%8)<256:=zzz (Nat.div_le_self _ _) hx
 have e1:((c.toNat:Nat):Int) / 2 ^ (7 - d%8)=((c.toNat / 2 ^ (7 - d%8):Nat):Int):=by rw[Int.natCast_ediv,Int.natCast_pow];rfl
 have e2:wrap64 ((c.toNat / 2 ^ (7 - d%8):Nat):Int)=((c.toNat / 2 ^ (7 - d%8):Nat):Int):=by
  generalize c.toNat / 2 ^ (7 - d%8)=y at hy
  unfold wrap64;omega
 have e3:(Keys.kn k>>>(255 - d))%2=(c.toNat / 2 ^ (7 - d%8))%2:=by rw[zTb k d hd,<-HC.out,zya]
 have e0:wrap64 ((c.toNat:Nat):Int)=((c.toNat:Nat):Int):=by unfold wrap64;omega
 rw[e0,e1,yPl _ hy,e3]
 exact zzM (zzN rfl _ _ _) rfl ⟨rfl,HB.out⟩
theorem zHm(l r:Sum)(w:World):Calls Tryz.prog 125 #[sv l,sv r] w fun e w'=>e=.returned (sv (sd l r))/\Below w.heap.size w w':=by
 obtain⟨s,hs⟩:∃ s,s=sd l r:=⟨_,rfl⟩
 rw[<-hs]
 rw[yKv]at hs
 have HS:=zzb hs
 clear hs
 obtain⟨w1,hw1⟩:∃ x,x=w.alloc (.cells (cellsOf l).toArray 24):=⟨_,rfl⟩
 obtain⟨w2,hw2⟩:∃ x,x=w1.alloc (.cells (cellsOf r).toArray 24):=⟨_,rfl⟩
 obtain⟨w3,hw3⟩:∃ x,x=w2.alloc (.cells (cellsOf zDv).toArray 24):=⟨_,rfl⟩
 have r1:w1.rangeAt w.heap.size 0 (cellsOf l):=by rw[hw1];exact zDh w _ _ _ rfl
 have r2:w2.rangeAt w1.heap.size 0 (cellsOf r):=by rw[hw2];exact zDh w1 _ _ _ rfl
 have t3:w3.there w2.heap.size 0 32:=by rw[hw3];exact zD5 w2 (cellsOf zDv).toArray _
 have b1:Below w.heap.size w w1:=by rw[hw1];exact al (zze _ _) _
 have b2:Below w1.heap.size w1 w2:=by rw[hw2];exact al (zze _ _) _
 have b3:Below w2.heap.size w2 w3:=by rw[hw3];exact al (zze _ _) _
 have r13:=(zK b3).range ((zK b2).range r1 id) id
 have r23:=(zK b3).range r2 id
 have b13:=(b1.trans (b2.mono b1.size)).trans (b3.mono (zzk b1.size b2.size))
 have s1:w1.heap.size=w.heap.size+1:=by rw[hw1,zzp]
 have s2:w2.heap.size=w.heap.size+2:=by rw[hw2,zzp,s1]
 have H0:=zAI r13 (zza r23 (zza t3 (zza b13 (zza s1 s2))))
 have HW:=zAI hw1 (zza hw2 hw3)
 clear r1 r2 t3 b1 b2 b3 r13 r23 b13 s1 s2 hw1 hw2 hw3
 go_enter Tryz.func125,Tryz.ntmps125
 refine Alm.wp_cut 1 ?_
 intro T hT
 dsimp only[zKi]
 replace hT:=zzb hT
 go_wp2_with fail
 refine hT.out _ _ ?_
 clear hT
 dsimp only[zF0]
 rw[<-HW.out.1]
 rw[<-HW.out.2.1]
 change Code.wp _ _ _ _ (w2.alloc (.cells (cellsOf zDv).toArray 24))
 rw[<-HW.out.2.2]
 have hs3:w3.heap.size=w.heap.size+3:=by rw[HW.out.2.2,zzp,H0.out.2.2.2.2.2]
 have HS3:=zzb hs3
 clear hs3 HW
 obtain⟨r1,r2,t3,b13,s1,s2⟩:=H0.out
 rw[s1]at r2
 rw[s2]at t3
 rw[show w.heap.size+1+1=w.heap.size+2 from rfl]
 have hd:=(zze w3.heap.size w3).drew
 have HV:=zAI ((zK hd).range r1 id) (zza ((zK hd).range r2 id) (zza ((zK hd).there t3 (by decide) id) (zza b13.drew (show w3.drew.heap.size=w.heap.size+3 from HS3.out))))
 clear r1 r2 t3 b13 s1 s2 hd H0 HS3
 go_wp2_with fail
 refine zDd (fun V=>Below w3.drew.heap.size w3.drew V) [.t 1,.t 3,.e 0 false,.e 2 false,.e 4 false,.e 5 false,.e 6 false] (by kernel_rfl) (by kernel_rfl) (by rintro _ _(_|_)_ _ h<;>exact h) ?_
 generalize w3.drew=V at *
 iterate 2
  refine zDp rfl (v:=?_) (by rfl) (fun W=>?_) ?_
  rotate_left
  ·go_simp
   try rfl
  try simp only[zU,zA,zB,zC]
 refine zEa rfl (by rfl) (fun K hK=>?_)
 go_simp
 have ho:=zNo (w:=V) 4 #[.int .u8 4] rfl
 have hba:=al (zze V.heap.size V) (.cells #[.int .u8 4] 5)
 have HO:=zAI ho hba
 clear ho hba
 refine hK _ _ ?_;clear hK K
 try simp only[zU,zA,zB,zC]
 generalize V.alloc (.cells #[.int .u8 4] 5)=V1 at *
 refine zEa rfl (by rfl) (fun K hK=>?_)
 have hr1:=(zK HO.out.2).range HV.out.1 id
 refine zI9 _ _ rfl V.heap.size _ [4] l.toList 1 32 rfl (zJr l) (by rfl) HO.out.1 w.heap.size 0 32 (by rfl) hr1 (by omega) (by omega) HO.out.2.size ?_
 intro g2 c2 V2 ho2 hg2
 have hb2:=zGr HO.out.2 HO.out.1 hg2 HO.out.2.size
 have H2:=zAI ho2 hb2
 clear ho2 hb2 hg2 hr1
 refine hK _ _ ?_;clear hK K
 try simp only[zU,zA,zB,zC]
 refine zEa rfl (by rfl) (fun K hK=>?_)
 have hr2:=(zK H2.out.2).range HV.out.2.1 id
 refine zI9 _ _ rfl V.heap.size _ ([4]++l.toList) r.toList 33 32 (by simp) (zJr r) (by rfl) H2.out.1 (w.heap.size+1) 0 32 (by rfl) hr2 (by omega) (by omega) H2.out.2.size ?_
 intro g3 c3 V3 ho3 hg3
 have hb3:=zGr H2.out.2 H2.out.1 hg3 H2.out.2.size
 have hby:zDk V3 (.slice (some ⟨g3,0,none⟩) (33+32) c3) ([4]++l.toList++r.toList):=by
  have hlen:([4]++l.toList++r.toList:List UInt8).length=33+32:=by simp
  have:=zH2 (l:=[4]++l.toList++r.toList) (by rw[hlen];exact ho3) (by rw[hlen];omega)
  exact this
 have HC:=zzb (zK4 _ _ V3 hby (by simp))
 have H3:=zzb hb3
 clear ho3 hb3 hg3 hby hr2
 refine hK _ _ ?_;clear hK K
 try simp only[zU,zA,zB,zC]
 refine zEa rfl (by rfl) (fun K hK=>?_)
 go_simp
 refine HC.out.mono ?_
 rintro e V4 ⟨rfl,hb4⟩
 have hb4':=H3.out.trans (hb4.mono H3.out.size)
 have H4:=zAI ((zK hb4').there HV.out.2.2.1 (by decide) id) (HV.out.2.2.2.1.trans (hb4'.mono HV.out.2.2.2.1.size))
 have hs4:s=sha (4::(l.toList++r.toList)):=HS.out
 rw[show ([4]++l.toList++r.toList:List UInt8)=4::(l.toList++r.toList) from rfl,<-hs4]
 clear hb4 hb4' HC H3 hs4
 refine hK _ _ ?_;clear hK K
 try simp only[zU,zA,zB,zC]
 refine zEa rfl (by rfl) (fun K hK=>?_)
 refine zEd _ _ rfl (w.heap.size+2) 0 s (by rfl) (by rfl) H4.out.1 ?_
 refine hK _ _ ?_;clear hK K
 try simp only[Act.put]
 refine zDn ?_
 go_wp2_with fail
 exact zzM (zEe Tryz.results125 _ _ _ _ rfl (zzd H4.out.1 _ _ _)) rfl ⟨rfl,zDc _ (by omega) _ _ _ _ H4.out.2⟩
theorem zTl(k:Sum)(b:List UInt8)(v:Value)(w:World)(hv:zDk w v b)(hl:b.length<900000):Calls Tryz.prog 124 #[sv k,v] w fun e w'=>e=.returned (sv (vl k b))/\Below w.heap.size w w':=by
 obtain⟨s,hs⟩:∃ s,s=vl k b:=⟨_,rfl⟩
 rw[<-hs]
 rw[yDb]at hs
 have hs':s=if b=[] then sha [2] else sha (3::(k.toList++b)):=hs
 have HS:=zzb hs'
 clear hs hs'
 obtain⟨w0,hw0⟩:∃ x,x=w.alloc (.cells (cellsOf k).toArray 24):=⟨_,rfl⟩
 obtain⟨w1,hw1⟩:∃ x,x=w0.alloc (.cells (cellsOf zDv).toArray 24):=⟨_,rfl⟩
 have r0:w0.rangeAt w.heap.size 0 (cellsOf k):=by rw[hw0];exact zDh w _ _ _ rfl
 have b0:Below w.heap.size w w0:=by rw[hw0];exact al (zze _ _) _
 have s0:w0.heap.size=w.heap.size+1:=by rw[hw0,zzp]
 have t1:w1.there (w.heap.size+1) 0 32:=by rw[<-s0,hw1];exact zD5 w0 (cellsOf zDv).toArray _
 have b1:Below w0.heap.size w0 w1:=by rw[hw1];exact al (zze _ _) _
 have r1:=(zK b1).range r0 id
 have b01:=b0.trans (b1.mono b0.size)
 have hv1:=zDg hv b01 (zzc _)
 have H0:=zAI t1 (zza b01 (zza hv1 (zza hl r1)))
 have HW:=zAI hw0 hw1
 obtain⟨av,cv,rfl,hv5,_,_⟩:=id hv
 obtain⟨n,hn⟩:∃ n,n=b.length:=⟨_,rfl⟩
 rw[<-hn]at H0 ⊢
 have HN:=zzb hn
 obtain⟨db,hdb⟩:∃ d:Bool,d=decide (n=0):=⟨_,rfl⟩
 have e1:decide ((n:Int)=0)=db:=by rw[hdb,zzX];omega
 have e2:decide (n=0)=db:=hdb.symm
 have e3:((n:Int) == 0)=db:=by rw[hdb,zyo,zyp,zzW];omega
 have HD:=zzb hdb
 clear hdb hn r0 b0 s0 t1 b1 r1 b01 hv hv1 hl hw0 hw1 hv5
 go_enter Tryz.func124,Tryz.ntmps124
 refine Alm.wp_cut 1 ?_
 intro T hT
 dsimp only[zKi]
 replace hT:=zzb hT
 go_wp2_with fail
 refine hT.out _ _ ?_
 clear hT
 dsimp only[zF0]
 rw[<-HW.out.1]
 change Code.wp _ _ _ _ (w0.alloc (.cells (cellsOf zDv).toArray 24))
 rw[<-HW.out.2]
 clear HW
 have ho0:=zNo (w:=w1) 2 #[.int .u8 2] rfl
 have ho3:=zNo (w:=w1) 3 #[.int .u8 3] rfl
 have hb2:=al (zze w1.heap.size w1) (.cells #[.int .u8 2] 5)
 have hb3:=al (zze w1.heap.size w1) (.cells #[.int .u8 3] 5)
 have HO:=zAI ho0 (zza hb2 (zza ho3 hb3))
 clear ho0 ho3 hb2 hb3
 cases db with
 | true =>
  have hbe:b=[]:=by have:=HD.out;have h2:=HN.out;have:n=0:=zz3 this.symm;exact zzu.1 (by rw[<-h2,this])
  have hs2:s=sha [2]:=by rw[HS.out,zzY hbe]
  have HS2:=zzb hs2
  clear hbe hs2
  go_wp2_with fail
  have hby:zDk (w1.alloc (.cells #[.int .u8 2] 5)) (.slice (some ⟨w1.heap.size,0,none⟩) 1 1) [2]:=zK8 2 _ rfl rfl
  have HC:=zzb (zK4 [2] _ _ hby (by simp))
  clear hby
  rw[<-HS2.out]at HC
  have H3:=zzb HO.out.2.1
  generalize w1.alloc (.cells #[.int .u8 2] 5)=w3 at *
  refine HC.out.mono ?_
  rintro e w4 ⟨rfl,hb4⟩
  have hb4':=H3.out.trans (hb4.mono H3.out.size)
  have H4:=zAI ((zK hb4').there H0.out.1 (by decide) id) (H0.out.2.1.trans (hb4'.mono H0.out.2.1.size))
  clear hb4 hb4'
  go_wp2_with (refine zDm rfl _ _ rfl (w.heap.size+1) 0 s rfl rfl H4.out.1 ?_)
  exact zzM (zEe Tryz.results124 _ _ _ _ rfl (zzd H4.out.1 _ _ _)) rfl ⟨rfl,zDc _ (by omega) _ _ _ _ H4.out.2⟩
 | false =>
  have hbe:b≠[]:=by intro e0;have h1:=HD.out;have h2:=HN.out;rw[e0]at h2;have:¬n=0:=zyl h1.symm;exact this (by rw[h2];rfl)
  have hs2:s=sha (3::(k.toList++b)):=by rw[HS.out,zzZ hbe]
  have HS2:=zzb hs2
  clear hbe hs2
  refine Alm.wp_cut 1 ?_
  intro T hT
  dsimp only[zKi]
  replace hT:=zzb hT
  go_wp2_with fail
  refine hT.out _ _ ?_
  clear hT
  dsimp only[zF0]
  refine wp_seq_k fun K1 hK1=>?_
  refine wp_region_lit ?_
  refine wpList_plain rfl fun K hK=>?_
  go_simp
  refine hK _ _ ?_
  clear hK K
  try simp only[zU,zA,zB,zC]
  have HV1:=zAI HO.out.2.2.1 (zza HO.out.2.2.2 (zza (zDg H0.out.2.2.1 HO.out.2.2.2 (zzc _)) ((zK HO.out.2.2.2).range H0.out.2.2.2.2 id)))
  clear HO
  generalize w1.alloc (.cells #[.int .u8 3] 5)=w2 at *
  refine wpList_plain rfl fun K hK=>?_
  go_simp
  refine hK _ _ ?_
  clear hK K
  try simp only[zU,zA,zB,zC]
  have hks:zDk w2 (.slice (some ⟨w.heap.size,0,none⟩) 32 32) k.toList:=⟨_,32,by simp,by simp,by decide,.inr ⟨_,_,rfl,HV1.out.2.2.2⟩⟩
  refine zGp rfl _ _ rfl w1.heap.size _ _ [3] k.toList 1 32 rfl (zJr k) rfl HV1.out.1 rfl hks (by omega) HV1.out.2.1.size ?_
  intro v3 w3 ho3 hg3
  have hb3:=zGr HV1.out.2.1 HV1.out.1 hg3 HV1.out.2.1.size
  have H3:=zAI ho3 (zza hb3 (zDg H0.out.2.2.1 hb3 (zzc _)))
  clear ho3 hb3 hg3 hks HV1
  go_wp2_with (at_builtin;refine Hid.out ?_)
  refine zzb ?_
  refine zGp rfl _ _ rfl w1.heap.size _ _ ([3]++k.toList) b 33 n (by simp) HN.out.symm rfl H3.out.1 rfl H3.out.2.2 (by have:=H0.out.2.2.2.1;have:=HN.out;omega) H3.out.2.1.size ?_
  intro v4 w4 ho4 hg4
  have hb4:=zGr H3.out.2.1 H3.out.1 hg4 H3.out.2.1.size
  have hby:zDk w4 v4 (3::(k.toList++b)):=by
   have hlen:(3::(k.toList++b):List UInt8).length=33+n:=by have:=HN.out;simp;omega
   exact zH2 (l:=3::(k.toList++b)) (by rw[hlen];exact ho4) (by have:=H0.out.2.2.2.1;have:=HN.out;rw[hlen];omega)
  have HC:=zzb (zK4 _ _ w4 hby (by have:=H0.out.2.2.2.1;have:=HN.out;simp;omega))
  have H4:=zzb hb4
  clear ho4 hb4 hg4 hby H3
  rw[<-HS2.out]at HC
  go_wp2_with (first
   | (go_at_call 117;refine HC.out.mono ?_;rintro e w5 ⟨rfl,hb5⟩;have hb5':=H4.out.trans (hb5.mono H4.out.size);have H5:=zAI ((zK hb5').there H0.out.1 (by decide) id) (H0.out.2.1.trans (hb5'.mono H0.out.2.1.size));clear hb5 hb5')
   | (refine zDm rfl _ _ rfl (w.heap.size+1) 0 s rfl rfl H5.out.1 ?_))
  exact zzM (zEe Tryz.results124 _ _ _ _ rfl (zzd H5.out.1 _ _ _)) rfl ⟨rfl,zDc _ (by omega) _ _ _ _ H5.out.2⟩
open Keys (Rise Pr kn putB put del)
def yOm(l:List Pr):Prop:=∀ p∈l,p.2≠[]/\p.2.length<=256
open Keys (Rise Pr kn putB put del)
def oth(k:Sum)(n:Nat)(l:List Pr):List Pr:=l.filter fun p=>(kn p.1).testBit n != (kn k).testBit n
def mine(k:Sum)(n:Nat)(l:List Pr):List Pr:=l.filter fun p=>(kn p.1).testBit n == (kn k).testBit n
noncomputable def atH(n:Nat)(l:List Pr):Sum:=Keys.at' sd z0 vl n l
theorem zOf(n:Nat):atH n []=em n:=Keys.at_nil sd z0 vl n
theorem zPl(l:List Pr):atH 0 l=match l with | []=>z0 | p::_=>vl p.1 p.2:=by
 cases l<;>rfl
noncomputable def join(k:Sum)(n:Nat)(t x:Sum):Sum:=if (kn k).testBit n then sd t x else sd x t
theorem zZh(k:Sum)(n:Nat)(l:List Pr):atH (n+1) l=join k n (atH n (oth k n l)) (atH n (mine k n l)):=by
 unfold join oth mine atH
 rw[Keys.at']
 by_cases h:(kn k).testBit n=true
 ·rw[zzY h]
  congr 3
  ·funext p;rw[h];cases (kn p.1).testBit n<;>rfl
  ·funext p;rw[h];cases (kn p.1).testBit n<;>rfl
 ·have h':(kn k).testBit n=false:=by simpa using h
  rw[zzZ h]
  congr 3
  ·funext p;rw[h'];cases (kn p.1).testBit n<;>rfl
  ·funext p;rw[h'];cases (kn p.1).testBit n<;>rfl
noncomputable def zFa(k:Sum):Nat->List Pr->List (Option Sum)
 | 0,_=>[]
 | n+1,l=>(if atH n (oth k n l)=em n then none else some (atH n (oth k n l)))::zFa k n (mine k n l)
theorem zMa(k:Sum):∀ n l,(zFa k n l).length=n
 | 0,_=>rfl
 | n+1,l=>by rw[zFa,zzB,zMa k n]
def yJ9(k:Sum):Nat->List Pr->List (Option Sum)->Prop
 | 0,_,T=>T=[]
 | n+1,l,T=>∃ t T',T=t::T'/\t.getD (em n)=atH n (oth k n l)/\yJ9 k n (mine k n l) T'
theorem zUc(k:Sum):∀ n l,yJ9 k n l (zFa k n l)
 | 0,_=>rfl
 | n+1,l=>by
  refine⟨_,_,rfl,?_,zUc k n _⟩
  split
  ·rename_i h;exact h.symm
  ·rfl
def zFb(T:List (Option Sum)):List Sum:=T.filterMap id
theorem zI7(t:Option Sum)(T:List (Option Sum)):zFb (t::T)=t.toList++zFb T:=by
 unfold zFb;cases t<;>rfl
noncomputable def zN4(k which:Sum)(n:Nat)(s:Sum×List Sum×Bool):Sum×List Sum×Bool :=
 if (kn which).testBit n then
  if s.2.2=true∨s.2.1=[] then (join k n zDv s.1,s.2.1,true) else (join k n (s.2.1.getLast?.getD zDv) s.1,s.2.1.dropLast,false)
 else (join k n (em n) s.1,s.2.1,s.2.2)
noncomputable def zIc(k which:Sum):Nat->Sum×List Sum×Bool->Sum×List Sum×Bool
 | 0,s=>s
 | n+1,s=>zN4 k which n (zIc k which n s)
noncomputable def zGh(root k:Sum)(v:List UInt8)(which:Sum)(sides:List Sum):Bool :=
 decide ((zIc k which 256 (vl k v,sides,false)).2.2=false/\(zIc k which 256 (vl k v,sides,false)).2.1=[]/\(zIc k which 256 (vl k v,sides,false)).1=root)
def Bits(which:Sum)(n:Nat)(T:List (Option Sum)):Prop:=∀ j,j<n->(kn which).testBit (n - 1 - j)=(T.getD j none).isSome
theorem Bits.tail{t:Option Sum}(h:Bits which (n+1) (t::T)):Bits which n T:=fun j hj=>by
 have:=h (j+1) (by omega)
 rw[show n+1 - 1 - (j+1)=n - 1 - j by omega]at this
 simpa using this
theorem zKm{l:List Pr}{p:Pr}:p∈mine k n l↔p∈l/\(kn p.1).testBit n=(kn k).testBit n:=by
 unfold mine;rw[List.mem_filter];simp
theorem zNj{l:List Pr}{p:Pr}:p∈oth k n l↔p∈l/\(kn p.1).testBit n≠(kn k).testBit n:=by
 unfold oth;rw[List.mem_filter];simp
def yEv(k:Sum)(n:Nat)(l:List Pr):Prop:=∀ p∈l,kn p.1>>>n=kn k>>>n
theorem yEv.mine{l:List Pr}(h:yEv k (n+1) l):yEv k n (mine k n l):=fun p hp=>by
 obtain⟨h1,h2⟩:=zKm.1 hp
 rw[Keys.shr_succ (kn p.1),Keys.shr_succ (kn k),h p h1,h2]
theorem zH1{l:List Pr}(h:Rise l):Rise (mine k n l):=h.sublist List.filter_sublist
theorem zUd{l:List Pr}(h:Rise l):Keys.get (mine k n l) k=Keys.get l k:=by
 by_cases he:∃ p∈l,p.1=k
 ·obtain⟨p,hp,rfl⟩:=he
  rw[Keys.get_mem h hp,Keys.get_mem (zH1 h) (zKm.2 ⟨hp,rfl⟩)]
 ·rw[Keys.get_none (l:=l) fun p hp e=>he ⟨p,hp,e⟩,Keys.get_none fun p hp e=>he ⟨p,(zKm.1 hp).1,e⟩]
theorem yHi{l:List Pr}(hr:Rise l)(h:yEv k 0 l):atH 0 l=vl k (Keys.get l k):=by
 rw[zPl]
 cases l with
 | nil=>exact (yLd k).symm
 | cons p r =>
  have e:p.1=k:=Keys.kn_inj (by simpa using h p zzC)
  have:=Keys.get_mem hr (zzC (a:=p) (l:=r))
  rw[e]at this
  show vl p.1 p.2=_
  rw[this,e]
theorem zVg{k which:Sum}:∀ (n:Nat) (l:List Pr) (T:List (Option Sum)) (S:List Sum),Rise l->yEv k n l->yJ9 k n l T->Bits which n T ->
  zIc k which n (vl k (Keys.get l k),S++zFb T,false)=(atH n l,S,false)
 | 0,l,T,S,hr,hn,hT,_=>by
  rw[show T=[] from hT,zIc,yHi hr hn,show zFb []=[] from rfl,List.append_nil]
 | n+1,l,T,S,hr,hn,hT,hB=>by
  obtain⟨t,T',rfl,h1,h2⟩:=hT
  have ih:=zVg n (mine k n l) T' (S++t.toList) (zH1 hr) hn.mine h2 hB.tail
  rw[zUd hr,List.append_assoc,<-zI7]at ih
  rw[zIc,ih,zN4,zZh k n l]
  have hb:=hB 0 (by omega)
  rw[show n+1 - 1 - 0=n by omega]at hb
  have hb':(kn which).testBit n=t.isSome:=by simpa using hb
  cases t with
  | none =>
   rw[zzZ (by rw[hb'];simp)]
   simp only[Option.toList_none,List.append_nil]
   rw[show em n=atH n (oth k n l) from h1]
  | some t =>
   rw[zzY (by rw[hb'];rfl),zzZ (by simp)]
   simp only[Option.toList_some,List.getLast?_append,List.getLast?_singleton,Option.some_or,Option.getD_some,List.dropLast_concat]
   rw[show t=atH n (oth k n l) from h1]
theorem yFr(k:Sum):kn k>>>256=0:=by
 have:=Fast.snum_lt k
 rw[zya]
 exact Nat.div_eq_of_lt this
theorem zMw(k:Sum)(l:List Pr):yEv k 256 l:=fun p _=>by rw[yFr,yFr]
theorem zRe{l:List Pr}(hr:Rise l)(hT:yJ9 k 256 l T)(hB:Bits which 256 T):zGh (zEz l) k (Keys.get l k) which (zFb T)=true:=by
 have:=zVg 256 l T [] hr (zMw k l) hT hB
 rw[List.nil_append]at this
 unfold zGh
 rw[this]
 simp
 rfl
def cnt(which:Sum):Nat->Nat
 | 0=>0
 | n+1=>cnt which n+if (kn which).testBit n then 1 else 0
theorem zG7(k:Sum)(n:Nat)(l:List Pr):(oth k n l).length+(mine k n l).length=l.length:=by
 unfold oth mine
 induction l with
 | nil=>rfl
 | cons p r ih =>
  rw[List.filter_cons,List.filter_cons]
  cases h1:(kn p.1).testBit n<;>cases h2:(kn k).testBit n<;>simp only[h2,beq_self_eq_true,if_true,zzB,bne]at ih ⊢<;>(try simp only[h1,h2])<;>(first | omega | (simp at ih ⊢;omega))
theorem zO9(k:Sum):∀ n l,(zFb (zFa k n l)).length<=l.length
 | 0,_=>zye _
 | n+1,l=>by
  have ih:=zO9 k n (mine k n l)
  have hl:=zG7 k n l
  rw[zFa,zI7,zzi]
  split
  ·simp;omega
  ·rename_i h
   have:(oth k n l)≠[]:=fun e=>h (by rw[e];exact zOf n)
   have:=zzV.2 this
   simp;omega
def zO2(n:Nat)(l:List Pr):Nat:=(l.filter fun p=>!(kn p.1).testBit n).length
theorem zL7{n:Nat}:∀ {l:List Pr},Rise l->Keys.Same (n+1) l->l.take (zO2 n l)=l.filter (fun p=>!(kn p.1).testBit n)/\l.drop (zO2 n l)=l.filter (fun p=>(kn p.1).testBit n)
 | [],_,_=>⟨rfl,rfl⟩
 | p::r,h,hs=>by
  obtain⟨h1,h2⟩:=zzL.1 h
  have hs2:Keys.Same (n+1) r:=fun a ha b hb=>hs a (List.mem_cons_of_mem _ ha) b (List.mem_cons_of_mem _ hb)
  obtain⟨i1,i2⟩:=zL7 h2 hs2
  unfold zO2 at i1 i2 ⊢
  by_cases hb:(kn p.1).testBit n=true
  ·have hall:∀ q∈r,(kn q.1).testBit n=true:=fun q hq=>by
    have e:=hs p zzC q (List.mem_cons_of_mem _ hq)
    have hlt:=h1 q hq
    rcases Bool.eq_false_or_eq_true ((kn q.1).testBit n)with hc' | hc'
    ·exact hc'
    exfalso
    have e1:=Keys.shr_succ (kn p.1) n
    have e2:=Keys.shr_succ (kn q.1) n
    rw[hb,zzY rfl]at e1
    rw[hc',zzZ (by simp)]at e2
    have:kn p.1>>>n<=kn q.1>>>n:=by
     rw[zya,zya]
     exact Nat.div_le_div_right (zzU hlt)
    omega
   have hn:r.filter (fun p=>!(kn p.1).testBit n)=[]:=by
    rw[List.filter_eq_nil_iff]
    intro q hq;rw[hall q hq];simp
   have hy:r.filter (fun p=>(kn p.1).testBit n)=r:=List.filter_eq_self.2 hall
   rw[List.filter_cons_of_neg (by rw[hb];simp),hn,List.filter_cons_of_pos (by exact hb),hy]
   exact⟨rfl,rfl⟩
  ·have hb':(kn p.1).testBit n=false:=by simpa using hb
   rw[List.filter_cons_of_pos (by rw[hb'];rfl),List.filter_cons_of_neg (by rw[hb'];simp),zzB,List.take_succ_cons,List.drop_succ_cons]
   exact⟨by rw[i1],i2⟩
theorem yE4{l:List Pr}(h:Rise l)(hs:Keys.Same (n+1) l):(∀ j p,l[j]? = some p->j<zO2 n l->(kn p.1).testBit n=false)/\(∀ p,l[zO2 n l]? = some p->(kn p.1).testBit n=true)/\zO2 n l<=l.length:=by
 obtain⟨e1,e2⟩:=zL7 h hs
 refine⟨fun j p hj hlt=>?_,fun p hp=>?_,List.length_filter_le _ _⟩
 ·have:p∈l.take (zO2 n l):=by
   rw[List.mem_iff_getElem?]
   exact⟨j,by rw[List.getElem?_take_of_lt hlt,hj]⟩
  rw[e1,List.mem_filter]at this
  simpa using this.2
 ·have:p∈l.drop (zO2 n l):=by
   rw[List.mem_iff_getElem?]
   exact⟨0,by rw[List.getElem?_drop,Nat.add_zero,hp]⟩
  rw[e2,List.mem_filter]at this
  simpa using this.2
end Go.Proofs.YtfmgoehnbaiamaaGreatDoor
