/- Joined: BZ8, JB1, B1. -/
import Derived.Test.YtdkcndgehgmadaaGreatDoorZAV
import Derived.Lib.AppendZeros
set_option maxRecDepth 100000
set_option maxHeartbeats 2000000
open Go Go.RowKit Alm
namespace Go.Proofs.YtdkcndgehgmadaaGreatDoor
structure KM(W:World)(t:TypeId)(base lo q:Nat)(v:Value)(H:List zEw)(a:Nat->Nat)(L:Nat->Value):Prop where
 row:zIw W t base q v (zF4 H L H.length)
 lies:∀ i,i<H.length->zUm W base lo (num H i) (lst H i) (a i)
 long:∀ i,i<H.length->zUm W base lo (num H i) (L i) (a i+40)
theorem KM.of_grow{t:TypeId}{w W:World}{base lo q n:Nat}{F:Nat->Value}{v:Value}{H:List zEw}{S T:Nat->List (List Value)}{L:Nat->Value}{Y:Nat->List (List Value)}(h:zNb t w W base q n F v H T H.length L Y)(f:zIj w base lo H S H.length 0 T)(hv:∀ k,v.ownBlock=some k->k<lo)(hl:lo<=w.heap.size):KM W t base lo q v H (fun i=>(S i).length) L:=by
 have mk:∀ i,i<H.length->∀ c∈T i,MkL W lo (num H i) c:=fun i hi c hc=>(f.d i hi hi c hc).keep h.keep (fun k h1 _ e=>by
  rcases e with ⟨j,hj,e⟩ | e
  ·have:=f.b j hj k e;omega
  ·have:=hv k e;omega)
 refine⟨h.row,fun i hi=>⟨_,h.lies i hi,f.n i,mk i hi⟩,fun i hi=>⟨_,(h.long i hi hi).1,?_,fun c hc=>?_⟩⟩
 ·rw[zzi,f.n i,(h.many i hi hi).1]
 ·rcases zzL.1 hc with hc | hc
  ·exact mk i hi c hc
  ·exact ((h.many i hi hi).2 c hc).mono hl
theorem KM.keep{X:Nat->Prop}{W W':World}{t:TypeId}{base lo q:Nat}{v:Value}{H:List zEw}{a:Nat->Nat}{L:Nat->Value}(h:KM W t base lo q v H a L)(hk:zDj X W W')(hx:∀ k,zL9 v H L k->¬X k)(hy:∀ k,lo<=k->¬X k):KM W' t base lo q v H a L :=
 ⟨h.row.keep hk (fun k h=>hx k (.inl (.inl h))),fun i hi=>(h.lies i hi).keep hk (fun k h=>hx k (.inl (.inr ⟨i,hi,h⟩))) hy,fun i hi=>(h.long i hi).keep hk (fun k h=>hx k (.inr ⟨i,hi,h⟩)) hy⟩
theorem KM.below{W W':World}{t:TypeId}{base lo q:Nat}{v:Value}{H:List zEw}{a:Nat->Nat}{L:Nat->Value}(h:KM W t base lo q v H a L)(hb:Below W.heap.size W W'):KM W' t base lo q v H a L:=h.keep (zK hb) (fun _ _ h=>h) (fun _ _ h=>h)
theorem yEh{t:TypeId}{w W:World}{base q n:Nat}{F:Nat->Value}{v:Value}{H:List zEw}{S:Nat->List (List Value)}{L:Nat->Value}{Y:Nat->List (List Value)}(h:zNb t w W base q n F v H S H.length L Y){k:Nat}(hk:zL9 v H L k):zGd v H k∨w.heap.size<=k:=by
 rcases hk with hk | ⟨i,hi,hk⟩
 ·exact .inl hk
 ·rcases (h.long i hi hi).2 k hk with e | e
  ·exact .inl (.inr ⟨i,hi,e⟩)
  ·exact .inr e
theorem zYf(base lo q n:Nat)(F:Nat->Value)(H:List zEw)(a:Nat->Nat)(L:Nat->Value)(w:World)(hb:zGx w q n F)(h:KM w 173 base lo q (F 4) H a L)(hN:∀ i,i<H.length->num H i<256)(hA:∀ i,i<H.length->a i<900000)(hH:H.length<100000):Calls Tryz.prog 93 #[.pointer (some ⟨q,0,none⟩)] w fun e w'=>e=.returned (.bool true)/\Below w.heap.size w w':=by
 have hll:=zEl H L H.length
 refine zNy base lo q n (F 4) F (zF4 H L H.length) a w hb rfl h.row (fun i hi=>?_) (fun i hi=>?_) (fun i hi=>?_) (fun i hi=>?_) (by rw[hll];exact hH)
 ·rw[hll]at hi
  rw[(zFf H L i hi).1,(zFf H L i hi).2.2]
  exact h.lies i hi
 ·rw[hll]at hi
  rw[(zFf H L i hi).2.1,(zFf H L i hi).2.2]
  exact h.long i hi
 ·rw[hll]at hi
  rw[(zFf H L i hi).2.2]
  exact hN i hi
 ·rw[hll]at hi
  exact hA i hi
theorem zZ2(base q n:Nat)(F:Nat->Value)(H:Nat->List zEw)(S:Nat->Nat->List (List Value))(w:World)(hb:zHc w base q n F H S)(hn:n<256)(hH:∀ j,(H j).length<90000)(h0:∀ j,j≠1->j≠4->j≠5->H j=[]) :
  Calls Tryz.prog 16 #[.pointer (some ⟨q,0,none⟩)] w fun e w'=>e=.returned (.bool true)/\zDj (OfG q F H) w w':=by
 have HM:=zzb hb
 have hN:∀ j,1<=j->j<10->∀ i,i<(H j).length->num (H j) i<256:=fun j h1 h2 i hi=>zzy ((hb.k j h1 h2).nums i hi) hn
 have HN:=zAI hN hH
 have HX:=zzb (fun (i j k:Nat) (h1:1<=i/\i<10/\1<=j/\j<10/\i≠j)=>hb.x i j h1.1 h1.2.1 h1.2.2.1 h1.2.2.2.1 h1.2.2.2.2 k)
 have HNU:=zzb (fun j (h:j≠1/\j≠4/\j≠5)=>hb.nul j (h0 j h.1 h.2.1 h.2.2))
 have HB0:=zzb hb.bk
 have HKB0:=zzb (show KB w 163 1 base q n (F 1) (H 1) (S 1) from hb.k 1 (by decide) (by decide))
 have HKS0:=zzb (show KB w 161 32 base q n (F 5) (H 5) (S 5) from hb.k 5 (by decide) (by decide))
 have HKL0:=zzb (show KB w 173 1 base q n (F 4) (H 4) (S 4) from hb.k 4 (by decide) (by decide))
 have HLT:=zzb (fun j k (h1:1<=j/\j<10) (hk:zGd (F j) (H j) k)=>((hb.k j h1.1 h1.2).lt hk).2)
 have H1:=zzb (zSy base q n (F 1) F (H 1) (S 1) w HB0.out rfl HKB0.out.row HKB0.out.lies HKB0.out.ap (HN.out.1 1 (by decide) (by decide)) (fun i hi=>Nat.lt_trans (HKB0.out.lens i hi) (by decide)) (Nat.lt_trans (HN.out.2 1) (by decide)) HKB0.out.lngs)
 clear hb hN hn hH h0
 go_enter Tryz.func16,Tryz.ntmps16
 go_wp2_with (first
  | (go_at_call 72;refine H1.out.mono ?_;rintro e w1 ⟨rfl,hl,hk⟩;refine Hid.out ?_))
 refine zzb ?_
 have HB1:=zzb (HB0.out.keep hk (zQe HKB0.out.ap))
 have HKB1:=zzb (HKB0.out.fill hl hk)
 have HKS1:=zzb (HKS0.out.keep hk (fun k hk e=>HX.out 5 1 k (by decide) hk (.inr e)))
 have HKL1:=zzb (HKL0.out.keep hk (fun k hk e=>HX.out 4 1 k (by decide) hk (.inr e)))
 have HKE1:=zzb (hk.mono (Y:=OfG q F H) fun k h=>.inr ⟨1,by decide,by decide,.inr h⟩)
 obtain⟨lo,hlo⟩:∃ lo,lo=w1.heap.size:=⟨_,rfl⟩
 have HLO:=zzb (show ∀ j k,(1<=j/\j<10)->zGd (F j) (H j) k->k<lo from fun j k h1 h2=>by
  rw[hlo]
  exact zzF (HLT.out j k h1 h2) hk.size)
 have H2:=zzb (zN4 base q n (F 4) F (H 4) (S 4) w1 HB1.out rfl HKL1.out.row HKL1.out.lies HKL1.out.ap (HN.out.1 4 (by decide) (by decide)) (fun i hi=>Nat.lt_trans (HKL1.out.lens i hi) (by decide)) (Nat.lt_trans (HN.out.2 4) (by decide)) HKL1.out.lngs)
 have HLE1:=zzb (show lo<=w1.heap.size from Nat.le_of_eq hlo)
 rw[<-hlo]at H2
 clear hl hk H1 hlo
 go_wp2_with (first
  | (go_at_call 73;refine (zUv q _ F _ HB1.out (HNU.out 2 (by decide))).mono ?_;rintro e w2 ⟨rfl,rfl⟩)
  | (go_at_call 74;refine (zS2 q _ F _ HB1.out (HNU.out 3 (by decide))).mono ?_;rintro e w2 ⟨rfl,rfl⟩)
  | (go_at_call 75;refine H2.out.mono ?_;rintro e w2 ⟨rfl,⟨T,hT⟩,hk⟩;refine Hid.out ?_))
 refine zzb ?_
 have HB2:=zzb (HB1.out.keep hk (zQe HKL1.out.ap))
 have HKB2:=zzb (HKB1.out.keep hk (fun k hk e=>HX.out 1 4 k (by decide) hk (.inr e)))
 have HKS2:=zzb (HKS1.out.keep hk (fun k hk e=>HX.out 5 4 k (by decide) hk (.inr e)))
 have HRL2:=zzb (HKL1.out.row.keep hk (not_row HKL1.out.ap))
 have HF2:=zzb hT
 have HKE2:=zzb (hk.mono (Y:=OfG q F H) fun k h=>.inr ⟨4,by decide,by decide,.inr h⟩)
 have HLE2:=zzb (zzk HLE1.out hk.size)
 have HZL:=zAI HKL1.out.ap (zza HKL1.out.lens HKL1.out.lngs)
 clear hT hk H2 HKL1
 have H3:=zzb (zV5 base q n (F 5) F (H 5) (S 5) w2 HB2.out rfl HKS2.out.row HKS2.out.lies HKS2.out.ap (HN.out.1 5 (by decide) (by decide)) (fun i hi=>Nat.lt_trans (HKS2.out.lens i hi) (by decide)) (Nat.lt_trans (HN.out.2 5) (by decide)) HKS2.out.lngs)
 go_wp2_with (first
  | (go_at_call 76;refine H3.out.mono ?_;rintro e w3 ⟨rfl,hl,hk⟩;refine Hid.out ?_))
 refine zzb ?_
 have HB3:=zzb (HB2.out.keep hk (zQe HKS2.out.ap))
 have HKB3:=zzb (HKB2.out.keep hk (fun k hk e=>HX.out 1 5 k (by decide) hk (.inr e)))
 have HKS3:=zzb (HKS2.out.fill hl hk)
 have HRL3:=zzb (HRL2.out.keep hk (fun k hk e=>HX.out 4 5 k (by decide) (.inl hk) (.inr e)))
 have HF3:=zzb (HF2.out.keep hk (fun k hk e=>HX.out 4 5 k (by decide) (.inr hk) (.inr e)) (fun k h1 _ e=>by have:=HLO.out 5 k (by decide) (.inr e);omega))
 have HKE3:=zzb (hk.mono (Y:=OfG q F H) fun k h=>.inr ⟨5,by decide,by decide,.inr h⟩)
 have HLE3:=zzb (zzk HLE2.out hk.size)
 clear hl hk H3
 have HBS3:=zzb (show base<=w3.heap.size from zzk HM.out.bs (zzk HKE1.out.size (zzk HKE2.out.size HKE3.out.size)))
 have H4:=zzb (zSx base q n (F 1) F (H 1) (zLy mkB (H 1) (S 1)) w3 HB3.out rfl HKB3.out.row HKB3.out.lies HKB3.out.ap (HN.out.1 1 (by decide) (by decide)) HKB3.out.lens (Nat.lt_trans (HN.out.2 1) (by decide)) HKB3.out.lngs HBS3.out)
 go_wp2_with (first
  | (go_at_call 77;refine (zSh q _ F _ HB3.out (HNU.out 6 (by decide))).mono ?_;rintro e w4 ⟨rfl,rfl⟩)
  | (go_at_call 78;refine (zP1 q _ F _ HB3.out (HNU.out 7 (by decide))).mono ?_;rintro e w4 ⟨rfl,rfl⟩)
  | (go_at_call 79;refine (zQ8 q _ F _ HB3.out (HNU.out 8 (by decide))).mono ?_;rintro e w4 ⟨rfl,rfl⟩)
  | (go_at_call 80;refine (zRo q _ F _ HB3.out (HNU.out 9 (by decide))).mono ?_;rintro e w4 ⟨rfl,rfl⟩)
  | (go_at_call 81;refine H4.out.mono ?_;rintro e w4 ⟨rfl,LB,hG⟩;refine Hid.out ?_))
 refine zzb ?_
 have HB4:=zzb hG.book
 have HBS4:=zzb (zzk HBS3.out hG.keep.size)
 have HGB:=zzb hG
 have HKGB4:=zzb (KG.of_grow hG)
 have own:∀ (j k:Nat),InH (H j) k∨(F j).ownBlock=some k->zGd (F j) (H j) k:=fun j k e=>by
  rcases e with e | e
  ·exact .inr e
  ·exact .inl e
 have HKS4:=zzb (HKS3.out.keep hG.keep (fun k hk e=>HX.out 5 1 k (by decide) hk (own _ _ e)))
 have HRL4:=zzb (HRL3.out.keep hG.keep (fun k hk e=>HX.out 4 1 k (by decide) (.inl hk) (own _ _ e)))
 have HF4:=zzb (HF3.out.keep hG.keep (fun k hk e=>HX.out 4 1 k (by decide) (.inr hk) (own _ _ e)) (fun k h1 _ e=>by have:=HLO.out 1 k (by decide) (own _ _ e);omega))
 have HKE4:=zzb (hG.keep.mono (Y:=OfG q F H) fun k h=>.inr ⟨1,by decide,by decide,own _ _ h⟩)
 have HLE4:=zzb (zzk HLE3.out hG.keep.size)
 have OWN:=zzb own
 clear hG H4 own
 have H5:=zzb (zN0 base q n (F 4) F (H 4) T w4 HB4.out rfl HRL4.out HF4.out.l HZL.out.1 (HN.out.1 4 (by decide) (by decide)) (fun i hi=>by rw[HF4.out.n i];exact HZL.out.2.1 i hi) (Nat.lt_trans (HN.out.2 4) (by decide)) HZL.out.2.2 HBS4.out)
 go_wp2_with (first
  | (go_at_call 82;refine (zVt q _ F _ HB4.out (HNU.out 2 (by decide))).mono ?_;rintro e w5 ⟨rfl,rfl⟩)
  | (go_at_call 83;refine (zTq q _ F _ HB4.out (HNU.out 3 (by decide))).mono ?_;rintro e w5 ⟨rfl,rfl⟩)
  | (go_at_call 84;refine H5.out.mono ?_;rintro e w5 ⟨rfl,LL,Y,hG⟩;refine Hid.out ?_))
 refine zzb ?_
 have HB5:=zzb hG.book
 have HBS5:=zzb (zzk HBS4.out hG.keep.size)
 have HGL:=zzb hG
 have HKM5:=zzb (KM.of_grow hG HF4.out (fun k e=>HLO.out 4 k (by decide) (.inl e)) HLE4.out)
 have hx:∀ k,zGd (F 4) (H 4) k->¬zL9 (F 1) (H 1) LB k:=fun k hk e=>by
  rcases zW6 HGB.out e with e | e
  ·exact HX.out 1 4 k (by decide) e hk
  ·have:=HLO.out 4 k (by decide) hk;have:=HLE3.out;omega
 have HKGB5:=zzb (HKGB4.out.keep hG.keep (fun k hk e=>hx k (OWN.out _ _ e) hk))
 clear hx
 have HKS5:=zzb (HKS4.out.keep hG.keep (fun k hk e=>HX.out 5 4 k (by decide) hk (OWN.out _ _ e)))
 have HKE5:=zzb (hG.keep.mono (Y:=OfG q F H) fun k h=>.inr ⟨4,by decide,by decide,OWN.out _ _ h⟩)
 clear hG H5
 have H6:=zzb (zUn base q n (F 5) F (H 5) (zLy mkC (H 5) (S 5)) w5 HB5.out rfl HKS5.out.row HKS5.out.lies HKS5.out.ap (HN.out.1 5 (by decide) (by decide)) HKS5.out.lens (Nat.lt_trans (HN.out.2 5) (by decide)) HKS5.out.lngs HBS5.out)
 go_wp2_with (first
  | (go_at_call 85;refine H6.out.mono ?_;rintro e w6 ⟨rfl,LS,hG⟩;refine Hid.out ?_))
 refine zzb ?_
 have HB6:=zzb hG.book
 have HBS6:=zzb (zzk HBS5.out hG.keep.size)
 have HKGS6:=zzb (KG.of_grow hG)
 have hx:∀ k,zGd (F 5) (H 5) k->¬zL9 (F 1) (H 1) LB k:=fun k hk e=>by
  rcases zW6 HGB.out e with e | e
  ·exact HX.out 1 5 k (by decide) e hk
  ·have:=HLO.out 5 k (by decide) hk;have:=HLE3.out;omega
 have HKGB6:=zzb (HKGB5.out.keep hG.keep (fun k hk e=>hx k (OWN.out _ _ e) hk))
 clear hx
 have hx:∀ k,zGd (F 5) (H 5) k->¬zL9 (F 4) (H 4) LL k:=fun k hk e=>by
  rcases yEh HGL.out e with e | e
  ·exact HX.out 4 5 k (by decide) e hk
  ·have:=HLO.out 5 k (by decide) hk;have:=HLE4.out;omega
 have HKM6:=zzb (HKM5.out.keep hG.keep (fun k hk e=>hx k (OWN.out _ _ e) hk) (fun k h1 e=>by have:=HLO.out 5 k (by decide) (OWN.out _ _ e);omega))
 clear hx
 have HKE6:=zzb (hG.keep.mono (Y:=OfG q F H) fun k h=>.inr ⟨5,by decide,by decide,OWN.out _ _ h⟩)
 clear hG H6
 have H7:=zzb (zXk base q n F (H 1) _ LB w6 HB6.out HKGB6.out (HN.out.1 1 (by decide) (by decide)) (fun i hi=>(HM.out.k 1 (by decide) (by decide)).lens i hi) (Nat.lt_trans (HN.out.2 1) (by decide)))
 go_wp2_with (first
  | (go_at_call 86;refine (zTl q _ F _ HB6.out (HNU.out 6 (by decide))).mono ?_;rintro e w7 ⟨rfl,rfl⟩)
  | (go_at_call 87;refine (zPs q _ F _ HB6.out (HNU.out 7 (by decide))).mono ?_;rintro e w7 ⟨rfl,rfl⟩)
  | (go_at_call 88;refine (zRz q _ F _ HB6.out (HNU.out 8 (by decide))).mono ?_;rintro e w7 ⟨rfl,rfl⟩)
  | (go_at_call 89;refine (zSd q _ F _ HB6.out (HNU.out 9 (by decide))).mono ?_;rintro e w7 ⟨rfl,rfl⟩)
  | (go_at_call 90;refine H7.out.mono ?_;rintro e w7 ⟨rfl,hb⟩;refine Hid.out ?_))
 refine zzb ?_
 have HB7:=zzb (HB6.out.below hb)
 have HKGS7:=zzb (HKGS6.out.below hb)
 have HKM7:=zzb (HKM6.out.below hb)
 have HKE7:=zzb (zDj.of_below (X:=OfG q F H) hb)
 clear hb H7
 have H8:=zzb (zYf base lo q n F (H 4) _ LL w7 HB7.out HKM7.out (HN.out.1 4 (by decide) (by decide)) (fun i hi=>(HM.out.k 4 (by decide) (by decide)).lens i hi) (Nat.lt_trans (HN.out.2 4) (by decide)))
 go_wp2_with (first
  | (go_at_call 91;refine (zVn q _ F _ HB7.out (HNU.out 2 (by decide))).mono ?_;rintro e w8 ⟨rfl,rfl⟩)
  | (go_at_call 92;refine (zSl q _ F _ HB7.out (HNU.out 3 (by decide))).mono ?_;rintro e w8 ⟨rfl,rfl⟩)
  | (go_at_call 93;refine H8.out.mono ?_;rintro e w8 ⟨rfl,hb⟩;refine Hid.out ?_))
 refine zzb ?_
 have HB8:=zzb (HB7.out.below hb)
 have HKGS8:=zzb (HKGS7.out.below hb)
 have HKE8:=zzb (zDj.of_below (X:=OfG q F H) hb)
 clear hb H8
 have H9:=zzb (yDp base q n F (H 5) _ LS w8 HB8.out HKGS8.out (HN.out.1 5 (by decide) (by decide)) (fun i hi=>(HM.out.k 5 (by decide) (by decide)).lens i hi) (Nat.lt_trans (HN.out.2 5) (by decide)))
 go_wp2_with (first
  | (go_at_call 94;refine H9.out.mono ?_;rintro e w9 ⟨rfl,hb⟩;refine Hid.out ?_))
 refine zzb ?_
 have HB9:=zzb (HB8.out.below hb)
 have HKE9:=zzb (zDj.of_below (X:=OfG q F H) hb)
 clear hb H9
 have HKF:=zzb ((((((((HKE1.out.trans HKE2.out).trans HKE3.out).trans HKE4.out).trans HKE5.out).trans HKE6.out).trans HKE7.out).trans HKE8.out).trans HKE9.out)
 go_wp2_with (first
  | (go_at_call 95;refine (zUg q _ F _ HB9.out (HNU.out 6 (by decide))).mono ?_;rintro e w10 ⟨rfl,rfl⟩)
  | (go_at_call 96;refine (zPy q _ F _ HB9.out (HNU.out 7 (by decide))).mono ?_;rintro e w10 ⟨rfl,rfl⟩)
  | (go_at_call 97;refine (zRs q _ F _ HB9.out (HNU.out 8 (by decide))).mono ?_;rintro e w10 ⟨rfl,rfl⟩)
  | (go_at_call 98;refine (zRd q _ F _ HB9.out (HNU.out 9 (by decide))).mono ?_;rintro e w10 ⟨rfl,rfl⟩))
 exact zzJ (zzK rfl _ _ _) rfl ⟨rfl,HKF.out⟩
theorem zHc.of1{W:World}{base q n:Nat}{F:Nat->Value}{H:Nat->List zEw}{S:Nat->Nat->List (List Value)}(_:zHc W base q n F H S){j:Nat}(h1:1<=j)(h2:j<10){k:Nat}(hk:k=q∨(F j).ownBlock=some k):OfG q F H k :=
 hk.imp id (fun h=>⟨j,h1,h2,.inl h⟩)
theorem zVv(va:Option Addr)(vn vc:Nat)(ua:Option Addr)(un uc:Nat)(xs ys:List (List Value))(base q n:Nat)(F:Nat->Value)(H:Nat->List zEw)(S:Nat->Nat->List (List Value))(w:World)(hb:zHc w base q n F H S)(hv:Lie w base 1 (.slice va vn vc) xs)(hu:Lie w base 1 (.slice ua un uc) ys)(hx:∀ k,(Value.slice va vn vc).ownBlock=some k->¬OfG q F H k)(hy:∀ k,(Value.slice ua un uc).ownBlock=some k->¬OfG q F H k)(hap:∀ k,(Value.slice va vn vc).ownBlock=some k->(Value.slice ua un uc).ownBlock≠some k)(hn:n+1<90000)(hH:(H 1).length+1<90000)(hl:xs.length<900000)(hl2:ys.length<900000) :
  Calls Tryz.prog 60 #[.pointer (some ⟨q,0,none⟩),.agg #[.slice va vn vc,.slice ua un uc]] w fun e w'=>e=.returned (.tuple #[])/\∃ F' H' S',zHc w' base q (n+2) F' H' S'/\(H' 1).length=(H 1).length+2/\(∀ j,j≠1->H' j=H j)/\(∀ k,OfG q F' H' k->OfG q F H k∨w.heap.size<=k∨(Value.slice va vn vc).ownBlock=some k∨(Value.slice ua un uc).ownBlock=some k)/\zDj (OfG q F H) w w':=by
 obtain⟨w1,hw1⟩:∃ x,x=w.alloc (.cells #[.slice va vn vc,.slice ua un uc] 82):=⟨_,rfl⟩
 have r1:w1.rangeAt w.heap.size 0 [.slice va vn vc,.slice ua un uc]:=by rw[hw1];exact zDl w #[.slice va vn vc,.slice ua un uc] _ _ rfl
 have b1:Below w.heap.size w w1:=by rw[hw1];exact al (zze _ _) _
 have g0:=r1 0 (.slice va vn vc) rfl
 have g1:=r1 1 (.slice ua un uc) rfl
 have kb:=zK b1
 have hlt:∀ k,OfG q F H k->k<w.heap.size:=fun k hk=>(hb.lt hk).2
 have hc:=zKc va vn vc xs base q n F H S w1 (hb.below b1) (hv.keep kb (fun _ _ h=>h)) hx (by omega) (by omega) hl
 have hu1:=hu.keep kb (fun _ _ h=>h)
 have HC:=zzb hc
 have HW:=zzb hw1
 have HB:=zAI hb (zza b1 (zza g1 (zza hlt (zza (fun k hk=>(hu.lt k hk).2) (zza hu1 (zza hy (zza hap (zza hn (zza hH hl2)))))))))
 clear hc hb hv hu hx hy hap hH hl hl2 hn r1 hw1 b1 kb hlt hu1 g1
 go_enter Tryz.func60,Tryz.ntmps60
 refine Alm.wp_cut 1 ?_
 intro T hT
 dsimp only[zHd]
 replace hT:=zzb hT
 go_wp2_with fail
 refine hT.out _ _ ?_
 clear hT
 dsimp only[zEz]
 change Code.wp _ _ _ _ (w.alloc (.cells #[.slice va vn vc,.slice ua un uc] 82))
 rw[<-HW.out]
 clear HW
 go_wp2_with fail
 refine HC.out.mono ?_
 rintro e w2 ⟨rfl,v',h1,h2,h3⟩
 obtain⟨hb,b1,g1,hlt,hult,hu1,hy,hap,hn,hH,hl2⟩:=HB.out
 have hno:∀ k,(k=q∨(F 1).ownBlock=some k)->OfG q F H k:=fun k hk=>hb.of1 (by decide) (by decide) hk
 have g2:=h3.cell g1 (fun e=>by have:=hlt _ (hno _ e);exact absurd this (Nat.lt_irrefl _))
 have hof:∀ k,OfG q (put F 1 v') (zY5 H 1 (H 1++[(.slice va vn vc,.slice none 0 0,n+1)])) k->OfG q F H k∨w1.heap.size<=k∨(Value.slice va vn vc).ownBlock=some k:=fun k hk=>zLq (by decide) (by decide) h2 hk
 have hu2:=hu1.keep h3 (fun k hk e=>hy k hk (hno k e))
 have hc2:=zKc ua un uc ys base q (n+1) _ _ _ w2 h1 hu2 (fun k hk e=>by
  rcases hof k e with e | e | e
  ·exact hy k hk e
  ·have h4:=hult k hk;have h5:=b1.size;omega
  ·exact hap k e hk) hn (by rw[zFt,zzi];exact hH) hl2
 have HC2:=zzb hc2
 have H3:=zAI hof (zza ((zDj.of_below b1).trans h3) (zza hno (zza h2 (zza b1.size h3.size))))
 clear hc2 hof hno h1 h2 h3 hb b1 g1 hlt hult hu1 hu2 hy hap hn hH hl2 HC
 go_wp2_with fail
 refine HC2.out.mono ?_
 rintro e w3 ⟨rfl,v2,h1,h2,h3⟩
 have h9:∃ F' H' S',zHc w3 base q (n+2) F' H' S'/\(H' 1).length=(H 1).length+2/\(∀ j,j≠1->H' j=H j)/\(∀ k,OfG q F' H' k->OfG q F H k∨w.heap.size<=k∨(Value.slice va vn vc).ownBlock=some k∨(Value.slice ua un uc).ownBlock=some k)/\zDj (OfG q F H) w w3:=by
  have hsz:=zzk H3.out.2.2.2.2.1 H3.out.2.2.2.2.2
  refine⟨_,_,_,h1,?_,fun j hj=>?_,fun k hk=>?_,?_⟩
  ·rw[zFt,zFt,zzi,zzi];rfl
  ·rw[zE1 _ _ hj,zE1 _ _ hj]
  ·rcases zLq (N:=w2.heap.size) (by decide) (by decide) h2 hk with e | e | e
   ·rcases H3.out.1 k e with e | e | e
    ·exact .inl e
    ·exact .inr (.inl (zzk H3.out.2.2.2.2.1 e))
    ·exact .inr (.inr (.inl e))
   ·exact .inr (.inl (zzk hsz e))
   ·exact .inr (.inr (.inr e))
  ·refine (H3.out.2.1.mono (Y:=OfG q F H) H3.out.2.2.1).trans' h3 (fun k hk=>?_)
   rcases hk with e | e
   ·exact .inl (.inl e)
   ·rw[zJ6]at e
    rcases H3.out.2.2.2.1 k e with e | e
    ·exact .inl (H3.out.2.2.1 k (.inr e))
    ·exact .inr (zzk H3.out.2.2.2.2.1 e)
 have H9:=zzb h9
 clear h9 h1 h2 h3 H3
 go_wp2_with fail
 exact zzZ (zzY rfl _ _ _) rfl ⟨rfl,H9.out⟩
def BG(W:World)(base q n N0:Nat)(D:Nat->Prop):Prop :=
 N0<=q/\∃ F H S,zHc W base q n F H S/\(∀ j,(H j).length<=n)/\(∀ j,j≠1->j≠4->j≠5->H j=[])/\∀ k,OfG q F H k->N0<=k∨D k
theorem BG.start(w:World)(base:Nat)(hb:base<=w.heap.size):BG (w.alloc (.cells #[.int .i64 0,.slice none 0 0,.slice none 0 0,.slice none 0 0,.slice none 0 0,.slice none 0 0,.slice none 0 0,.slice none 0 0,.slice none 0 0,.slice none 0 0] 44)) base w.heap.size 0 w.heap.size (fun _=>False) :=
 ⟨zzc _,_,_,_,yDb w base hb,fun _=>zzc _,fun _ _ _ _=>rfl,fun k hk=>by
  rcases hk with rfl | ⟨j,_,_,hk⟩
  ·exact .inl (zzc _)
  ·exact (yDi k hk).elim⟩
theorem yGc(v:Value)(xs:List (List Value))(base q n N0:Nat)(D:Nat->Prop)(w:World)(hb:BG w base q n N0 D)(hv:Lie w base 1 v xs)(hx:∀ k,v.ownBlock=some k->k<N0/\¬D k)(hn:n<80000)(hl:xs.length<900000) :
  Calls Tryz.prog 33 #[.pointer (some ⟨q,0,none⟩),v] w fun e w'=>e=.returned (.tuple #[])/\BG w' base q (n+1) N0 (fun k=>D k∨v.ownBlock=some k)/\zDj (fun k=>N0<=k∨D k) w w':=by
 obtain⟨hq,F,H,S,hg,hlen,h0,hD⟩:=hb
 obtain⟨a,c,rfl⟩:=hv.form
 have hqw:=hg.bk.lt
 refine (zKc a _ c xs base q n F H S w hg hv (fun k hk e=>by rcases hD k e with h | h;have:=(hx k hk).1;omega;exact (hx k hk).2 h) (by omega) (by have:=hlen 1;omega) hl).mono ?_
 rintro e w' ⟨rfl,v',h1,h2,h3⟩
 refine⟨rfl,⟨hq,_,_,_,h1,fun j=>?_,fun j j1 j4 j5=>by rw[zE1 _ _ j1];exact h0 j j1 j4 j5,fun k hk=>?_⟩,h3.mono fun k hk=>hD k (hg.of1 (by decide) (by decide) hk)⟩
 ·by_cases e:j=1
  ·subst e;rw[zFt,zzi];have:=hlen 1;exact Nat.add_le_add_right this 1
  ·rw[zE1 _ _ e];have:=hlen j;omega
 ·rcases zLq (N:=w.heap.size) (by decide) (by decide) h2 hk with e | e | e
  ·exact (hD k e).imp_right .inl
  ·exact .inl (by omega)
  ·exact .inr (.inr e)
theorem yHb(v:Value)(xs:List (List Value))(base q n N0:Nat)(D:Nat->Prop)(w:World)(hb:BG w base q n N0 D)(hv:Lie w base 32 v xs)(hx:∀ k,v.ownBlock=some k->k<N0/\¬D k)(hn:n<80000)(hl:xs.length<900000) :
  Calls Tryz.prog 15 #[.pointer (some ⟨q,0,none⟩),v] w fun e w'=>e=.returned (.tuple #[])/\BG w' base q (n+1) N0 (fun k=>D k∨v.ownBlock=some k)/\zDj (fun k=>N0<=k∨D k) w w':=by
 obtain⟨hq,F,H,S,hg,hlen,h0,hD⟩:=hb
 obtain⟨a,c,rfl⟩:=hv.form
 have hqw:=hg.bk.lt
 refine (zXe a _ c xs base q n F H S w hg hv (fun k hk e=>by rcases hD k e with h | h;have:=(hx k hk).1;omega;exact (hx k hk).2 h) (by omega) (by have:=hlen 5;omega) hl).mono ?_
 rintro e w' ⟨rfl,v',h1,h2,h3⟩
 refine⟨rfl,⟨hq,_,_,_,h1,fun j=>?_,fun j j1 j4 j5=>by rw[zE1 _ _ j5];exact h0 j j1 j4 j5,fun k hk=>?_⟩,h3.mono fun k hk=>hD k (hg.of1 (by decide) (by decide) hk)⟩
 ·by_cases e:j=5
  ·subst e;rw[zFt,zzi];have:=hlen 5;exact Nat.add_le_add_right this 1
  ·rw[zE1 _ _ e];have:=hlen j;omega
 ·rcases zLq (N:=w.heap.size) (by decide) (by decide) h2 hk with e | e | e
  ·exact (hD k e).imp_right .inl
  ·exact .inl (by omega)
  ·exact .inr (.inr e)
theorem zRu(v u:Value)(xs ys:List (List Value))(base q n N0:Nat)(D:Nat->Prop)(w:World)(hb:BG w base q n N0 D)(hv:Lie w base 1 v xs)(hu:Lie w base 1 u ys)(hx:∀ k,v.ownBlock=some k->k<N0/\¬D k)(hy:∀ k,u.ownBlock=some k->k<N0/\¬D k)(hap:∀ k,v.ownBlock=some k->u.ownBlock≠some k)(hn:n<80000)(hl:xs.length<900000)(hl2:ys.length<900000) :
  Calls Tryz.prog 60 #[.pointer (some ⟨q,0,none⟩),.agg #[v,u]] w fun e w'=>e=.returned (.tuple #[])/\BG w' base q (n+2) N0 (fun k=>D k∨v.ownBlock=some k∨u.ownBlock=some k)/\zDj (fun k=>N0<=k∨D k) w w':=by
 obtain⟨hq,F,H,S,hg,hlen,h0,hD⟩:=hb
 obtain⟨a,c,rfl⟩:=hv.form
 obtain⟨a',c',rfl⟩:=hu.form
 have hqw:=hg.bk.lt
 refine (zVv a _ c a' _ c' xs ys base q n F H S w hg hv hu (fun k hk e=>by rcases hD k e with h | h;have:=(hx k hk).1;omega;exact (hx k hk).2 h) (fun k hk e=>by rcases hD k e with h | h;have:=(hy k hk).1;omega;exact (hy k hk).2 h) hap (by omega) (by have:=hlen 1;omega) hl hl2).mono ?_
 rintro e w' ⟨rfl,F',H',S',h1,h2,h3,h4,h5⟩
 refine⟨rfl,⟨hq,F',H',S',h1,fun j=>?_,fun j j1 j4 j5=>by rw[h3 j j1];exact h0 j j1 j4 j5,fun k hk=>?_⟩,h5.mono hD⟩
 ·by_cases e:j=1
  ·subst e;rw[h2];have:=hlen 1;omega
  ·rw[h3 j e];have:=hlen j;omega
 ·rcases h4 k hk with e | e | e
  ·exact (hD k e).imp_right .inl
  ·exact .inl (by omega)
  ·exact .inr (.inr e)
theorem zWo(v:Value)(cs:List (LE×List UInt8))(base q n N0:Nat)(D:Nat->Prop)(w:World)(hb:BG w base q n N0 D)(hL:zI1 w base v cs)(hx:∀ k,v.ownBlock=some k->k<N0/\¬D k)(hxe:∀ c∈cs,∀ k,(leV c.1).ownBlock=some k->k<N0/\¬D k)(hn:n+cs.length<80000)(hl:∀ c∈cs,c.2.length<900000) :
  Calls Tryz.prog 59 #[.pointer (some ⟨q,0,none⟩),v] w fun e w'=>e=.returned (.tuple #[])/\BG w' base q (n+cs.length+1) N0 (fun k=>D k∨v.ownBlock=some k∨∃ c∈cs,(leV c.1).ownBlock=some k)/\zDj (fun k=>N0<=k∨D k) w w':=by
 obtain⟨hq,F,H,S,hg,hlen,h0,hD⟩:=hb
 have hqw:=hg.bk.lt
 refine (zWi v cs base q n F H S w hg hL (fun k hk e=>by rcases hD k e with h | h;have:=(hx k hk).1;omega;exact (hx k hk).2 h) (fun c hc k hk e=>by rcases hD k e with h | h;have:=(hxe c hc k hk).1;omega;exact (hxe c hc k hk).2 h) (by omega) (by have:=hlen 1;omega) (by have:=hlen 4;omega) hl).mono ?_
 rintro e w' ⟨rfl,F',H',S',h1,h2,h3,h4,h5,h6⟩
 refine⟨rfl,⟨hq,F',H',S',h1,fun j=>?_,fun j j1 j4 j5=>by rw[h4 j j1 j4];exact h0 j j1 j4 j5,fun k hk=>?_⟩,h6.mono fun k hk=>hD k ?_⟩
 ·by_cases e:j=1
  ·subst e;rw[h2];have:=hlen 1;omega
  ·by_cases e4:j=4
   ·subst e4;rw[h3];have:=hlen 4;omega
   ·rw[h4 j e e4];have:=hlen j;omega
 ·rcases h5 k hk with e | e | e
  ·exact (hD k e).imp_right .inl
  ·exact .inl (by omega)
  ·exact .inr (.inr e)
 ·rcases hk with e | e | e
  ·exact .inl e
  ·exact hg.of1 (j:=1) (by decide) (by decide) (.inr e)
  ·exact hg.of1 (j:=4) (by decide) (by decide) (.inr e)
theorem yE9(base q n N0:Nat)(D:Nat->Prop)(w:World)(hb:BG w base q n N0 D)(hn:n<256) :
  Calls Tryz.prog 16 #[.pointer (some ⟨q,0,none⟩)] w fun e w'=>e=.returned (.bool true)/\zDj (fun k=>N0<=k∨D k) w w':=by
 obtain⟨hq,F,H,S,hg,hlen,h0,hD⟩:=hb
 refine (zZ2 base q n F H S w hg hn (fun j=>by have:=hlen j;omega) h0).mono ?_
 rintro e w' ⟨rfl,hk⟩
 exact⟨rfl,hk.mono hD⟩
noncomputable def sh:List UInt8->Sum:=Classical.choose (⟨sha,rfl⟩:∃ f:List UInt8->Sum,f=sha)
theorem zZq:sh=sha:=Classical.choose_spec (⟨sha,rfl⟩:∃ f:List UInt8->Sum,f=sha)
noncomputable def lf:List UInt8->Sum:=Classical.choose (⟨fun l=>sha (0::l),rfl⟩:∃ f:List UInt8->Sum,f=fun l=>sha (0::l))
theorem yFq:lf=fun l=>sha (0::l):=Classical.choose_spec (⟨fun l=>sha (0::l),rfl⟩:∃ f:List UInt8->Sum,f=fun l=>sha (0::l))
theorem zWl(l:List UInt8)(v:Value)(w:World)(hv:zDo w v l)(hl:l.length<72057594037927936):Calls Tryz.prog 116 #[v] w fun e w'=>e=.returned (sv (sh l))/\Below w.heap.size w w':=by
 rw[zZq];exact zWu l v w hv hl
def zSo(w:World)(b o:Nat)(vs:List Value)(ls:List (List UInt8)):Prop :=
 w.rangeAt b o vs/\vs.length=ls.length/\∀ j,j<ls.length->∃ a n c,vs.getD j undef=.slice a n c/\n=(ls.getD j []).length/\n<=c/\(ls.getD j []=[]∨∃ b' o',a=some ⟨b',o',none⟩/\w.rangeAt b' o' (zDg (ls.getD j []))/\b'<w.heap.size)
theorem zPm{w:World}{b o:Nat}{vs:List Value}{ls:List (List UInt8)}(h:zSo w b o vs ls){j:Nat}(hj:j<ls.length):w.cell? ⟨b,o+j,none⟩=some (vs.getD j undef):=by
 refine h.1 j _ ?_
 have:j<vs.length:=by rw[h.2.1];exact hj
 rw[zzf this];simp[this]
theorem zMi{w:World}{ops:Array Oper}{rest:List Oper}{o:Oper}{a:Act}{Q:Exit->Act->World->Prop}(hgd:o.guard=none)(s x:Operand)
  (ho:o.op=.call { callee:=.builtin .append,args:=#[s,x],argTypes:=#[65,65] })
  (base:Nat) (i:TypeInfo) (hi:Tryz.prog.info? 5=some i)
  (v:Value) (n:Nat) (xs:List Value) (hs:a.eval s=v) (hown:w.ownsRow base 5 1 v n xs) (ad:Option Addr) (c:Nat) (hx:a.eval x=.slice ad 0 c)
  (h:wpList Tryz.prog ops Q rest (a.put o.dst v) w):wpList Tryz.prog ops Q (o::rest) a w:=by
 refine wpList_plain hgd fun K hK=>?_
 have hrun:(Builtin.append_ #[65,65] o.type #[v,.slice ad 0 c]).run Tryz.prog w=.ok v w:=by
  rcases hown.2 with ⟨rfl,rfl⟩ | ⟨g,cap,cur,rfl,_,_,hnc,_⟩
  ·cases ad<;>simp[Builtin.append_,run_underlying Tryz.underlying65,sizeOf,typeInfo,hi,Builtin.lenOf,Builtin.firstCells,loadCells,loadCellsFrom]
  ·cases ad<;>simp[Builtin.append_,run_underlying Tryz.underlying65,sizeOf,typeInfo,hi,Builtin.lenOf,Builtin.firstCells,loadCells,loadCellsFrom,hnc,storeCells]
 unfold Oper.wp
 simp[execOp,ho,resolve,invoke,builtin,hs,hx,hrun,Result.andThen]
 exact hK _ _ h
theorem zLm(vs:List Value)(ls:List (List UInt8))(b o cap:Nat)(w:World)(h:zSo w b o vs ls)(hc:ls.length<=cap)(hk:ls.length<=1000)(hpos:1<=ls.flatten.length)(hl:ls.flatten.length<=140737488355328) :
  Calls Tryz.prog 117 #[.slice (some ⟨b,o,none⟩) ls.length cap] w fun e w'=>∃ v,e=.returned v/\zDo w' v ls.flatten/\w'.ownsRow w.heap.size 5 1 v ls.flatten.length (zDg ls.flatten)/\Below w.heap.size w w':=by
 obtain⟨k,hkk⟩:∃ k,k=ls.length:=⟨_,rfl⟩
 rw[<-hkk]at hc hk ⊢
 have HK:=zzb hkk;clear hkk
 have HL:=zzb hl;clear hl
 have HP:=zzb hpos;clear hpos
 have hk':(k:Int)<=1000:=by omega
 go_enter Tryz.func117,Tryz.ntmps117
 go_wp2_with fail
 go_loopw [3,11] (fun s i W=>∃ j:Nat,j<=k/\i=.int .i64 (j:Int)/\s=.int .i64 ((ls.take j).flatten.length:Int)/\Below w.heap.size w W) (fun _ i _=>k - (intOf i).toNat)
 case atStart=>exact⟨0,by omega,rfl,rfl,zze _ _⟩
 case round =>
  obtain⟨j,hj,rfl,rfl,hB⟩:=hrel
  by_cases hlt:j<k
  ·have hlt':(j:Int)<(k:Int):=by omega
   have hc0:=zPm h (j:=j) (by rw[<-HK.out];exact hlt)
   have hc1:wr.cell? ⟨b,o+j,none⟩=some (vs.getD j undef):=(hB.cell (p:=⟨b,o+j,none⟩) (World.block_lt_of_cell? w _ hc0)).trans hc0
   obtain⟨a,n,c,hv,hn,hnc,-⟩:=h.2.2 j (by rw[<-HK.out];exact hlt)
   rw[hv]at hc1
   clear hc0 hv
   have hft:=zMk ls j (by rw[<-HK.out];exact hlt)
   have hfl:=congrArg List.length hft
   rw[zzi,<-hn]at hfl
   have hle:=zI0 ls (j+1)
   have hmx:=HL.out
   obtain⟨s1,hs1⟩:∃ s,s=(ls.take j).flatten.length:=⟨_,rfl⟩
   obtain⟨s2,hs2⟩:∃ s,s=(ls.take (j+1)).flatten.length:=⟨_,rfl⟩
   rw[<-hs1,<-hs2]at hfl
   rw[<-hs2]at hle
   rw[<-hs1]
   have hsum:IntKind.i64.wrap ((s1:Int)+(n:Int))=(s2:Int):=by rw[zzr];omega
   have HS2:=zzb hs2
   clear hft hn hs1 hs2 hfl hle hmx
   go_wp2_with fail
   exact⟨⟨j+1,by omega,by simp,by rw[HS2.out],hB⟩,by simp[intOf];omega⟩
  ·have hjk:j=k:=by omega
   subst hjk
   have htk:ls.take j=ls:=zzB (by rw[HK.out];exact zzc _)
   rw[htk]
   obtain⟨T,hT⟩:∃ T,T=ls.flatten.length:=⟨_,rfl⟩
   rw[<-hT]
   have hT1:1<=T:=by rw[hT];exact HP.out
   have hT2:T<=140737488355328:=by rw[hT];exact HL.out
   have HT:=zzb hT;clear hT
   have Ht:=zzb htk;clear htk
   have G:=zzb (zWs T wr hT1 hT2);clear hT1 hT2
   go_wp2_with fail
   refine G.out.mono ?_
   rintro e w1 ⟨v,rfl,ho1,hb1⟩
   obtain⟨i0,hi0,hz0⟩:=zzu.1 zHx
   simp only[zz5]at hz0
   have HI:=zzb hi0;clear hi0
   have HZ:=zzb hz0;clear hz0
   have hB1:Below w.heap.size w w1:=hB.trans (hb1.mono hB.size)
   have ho1':w1.ownsRow w.heap.size 5 1 v 0 []:=zH9 ho1 hB.size
   clear ho1 hb1 hB G
   go_wp2_with fail
   go_loopw [6,27] (fun v i W=>∃ q:Nat,q<=j/\i=.int .i64 (q:Int)/\W.ownsRow w.heap.size 5 1 v (ls.take q).flatten.length (zDg (ls.take q).flatten)/\Below w.heap.size w W) (fun _ i _=>j - (intOf i).toNat)
   case atStart=>exact⟨0,by omega,rfl,ho1',hB1⟩
   case round =>
    clear hB1 ho1'
    obtain⟨q,hq,rfl,ho2,hB2⟩:=hrel
    by_cases hlt2:q<j
    ·have hlt':(q:Int)<(j:Int):=by omega
     have hc0:=zPm h (j:=q) (by rw[<-HK.out];exact hlt2)
     have hc1:=(hB2.cell (p:=⟨b,o+q,none⟩) (World.block_lt_of_cell? w _ hc0)).trans hc0
     obtain⟨a,n,c,hv,hn,hnc,hor⟩:=h.2.2 q (by rw[<-HK.out];exact hlt2)
     rw[hv]at hc1
     clear hc0 hv
     have hft:=zMk ls q (by rw[<-HK.out];exact hlt2)
     have hfl:=congrArg List.length hft
     rw[zzi,<-hn]at hfl
     have hle:=zI0 ls (q+1)
     have hmx:=HL.out
     have hnn:(ls.take q).flatten.length+n<=140737488355328:=by omega
     have HN:=zzb hnn;clear hnn
     have HF:=zzb hft;clear hft
     have HFL:=zzb hfl;clear hfl
     have HNn:=zzb hn;clear hn
     clear hle hmx
     by_cases hn0:n=0
     ·have hp0:ls.getD q []=[]:=zzt.1 (by rw[<-HNn.out];exact hn0)
      have hHF:=HF.out
      rw[hp0,List.append_nil]at hHF
      have HHF:=zzb hHF;clear hHF hp0 hor
      subst hn0
      go_wp2_with (at_builtin;refine zMi rfl _ _ rfl w.heap.size i0 HI.out _ _ _ rfl ho2 a c rfl ?_)
      exact⟨⟨q+1,by omega,by simp,by rw[HHF.out];exact ho2,hB2⟩,by simp[intOf];omega⟩
     ·obtain⟨b',o',rfl,hrg,hb'⟩:=hor.resolve_left (by intro h;rw[HNn.out,h]at hn0;exact hn0 rfl)
      have hrg':=zEc hB2 hrg hb'
      clear hrg
      go_wp2_with (at_builtin;refine wpList_append_own _ rfl _ _ _ rfl w.heap.size 5 i0 (.int .u8 0) 1 1 Tryz.underlying65 HI.out HZ.out.1 HZ.out.2.1 HZ.out.2.2 rfl (by decide) _ _ _ rfl ho2 ⟨b',o',none⟩ n c (zDg (ls.getD q [])) rfl (by rw[zEo,HNn.out];omega) (fun j u hj=>by rw[Addr.add_mid];exact hrg' j u hj) (zGn _) (by unfold maxLen;have:=HN.out;omega) (by have:=HN.out;omega) hB2.size ?_;intro v' w2 ho3 hg3 _)
      rw[<-HFL.out,<-zGg,<-HF.out]at ho3
      exact⟨⟨q+1,by omega,by simp,ho3,hB2.grown hg3 hB2.size (zLs ho2)⟩,by simp[intOf];omega⟩
    ·have hqj:q=j:=by omega
     subst hqj
     rw[Ht.out]at ho2
     go_wp2_with fail
     refine zzJ (zzK rfl _ _ _) rfl ?_
     exact⟨_,rfl,zJr ho2 HP.out,ho2,hB2⟩
theorem zX9(vs:List Value)(ls:List (List UInt8))(b o cap:Nat)(w:World)(h:zSo w b o vs ls)(hc:ls.length<=cap)(hk:ls.length<=1000)(hpos:1<=ls.flatten.length)(hl:ls.flatten.length<=140737488355328) :
  Calls Tryz.prog 117 #[.slice (some ⟨b,o,none⟩) ls.length cap] w fun e w'=>∃ v,e=.returned v/\zDo w' v ls.flatten/\Below w.heap.size w w' :=
 (zLm vs ls b o cap w h hc hk hpos hl).mono fun e w' ⟨v,h1,h2,_,h4⟩=>⟨v,h1,h2,h4⟩
theorem zOr{w:World}{p q:Nat}(l:List UInt8)(v:Value)(hp:p<w.heap.size)(t:TypeId)
  (h1:w.rangeAt p 0 (zDg [0])) (h2:zDo w v l) (hq:q=w.heap.size) :
  zSo (w.alloc (.cells #[.slice (some ⟨p,0,none⟩) 1 1,v] t)) q 0 [.slice (some ⟨p,0,none⟩) 1 1,v] [[0],l]:=by
 subst hq
 have hB:=al (zze w.heap.size w) (.cells #[.slice (some ⟨p,0,none⟩) 1 1,v] t)
 refine⟨zDl _ _ _ _ rfl,rfl,fun j hj=>?_⟩
 have hj':j<2:=hj
 match j,hj' with
 | 0,_=>exact⟨_,_,_,rfl,rfl,by decide,.inr ⟨p,0,rfl,zEc hB h1 hp,by simp;omega⟩⟩
 | 1,_ =>
  obtain⟨a,cap,rfl,h3,h4,h5⟩:=h2
  refine⟨a,_,cap,rfl,by simp,h3,?_⟩
  by_cases hl:l=[]
  ·exact .inl (by simpa using hl)
  ·obtain⟨b',o',rfl,hr⟩:=h5.resolve_left hl
   have hb':b'<w.heap.size:=zEp hr (by intro h;have:=zEo l;rw[h]at this;exact hl (zzt.1 this.symm))
   exact .inr ⟨b',o',rfl,by simpa using zEc hB hr hb',by simp;omega⟩
theorem zTa(l:List UInt8)(v:Value)(w:World)(hv:zDo w v l)(hl:l.length<140737488355000):Calls Tryz.prog 114 #[v] w fun e w'=>e=.returned (sv (lf l))/\Below w.heap.size w w':=by
 obtain⟨s,hsn⟩:∃ s,s=lf l:=⟨_,rfl⟩
 have hsf:sha [[0],l].flatten=s:=by rw[hsn,yFq];congr 1;simp
 rw[<-hsn]
 have HSF:=zzb hsf;clear hsf hsn
 have R0:Res w 32 (w.alloc (.cells (zDg (List.replicate 32 0)).toArray 24)):=Res.start _ _ _ _ (by rfl)
 have HB0:=zzb R0
 obtain⟨ad,cap,rfl,h1,h2,h3⟩:=hv
 have HV:=zzb (show zDo w (.slice ad l.length cap) l from ⟨ad,cap,rfl,h1,h2,h3⟩)
 obtain⟨n,hn⟩:∃ n,n=l.length:=⟨_,rfl⟩
 rw[<-hn]at HV h1 ⊢
 have HN:=zAI hn hl
 clear hn hl h1 h2 h3 R0
 have z1:(w.alloc (.cells (zDg (List.replicate 32 0)).toArray 24)).heap.size=w.heap.size+1:=zzP _
 have z2:((w.alloc (.cells (zDg (List.replicate 32 0)).toArray 24)).alloc (.cells #[.int .u8 0] 5)).heap.size=w.heap.size+1+1:=by rw[zzp,z1]
 have hP:=zOr (w:=(w.alloc (.cells (zDg (List.replicate 32 0)).toArray 24)).alloc (.cells #[.int .u8 0] 5)) (p:=w.heap.size+1) (q:=w.heap.size+1+1) l (.slice ad n cap) (by rw[z2];omega) 65
  (by rw[<-z1];exact zDl _ _ _ _ rfl) (zDc (zDc HV.out HB0.out.below (zzc _)) (al (zze _ _) _) (zzc _)) z2.symm
 have hb3:Below w.heap.size w (((w.alloc (.cells (zDg (List.replicate 32 0)).toArray 24)).alloc (.cells #[.int .u8 0] 5)).alloc (.cells #[.slice (some ⟨w.heap.size+1,0,none⟩) 1 1,.slice ad n cap] 65)):=al (al HB0.out.below _) _
 have ht3:=World.there_alloc (World.there_alloc HB0.out.there (.cells #[.int .u8 0] 5)) (.cells #[.slice (some ⟨w.heap.size+1,0,none⟩) 1 1,.slice ad n cap] 65)
 have HPP:=zAI hP (zza hb3 ht3)
 clear hP hb3 ht3 z1 z2 HB0 HV
 go_enter Tryz.func114,Tryz.ntmps114
 go_wp2_with fail
 change Calls _ _ _ (((w.alloc (.cells (zDg (List.replicate 32 0)).toArray 24)).alloc (.cells #[.int .u8 0] 5)).alloc (.cells #[.slice (some ⟨w.heap.size+1,0,none⟩) 1 1,.slice ad n cap] 65)) _
 generalize (((w.alloc (.cells (zDg (List.replicate 32 0)).toArray 24)).alloc (.cells #[.int .u8 0] 5)).alloc (.cells #[.slice (some ⟨w.heap.size+1,0,none⟩) 1 1,.slice ad n cap] 65))=W at *
 refine (zX9 _ [[0],l] _ _ 2 W HPP.out.1 (by simp) (by simp) (by simp) (by have:=HN.out.2;simp;omega)).mono ?_
 rintro e w1 ⟨v,rfl,hbv,hb⟩
 have hb1:=HPP.out.2.1.trans (hb.mono HPP.out.2.1.size)
 have ht1:=(zK hb).there HPP.out.2.2 (by decide) id
 have HH:=zAI hbv (zza hb1 ht1)
 clear hb hbv hb1 ht1 HPP
 go_wp2_with fail
 refine (zWu _ _ _ HH.out.1 (by have:=HN.out.2;simp;omega)).mono ?_
 rw[HSF.out]
 rintro e w2 ⟨rfl,hb⟩
 have hb2:=HH.out.2.1.trans (hb.mono HH.out.2.1.size)
 have ht2:=(zK hb).there HH.out.2.2 (by decide) id
 have HT:=zzb ht2
 have HB:=zzb hb2
 clear hb ht2 hb2 HH
 go_wp2_with (refine zDp rfl _ _ rfl w.heap.size 0 s rfl rfl HT.out ?_)
 exact zzJ (zEa Tryz.results114 _ _ _ _ rfl (zzd HT.out _ _ _)) rfl ⟨rfl,zDa _ (zzc _) _ _ _ _ HB.out⟩
end Go.Proofs.YtdkcndgehgmadaaGreatDoor
