/-
  Joined: CP9, CQ2.
-/
import Derived.Test.YtdkcndgehgmadaaGreatDoorZBW
import Derived.Test.YtdkcndgehgmadaaGreatDoorZBU
-- The law ChainsPlay: what is told of an ask is as it should be: asked.
open Go Go.RowKit Alm
namespace Go.Proofs.YtdkcndgehgmadaaGreatDoor
/-- What a chain tells as a mark, as a root. -/
noncomputable def markOf (l : List (List UInt8)) (k : Nat) : Sum := if k ≤ l.length then mk (l.take k) else zeroSum
noncomputable def rootOf12 (l : List (List UInt8)) (k : Nat) : Sum := if k ≤ l.length then rt ((l.take k).map lf) else zeroSum
theorem chain_mark (base : Nat) (w : World) (c : Nat) (l : List (List UInt8)) (h : ChainAt base w c l) (k : Nat) :
    Calls Tryz.prog 36 #[.pointer (some ⟨c, 0, none⟩), .int .u64 (k : Int)] w fun e w' => e = .returned (.tuple #[sv (markOf l k), .int .i64 (if k ≤ l.length then 0 else 1)]) ∧ Below w.heap.size w w' := by
  unfold markOf
  by_cases hk : k ≤ l.length
  · rw [if_pos hk, if_pos hk]; exact cmark_at base w c l h k hk
  · rw [if_neg hk, if_neg hk]; exact cmark_arg base w c l h k (by omega)
theorem chain_root (base : Nat) (w : World) (c : Nat) (l : List (List UInt8)) (h : ChainAt base w c l) (k : Nat) :
    Calls Tryz.prog 37 #[.pointer (some ⟨c, 0, none⟩), .int .u64 (k : Int)] w fun e w' => e = .returned (.tuple #[sv (rootOf12 l k), .int .i64 (if k ≤ l.length then 0 else 1)]) ∧ Below w.heap.size w w' := by
  unfold rootOf12
  by_cases hk : k ≤ l.length
  · rw [if_pos hk, if_pos hk]; exact croot_at base w c l h k hk
  · rw [if_neg hk, if_neg hk]; exact croot_arg base w c l h k (by omega)
theorem cpathOf_len (l : List (List UInt8)) (p k : Nat) (h : l.length < 1000) : (cpathOf l p k).length < 900000 := by
  unfold cpathOf
  split
  · have := pathOf_len ((l.take k).map lf) p (by rw [List.length_map, List.length_take]; omega); omega
  · simp
theorem clinkOf_len (l : List (List UInt8)) (p k : Nat) (h : l.length < 1000) : (clinkOf l p k).length < 900000 := by
  unfold clinkOf
  split
  · have := linkOf_len ((l.take k).map lf) p
    have h2 : ((l.take k).map lf).length ≤ l.length := by rw [List.length_map, List.length_take]; omega
    omega
  · simp
theorem entOf_len (l : List (List UInt8)) (k : Nat) (h : ∀ y ∈ l, y.length ≤ 16384) : (entOf l k).length < 900000 := by
  unfold entOf
  rw [List.getD_eq_getElem?_getD]
  by_cases hk : k < l.length
  · rw [List.getElem?_eq_getElem hk]
    have := h _ (List.getElem_mem hk)
    simp; omega
  · rw [List.getElem?_eq_none (by omega)]; simp
set_option maxRecDepth 100000 in
set_option maxHeartbeats 4000000 in
theorem play_asks {w W : World} {c q nb N j : Nat} {va : Value} {all : List (List UInt8)} {cs : List Value} {C : Nat → Prop} {F : Nat → Value} {HB HS0 : List Held} {SB SS : Nat → List (List Value)} {ka kb ab ao n1 acap : Nat} {K : Act → World → Prop} {Q : Exit → Act → World → Prop} (hQP : ∀ c (a : Act) (d : Option Nat) (v : Value) (w : World), Q (.panic c) (a.put d v) w → Q (.panic c) a w) (a : Act) (hA : FrAt a [(1, .slice (some ⟨ab, ao, none⟩) n1 acap), (5, .pointer (some ⟨c, 0, none⟩)), (6, .pointer (some ⟨q, 0, none⟩)), (7, va), (11, .int .u64 (N : Int)), (12, .int .i64 (j : Int))])
    (hS : PlayS w W c q nb va all all cs C F HB SB HS0 SS) (hnb : nb < 1000) (hN : all.length = N) (hN2 : N < 1000) (hall : ∀ y ∈ all, y.length ≤ 16384) (hj : j < n1) (hc0 : w.cell? ⟨ab, ao + j * 2, none⟩ = some (.int .u64 (ka : Int))) (hc1 : w.cell? ⟨ab, ao + j * 2 + 1, none⟩ = some (.int .u64 (kb : Int))) (hka : ka < 18446744073709551616)
    (hK : ∀ a' W', FrAt a' [(1, .slice (some ⟨ab, ao, none⟩) n1 acap), (5, .pointer (some ⟨c, 0, none⟩)), (6, .pointer (some ⟨q, 0, none⟩)), (7, va), (11, .int .u64 (N : Int)), (12, .int .i64 (j : Int))] → PlayN w W' c q (nb + 3) va all → K a' W') :
    Code.wp Tryz.prog body2C (Exit.then K Q) a W := by
  have c0 := bcl hS.below hc0
  have c1 := bcl hS.below hc1
  have j0 : (0 : Int) ≤ (j : Int) := by omega
  have j1 : (j : Int) < (n1 : Int) := by omega
  obtain ⟨e1, he1⟩ : ∃ e1 : Int, e1 = if ka < all.length then 0 else 1 := ⟨_, rfl⟩
  obtain ⟨e2, he2⟩ : ∃ e2 : Int, e2 = if ka ≤ all.length then 0 else 1 := ⟨_, rfl⟩
  obtain ⟨mv, hmv⟩ : ∃ mv, mv = markOf all ka := ⟨_, rfl⟩
  obtain ⟨rv, hrv⟩ : ∃ rv, rv = rootOf12 all ka := ⟨_, rfl⟩
  obtain ⟨E1, hE1⟩ : ∃ E1, E1 = cpathE all ka kb := ⟨_, rfl⟩
  obtain ⟨E2, hE2⟩ : ∃ E2, E2 = clinkE all ka kb := ⟨_, rfl⟩
  have HE := Lib.hid (And.intro he1 (And.intro hmv (And.intro he2 (And.intro hrv (And.intro hka hj)))))
  have HP := Lib.hid (And.intro hE1 hE2)
  have HS := Lib.hid (And.intro hS (And.intro hnb (And.intro hN (And.intro (show all.length < 1000 by omega) hall))))
  have HK := Lib.hid hK
  have HQP := Lib.hid hQP
  clear he1 he2 hmv hrv hE1 hE2 hka hj hS hnb hN hN2 hall hK hQP hc0 hc1
  obtain ⟨g, rfl, s1, s5, s6, s7, s11, s12, -⟩ := hA.form
  change g 1 = .slice (some ⟨ab, ao, none⟩) n1 acap at s1
  change g 5 = .pointer (some ⟨c, 0, none⟩) at s5
  change g 6 = .pointer (some ⟨q, 0, none⟩) at s6
  change g 7 = va at s7
  change g 11 = .int .u64 (N : Int) at s11
  change g 12 = .int .i64 (j : Int) at s12
  unfold frG
  rw [s1, s5, s6, s7, s11, s12]
  clear s1 s5 s6 s7 s11 s12 hA
  conv => arg 2; whnf
  refine wp_cut 9 ?_
  intro T hT
  dsimp only [cutN]
  replace hT := Lib.hid hT
  have HB0 := Lib.hid (Below.refl W.heap.size W)
  go_wp2_with (go_at_call 35; refine Hid.out ?_)
  refine Lib.hid ?_
  clear c0 c1 j0 j1
  have hce := chain_entry w.heap.size W c all HS.out.1.ch.at_ ka (fun y hy => by have := HS.out.2.2.2.2 y hy; omega)
  rw [← HE.out.1] at hce
  refine hce.mono ?_
  clear hce
  rintro e W1 ⟨x, rfl, hx, hb⟩
  have HX := Lib.hid hx
  have HX1 := Lib.hid hb.size
  clear hx
  have HN0 := Lib.hid (HB0.out.trans (hb.mono HB0.out.size))
  clear HB0
  have HB0 := Lib.hid HN0.out
  clear HN0
  clear hb
  have HBx := Lib.hid (Below.refl W1.heap.size W1)
  go_wp2_with (go_at_call 36; refine Hid.out ?_)
  refine Lib.hid ?_
  have hcm := chain_mark w.heap.size W1 c all (HS.out.1.mem HB0.out).ch.at_ ka
  rw [← HE.out.2.1, ← HE.out.2.2.1] at hcm
  refine hcm.mono ?_
  clear hcm
  rintro e W2 ⟨rfl, hb⟩
  have HN0 := Lib.hid (HB0.out.trans (hb.mono HB0.out.size))
  clear HB0
  have HB0 := Lib.hid HN0.out
  clear HN0
  have HNx := Lib.hid (HBx.out.trans (hb.mono HBx.out.size))
  clear HBx
  have HBx := Lib.hid HNx.out
  clear HNx
  clear hb
  go_wp2_with (refine wpList_var_sum (by rfl) rfl _ _ rfl mv rfl rfl ?_; intro W3 hb hr3 _ hlt3; refine Hid.out ?_)
  refine Lib.hid ?_
  obtain ⟨M, hM⟩ : ∃ M, M = W2.heap.size := ⟨_, rfl⟩
  rw [← hM] at hr3 ⊢
  have HM := Lib.hid hr3
  clear hr3 hlt3 hM
  have HN0 := Lib.hid (HB0.out.trans (hb.mono HB0.out.size))
  clear HB0
  have HB0 := Lib.hid HN0.out
  clear HN0
  have HNx := Lib.hid (HBx.out.trans (hb.mono HBx.out.size))
  clear HBx
  have HBx := Lib.hid HNx.out
  clear HNx
  clear hb
  have HBm := Lib.hid (Below.refl W3.heap.size W3)
  go_wp2_with (go_at_call 37; refine Hid.out ?_)
  refine Lib.hid ?_
  have hcm := chain_root w.heap.size W3 c all (HS.out.1.mem HB0.out).ch.at_ ka
  rw [← HE.out.2.2.2.1, ← HE.out.2.2.1] at hcm
  refine hcm.mono ?_
  clear hcm
  rintro e W4 ⟨rfl, hb⟩
  have HN0 := Lib.hid (HB0.out.trans (hb.mono HB0.out.size))
  clear HB0
  have HB0 := Lib.hid HN0.out
  clear HN0
  have HNx := Lib.hid (HBx.out.trans (hb.mono HBx.out.size))
  clear HBx
  have HBx := Lib.hid HNx.out
  clear HNx
  have HNm := Lib.hid (HBm.out.trans (hb.mono HBm.out.size))
  clear HBm
  have HBm := Lib.hid HNm.out
  clear HNm
  clear hb
  go_wp2_with (refine wpList_var_sum (by rfl) rfl _ _ rfl rv rfl rfl ?_; intro W5 hb hr3 _ hlt3; refine Hid.out ?_)
  refine Lib.hid ?_
  obtain ⟨R, hM⟩ : ∃ R, R = W4.heap.size := ⟨_, rfl⟩
  rw [← hM] at hr3 ⊢
  have HR := Lib.hid hr3
  clear hr3 hlt3 hM
  have HN0 := Lib.hid (HB0.out.trans (hb.mono HB0.out.size))
  clear HB0
  have HB0 := Lib.hid HN0.out
  clear HN0
  have HNx := Lib.hid (HBx.out.trans (hb.mono HBx.out.size))
  clear HBx
  have HBx := Lib.hid HNx.out
  clear HNx
  have HNm := Lib.hid (HBm.out.trans (hb.mono HBm.out.size))
  clear HBm
  have HBm := Lib.hid HNm.out
  clear HNm
  clear hb
  have HBr := Lib.hid (Below.refl W5.heap.size W5)
  go_wp2_with (go_at_call 38; refine Hid.out ?_)
  refine Lib.hid ?_
  refine (chain_path w.heap.size W5 c all (HS.out.1.mem HB0.out).ch.at_ (by have := HS.out.2.2.2.1; omega) ka kb HE.out.2.2.2.2.1).mono ?_
  rw [← HP.out.1]
  rintro e W6 ⟨p, rfl, hx, hb⟩
  have HPL := Lib.hid (And.intro hx (And.intro HBx.out.size HBx.out.size))
  clear hx
  have HN0 := Lib.hid (HB0.out.trans (hb.mono HB0.out.size))
  clear HB0
  have HB0 := Lib.hid HN0.out
  clear HN0
  have HNx := Lib.hid (HBx.out.trans (hb.mono HBx.out.size))
  clear HBx
  have HBx := Lib.hid HNx.out
  clear HNx
  have HNm := Lib.hid (HBm.out.trans (hb.mono HBm.out.size))
  clear HBm
  have HBm := Lib.hid HNm.out
  clear HNm
  have HNr := Lib.hid (HBr.out.trans (hb.mono HBr.out.size))
  clear HBr
  have HBr := Lib.hid HNr.out
  clear HNr
  clear hb
  have HBp := Lib.hid (Below.refl W6.heap.size W6)
  go_wp2_with (go_at_call 39; refine Hid.out ?_)
  refine Lib.hid ?_
  refine (chain_link w.heap.size W6 c all (HS.out.1.mem HB0.out).ch.at_ (by have := HS.out.2.2.2.1; omega) ka kb HE.out.2.2.2.2.1).mono ?_
  rw [← HP.out.2]
  rintro e W7 ⟨z, rfl, hx, hb⟩
  have HZL := Lib.hid (And.intro hx (And.intro HBx.out.size HBp.out.size))
  clear hx
  have HN0 := Lib.hid (HB0.out.trans (hb.mono HB0.out.size))
  clear HB0
  have HB0 := Lib.hid HN0.out
  clear HN0
  have HNx := Lib.hid (HBx.out.trans (hb.mono HBx.out.size))
  clear HBx
  have HBx := Lib.hid HNx.out
  clear HNx
  have HNm := Lib.hid (HBm.out.trans (hb.mono HBm.out.size))
  clear HBm
  have HBm := Lib.hid HNm.out
  clear HNm
  have HNr := Lib.hid (HBr.out.trans (hb.mono HBr.out.size))
  clear HBr
  have HBr := Lib.hid HNr.out
  clear HNr
  have HNp := Lib.hid (HBp.out.trans (hb.mono HBp.out.size))
  clear HBp
  have HBp := Lib.hid HNp.out
  clear HNp
  clear hb
  have HBz := Lib.hid (Below.refl W7.heap.size W7)
  go_wp2_with (go_at_call 40; refine Hid.out ?_)
  refine Lib.hid ?_
  refine (rpath12_any all va ka kb W7 (HS.out.1.mem HB0.out).allAt (by have := HS.out.2.2.2.1; omega) (fun y hy => by have := HS.out.2.2.2.2 y hy; omega) HE.out.2.2.2.2.1).mono ?_
  rw [← HP.out.1]
  rintro e W8 ⟨y, rfl, hx, hb⟩
  have HY := Lib.hid hx
  clear hx
  have HN0 := Lib.hid (HB0.out.trans (hb.mono HB0.out.size))
  clear HB0
  have HB0 := Lib.hid HN0.out
  clear HN0
  have HNx := Lib.hid (HBx.out.trans (hb.mono HBx.out.size))
  clear HBx
  have HBx := Lib.hid HNx.out
  clear HNx
  have HNm := Lib.hid (HBm.out.trans (hb.mono HBm.out.size))
  clear HBm
  have HBm := Lib.hid HNm.out
  clear HNm
  have HNr := Lib.hid (HBr.out.trans (hb.mono HBr.out.size))
  clear HBr
  have HBr := Lib.hid HNr.out
  clear HNr
  have HNp := Lib.hid (HBp.out.trans (hb.mono HBp.out.size))
  clear HBp
  have HBp := Lib.hid HNp.out
  clear HNp
  have HNz := Lib.hid (HBz.out.trans (hb.mono HBz.out.size))
  clear HBz
  have HBz := Lib.hid HNz.out
  clear HNz
  clear hb
  have HBy := Lib.hid (Below.refl W8.heap.size W8)
  go_wp2_with (go_at_call 41; refine Hid.out ?_)
  refine Lib.hid ?_
  refine (rlink12_any all va ka kb W8 (HS.out.1.mem HB0.out).allAt (by have := HS.out.2.2.2.1; omega) (fun y hy => by have := HS.out.2.2.2.2 y hy; omega) HE.out.2.2.2.2.1).mono ?_
  rw [← HP.out.2]
  rintro e W9 ⟨o, rfl, hx, hb⟩
  have HO := Lib.hid hx
  clear hx
  have HN0 := Lib.hid (HB0.out.trans (hb.mono HB0.out.size))
  clear HB0
  have HB0 := Lib.hid HN0.out
  clear HN0
  have HNx := Lib.hid (HBx.out.trans (hb.mono HBx.out.size))
  clear HBx
  have HBx := Lib.hid HNx.out
  clear HNx
  have HNm := Lib.hid (HBm.out.trans (hb.mono HBm.out.size))
  clear HBm
  have HBm := Lib.hid HNm.out
  clear HNm
  have HNr := Lib.hid (HBr.out.trans (hb.mono HBr.out.size))
  clear HBr
  have HBr := Lib.hid HNr.out
  clear HNr
  have HNp := Lib.hid (HBp.out.trans (hb.mono HBp.out.size))
  clear HBp
  have HBp := Lib.hid HNp.out
  clear HNp
  have HNz := Lib.hid (HBz.out.trans (hb.mono HBz.out.size))
  clear HBz
  have HBz := Lib.hid HNz.out
  clear HNz
  have HNy := Lib.hid (HBy.out.trans (hb.mono HBy.out.size))
  clear HBy
  have HBy := Lib.hid HNy.out
  clear HNy
  clear hb
  go_wp2_with fail
  refine hT.out _ _ ?_
  have hI : AskI w W9 c q nb va all cs C F HB SB HS0 SS x p z (entOf all ka) (cpathOf all ka kb) (clinkOf all ka kb) := by
    have hxb := fun k hk => HX.out.lt k hk
    have hpb := fun k hk => HPL.out.1.lt k hk
    have hzb := fun k hk => HZL.out.1.lt k hk
    have hs0 := HS.out.1.below.size
    have hx1 := HBx.out.size
    have hp1 := HBp.out.size
    have hz1 := HBz.out.size
    have hpx := HPL.out.2.1
    have hzx := HZL.out.2.1
    have hzp := HZL.out.2.2
    refine ⟨HS.out.1.mem HB0.out, (HX.out.below HBx.out).mono hs0, (HPL.out.1.below HBp.out).mono (Nat.le_trans hs0 (Nat.le_trans HX1.out hpx)), (HZL.out.1.below HBz.out).mono (Nat.le_trans hs0 (Nat.le_trans HX1.out hzx)), HS.out.1.loose (fun k hk => ⟨(hxb k hk).1, Nat.lt_of_lt_of_le (hxb k hk).2 hx1⟩), HS.out.1.loose (fun k hk => ⟨Nat.le_trans (Nat.le_trans HX1.out hpx) (hpb k hk).1, Nat.lt_of_lt_of_le (hpb k hk).2 hp1⟩), HS.out.1.loose (fun k hk => ⟨Nat.le_trans (Nat.le_trans HX1.out hzx) (hzb k hk).1, Nat.lt_of_lt_of_le (hzb k hk).2 hz1⟩), fun k hk e => ?_, fun k hk e => ?_, fun k hk e => ?_⟩
    · have h1 := hpb k hk
      have h2 := hxb k e
      omega
    · have h1 := hzb k hk
      have h2 := hxb k e
      omega
    · have h1 := hzb k hk
      have h2 := hpb k e
      omega
  have hmR := (Keeps.of_below (X := fun _ => False) HBm.out).range HM.out (fun h => h)
  have hrR := (Keeps.of_below (X := fun _ => False) HBr.out).range HR.out (fun h => h)
  have hyS := (Keeps.of_below (X := fun _ => False) HBy.out).sums HY.out (fun _ _ h => h)
  have hL := HS.out.2.2.2.1
  have hNL := HS.out.2.2.1
  have hent := entOf_len all ka HS.out.2.2.2.2
  have hpl := cpathOf_len all ka kb hL
  have hll := clinkOf_len all ka kb hL
  have hHE := HE.out
  obtain ⟨he1, hmv, he2, hrv, _⟩ := hHE
  by_cases h1 : ka < N
  · rw [if_pos (by omega)] at he1
    rw [if_pos (by omega)] at he2
    unfold markOf at hmv
    unfold rootOf12 at hrv
    rw [if_pos (by omega)] at hmv hrv
    subst he1 he2
    exact play_firstA HQP.out _ ⟨rfl, rfl, rfl, rfl, rfl, rfl, rfl, rfl, rfl, rfl, rfl, rfl, rfl, rfl, rfl, rfl, rfl, rfl, rfl, rfl, rfl, rfl, rfl, trivial⟩ hI HS.out.2.1 hent hpl hll hNL (by omega) HS.out.2.2.2.2 hmR hrR h1 rfl hmv hrv hyS HO.out HK.out
  · by_cases h2 : ka = N
    · rw [if_neg (by omega)] at he1
      rw [if_pos (by omega)] at he2
      unfold markOf at hmv
      unfold rootOf12 at hrv
      rw [if_pos (by omega)] at hmv hrv
      subst he1 he2
      rcases hI.s.allAt.2 with h0 | ⟨g9, c9, h0⟩
      · have hl0 : all.length = 0 := by
          obtain ⟨a9, c9, e9, _⟩ := hI.s.allAt.1
          rw [h0] at e9
          simp only [Value.slice.injEq] at e9
          omega
        exact play_firstB0 HQP.out _ ⟨rfl, rfl, rfl, rfl, rfl, rfl, rfl, rfl, rfl, rfl, rfl, rfl, rfl, rfl, rfl, rfl, rfl, rfl, rfl, rfl, rfl, rfl, rfl, trivial⟩ hI HS.out.2.1 hent hpl hll hNL (by omega) HS.out.2.2.2.2 hmR hrR h0 (by omega) (by omega) rfl hmv hrv hyS HO.out HK.out
      · rw [hNL] at h0
        exact play_firstB HQP.out _ ⟨rfl, rfl, rfl, rfl, rfl, rfl, rfl, rfl, rfl, rfl, rfl, rfl, rfl, rfl, rfl, rfl, rfl, rfl, rfl, rfl, rfl, rfl, rfl, trivial⟩ hI HS.out.2.1 hent hpl hll hNL (by omega) HS.out.2.2.2.2 hmR hrR h0 h2 rfl hmv hrv hyS HO.out HK.out
    · rw [if_neg (by omega)] at he1
      rw [if_neg (by omega)] at he2
      unfold markOf at hmv
      unfold rootOf12 at hrv
      rw [if_neg (by omega)] at hmv hrv
      subst he1 he2
      exact play_firstC HQP.out _ ⟨rfl, rfl, rfl, rfl, rfl, rfl, rfl, rfl, rfl, rfl, rfl, rfl, rfl, rfl, rfl, rfl, rfl, rfl, rfl, rfl, rfl, rfl, rfl, trivial⟩ hI HS.out.2.1 hent hpl hll hNL (by omega) HS.out.2.2.2.2 hmR hrR (by omega) rfl hmv hrv hyS HO.out HK.out
end Go.Proofs.YtdkcndgehgmadaaGreatDoor
-- The law ChainsPlay: its loops.
open Go Go.RowKit Alm
namespace Go.Proofs.YtdkcndgehgmadaaGreatDoor
theorem loop1_eq : loop1C = .seq (fstC loop1C) (.seq (.block 1 body1C) (sndC (sndC loop1C))) := rfl
theorem loop2_eq : loop2C = .seq (fstC loop2C) (.seq (.block 3 body2C) (sndC (sndC loop2C))) := rfl
theorem in_block {c : Code} {id : Nat} {Q : Exit → Act → World → Prop} {a : Act} {w : World} (h : Code.wp Tryz.prog c (Exit.then (Q .normal) (Exit.inBlock id Q)) a w) : Code.wp Tryz.prog (.block id c) Q a w := by
  refine wp_block (Code.wp_mono (fun e a w hq => ?_) h)
  cases e <;> exact hq
/-- The entries that are taken. -/
def kept (l : List (List UInt8)) : List (List UInt8) := l.filter fun b => decide (b.length ≤ 16384)
theorem kept_snocS (l : List (List UInt8)) (b : List UInt8) (h : b.length ≤ 16384) : kept (l ++ [b]) = kept l ++ [b] := by simp [kept, h]
theorem kept_snocL (l : List (List UInt8)) (b : List UInt8) (h : 16384 < b.length) : kept (l ++ [b]) = kept l := by simp [kept]; omega
theorem kept_len (l : List (List UInt8)) : (kept l).length ≤ l.length := List.length_filter_le _ _
theorem kept_all (l : List (List UInt8)) : ∀ y ∈ kept l, y.length ≤ 16384 := fun y hy => by
  have := (List.mem_filter.1 hy).2
  simpa using this
-- the second loop
def ask2 (w : World) (c q nb0 N n1 : Nat) (v1a : Option Addr) (v1c : Nat) (va : Value) (all : List (List UInt8)) (a : Act) (W : World) : Prop := ∃ j : Nat, j ≤ n1 ∧ FrAt a [(1, .slice v1a n1 v1c), (5, .pointer (some ⟨c, 0, none⟩)), (6, .pointer (some ⟨q, 0, none⟩)), (7, va), (11, .int .u64 (N : Int)), (12, .int .i64 (j : Int))] ∧ PlayN w W c q (nb0 + 3 * j) va all
def mu2 (n1 : Nat) (a : Act) (_ : World) : Nat := n1 - (intOf (a.tmps.getD 12 undef)).toNat
set_option maxRecDepth 100000 in
theorem head2 {W : World} {c q N n1 j : Nat} {v1a : Option Addr} {v1c : Nat} {va : Value} {K : Act → World → Prop} {Q : Exit → Act → World → Prop} (a : Act) (hA : FrAt a [(1, .slice v1a n1 v1c), (5, .pointer (some ⟨c, 0, none⟩)), (6, .pointer (some ⟨q, 0, none⟩)), (7, va), (11, .int .u64 (N : Int)), (12, .int .i64 (j : Int))]) (hj : j ≤ n1) (_hn : n1 < 1000)
    (h1 : j < n1 → ∀ a', FrAt a' [(1, .slice v1a n1 v1c), (5, .pointer (some ⟨c, 0, none⟩)), (6, .pointer (some ⟨q, 0, none⟩)), (7, va), (11, .int .u64 (N : Int)), (12, .int .i64 (j : Int))] → K a' W) (h2 : j = n1 → ∀ a', FrAt a' [(1, .slice v1a n1 v1c), (5, .pointer (some ⟨c, 0, none⟩)), (6, .pointer (some ⟨q, 0, none⟩)), (7, va), (11, .int .u64 (N : Int)), (12, .int .i64 (j : Int))] → Q (.exit 2) a' W) : Code.wp Tryz.prog (fstC loop2C) (Exit.then K Q) a W := by
  have H1 := Lib.hid h1
  have H2 := Lib.hid h2
  clear h1 h2
  by_cases hlt : j < n1
  · have d1 : (j : Int) < (n1 : Int) := by omega
    have d2 : decide (j < n1) = true := decide_eq_true hlt
    obtain ⟨g, rfl, s1, s5, s6, s7, s11, s12, -⟩ := hA.form
    change g 1 = .slice v1a n1 v1c at s1
    change g 5 = .pointer (some ⟨c, 0, none⟩) at s5
    change g 6 = .pointer (some ⟨q, 0, none⟩) at s6
    change g 7 = va at s7
    change g 11 = .int .u64 (N : Int) at s11
    change g 12 = .int .i64 (j : Int) at s12
    unfold frG
    rw [s1, s5, s6, s7, s11, s12]
    clear s1 s5 s6 s7 s11 s12 hA
    conv => arg 2; whnf
    go_wp2_with fail
    exact H1.out hlt _ ⟨rfl, rfl, rfl, rfl, rfl, rfl, rfl, rfl, trivial⟩
  · have d1 : ¬ (j : Int) < (n1 : Int) := by omega
    have d2 : decide (j < n1) = false := decide_eq_false hlt
    have HE := Lib.hid (show j = n1 by omega)
    clear hlt hj
    obtain ⟨g, rfl, s1, s5, s6, s7, s11, s12, -⟩ := hA.form
    change g 1 = .slice v1a n1 v1c at s1
    change g 5 = .pointer (some ⟨c, 0, none⟩) at s5
    change g 6 = .pointer (some ⟨q, 0, none⟩) at s6
    change g 7 = va at s7
    change g 11 = .int .u64 (N : Int) at s11
    change g 12 = .int .i64 (j : Int) at s12
    unfold frG
    rw [s1, s5, s6, s7, s11, s12]
    clear s1 s5 s6 s7 s11 s12 hA
    conv => arg 2; whnf
    go_wp2_with fail
    exact H2.out HE.out _ ⟨rfl, rfl, rfl, rfl, rfl, rfl, rfl, rfl, trivial⟩
set_option maxRecDepth 100000 in
theorem inc2 {W : World} {c q N n1 j : Nat} {v1a : Option Addr} {v1c : Nat} {va : Value} {K : Act → World → Prop} {Q : Exit → Act → World → Prop} (a : Act) (hA : FrAt a [(1, .slice v1a n1 v1c), (5, .pointer (some ⟨c, 0, none⟩)), (6, .pointer (some ⟨q, 0, none⟩)), (7, va), (11, .int .u64 (N : Int)), (12, .int .i64 (j : Int))]) (hj : j < 1000)
    (h1 : ∀ a', FrAt a' [(1, .slice v1a n1 v1c), (5, .pointer (some ⟨c, 0, none⟩)), (6, .pointer (some ⟨q, 0, none⟩)), (7, va), (11, .int .u64 (N : Int)), (12, .int .i64 ((j + 1 : Nat) : Int))] → K a' W) : Code.wp Tryz.prog (sndC (sndC loop2C)) (Exit.then K Q) a W := by
  have H1 := Lib.hid h1
  have hw := wrapn (k := j) (by omega)
  clear h1
  obtain ⟨g, rfl, s1, s5, s6, s7, s11, s12, -⟩ := hA.form
  change g 1 = .slice v1a n1 v1c at s1
  change g 5 = .pointer (some ⟨c, 0, none⟩) at s5
  change g 6 = .pointer (some ⟨q, 0, none⟩) at s6
  change g 7 = va at s7
  change g 11 = .int .u64 (N : Int) at s11
  change g 12 = .int .i64 (j : Int) at s12
  unfold frG
  rw [s1, s5, s6, s7, s11, s12]
  clear s1 s5 s6 s7 s11 s12 hA
  conv => arg 2; whnf
  go_wp2_with fail
  refine H1.out _ ⟨rfl, rfl, rfl, rfl, rfl, rfl, rfl, ?_, trivial⟩
  first
    | exact congrArg (Value.int .i64) hw
    | exact congrArg (Value.int .i64) (show (j : Int) + 1 = ((j + 1 : Nat) : Int) by omega)
theorem play_loop2 {w W : World} {c q nb0 N n1 : Nat} {v1 va : Value} {all : List (List UInt8)} {asks : List (Nat × Nat)} {Q : Exit → Act → World → Prop} (hQP : ∀ c (a : Act) (d : Option Nat) (v : Value) (w : World), Q (.panic c) (a.put d v) w → Q (.panic c) a w) (a : Act) (v1a : Option Addr) (v1c : Nat) (hv : v1 = .slice v1a n1 v1c)
    (hA : FrAt a [(1, .slice v1a n1 v1c), (5, .pointer (some ⟨c, 0, none⟩)), (6, .pointer (some ⟨q, 0, none⟩)), (7, va), (11, .int .u64 (N : Int)), (12, .int .i64 ((0 : Nat) : Int))]) (hS : PlayN w W c q nb0 va all) (has : AsksAt w v1 asks) (hn1 : asks.length = n1) (hn : n1 < 100) (hnb : nb0 < 100) (hN : all.length = N) (hN2 : N < 1000) (hall : ∀ y ∈ all, y.length ≤ 16384)
    (hexit : ∀ a' W', FrAt a' [(1, .slice v1a n1 v1c), (5, .pointer (some ⟨c, 0, none⟩)), (6, .pointer (some ⟨q, 0, none⟩)), (7, va), (11, .int .u64 (N : Int)), (12, .int .i64 (n1 : Int))] → PlayN w W' c q (nb0 + 3 * n1) va all → Q (.exit 2) a' W') : Code.wp Tryz.prog (.loop loop2C) Q a W := by
  refine wp_loop (ask2 w c q nb0 N n1 v1a v1c va all) (mu2 n1) ⟨0, Nat.zero_le _, hA, hS⟩ (fun a0 W hI => ?_)
  obtain ⟨j, hj, hA0, hP⟩ := hI
  have m0 : mu2 n1 a0 W = n1 - j := by
    unfold mu2
    rw [show a0.tmps.getD 12 undef = .int .i64 (j : Int) from hA0.vals.2.2.2.2.2.1]
    simp [intOf]
  rw [m0]
  rw [loop2_eq]
  refine wp_seq (head2 a0 hA0 hj (by omega) (fun hlt a hA => ?_) (fun he a hA => ?_))
  · refine wp_seq (in_block ?_)
    obtain ⟨cs, C, F, HB, SB, HS, SS, hS⟩ := hP
    obtain ⟨ab, ao, acap, hf, k0, k1, k2, k3⟩ := has.form (i := j) (by omega)
    rw [hv] at hf
    simp only [Value.slice.injEq] at hf
    obtain ⟨rfl, -, rfl⟩ := hf
    refine play_asks ?_ a hA hS (by omega) hN hN2 hall hlt k0 k1 k2 (fun a' W' hA' hP' => ?_)
    · intro c a d v w h; exact hQP c a d v w h
    show Code.wp _ _ _ _ _
    refine inc2 a' hA' (by omega) (fun a2 hA2 => ⟨⟨j + 1, hlt, hA2, ?_⟩, ?_⟩)
    · rw [Nat.mul_add]; exact hP'
    · unfold mu2
      rw [show a2.tmps.getD 12 undef = .int .i64 ((j + 1 : Nat) : Int) from hA2.vals.2.2.2.2.2.1]
      simp only [intOf, Int.toNat_natCast]
      omega
  · subst he
    exact hexit a W hA hP
end Go.Proofs.YtdkcndgehgmadaaGreatDoor
