/-
  Merged: Args5, Args6, Args7, Args8.
-/
import Derived.Test.YtdkcndgehgmadaaArgs3
import Derived.Test.YtdkcndgehgmadaaZB1
import Derived.SizedLaws
import Derived.Test.YtdkcndgehgmadaaArgs2
-- Arguments of a law, opened, with what the form's own reach says of their lengths: bytes, clashes, lists of bytes.
open Go Go.RowKit Go.ChangeShapes Go.WideShapes Go.ChangeAt Alm
namespace Go.Proofs.Ytdkcndgehgmadaa
section
variable {H : Type} {enc : TypeId × Value → H} {P : Program} {w : World} {base : Nat} {spare : Nat → Bool} {held : Bool}
/-- A list of bytes among the arguments. -/
theorem open_u8z {t e : TypeId} {fuel : Nat} {cs : List Value} {x : DataW H × List MemPlace} (ht : P.underlying t = some (.slice e)) (he : P.underlying e = some (.int .u8)) (hce : P.cellsOf e = 1) (hbe : P.bytesOf e = 1)
    (h : DataW.trod enc P w base spare held fuel t cs = some x) : ∃ v l, cs = [v] ∧ BytesAt w v l ∧ ∀ R, (∀ k ∈ x.1.weights P t, k ≤ R) → l.length ≤ R := by
  obtain ⟨v, l, hv, hb⟩ := open_u8s ht he hce h
  refine ⟨v, l, hv, hb, fun R hR => ?_⟩
  obtain ⟨a', cap', rfl, _, _, _⟩ := hb
  rcases Deep.open_slice ht h with ⟨h1, _⟩ | ⟨a, len, cap, m, n, D, Pl, h1, _, _, _, _, hx, _⟩
  · rw [hv] at h1
    simp only [List.cons.injEq, Value.slice.injEq, and_true] at h1
    omega
  · rw [hv] at h1
    simp only [List.cons.injEq, Value.slice.injEq, and_true] at h1
    rw [hx] at hR
    have := hR (len + (m - len)) (by simp [DataW.weights, ht, hbe])
    omega
end
section
variable {H : Type} {enc : TypeId × Value → H} {W : World} {base : Nat} {spare : Nat → Bool} {held : Bool} {r : Reach} {b2 : Nat}
theorem bytes_byte : Try.prog.bytesOf 5 = 1 := by kernel_rfl
theorem cells_bytes : Try.prog.cellsOf 50 = 1 := by kernel_rfl
theorem cells_clash : Try.prog.cellsOf 75 = 2 := by kernel_rfl
theorem trod_struct2 {P : Program} {w : World} {t : TypeId} {f0 f1 : Field} {fuel : Nat} {cs : List Value} {x : DataW H × List MemPlace} (ht : P.underlying t = some (.struct #[f0, f1])) (h : DataW.trod enc P w base spare held fuel t cs = some x) :
    ∃ y0 y1 n, cs.length = P.cellsOf t ∧ x.1 = .agg [y0.1, y1.1] ∧ DataW.trod enc P w base spare held n f0.type ((cs.drop f0.offset).take (P.cellsOf f0.type)) = some y0 ∧
      DataW.trod enc P w base spare held n f1.type ((cs.drop f1.offset).take (P.cellsOf f1.type)) = some y1 := by
  obtain ⟨xs, n, _, rfl, hl, hlen, hf⟩ := DataW.trod_struct ht h
  match xs, hlen with
  | [y0, y1], _ => exact ⟨y0, y1, n, hl, rfl, by simpa using hf 0 f0 rfl, by simpa using hf 1 f1 rfl⟩
set_option maxRecDepth 100000 in
theorem arg_clash {fuel : Nat} {v : Value} {x : DataW H × List MemPlace} (h : DataW.trod enc Try.prog W base spare held fuel 75 v.cells.toList = some x) (hok : Value.okWide Try.prog W r b2 75 v) :
    ∃ va vb a b, v = cv va vb ∧ BytesAt W va a ∧ BytesAt W vb b ∧ ∀ R, (∀ k ∈ x.1.weights Try.prog 75, k ≤ R) → a.length ≤ R ∧ b.length ≤ R := by
  obtain ⟨xs, rfl, hsz⟩ := okWide_struct Try.underlying75 hok
  obtain ⟨y0, y1, n', hl, hx, h0, h1⟩ := trod_struct2 Try.underlying75 h
  simp only [Value.cells] at h0 h1 hl
  obtain ⟨va, a, e0, ha, wa⟩ := open_u8z Try.underlying50 Try.underlying5 cells_byte bytes_byte h0
  obtain ⟨vb, b, e1, hb, wb⟩ := open_u8z Try.underlying50 Try.underlying5 cells_byte bytes_byte h1
  rw [cells_bytes] at e0 e1
  rw [cells_clash] at hl
  refine ⟨va, vb, a, b, ?_, ha, hb, fun R hR => ?_⟩
  · have hx : xs.toList = [va, vb] := by
      have key : xs.toList = (xs.toList.drop 0).take 1 ++ (xs.toList.drop 1).take 1 := by
        have t1 : (xs.toList.drop 1).take 1 = xs.toList.drop 1 := List.take_of_length_le (by rw [List.length_drop, hl]; decide)
        have s0 := List.take_append_drop 1 (xs.toList.drop 0)
        rw [List.drop_drop] at s0
        rw [t1, s0]; rfl
      rw [key]
      exact (congr (congrArg _ e0) e1).trans rfl
    cases xs; simp_all
  · rw [hx] at hR
    simp only [DataW.weights, Try.underlying75, DataW.weightsEach, List.map_cons, List.map_nil, List.mem_append, List.append_nil] at hR
    exact ⟨wa R fun k hk => hR k (.inl hk), wb R fun k hk => hR k (.inr hk)⟩
end
end Go.Proofs.Ytdkcndgehgmadaa
-- Arguments of a law, opened: lists of lists of bytes.
open Go Go.RowKit Go.ChangeShapes Go.WideShapes Go.ChangeAt Alm
namespace Go.Proofs.Ytdkcndgehgmadaa
section
variable {H : Type} {enc : TypeId × Value → H} {P : Program} {w : World} {base : Nat} {spare : Nat → Bool} {held : Bool}
theorem weights_mem_all {e : TypeId} : ∀ {ds : List (DataW H)} {d : DataW H}, d ∈ ds → ∀ k ∈ d.weights P e, k ∈ DataW.weightsAll P e ds
  | d0 :: r, d, hd, k, hk => by
    simp only [DataW.weightsAll, List.mem_append]
    rcases List.mem_cons.1 hd with rfl | hd
    · exact .inl hk
    · exact .inr (weights_mem_all hd k hk)
/-- A list of lists of bytes among the arguments. -/
theorem open_lists {t e u : TypeId} {fuel : Nat} {cs : List Value} {x : DataW H × List MemPlace} (ht : P.underlying t = some (.slice e)) (he : P.underlying e = some (.slice u)) (hu : P.underlying u = some (.int .u8)) (hce : P.cellsOf e = 1) (hcu : P.cellsOf u = 1) (hbe : 1 ≤ P.bytesOf e) (hbu : P.bytesOf u = 1)
    (h : DataW.trod enc P w base spare held fuel t cs = some x) : ∃ v ls, cs = [v] ∧ ListsAt w v ls ∧ ∀ R, (∀ k ∈ x.1.weights P t, k ≤ R) → ls.length ≤ R ∧ ∀ y ∈ ls, y.length ≤ R := by
  rcases Deep.open_slice ht h with ⟨rfl, hx⟩ | ⟨a, len, cap, m, n, D, Pl, rfl, hb, hl, hm, hmm, hx, hel⟩
  · exact ⟨_, [], rfl, ⟨none, 0, rfl, Nat.le_refl _, by unfold maxLen; omega, .inl rfl⟩, fun R _ => ⟨Nat.zero_le _, fun y hy => by cases hy⟩⟩
  · have hlm : len ≤ m := by rw [hmm]; split <;> omega
    have one : ∀ i, i < len → ∃ s : List UInt8, (a.add i).spot = none ∧ (∃ v, w.cell? (a.add i) = some v ∧ BytesAt w v s) ∧ ∀ R, (∀ k ∈ (D i).weights P e, k ≤ R) → s.length ≤ R := fun i hi => by
      obtain ⟨cs', h1, h2⟩ := hel i (by omega)
      rw [hce, Nat.mul_one] at h1
      obtain ⟨v, l, rfl, hbv, hw⟩ := open_u8z he hu hcu hbu h2
      obtain ⟨h3, _, h4⟩ := range_of_cells h1 (by omega)
      refine ⟨l, h3, ⟨v, ?_, hbv⟩, hw⟩
      have := h4 0 v rfl
      rw [Nat.add_zero] at this
      have e2 : a.add i = ⟨(a.add i).block, (a.add i).off, none⟩ := by
        rw [← h3]
      rw [e2]; exact this
    obtain ⟨f, hf⟩ := Deep.choose_lt one
    refine ⟨_, (List.range len).map f, rfl, ⟨some a, cap, by simp, by simpa using hl, hm, ?_⟩, fun R hR => ?_⟩
    · by_cases h0 : len = 0
      · subst h0; exact .inl rfl
      · right
        have hsp : a.spot = none := by
          have := (hf 0 (by omega)).1
          simpa [Addr.add] using this
        refine ⟨a.block, a.off, by cases a; simp_all, fun j hj => ?_⟩
        have hj' : j < len := by simpa using hj
        obtain ⟨v, hv, hbv⟩ := (hf j hj').2.1
        have e : a.add j = ⟨a.block, a.off + j, none⟩ := by
          unfold Addr.add
          split
          · rename_i h0; subst h0; cases a; simp_all
          · rfl
        rw [e] at hv
        exact ⟨v, hv, by simpa using hbv⟩
    · rw [hx] at hR
      simp only [DataW.weights, ht, List.mem_cons, List.mem_append, List.length_map, List.length_range] at hR
      constructor
      · have h1 := hR _ (.inl rfl)
        have h2 : (len + (m - len)) * 1 ≤ (len + (m - len)) * P.bytesOf e := Nat.mul_le_mul_left _ hbe
        simp only [List.length_map, List.length_range]
        omega
      · intro y hy
        obtain ⟨j, hj, rfl⟩ := List.mem_map.1 hy
        rw [List.mem_range] at hj
        refine (hf j hj).2.2 R fun k hk => hR k (.inr (.inl (weights_mem_all (List.mem_map.2 ⟨j, List.mem_range.2 hj, rfl⟩) k hk)))
end
section
variable {H : Type} {enc : TypeId × Value → H} {W : World} {base : Nat} {spare : Nat → Bool} {held : Bool} {r : Reach} {b2 : Nat}
theorem bytes_bytes : 1 ≤ Try.prog.bytesOf 50 := by
  have : Try.prog.bytesOf 50 = 24 := by kernel_rfl
  omega
set_option maxRecDepth 100000 in
theorem arg_lists {fuel : Nat} {v : Value} {x : DataW H × List MemPlace} (h : DataW.trod enc Try.prog W base spare held fuel 67 v.cells.toList = some x) (hok : Value.okWide Try.prog W r b2 67 v) :
    ∃ ls, ListsAt W v ls ∧ ∀ R, (∀ k ∈ x.1.weights Try.prog 67, k ≤ R) → ls.length ≤ R ∧ ∀ y ∈ ls, y.length ≤ R := by
  obtain ⟨v', ls, hc, hs, hw⟩ := open_lists Try.underlying67 Try.underlying50 Try.underlying5 cells_bytes cells_byte bytes_bytes bytes_byte h
  obtain ⟨a, n, c, rfl⟩ := okWide_slice Try.underlying67 hok
  have : v' = .slice a n c := by simpa [Value.cells] using hc.symm
  subst this
  exact ⟨ls, hs, hw⟩
end
end Go.Proofs.Ytdkcndgehgmadaa
-- Arguments of a law, opened: what is said of clashes.
open Go Go.RowKit Go.ChangeShapes Go.WideShapes Go.ChangeAt Alm
namespace Go.Proofs.Ytdkcndgehgmadaa
section
variable {H : Type} {enc : TypeId × Value → H} {P : Program} {w : World} {base : Nat} {spare : Nat → Bool} {held : Bool}
theorem open_sumsz {t e u : TypeId} {fuel : Nat} {cs : List Value} {x : DataW H × List MemPlace} (ht : P.underlying t = some (.slice e)) (he : P.underlying e = some (.array 32 u)) (hu : P.underlying u = some (.int .u8)) (hcu : P.cellsOf u = 1) (hce : P.cellsOf e = 32) (hbe : 1 ≤ P.bytesOf e)
    (h : DataW.trod enc P w base spare held fuel t cs = some x) : ∃ v l, cs = [v] ∧ SumsAt w v l ∧ ∀ R, (∀ k ∈ x.1.weights P t, k ≤ R) → l.length ≤ R := by
  obtain ⟨v, l, hv, hb, _⟩ := open_sums ht he hu hcu hce h
  refine ⟨v, l, hv, hb, fun R hR => ?_⟩
  obtain ⟨a', cap', rfl, _, _, _⟩ := hb
  rcases Deep.open_slice ht h with ⟨h1, _⟩ | ⟨a, len, cap, m, n, D, Pl, h1, _, _, _, _, hx, _⟩
  · rw [hv] at h1
    simp only [List.cons.injEq, Value.slice.injEq, and_true] at h1
    omega
  · rw [hv] at h1
    simp only [List.cons.injEq, Value.slice.injEq, and_true] at h1
    rw [hx] at hR
    have h2 := hR ((len + (m - len)) * P.bytesOf e) (by simp [DataW.weights, ht])
    have h3 : (len + (m - len)) * 1 ≤ (len + (m - len)) * P.bytesOf e := Nat.mul_le_mul_left _ hbe
    omega
theorem open_i64 {t : TypeId} {fuel : Nat} {cs : List Value} {x : DataW H × List MemPlace} (ht : P.underlying t = some (.int .i64)) (h : DataW.trod enc P w base spare held fuel t cs = some x) : ∃ n : Int, cs = [.int .i64 n] := by
  obtain ⟨n, hn, _, _⟩ := DataW.trod_int ht h
  exact ⟨n, hn⟩
theorem trod_struct5x {t : TypeId} {f0 f1 f2 f3 f4 : Field} {fuel : Nat} {cs : List Value} {x : DataW H × List MemPlace} (ht : P.underlying t = some (.struct #[f0, f1, f2, f3, f4])) (h : DataW.trod enc P w base spare held fuel t cs = some x) :
    ∃ y0 y1 y2 y3 y4 n, cs.length = P.cellsOf t ∧ x.1 = .agg [y0.1, y1.1, y2.1, y3.1, y4.1] ∧ DataW.trod enc P w base spare held n f0.type ((cs.drop f0.offset).take (P.cellsOf f0.type)) = some y0 ∧
      DataW.trod enc P w base spare held n f1.type ((cs.drop f1.offset).take (P.cellsOf f1.type)) = some y1 ∧ DataW.trod enc P w base spare held n f2.type ((cs.drop f2.offset).take (P.cellsOf f2.type)) = some y2 ∧
      DataW.trod enc P w base spare held n f3.type ((cs.drop f3.offset).take (P.cellsOf f3.type)) = some y3 ∧ DataW.trod enc P w base spare held n f4.type ((cs.drop f4.offset).take (P.cellsOf f4.type)) = some y4 := by
  obtain ⟨xs, n, _, rfl, hl, hlen, hf⟩ := DataW.trod_struct ht h
  match xs, hlen with
  | [y0, y1, y2, y3, y4], _ => exact ⟨y0, y1, y2, y3, y4, n, hl, rfl, by simpa using hf 0 f0 rfl, by simpa using hf 1 f1 rfl, by simpa using hf 2 f2 rfl, by simpa using hf 3 f3 rfl, by simpa using hf 4 f4 rfl⟩
end
section
variable {H : Type} {enc : TypeId × Value → H} {W : World} {base : Nat} {spare : Nat → Bool} {held : Bool} {r : Reach} {b2 : Nat}
theorem bytes_sum : 1 ≤ Try.prog.bytesOf 24 := by
  have : Try.prog.bytesOf 24 = 32 := by kernel_rfl
  omega
theorem cells_int : Try.prog.cellsOf 3 = 1 := by kernel_rfl
theorem cells_lists : Try.prog.cellsOf 67 = 1 := by kernel_rfl
theorem cells_said13 : Try.prog.cellsOf 80 = 5 := by kernel_rfl
set_option maxRecDepth 100000 in
theorem arg_said13 {fuel : Nat} {v : Value} {x : DataW H × List MemPlace} (h : DataW.trod enc Try.prog W base spare held fuel 80 v.cells.toList = some x) (hok : Value.okWide Try.prog W r b2 80 v) :
    ∃ vL vM at_ vB vS L M B S, v = .agg #[vL, vM, .int .i64 at_, vB, vS] ∧ ListsAt W vL L ∧ ListsAt W vM M ∧ BytesAt W vB B ∧ SumsAt W vS S ∧
      ∀ R, (∀ k ∈ x.1.weights Try.prog 80, k ≤ R) → (L.length ≤ R ∧ ∀ y ∈ L, y.length ≤ R) ∧ (M.length ≤ R ∧ ∀ y ∈ M, y.length ≤ R) ∧ B.length ≤ R ∧ S.length ≤ R := by
  obtain ⟨xs, rfl, hsz⟩ := okWide_struct Try.underlying80 hok
  obtain ⟨y0, y1, y2, y3, y4, n', hl, hx, h0, h1, h2, h3, h4⟩ := trod_struct5x Try.underlying80 h
  simp only [Value.cells] at h0 h1 h2 h3 h4 hl
  obtain ⟨vL, L, e0, hL, wL⟩ := open_lists Try.underlying67 Try.underlying50 Try.underlying5 cells_bytes cells_byte bytes_bytes bytes_byte h0
  obtain ⟨vM, M, e1, hM, wM⟩ := open_lists Try.underlying67 Try.underlying50 Try.underlying5 cells_bytes cells_byte bytes_bytes bytes_byte h1
  obtain ⟨at_, e2⟩ := open_i64 Try.underlying3 h2
  obtain ⟨vB, B, e3, hB, wB⟩ := open_u8z Try.underlying50 Try.underlying5 cells_byte bytes_byte h3
  obtain ⟨vS, S, e4, hS, wS⟩ := open_sumsz Try.underlying22 Try.underlying24 Try.underlying5 cells_byte cells_sum bytes_sum h4
  rw [cells_lists] at e0 e1
  rw [cells_int] at e2
  rw [cells_bytes] at e3
  rw [cells_sums] at e4
  rw [cells_said13] at hl
  refine ⟨vL, vM, at_, vB, vS, L, M, B, S, ?_, hL, hM, hB, hS, fun R hR => ?_⟩
  · have hx : xs.toList = [vL, vM, .int .i64 at_, vB, vS] := by
      have key : xs.toList = (xs.toList.drop 0).take 1 ++ ((xs.toList.drop 1).take 1 ++ ((xs.toList.drop 2).take 1 ++ ((xs.toList.drop 3).take 1 ++ (xs.toList.drop 4).take 1))) := by
        have t4 : (xs.toList.drop 4).take 1 = xs.toList.drop 4 := List.take_of_length_le (by rw [List.length_drop, hl]; decide)
        have s3 := List.take_append_drop 1 (xs.toList.drop 3)
        have s2 := List.take_append_drop 1 (xs.toList.drop 2)
        have s1 := List.take_append_drop 1 (xs.toList.drop 1)
        have s0 := List.take_append_drop 1 (xs.toList.drop 0)
        rw [List.drop_drop] at s0 s1 s2 s3
        rw [t4, s3, s2, s1, s0]; rfl
      rw [key]
      exact (congr (congrArg _ e0) (congr (congrArg _ e1) (congr (congrArg _ e2) (congr (congrArg _ e3) e4)))).trans rfl
    cases xs; simp_all
  · rw [hx] at hR
    simp only [DataW.weights, Try.underlying80, DataW.weightsEach, List.map_cons, List.map_nil, List.mem_append, List.append_nil] at hR
    exact ⟨wL R fun k hk => hR k (.inl hk), wM R fun k hk => hR k (.inr (.inl hk)), wB R fun k hk => hR k (.inr (.inr (.inr (.inl hk)))), wS R fun k hk => hR k (.inr (.inr (.inr (.inr hk))))⟩
end
end Go.Proofs.Ytdkcndgehgmadaa
-- Arguments of a law, opened: arrays of two and of three small integers.
open Go Go.RowKit Go.ChangeShapes Go.WideShapes
namespace Alm
theorem open_arr8 {n : Nat} {H : Type} {enc : TypeId × Value → H} {P : Program} {W : World} {base : Nat} {spare : Nat → Bool} {held : Bool} {fuel : Nat} {t e : TypeId} {cs : List Value} {x : DataW H × List MemPlace}
    (ht : P.underlying t = some (.array n e)) (he : P.underlying e = some (.int .u8)) (hc : P.cellsOf e = 1) (hct : P.cellsOf t = n) (h : DataW.trod enc P W base spare held fuel t cs = some x) : cs.length = n ∧ ∀ i, i < n → ∃ b : Nat, cs[i]? = some (.int .u8 (b : Int)) ∧ b ≤ 255 := by
  obtain ⟨xs, m, rfl, _, hlen, hxl, hel⟩ := DataW.trod_array ht h
  rw [hct] at hlen
  refine ⟨hlen, fun i hi => ?_⟩
  have hi' := hel i hi
  rw [hc, Nat.mul_one] at hi'
  rw [List.getElem?_eq_getElem (by omega)] at hi'
  obtain ⟨n, hn, _, hw⟩ := DataW.trod_int he hi'
  have hd : (cs.drop i).take 1 = [cs[i]] := by
    rw [List.drop_eq_getElem_cons (by omega)]; rfl
  rw [hd] at hn
  have hn' : cs[i] = .int .u8 n := by simpa using hn
  have hb : 0 ≤ n ∧ n ≤ 255 := by simpa [Lit.wf, IntKind.min, IntKind.max, IntKind.signed, IntKind.bits] using hw
  refine ⟨n.toNat, ?_, by omega⟩
  rw [List.getElem?_eq_getElem (by omega), hn']
  congr 2; omega
end Alm
namespace Go.Proofs.Ytdkcndgehgmadaa
open Alm
theorem cells_u8x2 : Try.prog.cellsOf 68 = 2 := by kernel_rfl
theorem cells_u8x3 : Try.prog.cellsOf 87 = 3 := by kernel_rfl
section
variable {H : Type} {enc : TypeId × Value → H} {W : World} {base : Nat} {spare : Nat → Bool} {held : Bool} {r : Reach} {b2 : Nat}
set_option maxRecDepth 100000 in
theorem arg_u8x2 {fuel : Nat} {v : Value} {x : DataW H × List MemPlace} (h : DataW.trod enc Try.prog W base spare held fuel 68 v.cells.toList = some x) (hok : Value.okWide Try.prog W r b2 68 v) : ∃ a b : Nat, v = .agg #[.int .u8 (a : Int), .int .u8 (b : Int)] ∧ a ≤ 255 ∧ b ≤ 255 := by
  obtain ⟨hl, hc⟩ := open_arr8 Try.underlying68 Try.underlying5 cells_byte cells_u8x2 h
  obtain ⟨xs, rfl⟩ : ∃ xs, v = .agg xs := okWide_array Try.underlying68 hok
  simp only [Value.cells] at hl hc
  obtain ⟨a, ha, ha2⟩ := hc 0 (by omega)
  obtain ⟨b, hb, hb2⟩ := hc 1 (by omega)
  refine ⟨a, b, ?_, ha2, hb2⟩
  obtain ⟨l⟩ := xs
  match l, hl with
  | [p, q], _ =>
    simp only [List.getElem?_cons_zero, List.getElem?_cons_succ, Option.some.injEq] at ha hb
    rw [ha, hb]
set_option maxRecDepth 100000 in
theorem arg_u8x3 {fuel : Nat} {v : Value} {x : DataW H × List MemPlace} (h : DataW.trod enc Try.prog W base spare held fuel 87 v.cells.toList = some x) (hok : Value.okWide Try.prog W r b2 87 v) : ∃ a b c : Nat, v = .agg #[.int .u8 (a : Int), .int .u8 (b : Int), .int .u8 (c : Int)] ∧ a ≤ 255 ∧ b ≤ 255 ∧ c ≤ 255 := by
  obtain ⟨hl, hc⟩ := open_arr8 Try.underlying87 Try.underlying5 cells_byte cells_u8x3 h
  obtain ⟨xs, rfl⟩ : ∃ xs, v = .agg xs := okWide_array Try.underlying87 hok
  simp only [Value.cells] at hl hc
  obtain ⟨a, ha, ha2⟩ := hc 0 (by omega)
  obtain ⟨b, hb, hb2⟩ := hc 1 (by omega)
  obtain ⟨c, hc, hc2⟩ := hc 2 (by omega)
  refine ⟨a, b, c, ?_, ha2, hb2, hc2⟩
  obtain ⟨l⟩ := xs
  match l, hl with
  | [p, q, s], _ =>
    simp only [List.getElem?_cons_zero, List.getElem?_cons_succ, Option.some.injEq] at ha hb hc
    rw [ha, hb, hc]
end
end Go.Proofs.Ytdkcndgehgmadaa
