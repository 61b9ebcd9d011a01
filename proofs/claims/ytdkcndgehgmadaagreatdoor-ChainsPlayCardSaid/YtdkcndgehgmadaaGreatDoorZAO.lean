/-
  Joined: B1, F1, F2.
-/
import Derived.Test.YtdkcndgehgmadaaGreatDoorZAN
import Derived.Lib.AppendZeros
import Derived.WalkSpells
-- Walks: slices.Concat of any parts of bytes; leaves.Leaf.
open Go Go.RowKit Alm
namespace Go.Proofs.YtdkcndgehgmadaaGreatDoor
/-- The sum of bytes, the leaf's sum: behind names that nothing opens. -/
noncomputable def sh : List UInt8 → Sum := Classical.choose (⟨sha, rfl⟩ : ∃ f : List UInt8 → Sum, f = sha)
theorem sh_eq : sh = sha := Classical.choose_spec (⟨sha, rfl⟩ : ∃ f : List UInt8 → Sum, f = sha)
noncomputable def lf : List UInt8 → Sum := Classical.choose (⟨fun l => sha (0 :: l), rfl⟩ : ∃ f : List UInt8 → Sum, f = fun l => sha (0 :: l))
theorem lf_eq : lf = fun l => sha (0 :: l) := Classical.choose_spec (⟨fun l => sha (0 :: l), rfl⟩ : ∃ f : List UInt8 → Sum, f = fun l => sha (0 :: l))
theorem sh_any (l : List UInt8) (v : Value) (w : World) (hv : BytesAt w v l) (hl : l.length < 72057594037927936) : Calls Tryz.prog 116 #[v] w fun e w' => e = .returned (sv (sh l)) ∧ Below w.heap.size w w' := by
  rw [sh_eq]; exact of_any l v w hv hl
/-- Parts of bytes in a row of slices. -/
def Parts2 (w : World) (b o : Nat) (vs : List Value) (ls : List (List UInt8)) : Prop :=
  w.rangeAt b o vs ∧ vs.length = ls.length ∧ ∀ j, j < ls.length → ∃ a n c, vs.getD j undef = .slice a n c ∧ n = (ls.getD j []).length ∧ n ≤ c ∧ (ls.getD j [] = [] ∨ ∃ b' o', a = some ⟨b', o', none⟩ ∧ w.rangeAt b' o' (cells8 (ls.getD j [])) ∧ b' < w.heap.size)
theorem parts2_cell {w : World} {b o : Nat} {vs : List Value} {ls : List (List UInt8)} (h : Parts2 w b o vs ls) {j : Nat} (hj : j < ls.length) : w.cell? ⟨b, o + j, none⟩ = some (vs.getD j undef) := by
  refine h.1 j _ ?_
  have : j < vs.length := by rw [h.2.1]; exact hj
  rw [List.getElem?_eq_getElem this]; simp [this]
theorem wpList_append_zero {w : World} {ops : Array Oper} {rest : List Oper} {o : Oper} {a : Act} {Q : Exit → Act → World → Prop} (hgd : o.guard = none) (s x : Operand)
    (ho : o.op = .call { callee := .builtin .append, args := #[s, x], argTypes := #[65, 65] })
    (base : Nat) (i : TypeInfo) (hi : Tryz.prog.info? 5 = some i)
    (v : Value) (n : Nat) (xs : List Value) (hs : a.eval s = v) (hown : w.ownsRow base 5 1 v n xs) (ad : Option Addr) (c : Nat) (hx : a.eval x = .slice ad 0 c)
    (h : wpList Tryz.prog ops Q rest (a.put o.dst v) w) : wpList Tryz.prog ops Q (o :: rest) a w := by
  refine wpList_plain hgd fun K hK => ?_
  have hrun : (Builtin.append_ #[65, 65] o.type #[v, .slice ad 0 c]).run Tryz.prog w = .ok v w := by
    rcases hown.2 with ⟨rfl, rfl⟩ | ⟨g, cap, cur, rfl, _, _, hnc, _⟩
    · cases ad <;> simp [Builtin.append_, run_underlying Tryz.underlying65, sizeOf, typeInfo, hi, Builtin.lenOf, Builtin.firstCells, loadCells, loadCellsFrom]
    · cases ad <;> simp [Builtin.append_, run_underlying Tryz.underlying65, sizeOf, typeInfo, hi, Builtin.lenOf, Builtin.firstCells, loadCells, loadCellsFrom, hnc, storeCells]
  unfold Oper.wp
  simp [execOp, ho, resolve, invoke, builtin, hs, hx, hrun, Result.andThen]
  exact hK _ _ h
set_option maxRecDepth 100000 in
theorem concat_all (vs : List Value) (ls : List (List UInt8)) (b o cap : Nat) (w : World) (h : Parts2 w b o vs ls) (hc : ls.length ≤ cap) (hk : ls.length ≤ 1000) (hpos : 1 ≤ ls.flatten.length) (hl : ls.flatten.length ≤ 140737488355328) :
    Calls Tryz.prog 117 #[.slice (some ⟨b, o, none⟩) ls.length cap] w fun e w' => ∃ v, e = .returned v ∧ BytesAt w' v ls.flatten ∧ Below w.heap.size w w' := by
  obtain ⟨k, hkk⟩ : ∃ k, k = ls.length := ⟨_, rfl⟩
  rw [← hkk] at hc hk ⊢
  have HK := Lib.hid hkk; clear hkk
  have HL := Lib.hid hl; clear hl
  have HP := Lib.hid hpos; clear hpos
  have hk' : (k : Int) ≤ 1000 := by omega
  go_enter Tryz.func117, Tryz.ntmps117
  go_wp2_with fail
  go_loopw [3, 11] (fun s i W => ∃ j : Nat, j ≤ k ∧ i = .int .i64 (j : Int) ∧ s = .int .i64 ((ls.take j).flatten.length : Int) ∧ Below w.heap.size w W) (fun _ i _ => k - (intOf i).toNat)
  case atStart => exact ⟨0, by omega, rfl, rfl, Below.refl _ _⟩
  case round =>
    obtain ⟨j, hj, rfl, rfl, hB⟩ := hrel
    by_cases hlt : j < k
    · have hlt' : (j : Int) < (k : Int) := by omega
      have hc0 := parts2_cell h (j := j) (by rw [← HK.out]; exact hlt)
      have hc1 : wr.cell? ⟨b, o + j, none⟩ = some (vs.getD j undef) := (hB.cell (p := ⟨b, o + j, none⟩) (World.block_lt_of_cell? w _ hc0)).trans hc0
      obtain ⟨a, n, c, hv, hn, hnc, -⟩ := h.2.2 j (by rw [← HK.out]; exact hlt)
      rw [hv] at hc1
      clear hc0 hv
      have hft := flat_take ls j (by rw [← HK.out]; exact hlt)
      have hfl := congrArg List.length hft
      rw [List.length_append, ← hn] at hfl
      have hle := flat_take_le ls (j + 1)
      have hmx := HL.out
      obtain ⟨s1, hs1⟩ : ∃ s, s = (ls.take j).flatten.length := ⟨_, rfl⟩
      obtain ⟨s2, hs2⟩ : ∃ s, s = (ls.take (j + 1)).flatten.length := ⟨_, rfl⟩
      rw [← hs1, ← hs2] at hfl
      rw [← hs2] at hle
      rw [← hs1]
      have hsum : IntKind.i64.wrap ((s1 : Int) + (n : Int)) = (s2 : Int) := by rw [IntKind.wrap_i64]; omega
      have HS2 := Lib.hid hs2
      clear hft hn hs1 hs2 hfl hle hmx
      go_wp2_with fail
      exact ⟨⟨j + 1, by omega, by simp, by rw [HS2.out], hB⟩, by simp [intOf]; omega⟩
    · have hjk : j = k := by omega
      subst hjk
      have htk : ls.take j = ls := List.take_of_length_le (by rw [HK.out]; exact Nat.le_refl _)
      rw [htk]
      obtain ⟨T, hT⟩ : ∃ T, T = ls.flatten.length := ⟨_, rfl⟩
      rw [← hT]
      have hT1 : 1 ≤ T := by rw [hT]; exact HP.out
      have hT2 : T ≤ 140737488355328 := by rw [hT]; exact HL.out
      have HT := Lib.hid hT; clear hT
      have Ht := Lib.hid htk; clear htk
      have G := Lib.hid (grow_any T wr hT1 hT2); clear hT1 hT2
      go_wp2_with fail
      refine G.out.mono ?_
      rintro e w1 ⟨v, rfl, ho1, hb1⟩
      obtain ⟨i0, hi0, hz0⟩ := Option.map_eq_some_iff.1 infoByteZ
      simp only [Prod.mk.injEq] at hz0
      have HI := Lib.hid hi0; clear hi0
      have HZ := Lib.hid hz0; clear hz0
      have hB1 : Below w.heap.size w w1 := hB.trans (hb1.mono hB.size)
      have ho1' : w1.ownsRow w.heap.size 5 1 v 0 [] := own_mono ho1 hB.size
      clear ho1 hb1 hB G
      go_wp2_with fail
      go_loopw [6, 27] (fun v i W => ∃ q : Nat, q ≤ j ∧ i = .int .i64 (q : Int) ∧ W.ownsRow w.heap.size 5 1 v (ls.take q).flatten.length (cells8 (ls.take q).flatten) ∧ Below w.heap.size w W) (fun _ i _ => j - (intOf i).toNat)
      case atStart => exact ⟨0, by omega, rfl, ho1', hB1⟩
      case round =>
        clear hB1 ho1'
        obtain ⟨q, hq, rfl, ho2, hB2⟩ := hrel
        by_cases hlt2 : q < j
        · have hlt' : (q : Int) < (j : Int) := by omega
          have hc0 := parts2_cell h (j := q) (by rw [← HK.out]; exact hlt2)
          have hc1 := (hB2.cell (p := ⟨b, o + q, none⟩) (World.block_lt_of_cell? w _ hc0)).trans hc0
          obtain ⟨a, n, c, hv, hn, hnc, hor⟩ := h.2.2 q (by rw [← HK.out]; exact hlt2)
          rw [hv] at hc1
          clear hc0 hv
          have hft := flat_take ls q (by rw [← HK.out]; exact hlt2)
          have hfl := congrArg List.length hft
          rw [List.length_append, ← hn] at hfl
          have hle := flat_take_le ls (q + 1)
          have hmx := HL.out
          have hnn : (ls.take q).flatten.length + n ≤ 140737488355328 := by omega
          have HN := Lib.hid hnn; clear hnn
          have HF := Lib.hid hft; clear hft
          have HFL := Lib.hid hfl; clear hfl
          have HNn := Lib.hid hn; clear hn
          clear hle hmx
          by_cases hn0 : n = 0
          · have hp0 : ls.getD q [] = [] := List.length_eq_zero_iff.1 (by rw [← HNn.out]; exact hn0)
            have hHF := HF.out
            rw [hp0, List.append_nil] at hHF
            have HHF := Lib.hid hHF; clear hHF hp0 hor
            subst hn0
            go_wp2_with (at_builtin; refine wpList_append_zero rfl _ _ rfl w.heap.size i0 HI.out _ _ _ rfl ho2 a c rfl ?_)
            exact ⟨⟨q + 1, by omega, by simp, by rw [HHF.out]; exact ho2, hB2⟩, by simp [intOf]; omega⟩
          · obtain ⟨b', o', rfl, hrg, hb'⟩ := hor.resolve_left (by intro h; rw [HNn.out, h] at hn0; exact hn0 rfl)
            have hrg' := range_below hB2 hrg hb'
            clear hrg
            go_wp2_with (at_builtin; refine wpList_append_own _ rfl _ _ _ rfl w.heap.size 5 i0 (.int .u8 0) 1 1 Tryz.underlying65 HI.out HZ.out.1 HZ.out.2.1 HZ.out.2.2 rfl (by decide) _ _ _ rfl ho2 ⟨b', o', none⟩ n c (cells8 (ls.getD q [])) rfl (by rw [length_cells8, HNn.out]; omega) (fun j u hj => by rw [Addr.add_mid]; exact hrg' j u hj) (oneCell_cells8 _) (by unfold maxLen; have := HN.out; omega) (by have := HN.out; omega) hB2.size ?_; intro v' w2 ho3 hg3 _)
            rw [← HFL.out, ← cells8_append, ← HF.out] at ho3
            exact ⟨⟨q + 1, by omega, by simp, ho3, hB2.grown hg3 hB2.size (own_base ho2)⟩, by simp [intOf]; omega⟩
        · have hqj : q = j := by omega
          subst hqj
          rw [Ht.out] at ho2
          go_wp2_with fail
          exact bodyPost_ret (results_tmp rfl _ _ _) rfl ⟨_, rfl, bytes_own ho2 HP.out, hB2⟩
theorem parts_two {w : World} {p q : Nat} (l : List UInt8) (v : Value) (hp : p < w.heap.size) (t : TypeId)
    (h1 : w.rangeAt p 0 (cells8 [0])) (h2 : BytesAt w v l) (hq : q = w.heap.size) :
    Parts2 (w.alloc (.cells #[.slice (some ⟨p, 0, none⟩) 1 1, v] t)) q 0 [.slice (some ⟨p, 0, none⟩) 1 1, v] [[0], l] := by
  subst hq
  have hB := al (Below.refl w.heap.size w) (.cells #[.slice (some ⟨p, 0, none⟩) 1 1, v] t)
  refine ⟨range_new _ _ _ _ rfl, rfl, fun j hj => ?_⟩
  have hj' : j < 2 := hj
  match j, hj' with
  | 0, _ => exact ⟨_, _, _, rfl, rfl, by decide, .inr ⟨p, 0, rfl, range_below hB h1 hp, by simp; omega⟩⟩
  | 1, _ =>
    obtain ⟨a, cap, rfl, h3, h4, h5⟩ := h2
    refine ⟨a, _, cap, rfl, by simp, h3, ?_⟩
    by_cases hl : l = []
    · exact .inl (by simpa using hl)
    · obtain ⟨b', o', rfl, hr⟩ := h5.resolve_left hl
      have hb' : b' < w.heap.size := range_lt hr (by intro h; have := length_cells8 l; rw [h] at this; exact hl (List.length_eq_zero_iff.1 this.symm))
      exact .inr ⟨b', o', rfl, by simpa using range_below hB hr hb', by simp; omega⟩
set_option maxRecDepth 100000 in
set_option maxHeartbeats 1000000 in
theorem lf_any (l : List UInt8) (v : Value) (w : World) (hv : BytesAt w v l) (hl : l.length < 140737488355000) : Calls Tryz.prog 114 #[v] w fun e w' => e = .returned (sv (lf l)) ∧ Below w.heap.size w w' := by
  obtain ⟨s, hsn⟩ : ∃ s, s = lf l := ⟨_, rfl⟩
  have hsf : sha [[0], l].flatten = s := by rw [hsn, lf_eq]; congr 1; simp
  rw [← hsn]
  have HSF := Lib.hid hsf; clear hsf hsn
  have R0 : Res w 32 (w.alloc (.cells (cells8 (List.replicate 32 0)).toArray 24)) := Res.start _ _ _ _ (by rfl)
  have HB0 := Lib.hid R0
  obtain ⟨ad, cap, rfl, h1, h2, h3⟩ := hv
  have HV := Lib.hid (show BytesAt w (.slice ad l.length cap) l from ⟨ad, cap, rfl, h1, h2, h3⟩)
  obtain ⟨n, hn⟩ : ∃ n, n = l.length := ⟨_, rfl⟩
  rw [← hn] at HV h1 ⊢
  have HN := Lib.hid (And.intro hn hl)
  clear hn hl h1 h2 h3 R0
  have z1 : (w.alloc (.cells (cells8 (List.replicate 32 0)).toArray 24)).heap.size = w.heap.size + 1 := Array.size_push _
  have z2 : ((w.alloc (.cells (cells8 (List.replicate 32 0)).toArray 24)).alloc (.cells #[.int .u8 0] 5)).heap.size = w.heap.size + 1 + 1 := by rw [World.size_alloc, z1]
  have hP := parts_two (w := (w.alloc (.cells (cells8 (List.replicate 32 0)).toArray 24)).alloc (.cells #[.int .u8 0] 5)) (p := w.heap.size + 1) (q := w.heap.size + 1 + 1) l (.slice ad n cap) (by rw [z2]; omega) 65
    (by rw [← z1]; exact range_new _ _ _ _ rfl) (bytes_below (bytes_below HV.out HB0.out.below (Nat.le_refl _)) (al (Below.refl _ _) _) (Nat.le_refl _)) z2.symm
  have hb3 : Below w.heap.size w (((w.alloc (.cells (cells8 (List.replicate 32 0)).toArray 24)).alloc (.cells #[.int .u8 0] 5)).alloc (.cells #[.slice (some ⟨w.heap.size + 1, 0, none⟩) 1 1, .slice ad n cap] 65)) := al (al HB0.out.below _) _
  have ht3 := World.there_alloc (World.there_alloc HB0.out.there (.cells #[.int .u8 0] 5)) (.cells #[.slice (some ⟨w.heap.size + 1, 0, none⟩) 1 1, .slice ad n cap] 65)
  have HPP := Lib.hid (And.intro hP (And.intro hb3 ht3))
  clear hP hb3 ht3 z1 z2 HB0 HV
  go_enter Tryz.func114, Tryz.ntmps114
  go_wp2_with fail
  change Calls _ _ _ (((w.alloc (.cells (cells8 (List.replicate 32 0)).toArray 24)).alloc (.cells #[.int .u8 0] 5)).alloc (.cells #[.slice (some ⟨w.heap.size + 1, 0, none⟩) 1 1, .slice ad n cap] 65)) _
  generalize (((w.alloc (.cells (cells8 (List.replicate 32 0)).toArray 24)).alloc (.cells #[.int .u8 0] 5)).alloc (.cells #[.slice (some ⟨w.heap.size + 1, 0, none⟩) 1 1, .slice ad n cap] 65)) = W at *
  refine (concat_all _ [[0], l] _ _ 2 W HPP.out.1 (by simp) (by simp) (by simp) (by have := HN.out.2; simp; omega)).mono ?_
  rintro e w1 ⟨v, rfl, hbv, hb⟩
  have hb1 := HPP.out.2.1.trans (hb.mono HPP.out.2.1.size)
  have ht1 := (Keeps.of_below (X := fun _ => False) hb).there HPP.out.2.2 (by decide) (fun h => h)
  have HH := Lib.hid (And.intro hbv (And.intro hb1 ht1))
  clear hb hbv hb1 ht1 HPP
  go_wp2_with fail
  refine (of_any _ _ _ HH.out.1 (by have := HN.out.2; simp; omega)).mono ?_
  rw [HSF.out]
  rintro e w2 ⟨rfl, hb⟩
  have hb2 := HH.out.2.1.trans (hb.mono HH.out.2.1.size)
  have ht2 := (Keeps.of_below (X := fun _ => False) hb).there HH.out.2.2 (by decide) (fun h => h)
  have HT := Lib.hid ht2
  have HB := Lib.hid hb2
  clear hb ht2 hb2 HH
  go_wp2_with (refine wpList_store_sum rfl _ _ rfl w.heap.size 0 s rfl rfl HT.out ?_)
  exact bodyPost_ret (results_sum Tryz.results114 _ _ _ _ rfl (World.there_setCells HT.out _ _ _)) rfl ⟨rfl, setCells_below _ (Nat.le_refl _) _ _ _ _ HB.out⟩
end Go.Proofs.YtdkcndgehgmadaaGreatDoor
-- Walks: fronts.fold.
open Go Go.RowKit Alm
namespace Go.Proofs.YtdkcndgehgmadaaGreatDoor
set_option maxRecDepth 100000 in
set_option maxHeartbeats 1000000 in
theorem fold_any (l : List Sum) (k g cap base : Nat) (w : World) (hk : k < l.length) (ho : w.ownsRow base 24 32 (.slice (some ⟨g, 0, none⟩) l.length cap) l.length (cellsAll l)) :
    Calls Tryz.prog 101 #[.slice (some ⟨g, 0, none⟩) l.length cap, .int .i64 k, .func (.func 69) #[] #[]] w fun e w' =>
      e = .returned (.slice (some ⟨g, 0, none⟩) (l.length - k) cap) ∧ w'.ownsRow base 24 32 (.slice (some ⟨g, 0, none⟩) (l.length - k) cap) (l.length - k) (cellsAll (fold2 nd k l)) ∧ Keeps (· = g) w w' := by
  have hkm : k < 9223372036854775807 := by
    obtain ⟨g', cap', he, h1, h2, _, _⟩ := own_range ho (by omega)
    unfold maxLen at h2
    simp only [Value.slice.injEq, Option.some.injEq, Addr.mk.injEq, and_true] at he
    omega
  go_enter Tryz.func101, Tryz.ntmps101
  go_wp2_with fail
  go_loopw [0, 9] (fun v i W => ∃ j : Nat, j ≤ k ∧ i = .int .i64 (j : Int) ∧ v = .slice (some ⟨g, 0, none⟩) (l.length - j) cap ∧ W.ownsRow base 24 32 (.slice (some ⟨g, 0, none⟩) (l.length - j) cap) (l.length - j) (cellsAll (fold2 nd j l)) ∧ Keeps (· = g) w W) (fun _ i _ => k - (intOf i).toNat)
  case atStart => exact ⟨0, by omega, rfl, rfl, ho, Keeps.refl _ _⟩
  case round =>
    clear ho
    obtain ⟨j, hj, rfl, rfl, ho, hg⟩ := hrel
    by_cases hlt : j < k
    · have hlt' : (j : Int) < (k : Int) := by omega
      obtain ⟨q, hq⟩ : ∃ q, l.length - j = q + 2 := ⟨l.length - j - 2, by omega⟩
      rw [hq] at ho ⊢
      have hq1 : l.length - (j + 1) = q + 1 := by omega
      have hfl : (fold2 nd j l).length = q + 2 := by rw [length_fold2 _ _ _ (by omega)]; exact hq
      obtain ⟨r, x, y, hr⟩ := exists_two (l := fold2 nd j l) (by omega)
      have hfn : fold2 nd (j + 1) l = r ++ [nd x y] := by rw [fold2_add _ j 1 _ (by omega), hr, fold2_two]; rfl
      rw [hr] at ho hfl
      have hrl : r.length = q := by simp at hfl; exact hfl
      obtain ⟨hg2, hg3⟩ : q + 2 ≤ cap ∧ cap ≤ maxLen := by
        obtain ⟨g', cap', he, h1, h2, _, _⟩ := own_range ho (by omega)
        simp only [Value.slice.injEq, Option.some.injEq, Addr.mk.injEq, and_true] at he
        omega
      unfold maxLen at hg3
      have hrg := own_sum_range ho
      have hx := range_at hrg (i := q) (by omega)
      have hy := range_at hrg (i := q + 1) (by omega)
      rw [Nat.zero_add] at hx hy
      have ex : (r ++ [x, y])[q]'(by omega) = x := by simp [List.getElem_append_right, hrl]
      have ey : (r ++ [x, y])[q + 1]'(by omega) = y := by simp [List.getElem_append_right, hrl]
      rw [ex] at hx
      rw [ey] at hy
      clear hrg ex ey
      have w1 : IntKind.i64.wrap (q : Int) = (q : Int) := by rw [IntKind.wrap_i64]; omega
      have w2 : IntKind.i64.wrap ((q : Int) + 1) = (q : Int) + 1 := by rw [IntKind.wrap_i64]; omega
      have w3 : IntKind.i64.wrap ((q : Int) + 2 - 1) = (q : Int) + 1 := by rw [IntKind.wrap_i64]; omega
      have b1 : (q : Int) ≤ (cap : Int) := by omega
      have b2 : (q : Int) < (q : Int) + 2 := by omega
      have b4 : ¬ ((q : Int) + 1 < 0) := by omega
      have b5 : (0 : Int) ≤ (q : Int) + 1 := by omega
      have b3 : (q : Int) + 1 < (q : Int) + 2 := by omega
      have HQ := Lib.hid hq; clear hq
      have HQ1 := Lib.hid hq1; clear hq1
      have H3 := Lib.hid (And.intro hg2 hg3); clear hg2 hg3
      have HR := Lib.hid hr; clear hr
      have HF := Lib.hid hfl; clear hfl
      have HL := Lib.hid hrl; clear hrl
      have HN := Lib.hid hfn; clear hfn
      have HO := Lib.hid ho; clear ho
      have HG := Lib.hid hg; clear hg
      have HX := Lib.hid hx; clear hx
      have HY := Lib.hid hy; clear hy
      go_wp2_with fail
      refine wp_region_sched (fun W => W.rangeAt g (q * 32) (cellsOf x) ∧ W.rangeAt g ((q + 1) * 32) (cellsOf y)) [.t 0, .t 1, .t 2, .t 3, .t 4, .t 5, .t 6, .t 7, .t 8, .s 9, .t 10, .t 11, .t 12, .t 13, .s 14, .e 15 false, .e 16 false, .e 17 false, .t 18] (by kernel_rfl) (by kernel_rfl) (by intro c a d v w h; cases d <;> exact h) ?_
      iterate 9
        refine wpS_t rfl (v := ?_) (by rfl) (fun W => ?_) ?_
        rotate_left
        · go_simp
          try rfl
        try simp only [Act.put, List.setIfInBounds_toArray, List.set_cons_zero, List.set_cons_succ]
      refine wpS_load_sum (by exact ⟨HX.out, HY.out⟩) rfl (by rfl) _ (by rfl) g (q * 32) (by rfl) x (fun W hW => hW.1) ?_
      try simp only [Act.put, List.setIfInBounds_toArray, List.set_cons_zero, List.set_cons_succ]
      iterate 4
        refine wpS_t rfl (v := ?_) (by rfl) (fun W => ?_) ?_
        rotate_left
        · go_simp
          try rfl
        try simp only [Act.put, List.setIfInBounds_toArray, List.set_cons_zero, List.set_cons_succ]
      refine wpS_load_sum (by exact ⟨HX.out, HY.out⟩) rfl (by rfl) _ (by rfl) g ((q + 1) * 32) (by rfl) y (fun W hW => hW.2) ?_
      try simp only [Act.put, List.setIfInBounds_toArray, List.set_cons_zero, List.set_cons_succ]
      refine wpS_e rfl (by rfl) (fun K hK => ?_)
      go_simp
      obtain ⟨z, hz⟩ : ∃ z, z = nd x y := ⟨_, rfl⟩
      refine (nd_any x y _).mono ?_
      rw [← hz] at HN ⊢
      have HZ := Lib.hid hz; clear hz
      rintro e w1 ⟨rfl, hb1⟩
      refine hK _ _ ?_; clear hK K
      try simp only [Act.put, List.setIfInBounds_toArray, List.set_cons_zero, List.set_cons_succ]
      have ho1 := (Keeps.of_below (X := fun _ => False) hb1).owns (HO.out : wr.drew.ownsRow _ _ _ _ _ _) (fun _ _ h => h)
      have hg1 : Keeps (· = g) w w1 := HG.out.drew.trans (.of_below hb1)
      rw [cellsAll_append] at ho1
      have HO1 := Lib.hid ho1; clear ho1
      have HG1 := Lib.hid hg1; clear hg1 hb1
      refine wpS_e rfl (by rfl) (fun K hK => ?_)
      refine wp_build_sums 1 _ (by rfl) [z] rfl (by omega) (by omega) (by rfl) ?_
      refine hK _ _ ?_; clear hK K
      try simp only [Act.put, List.setIfInBounds_toArray, List.set_cons_zero, List.set_cons_succ]
      refine wpS_e rfl (by rfl) (fun K hK => ?_)
      refine wp_append_sum_fits _ _ (by rfl) base g q cap r HL.out (by rfl) (own_take (n := q) (m := 2) ((HO1.out.alloc _)) (by rw [length_cellsAll, HL.out]; omega)) w1.heap.size 0 1 z (by rfl) (by rw [cellsAll_one]; exact range_new w1 _ _ _ rfl) (by have := H3.out; omega) ?_
      intro w2 ho2 hg2
      refine hK _ _ ?_; clear hK K
      try simp only [Act.put, List.setIfInBounds_toArray, List.set_cons_zero, List.set_cons_succ]
      have HO2 := Lib.hid ho2; clear ho2
      have HG2 := Lib.hid (HG1.out.trans (((Keeps.refl (· = g) w1).alloc _).trans (.of_grown hg2 (fun k hk => by simpa using hk.symm)))); clear hg2
      iterate 1
        refine wpS_t rfl (v := ?_) (by rfl) (fun W => ?_) ?_
        rotate_left
        · go_simp
          try rfl
        try simp only [Act.put, List.setIfInBounds_toArray, List.set_cons_zero]
      refine wpS_done ?_
      go_wp2_with fail
      refine ⟨⟨j + 1, by omega, by simp, by rw [HQ1.out], by rw [HQ1.out, HN.out]; exact HO2.out, HG2.out⟩, by simp [intOf]; omega⟩
    · have hjk : j = k := by omega
      subst hjk
      have HO := Lib.hid ho; clear ho
      go_wp2_with fail
      exact bodyPost_ret (results_tmp rfl _ _ _) rfl ⟨rfl, HO.out, hg⟩
theorem fold_at (l : List Sum) (n k g cap base : Nat) (w : World) (hn : l.length = n) (hk : k < n) (ho : w.ownsRow base 24 32 (.slice (some ⟨g, 0, none⟩) n cap) n (cellsAll l)) :
    Calls Tryz.prog 101 #[.slice (some ⟨g, 0, none⟩) n cap, .int .i64 k, .func (.func 69) #[] #[]] w fun e w' =>
      e = .returned (.slice (some ⟨g, 0, none⟩) (n - k) cap) ∧ w'.ownsRow base 24 32 (.slice (some ⟨g, 0, none⟩) (n - k) cap) (n - k) (cellsAll (fold2 nd k l)) ∧ Keeps (· = g) w w' := by
  subst hn; exact fold_any l k g cap base w hk ho
end Go.Proofs.YtdkcndgehgmadaaGreatDoor
-- Walks: fronts: New, none, Size, Sums, Clone, Clip.
open Go Go.RowKit Alm
namespace Go.Proofs.YtdkcndgehgmadaaGreatDoor
theorem bits_zero : Alm.bits 0 = 0 := by rw [Alm.bits]; simp
/-- A front of leaves, behind pointer p. -/
def FrontAt (w : World) (p : Nat) (v : Value) (l : List Sum) : Prop :=
  w.heap[p]? = some (.cells #[.int .i64 1, .int .u64 (l.length : Int), v] 104 (0, 0)) ∧ w.ownsRow 0 24 32 v (Alm.bits l.length) (cellsAll (stk nd e0 64 l)) ∧ v.ownBlock ≠ some p ∧ l.length < 4000000000 ∧ (l = [] → v = .slice none 0 0)
theorem FrontAt.keep {X : Nat → Prop} {w w' : World} {p : Nat} {v : Value} {l : List Sum} (h : FrontAt w p v l) (hk : Keeps X w w') (hp : ¬ X p) (hv : ∀ k, v.ownBlock = some k → ¬ X k) : FrontAt w' p v l :=
  ⟨hk.heap h.1 hp, hk.owns h.2.1 hv, h.2.2.1, h.2.2.2⟩
theorem FrontAt.below {w w' : World} {p : Nat} {v : Value} {l : List Sum} (h : FrontAt w p v l) (hk : Below w.heap.size w w') : FrontAt w' p v l :=
  h.keep (X := fun _ => False) (.of_below hk) (fun h => h) (fun _ _ h => h)
theorem FrontAt.lt {w : World} {p : Nat} {v : Value} {l : List Sum} (h : FrontAt w p v l) : p < w.heap.size := (Array.getElem?_eq_some_iff.1 h.1).1
theorem FrontAt.c0 {w : World} {p : Nat} {v : Value} {l : List Sum} (h : FrontAt w p v l) : w.cell? ⟨p, 0, none⟩ = some (.int .i64 1) := by
  rw [cell_of_row w p _ _ _ (0, 0) h.1]; rfl
theorem FrontAt.c1 {w : World} {p : Nat} {v : Value} {l : List Sum} (h : FrontAt w p v l) : w.cell? ⟨p, 1, none⟩ = some (.int .u64 (l.length : Int)) := by
  rw [cell_of_row w p _ _ _ (0, 0) h.1]; rfl
theorem FrontAt.c2 {w : World} {p : Nat} {v : Value} {l : List Sum} (h : FrontAt w p v l) : w.cell? ⟨p, 2, none⟩ = some v := by
  rw [cell_of_row w p _ _ _ (0, 0) h.1]; rfl
theorem new_front (w : World) : Calls Tryz.prog 17 #[] w fun e w' => e = .returned (.pointer (some ⟨w.heap.size, 0, none⟩)) ∧ FrontAt w' w.heap.size (.slice none 0 0) [] ∧ Below w.heap.size w w' := by
  have hf : FrontAt (w.alloc (.cells #[.int .i64 1, .int .u64 0, .slice none 0 0] 104)) w.heap.size (.slice none 0 0) [] :=
    ⟨heap_alloc_new w _, by rw [stk_nil, List.length_nil, bits_zero]; exact World.ownsRow_nil _ _ _ _, by simp [Value.ownBlock], by simp, fun _ => rfl⟩
  have HF := Lib.hid hf; clear hf
  go_enter Tryz.func17, Tryz.ntmps17
  go_wp2_with fail
  exact bodyPost_ret (results_tmp rfl _ _ _) rfl ⟨rfl, HF.out, al (Below.refl _ _) _⟩
theorem none_live (w : World) (p : Nat) (hc : w.cell? ⟨p, 0, none⟩ = some (.int .i64 1)) : Calls Tryz.prog 99 #[.pointer (some ⟨p, 0, none⟩)] w fun e w' => e = .returned (.bool false) ∧ w = w' := by
  go_enter Tryz.func99, Tryz.ntmps99
  go_wp2_with fail
  exact bodyPost_ret (results_tmp rfl _ _ _) rfl ⟨rfl, rfl⟩
theorem size_live (w : World) (p : Nat) (v : Value) (l : List Sum) (h : FrontAt w p v l) : Calls Tryz.prog 19 #[.pointer (some ⟨p, 0, none⟩)] w fun e w' => e = .returned (.int .u64 (l.length : Int)) ∧ w = w' := by
  have h0 := h.c0
  have h1 := h.c1
  clear h
  go_enter Tryz.func19, Tryz.ntmps19
  go_wp2_with (go_at_call 99; refine (none_live _ p h0).mono ?_; rintro e w1 ⟨rfl, rfl⟩)
  exact bodyPost_ret (results_tmp rfl _ _ _) rfl ⟨rfl, rfl⟩
/-- A row of sums that is new (from base on), or nil. -/
def SumsNew (w : World) (base : Nat) (v : Value) (l : List Sum) : Prop :=
  (v = .slice none 0 0 ∧ l = []) ∨ ∃ g cap, v = .slice (some ⟨g, 0, none⟩) l.length cap ∧ l ≠ [] ∧ l.length ≤ cap ∧ cap ≤ maxLen ∧ base ≤ g ∧ w.rangeAt g 0 (cellsAll l) ∧ w.there g 0 (32 * cap)
theorem SumsNew.sums {w : World} {base : Nat} {v : Value} {l : List Sum} (h : SumsNew w base v l) : SumsAt w v l := by
  rcases h with ⟨rfl, rfl⟩ | ⟨g, cap, rfl, h0, h1, h2, h3, h4, h5⟩
  · exact ⟨none, 0, rfl, Nat.le_refl _, by unfold maxLen; omega, .inl rfl⟩
  · exact ⟨_, cap, rfl, h1, h2, .inr ⟨g, 0, rfl, h4⟩⟩
theorem SumsNew.own {w : World} {base : Nat} {v : Value} {l : List Sum} (h : SumsNew w base v l) : ∀ k, v.ownBlock = some k → base ≤ k := by
  intro k hk
  rcases h with ⟨rfl, rfl⟩ | ⟨g, cap, rfl, h0, h1, h2, h3, h4, h5⟩
  · cases hk
  · simp only [Value.ownBlock, Option.some.injEq] at hk; omega
theorem SumsNew.keep {X : Nat → Prop} {w w' : World} {base : Nat} {v : Value} {l : List Sum} (h : SumsNew w base v l) (hk : Keeps X w w') (hv : ∀ k, v.ownBlock = some k → ¬ X k) : SumsNew w' base v l := by
  rcases h with ⟨rfl, rfl⟩ | ⟨g, cap, rfl, h0, h1, h2, h3, h4, h5⟩
  · exact .inl ⟨rfl, rfl⟩
  · exact .inr ⟨g, cap, rfl, h0, h1, h2, h3, hk.range h4 (hv g rfl), hk.there h5 (by have := List.length_pos_iff.2 h0; omega) (hv g rfl)⟩
theorem SumsNew.mono {w : World} {base base' : Nat} {v : Value} {l : List Sum} (h : SumsNew w base v l) (hb : base' ≤ base) : SumsNew w base' v l := by
  rcases h with h | ⟨g, cap, rfl, h0, h1, h2, h3, h4, h5⟩
  · exact .inl h
  · exact .inr ⟨g, cap, rfl, h0, h1, h2, by omega, h4, h5⟩
theorem own_new {w : World} {base : Nat} {v : Value} {l : List Sum} (h : w.ownsRow base 24 32 v l.length (cellsAll l)) (h0 : l ≠ []) : SumsNew w base v l := by
  rcases h.2 with ⟨_, h2⟩ | ⟨g, cap, cur, rfl, hb, hg, hnc, hcm, hsz, htk⟩
  · exact (h0 (List.length_eq_zero_iff.1 h2)).elim
  · refine .inr ⟨g, cap, rfl, h0, hnc, hcm, hb, own_sum_range h, fun j hj => ⟨?_, frozen_of_row w g _ cur _ hg⟩⟩
    rw [cell_of_row w g _ cur _ (0, 0) hg, Nat.zero_add, Array.getElem?_eq_getElem (by rw [hsz]; omega)]; rfl
theorem own_new' {w : World} {base : Nat} {v : Value} {l : List Sum} (h : w.ownsRow base 24 32 v l.length (cellsAll l)) (h0 : l = [] → v = .slice none 0 0) : SumsNew w base v l := by
  by_cases hl : l = []
  · exact .inl ⟨h0 hl, hl⟩
  · exact own_new h hl
theorem clip_sums (w : World) (base : Nat) (v : Value) (l : List Sum) (h : SumsNew w base v l) : Calls Tryz.prog 64 #[v] w fun e w' => ∃ v', e = .returned v' ∧ SumsNew w base v' l ∧ w = w' := by
  rcases h with ⟨rfl, rfl⟩ | ⟨g, cap, rfl, h0, h1, h2, h3, h4, h5⟩
  · go_enter Tryz.func64, Tryz.ntmps64
    go_wp2_with fail
    exact bodyPost_ret (results_tmp rfl _ _ _) rfl ⟨_, rfl, .inl ⟨rfl, rfl⟩, rfl⟩
  · have hn : SumsNew w base (.slice (some ⟨g, 0, none⟩) l.length l.length) l := .inr ⟨g, l.length, rfl, h0, Nat.le_refl _, by omega, h3, h4, fun j hj => h5 j (by omega)⟩
    have HN := Lib.hid hn; clear hn
    clear h4 h5
    obtain ⟨n, hn⟩ : ∃ n, n = l.length := ⟨_, rfl⟩
    rw [← hn] at HN h1 ⊢
    have HH := Lib.hid hn; clear hn
    have k1 : (n : Int) ≤ (cap : Int) := by omega
    unfold maxLen at h2
    go_enter Tryz.func64, Tryz.ntmps64
    go_wp2_with fail
    refine bodyPost_ret (results_tmp rfl _ _ _) rfl ?_
    exact ⟨_, rfl, HN.out, rfl⟩
end Go.Proofs.YtdkcndgehgmadaaGreatDoor
