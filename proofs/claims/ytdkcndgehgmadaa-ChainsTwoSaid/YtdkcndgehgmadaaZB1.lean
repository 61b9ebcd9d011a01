/-
  Merged: B1, B2, B3, B4, B5, B6.
-/
import Derived.Test.YtdkcndgehgmadaaF0
import Derived.Lib.AppendZeros
import Derived.Test.YtdkcndgehgmadaaG2
import Derived.Test.YtdkcndgehgmadaaE0
import Derived.Test.YtdkcndgehgmadaaF9
import Derived.Test.YtdkcndgehgmadaaG3
-- Walks: slices.Concat of any parts of bytes; leaves.Leaf.
open Go Go.RowKit Alm
namespace Go.Proofs.Ytdkcndgehgmadaa
/-- The sum of bytes, the leaf's sum: behind names that nothing opens. -/
noncomputable def sh : List UInt8 → Sum := Classical.choose (⟨sha, rfl⟩ : ∃ f : List UInt8 → Sum, f = sha)
theorem sh_eq : sh = sha := Classical.choose_spec (⟨sha, rfl⟩ : ∃ f : List UInt8 → Sum, f = sha)
noncomputable def lf : List UInt8 → Sum := Classical.choose (⟨fun l => sha (0 :: l), rfl⟩ : ∃ f : List UInt8 → Sum, f = fun l => sha (0 :: l))
theorem lf_eq : lf = fun l => sha (0 :: l) := Classical.choose_spec (⟨fun l => sha (0 :: l), rfl⟩ : ∃ f : List UInt8 → Sum, f = fun l => sha (0 :: l))
theorem sh_any (l : List UInt8) (v : Value) (w : World) (hv : BytesAt w v l) (hl : l.length < 72057594037927936) : Calls Try.prog 49 #[v] w fun e w' => e = .returned (sv (sh l)) ∧ Below w.heap.size w w' := by
  rw [sh_eq]; exact of_any l v w hv hl
/-- Parts of bytes in a row of slices. -/
def Parts2 (w : World) (b o : Nat) (vs : List Value) (ls : List (List UInt8)) : Prop :=
  w.rangeAt b o vs ∧ vs.length = ls.length ∧ ∀ j, j < ls.length → ∃ a n c, vs.getD j undef = .slice a n c ∧ n = (ls.getD j []).length ∧ n ≤ c ∧ (ls.getD j [] = [] ∨ ∃ b' o', a = some ⟨b', o', none⟩ ∧ w.rangeAt b' o' (cells8 (ls.getD j [])) ∧ b' < w.heap.size)
theorem parts2_cell {w : World} {b o : Nat} {vs : List Value} {ls : List (List UInt8)} (h : Parts2 w b o vs ls) {j : Nat} (hj : j < ls.length) : w.cell? ⟨b, o + j, none⟩ = some (vs.getD j undef) := by
  refine h.1 j _ ?_
  have : j < vs.length := by rw [h.2.1]; exact hj
  rw [List.getElem?_eq_getElem this]; simp [this]
theorem wpList_append_zero {w : World} {ops : Array Oper} {rest : List Oper} {o : Oper} {a : Act} {Q : Exit → Act → World → Prop} (hgd : o.guard = none) (s x : Operand)
    (ho : o.op = .call { callee := .builtin .append, args := #[s, x], argTypes := #[50, 50] })
    (base : Nat) (i : TypeInfo) (hi : Try.prog.info? 5 = some i)
    (v : Value) (n : Nat) (xs : List Value) (hs : a.eval s = v) (hown : w.ownsRow base 5 1 v n xs) (ad : Option Addr) (c : Nat) (hx : a.eval x = .slice ad 0 c)
    (h : wpList Try.prog ops Q rest (a.put o.dst v) w) : wpList Try.prog ops Q (o :: rest) a w := by
  refine wpList_plain hgd fun K hK => ?_
  have hrun : (Builtin.append_ #[50, 50] o.type #[v, .slice ad 0 c]).run Try.prog w = .ok v w := by
    rcases hown.2 with ⟨rfl, rfl⟩ | ⟨g, cap, cur, rfl, _, _, hnc, _⟩
    · cases ad <;> simp [Builtin.append_, run_underlying Try.underlying50, sizeOf, typeInfo, hi, Builtin.lenOf, Builtin.firstCells, loadCells, loadCellsFrom]
    · cases ad <;> simp [Builtin.append_, run_underlying Try.underlying50, sizeOf, typeInfo, hi, Builtin.lenOf, Builtin.firstCells, loadCells, loadCellsFrom, hnc, storeCells]
  unfold Oper.wp
  simp [execOp, ho, resolve, invoke, builtin, hs, hx, hrun, Result.andThen]
  exact hK _ _ h
set_option maxRecDepth 100000 in
theorem concat_all (vs : List Value) (ls : List (List UInt8)) (b o cap : Nat) (w : World) (h : Parts2 w b o vs ls) (hc : ls.length ≤ cap) (hk : ls.length ≤ 1000) (hpos : 1 ≤ ls.flatten.length) (hl : ls.flatten.length ≤ 140737488355328) :
    Calls Try.prog 70 #[.slice (some ⟨b, o, none⟩) ls.length cap] w fun e w' => ∃ v, e = .returned v ∧ BytesAt w' v ls.flatten ∧ Below w.heap.size w w' := by
  obtain ⟨k, hkk⟩ : ∃ k, k = ls.length := ⟨_, rfl⟩
  rw [← hkk] at hc hk ⊢
  have HK := Lib.hid hkk; clear hkk
  have HL := Lib.hid hl; clear hl
  have HP := Lib.hid hpos; clear hpos
  have hk' : (k : Int) ≤ 1000 := by omega
  go_enter Try.func70, Try.ntmps70
  go_wp2_with fail
  go_loopw [3, 11] (fun s i W => ∃ j : Nat, j ≤ k ∧ i = .int .i64 (j : Int) ∧ s = .int .i64 ((ls.take j).flatten.length : Int) ∧ Below w.heap.size w W) (fun _ i _ => k - (intOf i).toNat)
  case atStart => exact ⟨0, by omega, rfl, rfl, Below.refl _ _⟩
  case round =>
    obtain ⟨j, hj, rfl, rfl, hB⟩ := hrel
    by_cases hlt : j < k
    · have hlt' : (j : Int) < (k : Int) := by omega
      have hc0 := parts2_cell h (j := j) (by rw [← HK.out]; exact hlt)
      have hc1 : wr.cell? ⟨b, o + j, none⟩ = some (vs.getD j undef) := (hB.cell (p := ⟨b, o + j, none⟩) (World.block_lt_of_cell? w _ hc0)).trans hc0
      obtain ⟨a, n, c, hv, hn, hnc, -⟩ := h.2.2 j (by rw [← HK.out]; exact hlt)
      rw [hv] at hc1
      clear hc0 hv
      have hft := flat_take ls j (by rw [← HK.out]; exact hlt)
      have hfl := congrArg List.length hft
      rw [List.length_append, ← hn] at hfl
      have hle := flat_take_le ls (j + 1)
      have hmx := HL.out
      obtain ⟨s1, hs1⟩ : ∃ s, s = (ls.take j).flatten.length := ⟨_, rfl⟩
      obtain ⟨s2, hs2⟩ : ∃ s, s = (ls.take (j + 1)).flatten.length := ⟨_, rfl⟩
      rw [← hs1, ← hs2] at hfl
      rw [← hs2] at hle
      rw [← hs1]
      have hsum : IntKind.i64.wrap ((s1 : Int) + (n : Int)) = (s2 : Int) := by rw [IntKind.wrap_i64]; omega
      have HS2 := Lib.hid hs2
      clear hft hn hs1 hs2 hfl hle hmx
      go_wp2_with fail
      exact ⟨⟨j + 1, by omega, by simp, by rw [HS2.out], hB⟩, by simp [intOf]; omega⟩
    · have hjk : j = k := by omega
      subst hjk
      have htk : ls.take j = ls := List.take_of_length_le (by rw [HK.out]; exact Nat.le_refl _)
      rw [htk]
      obtain ⟨T, hT⟩ : ∃ T, T = ls.flatten.length := ⟨_, rfl⟩
      rw [← hT]
      have hT1 : 1 ≤ T := by rw [hT]; exact HP.out
      have hT2 : T ≤ 140737488355328 := by rw [hT]; exact HL.out
      have HT := Lib.hid hT; clear hT
      have Ht := Lib.hid htk; clear htk
      have G := Lib.hid (grow_any T wr hT1 hT2); clear hT1 hT2
      go_wp2_with fail
      refine G.out.mono ?_
      rintro e w1 ⟨v, rfl, ho1, hb1⟩
      obtain ⟨i0, hi0, hz0⟩ := Option.map_eq_some_iff.1 infoByteZ
      simp only [Prod.mk.injEq] at hz0
      have HI := Lib.hid hi0; clear hi0
      have HZ := Lib.hid hz0; clear hz0
      have hB1 : Below w.heap.size w w1 := hB.trans (hb1.mono hB.size)
      have ho1' : w1.ownsRow w.heap.size 5 1 v 0 [] := own_mono ho1 hB.size
      clear ho1 hb1 hB G
      go_wp2_with fail
      go_loopw [6, 27] (fun v i W => ∃ q : Nat, q ≤ j ∧ i = .int .i64 (q : Int) ∧ W.ownsRow w.heap.size 5 1 v (ls.take q).flatten.length (cells8 (ls.take q).flatten) ∧ Below w.heap.size w W) (fun _ i _ => j - (intOf i).toNat)
      case atStart => exact ⟨0, by omega, rfl, ho1', hB1⟩
      case round =>
        clear hB1 ho1'
        obtain ⟨q, hq, rfl, ho2, hB2⟩ := hrel
        by_cases hlt2 : q < j
        · have hlt' : (q : Int) < (j : Int) := by omega
          have hc0 := parts2_cell h (j := q) (by rw [← HK.out]; exact hlt2)
          have hc1 := (hB2.cell (p := ⟨b, o + q, none⟩) (World.block_lt_of_cell? w _ hc0)).trans hc0
          obtain ⟨a, n, c, hv, hn, hnc, hor⟩ := h.2.2 q (by rw [← HK.out]; exact hlt2)
          rw [hv] at hc1
          clear hc0 hv
          have hft := flat_take ls q (by rw [← HK.out]; exact hlt2)
          have hfl := congrArg List.length hft
          rw [List.length_append, ← hn] at hfl
          have hle := flat_take_le ls (q + 1)
          have hmx := HL.out
          have hnn : (ls.take q).flatten.length + n ≤ 140737488355328 := by omega
          have HN := Lib.hid hnn; clear hnn
          have HF := Lib.hid hft; clear hft
          have HFL := Lib.hid hfl; clear hfl
          have HNn := Lib.hid hn; clear hn
          clear hle hmx
          by_cases hn0 : n = 0
          · have hp0 : ls.getD q [] = [] := List.length_eq_zero_iff.1 (by rw [← HNn.out]; exact hn0)
            have hHF := HF.out
            rw [hp0, List.append_nil] at hHF
            have HHF := Lib.hid hHF; clear hHF hp0 hor
            subst hn0
            go_wp2_with (at_builtin; refine wpList_append_zero rfl _ _ rfl w.heap.size i0 HI.out _ _ _ rfl ho2 a c rfl ?_)
            exact ⟨⟨q + 1, by omega, by simp, by rw [HHF.out]; exact ho2, hB2⟩, by simp [intOf]; omega⟩
          · obtain ⟨b', o', rfl, hrg, hb'⟩ := hor.resolve_left (by intro h; rw [HNn.out, h] at hn0; exact hn0 rfl)
            have hrg' := range_below hB2 hrg hb'
            clear hrg
            go_wp2_with (at_builtin; refine wpList_append_own _ rfl _ _ _ rfl w.heap.size 5 i0 (.int .u8 0) 1 1 Try.underlying50 HI.out HZ.out.1 HZ.out.2.1 HZ.out.2.2 rfl (by decide) _ _ _ rfl ho2 ⟨b', o', none⟩ n c (cells8 (ls.getD q [])) rfl (by rw [length_cells8, HNn.out]; omega) (fun j u hj => by rw [Addr.add_mid]; exact hrg' j u hj) (oneCell_cells8 _) (by unfold maxLen; have := HN.out; omega) (by have := HN.out; omega) hB2.size ?_; intro v' w2 ho3 hg3 _)
            rw [← HFL.out, ← cells8_append, ← HF.out] at ho3
            exact ⟨⟨q + 1, by omega, by simp, ho3, hB2.grown hg3 hB2.size (own_base ho2)⟩, by simp [intOf]; omega⟩
        · have hqj : q = j := by omega
          subst hqj
          rw [Ht.out] at ho2
          go_wp2_with fail
          exact bodyPost_ret (results_tmp rfl _ _ _) rfl ⟨_, rfl, bytes_own ho2 HP.out, hB2⟩
theorem parts_two {w : World} {p q : Nat} (l : List UInt8) (v : Value) (hp : p < w.heap.size) (t : TypeId)
    (h1 : w.rangeAt p 0 (cells8 [0])) (h2 : BytesAt w v l) (hq : q = w.heap.size) :
    Parts2 (w.alloc (.cells #[.slice (some ⟨p, 0, none⟩) 1 1, v] t)) q 0 [.slice (some ⟨p, 0, none⟩) 1 1, v] [[0], l] := by
  subst hq
  have hB := al (Below.refl w.heap.size w) (.cells #[.slice (some ⟨p, 0, none⟩) 1 1, v] t)
  refine ⟨range_new _ _ _ _ rfl, rfl, fun j hj => ?_⟩
  have hj' : j < 2 := hj
  match j, hj' with
  | 0, _ => exact ⟨_, _, _, rfl, rfl, by decide, .inr ⟨p, 0, rfl, range_below hB h1 hp, by simp; omega⟩⟩
  | 1, _ =>
    obtain ⟨a, cap, rfl, h3, h4, h5⟩ := h2
    refine ⟨a, _, cap, rfl, by simp, h3, ?_⟩
    by_cases hl : l = []
    · exact .inl (by simpa using hl)
    · obtain ⟨b', o', rfl, hr⟩ := h5.resolve_left hl
      have hb' : b' < w.heap.size := range_lt hr (by intro h; have := length_cells8 l; rw [h] at this; exact hl (List.length_eq_zero_iff.1 this.symm))
      exact .inr ⟨b', o', rfl, by simpa using range_below hB hr hb', by simp; omega⟩
set_option maxRecDepth 100000 in
set_option maxHeartbeats 1000000 in
theorem lf_any (l : List UInt8) (v : Value) (w : World) (hv : BytesAt w v l) (hl : l.length < 140737488355000) : Calls Try.prog 48 #[v] w fun e w' => e = .returned (sv (lf l)) ∧ Below w.heap.size w w' := by
  obtain ⟨s, hsn⟩ : ∃ s, s = lf l := ⟨_, rfl⟩
  have hsf : sha [[0], l].flatten = s := by rw [hsn, lf_eq]; congr 1; simp
  rw [← hsn]
  have HSF := Lib.hid hsf; clear hsf hsn
  have R0 : Res w 32 (w.alloc (.cells (cells8 (List.replicate 32 0)).toArray 24)) := Res.start _ _ _ _ (by rfl)
  have HB0 := Lib.hid R0
  obtain ⟨ad, cap, rfl, h1, h2, h3⟩ := hv
  have HV := Lib.hid (show BytesAt w (.slice ad l.length cap) l from ⟨ad, cap, rfl, h1, h2, h3⟩)
  obtain ⟨n, hn⟩ : ∃ n, n = l.length := ⟨_, rfl⟩
  rw [← hn] at HV h1 ⊢
  have HN := Lib.hid (And.intro hn hl)
  clear hn hl h1 h2 h3 R0
  have z1 : (w.alloc (.cells (cells8 (List.replicate 32 0)).toArray 24)).heap.size = w.heap.size + 1 := Array.size_push _
  have z2 : ((w.alloc (.cells (cells8 (List.replicate 32 0)).toArray 24)).alloc (.cells #[.int .u8 0] 5)).heap.size = w.heap.size + 1 + 1 := by rw [World.size_alloc, z1]
  have hP := parts_two (w := (w.alloc (.cells (cells8 (List.replicate 32 0)).toArray 24)).alloc (.cells #[.int .u8 0] 5)) (p := w.heap.size + 1) (q := w.heap.size + 1 + 1) l (.slice ad n cap) (by rw [z2]; omega) 50
    (by rw [← z1]; exact range_new _ _ _ _ rfl) (bytes_below (bytes_below HV.out HB0.out.below (Nat.le_refl _)) (al (Below.refl _ _) _) (Nat.le_refl _)) z2.symm
  have hb3 : Below w.heap.size w (((w.alloc (.cells (cells8 (List.replicate 32 0)).toArray 24)).alloc (.cells #[.int .u8 0] 5)).alloc (.cells #[.slice (some ⟨w.heap.size + 1, 0, none⟩) 1 1, .slice ad n cap] 50)) := al (al HB0.out.below _) _
  have ht3 := World.there_alloc (World.there_alloc HB0.out.there (.cells #[.int .u8 0] 5)) (.cells #[.slice (some ⟨w.heap.size + 1, 0, none⟩) 1 1, .slice ad n cap] 50)
  have HPP := Lib.hid (And.intro hP (And.intro hb3 ht3))
  clear hP hb3 ht3 z1 z2 HB0 HV
  go_enter Try.func48, Try.ntmps48
  go_wp2_with fail
  change Calls _ _ _ (((w.alloc (.cells (cells8 (List.replicate 32 0)).toArray 24)).alloc (.cells #[.int .u8 0] 5)).alloc (.cells #[.slice (some ⟨w.heap.size + 1, 0, none⟩) 1 1, .slice ad n cap] 50)) _
  generalize (((w.alloc (.cells (cells8 (List.replicate 32 0)).toArray 24)).alloc (.cells #[.int .u8 0] 5)).alloc (.cells #[.slice (some ⟨w.heap.size + 1, 0, none⟩) 1 1, .slice ad n cap] 50)) = W at *
  refine (concat_all _ [[0], l] _ _ 2 W HPP.out.1 (by simp) (by simp) (by simp) (by have := HN.out.2; simp; omega)).mono ?_
  rintro e w1 ⟨v, rfl, hbv, hb⟩
  have hb1 := HPP.out.2.1.trans (hb.mono HPP.out.2.1.size)
  have ht1 := (Keeps.of_below (X := fun _ => False) hb).there HPP.out.2.2 (by decide) (fun h => h)
  have HH := Lib.hid (And.intro hbv (And.intro hb1 ht1))
  clear hb hbv hb1 ht1 HPP
  go_wp2_with fail
  refine (of_any _ _ _ HH.out.1 (by have := HN.out.2; simp; omega)).mono ?_
  rw [HSF.out]
  rintro e w2 ⟨rfl, hb⟩
  have hb2 := HH.out.2.1.trans (hb.mono HH.out.2.1.size)
  have ht2 := (Keeps.of_below (X := fun _ => False) hb).there HH.out.2.2 (by decide) (fun h => h)
  have HT := Lib.hid ht2
  have HB := Lib.hid hb2
  clear hb ht2 hb2 HH
  go_wp2_with (refine wpList_store_sum rfl _ _ rfl w.heap.size 0 s rfl rfl HT.out ?_)
  exact bodyPost_ret (results_sum Try.results48 _ _ _ _ rfl (World.there_setCells HT.out _ _ _)) rfl ⟨rfl, setCells_below _ (Nat.le_refl _) _ _ _ _ HB.out⟩
end Go.Proofs.Ytdkcndgehgmadaa
-- Walks: lists of bytes: bytes.Equal, clashes.same, clashes.sums, clashes.root.
open Go Go.RowKit Alm
namespace Go.Proofs.Ytdkcndgehgmadaa
theorem bytesOf_nums (l : List UInt8) : Lib.bytesOf (l.map fun x => ((x.toNat : Nat) : Int)) = l := by
  unfold Lib.bytesOf
  rw [List.map_map]
  conv => rhs; rw [← List.map_id l]
  apply List.map_congr_left
  intro x _
  simp
theorem bytes_in {w : World} {a : Option Addr} {c : Nat} {l : List UInt8} (h : BytesAt w (.slice a l.length c) l) : Lib.BytesIn w a l.length (l.map fun x => ((x.toNat : Nat) : Int)) := by
  obtain ⟨a', cap, he, h1, h2, h3⟩ := h
  by_cases hl : l = []
  · subst hl; exact Lib.BytesIn.nil _ _ _
  · obtain ⟨b, o, rfl, hr⟩ := h3.resolve_left hl
    simp only [Value.slice.injEq] at he
    rw [he.1]
    refine Lib.BytesIn.of_cells fun i hi => ?_
    rw [Addr.add_mid]
    refine hr i _ ?_
    simp [cells8, u8v, hi]
theorem eqb_any (a b : List UInt8) (va vb : Value) (w : World) (ha : BytesAt w va a) (hb : BytesAt w vb b) : Calls Try.prog 90 #[va, vb] w fun e w' => e = .returned (.bool (decide (a = b))) ∧ w = w' := by
  obtain ⟨aa, ca, rfl, a1, a2, a3⟩ := ha
  obtain ⟨ab, cb, rfl, b1, b2, b3⟩ := hb
  refine (Try.bytes_Equal_all aa ab a.length ca b.length cb _ _ w (by simp) (by simp) (bytes_in ⟨aa, ca, rfl, a1, a2, a3⟩) (bytes_in ⟨ab, cb, rfl, b1, b2, b3⟩)).mono ?_
  rintro e w' ⟨rfl, rfl⟩
  rw [bytesOf_nums, bytesOf_nums]
  have : (a == b) = decide (a = b) := by by_cases h : a = b <;> simp [h]
  rw [this]
  exact ⟨rfl, rfl⟩
/-- A list of lists of bytes. -/
def ListsAt (w : World) (v : Value) (ls : List (List UInt8)) : Prop :=
  ∃ a cap, v = .slice a ls.length cap ∧ ls.length ≤ cap ∧ cap ≤ maxLen ∧ (ls = [] ∨ ∃ b o, a = some ⟨b, o, none⟩ ∧ ∀ j (h : j < ls.length), ∃ u, w.cell? ⟨b, o + j, none⟩ = some u ∧ BytesAt w u ls[j])
theorem ListsAt.below {w w' : World} {v : Value} {ls : List (List UInt8)} (h : ListsAt w v ls) (hb : Below w.heap.size w w') : ListsAt w' v ls := by
  obtain ⟨a, cap, hv, h1, h2, h3⟩ := h
  refine ⟨a, cap, hv, h1, h2, ?_⟩
  rcases h3 with h3 | ⟨b, o, ha, h3⟩
  · exact .inl h3
  · refine .inr ⟨b, o, ha, fun j hj => ?_⟩
    obtain ⟨u, hc, hu⟩ := h3 j hj
    exact ⟨u, (hb.cell (p := ⟨b, o + j, none⟩) (World.block_lt_of_cell? w _ hc)).trans hc, bytes_below hu hb (Nat.le_refl _)⟩
theorem ListsAt.cell {w : World} {b o n cap : Nat} {sp : Option Nat} {ls : List (List UInt8)} (h : ListsAt w (.slice (some ⟨b, o, none⟩) n cap) ls) {j : Nat} (hj : j < ls.length) : ∃ u, w.cell? ⟨b, o + j, none⟩ = some u ∧ BytesAt w u ls[j] := by
  obtain ⟨a, c, hv, h1, h2, h3⟩ := h
  have h0 : ls ≠ [] := by intro h; rw [h] at hj; simp at hj
  obtain ⟨b', o', ha, h4⟩ := h3.resolve_left h0
  subst ha
  simp only [Value.slice.injEq, Option.some.injEq, Addr.mk.injEq, and_true] at hv
  obtain ⟨⟨rfl, rfl⟩, _, _⟩ := hv
  exact h4 j hj
theorem ListsAt.form {w : World} {v : Value} {ls : List (List UInt8)} (h : ListsAt w v ls) (h0 : ls ≠ []) : ∃ b o cap, v = .slice (some ⟨b, o, none⟩) ls.length cap ∧ ls.length ≤ cap ∧ cap ≤ maxLen := by
  obtain ⟨a, cap, hv, h1, h2, h3⟩ := h
  obtain ⟨b, o, rfl, _⟩ := h3.resolve_left h0
  exact ⟨b, o, cap, hv, h1, h2⟩
set_option maxRecDepth 100000 in
set_option maxHeartbeats 1000000 in
theorem equalFunc_any (a b : List (List UInt8)) (va vb : Value) (w : World) (ha : ListsAt w va a) (hb : ListsAt w vb b) (hn : a.length < 4000000000) : Calls Try.prog 114 #[va, vb, .func (.func 90) #[] #[]] w fun e w' => e = .returned (.bool (decide (a = b))) ∧ w = w' := by
  have HA := Lib.hid ha
  have HB := Lib.hid hb
  obtain ⟨aa, ca, rfl, a1, a2, a3⟩ := ha
  obtain ⟨ab, cb, rfl, b1, b2, b3⟩ := hb
  clear a3 b3
  obtain ⟨n, hna⟩ : ∃ n, n = a.length := ⟨_, rfl⟩
  obtain ⟨m, hmb⟩ : ∃ n, n = b.length := ⟨_, rfl⟩
  rw [← hna] at HA a1 hn ⊢
  rw [← hmb] at HB b1 ⊢
  have HN := Lib.hid (And.intro hna hmb)
  clear hna hmb
  by_cases hnm : n = m
  · subst hnm
    go_enter Try.func114, Try.ntmps114
    go_wp2_with fail
    go_loopw [17] (fun i W => ∃ j : Nat, j ≤ n ∧ i = .int .i64 (j : Int) ∧ a.take j = b.take j ∧ W = w) (fun i _ => n - (intOf i).toNat)
    case atStart => exact ⟨0, by omega, rfl, rfl, rfl⟩
    case round =>
      obtain ⟨j, hj, rfl, ht, hW⟩ := hrel
      have hW := hW.symm
      subst hW
      have HT := Lib.hid ht; clear ht
      by_cases hlt : j < n
      · have hlt' : (j : Int) < (n : Int) := by omega
        have ha0 : a ≠ [] := by intro h; have := HN.out.1; rw [h] at this; simp at this; omega
        have hb0 : b ≠ [] := by intro h; have := HN.out.2; rw [h] at this; simp at this; omega
        obtain ⟨b1', o1', c1', he1, _, _⟩ := HA.out.form ha0
        obtain ⟨b2', o2', c2', he2, _, _⟩ := HB.out.form hb0
        simp only [Value.slice.injEq] at he1 he2
        obtain ⟨rfl, h9, rfl⟩ := he1
        clear h9
        obtain ⟨rfl, h9, rfl⟩ := he2
        clear h9
        obtain ⟨u1, hc1, hu1⟩ := HA.out.cell (sp := none) (j := j) (by have := HN.out.1; omega)
        obtain ⟨u2, hc2, hu2⟩ := HB.out.cell (sp := none) (j := j) (by have := HN.out.2; omega)
        have HU := Lib.hid (And.intro hu1 hu2)
        have HE := Lib.hid (And.intro (List.getElem?_eq_getElem (l := a) (i := j) (by have := HN.out.1; omega)) (List.getElem?_eq_getElem (l := b) (i := j) (by have := HN.out.2; omega)))
        clear hu1 hu2 ha0 hb0
        have hj0 : (0 : Int) ≤ (j : Int) := by omega
        generalize a[j]'_ = x at *
        generalize b[j]'_ = y at *
        go_wp2_with fail
        refine (eqb_any x y u1 u2 w HU.out.1 HU.out.2).mono ?_
        rintro e w1 ⟨rfl, rfl⟩
        by_cases hxy : x = y
        · rw [decide_eq_true hxy]
          have ht2 : a.take (j + 1) = b.take (j + 1) := by rw [List.take_add_one, List.take_add_one, HT.out, HE.out.1, HE.out.2, hxy]
          have HT2 := Lib.hid ht2
          clear ht2 hxy
          go_wp2_with fail
          exact ⟨⟨j + 1, by omega, by simp, HT2.out, trivial⟩, by simp [intOf]; omega⟩
        · rw [decide_eq_false hxy]
          have hne : ¬ a = b := by
            intro h
            have h1 := HE.out.1
            rw [h, HE.out.2] at h1
            exact hxy (Option.some.inj h1).symm
          have HNE := Lib.hid hne
          clear hxy hne
          go_wp2_with fail
          exact bodyPost_ret (results_tmp rfl _ _ _) rfl ⟨by rw [decide_eq_false HNE.out]; rfl, rfl⟩
      · have hjn : j = n := by omega
        have hab : a = b := by
          have h1 := HT.out
          rw [List.take_of_length_le (by have := HN.out.1; omega), List.take_of_length_le (by have := HN.out.2; omega)] at h1
          exact h1
        have HAB := Lib.hid hab
        clear hab
        subst hjn
        go_wp2_with fail
        exact bodyPost_ret (results_tmp rfl _ _ _) rfl ⟨by rw [decide_eq_true HAB.out]; rfl, rfl⟩
  · have hnm' : ((n : Int) == (m : Int)) = false := by rw [beq_eq_false_iff_ne]; omega
    have hne : ¬ a = b := by
      intro h
      have h1 := HN.out.1
      rw [h, ← HN.out.2] at h1
      exact hnm h1
    have HNE := Lib.hid hne
    clear hne
    go_enter Try.func114, Try.ntmps114
    go_wp2_with fail
    exact bodyPost_ret (results_tmp rfl _ _ _) rfl ⟨by rw [decide_eq_false HNE.out]; rfl, rfl⟩
theorem same_any (a b : List (List UInt8)) (va vb : Value) (w : World) (ha : ListsAt w va a) (hb : ListsAt w vb b) (hn : a.length < 4000000000) : Calls Try.prog 91 #[va, vb] w fun e w' => e = .returned (.bool (decide (a = b))) ∧ w = w' := by
  go_enter Try.func91, Try.ntmps91
  go_wp2_with fail
  refine (equalFunc_any a b va vb w ha hb hn).mono ?_
  rintro e w1 ⟨rfl, rfl⟩
  go_wp2_with fail
  exact bodyPost_ret (results_tmp rfl _ _ _) rfl ⟨rfl, rfl⟩
set_option maxRecDepth 100000 in
set_option maxHeartbeats 1000000 in
theorem csums_any (ls : List (List UInt8)) (v : Value) (w : World) (hv : ListsAt w v ls) (hn : ls.length < 1000000) (hs : ∀ x ∈ ls, x.length < 1000000) : Calls Try.prog 115 #[v] w fun e w' => ∃ u, e = .returned u ∧ SumsAt w' u (ls.map lf) ∧ Below w.heap.size w w' := by
  have HV := Lib.hid hv
  obtain ⟨aa, ca, rfl, a1, a2, a3⟩ := hv
  clear a3
  obtain ⟨n, hna⟩ : ∃ n, n = ls.length := ⟨_, rfl⟩
  rw [← hna] at HV a1 hn ⊢
  have HN := Lib.hid (And.intro hna hs)
  clear hna hs
  go_enter Try.func115, Try.ntmps115
  go_wp2_with fail
  go_loopw [2, 7] (fun out i W => ∃ j : Nat, j ≤ n ∧ i = .int .i64 (j : Int) ∧ W.ownsRow w.heap.size 24 32 out j (cellsAll ((ls.take j).map lf)) ∧ (j = 0 → out = .slice none 0 0) ∧ Below w.heap.size w W) (fun _ i _ => n - (intOf i).toNat)
  case atStart => exact ⟨0, by omega, rfl, World.ownsRow_nil _ _ _ _, fun _ => rfl, Below.refl _ _⟩
  case round =>
    obtain ⟨j, hj, rfl, ho, hnil, hB⟩ := hrel
    have HO := Lib.hid ho; clear ho
    have HNIL := Lib.hid hnil; clear hnil
    have HB := Lib.hid hB; clear hB
    by_cases hlt : j < n
    · have hlt' : (j : Int) < (n : Int) := by omega
      have h0 : ls ≠ [] := by intro h; have := HN.out.1; rw [h] at this; simp at this; omega
      have HW := Lib.hid (HV.out.below HB.out)
      obtain ⟨b1', o1', c1', he1, _, _⟩ := HV.out.form h0
      simp only [Value.slice.injEq] at he1
      obtain ⟨rfl, h9, rfl⟩ := he1
      clear h9
      obtain ⟨u1, hc1, hu1⟩ := HW.out.cell (sp := none) (j := j) (by have := HN.out.1; omega)
      have hjl : j < ls.length := by have := HN.out.1; omega
      have hx9 : ls[j].length < 1000000 := HN.out.2 _ (List.getElem_mem hjl)
      have hstep : (ls.take (j + 1)).map lf = (ls.take j).map lf ++ [lf ls[j]] := by rw [List.take_succ_eq_append_getElem hjl, List.map_append]; rfl
      have HST := Lib.hid hstep
      have HU := Lib.hid (And.intro hu1 hx9)
      clear hu1 hstep hx9 h0
      generalize ls[j] = x at *
      have hj0 : (0 : Int) ≤ (j : Int) := by omega
      clear hjl
      have hml : ((ls.take j).map lf).length = j := by rw [List.length_map, List.length_take]; have := HN.out.1; omega
      have HML := Lib.hid hml; clear hml
      go_wp2_with fail
      refine (lf_any x u1 wr HU.out.1 (by have := HU.out.2; omega)).mono ?_
      rintro e2 w2 ⟨rfl, hb2⟩
      have HB2 := Lib.hid (HB.out.trans (hb2.mono HB.out.size))
      have HO2 := Lib.hid ((Keeps.of_below (X := fun _ => False) hb2).owns HO.out (fun _ _ h => h))
      generalize lf x = y at *
      clear hb2 HB HO HU HW
      generalize (ls.take j).map lf = acc at *
      have HB3 := Lib.hid (HB2.out.alloc HB2.out.size (.cells (cellsAll [y]).toArray 24))
      have HX3 : Hid ((w2.alloc (.cells (cellsAll [y]).toArray 24)).rangeAt w2.heap.size 0 (cellsAll [y])) := range_new w2 _ _ _ rfl
      go_wp2_with (first
        | (refine wpList_build_sums rfl 1 _ rfl [y] rfl (by omega) (by omega) rfl ?_)
        | (at_builtin; refine wpList_append_sums rfl _ _ rfl w.heap.size _ acc [y] j 1 HML.out rfl (by rfl) (HO2.out.alloc _) w2.heap.size 0 1 rfl HX3.out (by omega) (by omega) HB3.out.size ?_; intro g4 c4 w4 ho4 hg4 hat4 hlt4))
      have HB4 := Lib.hid (HB3.out.grown hg4 HB3.out.size (fun k hk => (HO2.out.lt k hk).1))
      exact ⟨⟨j + 1, by omega, by simp, by rw [HST.out]; exact ho4, by omega, HB4.out⟩, by simp [intOf]; omega⟩
    · have hjn : j = n := by omega
      subst hjn
      have htk : ls.take j = ls := List.take_of_length_le (by rw [HN.out.1]; exact Nat.le_refl _)
      have ho := HO.out
      rw [htk] at ho
      have hml : (ls.map lf).length = j := by rw [List.length_map, ← HN.out.1]
      rw [← hml] at ho
      have HSN := Lib.hid (own_new' ho (fun h => HNIL.out (by rw [← hml, h]; rfl)))
      clear htk ho hml HO
      go_wp2_with fail
      refine bodyPost_ret (results_tmp rfl _ _ _) rfl ?_
      exact ⟨_, rfl, HSN.out.sums, HB.out⟩
theorem croot_any (ls : List (List UInt8)) (v : Value) (w : World) (hv : ListsAt w v ls) (hn : ls.length < 1000000) (hs : ∀ x ∈ ls, x.length < 1000000) : Calls Try.prog 92 #[v] w fun e w' => e = .returned (sv (rt (ls.map lf))) ∧ Below w.heap.size w w' := by
  have R0 : Res w 32 (w.alloc (.cells (cells8 (List.replicate 32 0)).toArray 24)) := Res.start _ _ _ _ (by rfl)
  have HC := Lib.hid (csums_any ls v _ (hv.below R0.below) hn hs)
  obtain ⟨s, hsr⟩ : ∃ s, s = rt (ls.map lf) := ⟨_, rfl⟩
  rw [← hsr]
  have HSR := Lib.hid hsr; clear hsr
  have HR := Lib.hid R0
  clear R0 hv hn hs
  go_enter Try.func92, Try.ntmps92
  go_wp2_with fail
  refine HC.out.mono ?_
  rintro e w1 ⟨u, rfl, hu, hb⟩
  have hb1 := HR.out.below.trans (hb.mono HR.out.below.size)
  have ht1 := (Keeps.of_below (X := fun _ => False) hb).there HR.out.there (by decide) (fun h => h)
  have HH := Lib.hid (And.intro hu (And.intro hb1 ht1))
  clear hu hb hb1 ht1 HR HC
  go_wp2_with fail
  refine (rt_any _ u w1 HH.out.1).mono ?_
  rw [← HSR.out]
  rintro e w2 ⟨rfl, hb⟩
  have HT := Lib.hid ((Keeps.of_below (X := fun _ => False) hb).there HH.out.2.2 (by decide) (fun h => h))
  have HB := Lib.hid (HH.out.2.1.trans (hb.mono HH.out.2.1.size))
  clear hb HH
  go_wp2_with (refine wpList_store_sum rfl _ _ rfl w.heap.size 0 s rfl rfl HT.out ?_)
  exact bodyPost_ret (results_sum Try.results92 _ _ _ _ rfl (World.there_setCells HT.out _ _ _)) rfl ⟨rfl, setCells_below _ (Nat.le_refl _) _ _ _ _ HB.out⟩
end Go.Proofs.Ytdkcndgehgmadaa
-- Walks: clashes.Is.
open Go Go.RowKit Alm
namespace Go.Proofs.Ytdkcndgehgmadaa
/-- A clash, as a value; in a variable. -/
abbrev cv (va vb : Value) : Value := .agg #[va, vb]
def TwoAt (W : World) (z : Nat) (va vb : Value) : Prop := W.cell? ⟨z, 0, none⟩ = some va ∧ W.cell? ⟨z, 1, none⟩ = some vb
theorem TwoAt.below {W W' : World} {z : Nat} {va vb : Value} (h : TwoAt W z va vb) (hb : Below W.heap.size W W') : TwoAt W' z va vb :=
  ⟨(hb.cell (p := ⟨z, 0, none⟩) (World.block_lt_of_cell? W _ h.1)).trans h.1, (hb.cell (p := ⟨z, 1, none⟩) (World.block_lt_of_cell? W _ h.2)).trans h.2⟩
theorem two_new (w : World) (va vb : Value) (t : TypeId) : TwoAt (w.alloc (.cells #[va, vb] t)) w.heap.size va vb := by
  have h := range_new w #[va, vb] t _ rfl
  exact ⟨h 0 _ rfl, h 1 _ rfl⟩
/-- Is that a clash? -/
noncomputable def isB (a b : List UInt8) : Bool := !decide (a = b) && decide (sh a = sh b)
set_option maxRecDepth 100000 in
set_option maxHeartbeats 1000000 in
theorem is_any (a b : List UInt8) (va vb : Value) (w : World) (ha : BytesAt w va a) (hb : BytesAt w vb b) (hla : a.length < 1000000) (hlb : b.length < 1000000) : Calls Try.prog 51 #[cv va vb] w fun e w' => e = .returned (.bool (isB a b)) ∧ Below w.heap.size w w' := by
  have hb0 := al (Below.refl _ w) (.cells #[va, vb] 75)
  have HB0 := Lib.hid hb0
  have HT := Lib.hid (two_new w va vb 75)
  have HA := Lib.hid (bytes_below ha hb0 (Nat.le_refl _))
  have HBB := Lib.hid (bytes_below hb hb0 (Nat.le_refl _))
  have HLL := Lib.hid (And.intro hla hlb)
  clear ha hb hla hlb hb0
  go_enter Try.func51, Try.ntmps51
  go_wp2_with fail
  obtain ⟨z, hz⟩ : ∃ z, z = w.heap.size := ⟨_, rfl⟩
  rw [← hz] at HT ⊢
  clear hz
  generalize w.alloc (.cells #[va, vb] 75) = W at *
  refine wp_region_sched (fun V => V.cell? ⟨z, 0, none⟩ = some va ∧ V.cell? ⟨z, 1, none⟩ = some vb ∧ Below W.heap.size W V) [.t 0, .t 2, .s 1, .e 3 true, .e 4 true, .t 5, .t 6, .t 7, .t 10, .s 8, .s 11, .e 9 true, .e 12 true, .t 13, .t 14, .t 15] (by kernel_rfl) (by kernel_rfl) (by intro c a d v w h; cases d <;> exact h) ?_
  have HSS : Hid (∀ V, Below W.heap.size W V → V.cell? ⟨z, 0, none⟩ = some va ∧ V.cell? ⟨z, 1, none⟩ = some vb ∧ Below W.heap.size W V) := Lib.hid (fun V hV => ⟨(HT.out.below hV).1, (HT.out.below hV).2, hV⟩)
  have HS := Lib.hid (Below.refl W.heap.size W).drew
  generalize W.drew = V at *
  iterate 2
    refine wpS_t rfl (v := ?_) (by rfl) (fun W => ?_) ?_
    rotate_left
    · go_simp
      try rfl
    try simp only [Act.put, List.setIfInBounds_toArray, List.set_cons_zero, List.set_cons_succ]
  refine wpS_s (by exact HSS.out _ HS.out) rfl (v := ?_) (by rfl) (fun W hSW => ?_) ?_
  rotate_left
  · go_simp
    try rfl
  try simp only [Act.put, List.setIfInBounds_toArray, List.set_cons_zero, List.set_cons_succ]
  have g := (HSS.out _ HS.out).2.1
  refine wpS_k rfl (by rfl) (fun K hK => ?_)
  go_simp
  refine hK _ _ ⟨by exact HSS.out _ HS.out, ?_⟩; clear hK K
  try simp only [Act.put, List.setIfInBounds_toArray, List.set_cons_zero, List.set_cons_succ]
  clear g
  refine wpS_k rfl (by rfl) (fun K hK => ?_)
  go_simp
  refine (eqb_any a b va vb V (bytes_below HA.out HS.out (Nat.le_refl _)) (bytes_below HBB.out HS.out (Nat.le_refl _))).mono ?_
  rintro e V1 ⟨rfl, rfl⟩
  refine hK _ _ ⟨by exact HSS.out _ HS.out, ?_⟩; clear hK K
  try simp only [Act.put, List.setIfInBounds_toArray, List.set_cons_zero, List.set_cons_succ]
  by_cases hab : a = b
  · rw [decide_eq_true hab]
    have HF : Hid (isB a b = false) := Lib.hid (by unfold isB; rw [decide_eq_true hab]; rfl)
    clear hab
    iterate 2
      refine wpS_t rfl (v := ?_) (by rfl) (fun W => ?_) ?_
      rotate_left
      · go_simp
        try rfl
      try simp only [Act.put, List.setIfInBounds_toArray, List.set_cons_zero, List.set_cons_succ]
    iterate 2
      refine wpS_t_skip rfl (by rfl) ?_
      try simp only [Act.put, List.setIfInBounds_toArray, List.set_cons_zero, List.set_cons_succ]
    iterate 2
      refine wpS_s_skip (by exact HSS.out _ HS.out) rfl (by rfl) ?_
      try simp only [Act.put, List.setIfInBounds_toArray, List.set_cons_zero, List.set_cons_succ]
    refine wpS_k_skip (by exact HSS.out _ HS.out) rfl (by rfl) ?_
    try simp only [Act.put, List.setIfInBounds_toArray, List.set_cons_zero, List.set_cons_succ]
    refine wpS_k_skip (by exact HSS.out _ HS.out) rfl (by rfl) ?_
    try simp only [Act.put, List.setIfInBounds_toArray, List.set_cons_zero, List.set_cons_succ]
    iterate 1
      refine wpS_t_skip rfl (by rfl) ?_
      try simp only [Act.put, List.setIfInBounds_toArray, List.set_cons_zero, List.set_cons_succ]
    iterate 2
      refine wpS_t rfl (v := ?_) (by rfl) (fun W => ?_) ?_
      rotate_left
      · go_simp
        try rfl
      try simp only [Act.put, List.setIfInBounds_toArray, List.set_cons_zero, List.set_cons_succ]
    refine wpS_done ?_
    go_wp2_with fail
    exact bodyPost_ret (results_tmp rfl _ _ _) rfl ⟨by rw [HF.out]; rfl, HB0.out.trans (HS.out.mono HB0.out.size)⟩
  · rw [decide_eq_false hab]
    obtain ⟨s, hs⟩ : ∃ s, s = sh a := ⟨_, rfl⟩
    obtain ⟨t, ht⟩ : ∃ s, s = sh b := ⟨_, rfl⟩
    have HF : Hid (isB a b = decide (s = t)) := Lib.hid (by unfold isB; rw [decide_eq_false hab, hs, ht]; rfl)
    have HSA := Lib.hid hs
    have HSB := Lib.hid ht
    clear hab hs ht
    iterate 4
      refine wpS_t rfl (v := ?_) (by rfl) (fun W => ?_) ?_
      rotate_left
      · go_simp
        try rfl
      try simp only [Act.put, List.setIfInBounds_toArray, List.set_cons_zero, List.set_cons_succ]
    refine wpS_s (by exact HSS.out _ HS.out) rfl (v := ?_) (by rfl) (fun W hSW => ?_) ?_
    rotate_left
    · go_simp
      try rfl
    try simp only [Act.put, List.setIfInBounds_toArray, List.set_cons_zero, List.set_cons_succ]
    refine wpS_s (by exact HSS.out _ HS.out) rfl (v := ?_) (by rfl) (fun W hSW => ?_) ?_
    rotate_left
    · go_simp
      try rfl
    try simp only [Act.put, List.setIfInBounds_toArray, List.set_cons_zero, List.set_cons_succ]
    refine wpS_k rfl (by rfl) (fun K hK => ?_)
    go_simp
    refine (sh_any a va V (bytes_below HA.out HS.out (Nat.le_refl _)) (by have := HLL.out.1; omega)).mono ?_
    rw [← HSA.out]
    rintro e V ⟨rfl, hb⟩
    replace HS := Lib.hid (HS.out.trans (hb.mono HS.out.size)); clear hb
    refine hK _ _ ⟨by exact HSS.out _ HS.out, ?_⟩; clear hK K
    try simp only [Act.put, List.setIfInBounds_toArray, List.set_cons_zero, List.set_cons_succ]
    refine wpS_k rfl (by rfl) (fun K hK => ?_)
    go_simp
    refine (sh_any b vb V (bytes_below HBB.out HS.out (Nat.le_refl _)) (by have := HLL.out.2; omega)).mono ?_
    rw [← HSB.out]
    rintro e V ⟨rfl, hb⟩
    replace HS := Lib.hid (HS.out.trans (hb.mono HS.out.size)); clear hb
    refine hK _ _ ⟨by exact HSS.out _ HS.out, ?_⟩; clear hK K
    try simp only [Act.put, List.setIfInBounds_toArray, List.set_cons_zero, List.set_cons_succ]
    have heq := eq_sums s t
    iterate 3
      refine wpS_t rfl (v := ?_) (by rfl) (fun W => ?_) ?_
      rotate_left
      · go_simp
        try rfl
      try simp only [Act.put, List.setIfInBounds_toArray, List.set_cons_zero, List.set_cons_succ]
    refine wpS_done ?_
    go_wp2_with fail
    exact bodyPost_ret (results_tmp rfl _ _ _) rfl ⟨by rw [HF.out]; rfl, HB0.out.trans (HS.out.mono HB0.out.size)⟩
end Go.Proofs.Ytdkcndgehgmadaa
-- Walks: almonerlaw01.SameBytes.
open Go Go.RowKit Alm
namespace Go.Proofs.Ytdkcndgehgmadaa
set_option maxRecDepth 100000 in
set_option maxHeartbeats 1000000 in
theorem same_bytes (a b : List UInt8) (va vb : Value) (w : World) (ha : BytesAt w va a) (hb : BytesAt w vb b) : Calls Try.prog 52 #[va, vb] w fun e w' => e = .returned (.bool (decide (a = b))) ∧ Below w.heap.size w w' := by
  obtain ⟨aa, ca, rfl, ha1, ha2, ha3⟩ := ha
  obtain ⟨ab, cb, rfl, hb1, hb2, hb3⟩ := hb
  obtain ⟨n, hn⟩ : ∃ n, n = a.length := ⟨_, rfl⟩
  obtain ⟨m, hm⟩ : ∃ m, m = b.length := ⟨_, rfl⟩
  rw [← hn] at ha1 ⊢
  rw [← hm] at hb1 ⊢
  have HN := Lib.hid hn; clear hn
  have HM := Lib.hid hm; clear hm
  unfold maxLen at ha2 hb2
  have hn63 : (n : Int) < 9223372036854775808 := by omega
  by_cases hnm : n = m
  · subst hnm
    have hne : ((n : Int) != (n : Int)) = false := by simp
    have hq : decide (a = b) = decide (∀ j, j < n → a[j]? = b[j]?) := by
      rw [decide_eq_decide]
      constructor
      · rintro rfl j _; rfl
      · intro h
        refine List.ext_getElem? fun j => ?_
        by_cases hj : j < n
        · exact h j hj
        · rw [List.getElem?_eq_none (by rw [← HN.out]; omega), List.getElem?_eq_none (by rw [← HM.out]; omega)]
    obtain ⟨r, hr⟩ : ∃ r, r = decide (a = b) := ⟨_, rfl⟩
    rw [← hr] at hq ⊢
    have HQ := Lib.hid hq; clear hq hr
    go_enter Try.func52, Try.ntmps52
    go_wp2_with fail
    go_loopw [5] (fun i W => ∃ j : Nat, j ≤ n ∧ i = .int .i64 (j : Int) ∧ (∀ k, k < j → a[k]? = b[k]?) ∧ Below w.heap.size w W) (fun i _ => n - (intOf i).toNat)
    case atStart => exact ⟨0, by omega, rfl, fun k hk => by omega, Below.refl _ _⟩
    case round =>
      obtain ⟨j, hj, rfl, hall, hB⟩ := hrel
      have HA := Lib.hid hall; clear hall
      by_cases hlt : j < n
      · have hlt' : (j : Int) < (n : Int) := by omega
        have hj0 : (0 : Int) ≤ (j : Int) := by omega
        have hna : a ≠ [] := by intro h; have := HN.out; rw [h] at this; simp at this; omega
        have hnb : b ≠ [] := by intro h; have := HM.out; rw [h] at this; simp at this; omega
        obtain ⟨ba, oa, rfl, hra⟩ := ha3.resolve_left hna
        obtain ⟨bb, ob, rfl, hrb⟩ := hb3.resolve_left hnb
        have hja : j < a.length := by have := HN.out; omega
        have hjb : j < b.length := by have := HM.out; omega
        have hca : w.cell? ⟨ba, oa + j, none⟩ = some (.int .u8 ((a[j].toNat : Nat) : Int)) := hra j _ (by simp [cells8, u8v, hja])
        have hcb : w.cell? ⟨bb, ob + j, none⟩ = some (.int .u8 ((b[j].toNat : Nat) : Int)) := hrb j _ (by simp [cells8, u8v, hjb])
        have HXA := Lib.hid ((hB.drew.cell (p := ⟨ba, oa + j, none⟩) (World.block_lt_of_cell? w _ hca)).trans hca)
        have HXB := Lib.hid ((hB.drew.cell (p := ⟨bb, ob + j, none⟩) (World.block_lt_of_cell? w _ hcb)).trans hcb)
        have HGA := Lib.hid (List.getElem?_eq_getElem hja)
        have HGB := Lib.hid (List.getElem?_eq_getElem hjb)
        have hxy : a[j] = b[j] ↔ a[j].toNat = b[j].toNat := by rw [UInt8.toNat_inj]
        have HXY := Lib.hid hxy
        clear hxy hca hcb
        generalize a[j] = x at *
        generalize b[j] = y at *
        clear hra hrb hja hjb ha3 hb3
        have hp9 := x.toNat_lt
        have hq9 := y.toNat_lt
        obtain ⟨p, hp⟩ : ∃ p, p = x.toNat := ⟨_, rfl⟩
        obtain ⟨q, hq⟩ : ∃ p, p = y.toNat := ⟨_, rfl⟩
        rw [← hp] at HXA HXY
        rw [← hq] at HXB HXY
        clear hp hq hp9 hq9
        go_wp2_with fail
        refine wp_region_sched (fun W => W.cell? ⟨ba, oa + j, none⟩ = some (.int .u8 (p : Int)) ∧ W.cell? ⟨bb, ob + j, none⟩ = some (.int .u8 (q : Int))) [.t 0, .t 1, .t 2, .t 4, .t 5, .t 6, .s 3, .e 7 true, .t 8] (by kernel_rfl) (by kernel_rfl) (by intro c a d v w h; cases d <;> exact h) ?_
        have HBD := Lib.hid hB.drew
        clear hB
        generalize wr.drew = V at *
        iterate 6
          refine wpS_t rfl (v := ?_) (by rfl) (fun W => ?_) ?_
          rotate_left
          · go_simp
            try rfl
          try simp only [Act.put, List.setIfInBounds_toArray, List.set_cons_zero, List.set_cons_succ]
        refine wpS_s (by exact ⟨HXA.out, HXB.out⟩) rfl (v := ?_) (by rfl) (fun W hSW => ?_) ?_
        rotate_left
        · go_simp
          try rfl
        try simp only [Act.put, List.setIfInBounds_toArray, List.set_cons_zero, List.set_cons_succ]
        have g := HXB.out
        refine wpS_k rfl (by rfl) (fun K hK => ?_)
        go_simp
        refine hK _ _ ⟨by exact ⟨HXA.out, HXB.out⟩, ?_⟩; clear hK K
        try simp only [Act.put, List.setIfInBounds_toArray, List.set_cons_zero, List.set_cons_succ]
        clear g
        by_cases hpq : p = q
        · have hxy := HXY.out.2 hpq
          have HE := Lib.hid hxy
          clear hxy
          subst hpq
          iterate 1
            refine wpS_t rfl (v := ?_) (by rfl) (fun W => ?_) ?_
            rotate_left
            · go_simp
              try rfl
            try simp only [Act.put, List.setIfInBounds_toArray, List.set_cons_zero, List.set_cons_succ]
          refine wpS_done ?_
          go_wp2_with fail
          refine ⟨⟨j + 1, by omega, by simp, fun k hk => ?_, HBD.out⟩, by simp [intOf]; omega⟩
          by_cases hkj : k < j
          · exact HA.out k hkj
          · have : k = j := by omega
            rw [this, HGA.out, HGB.out, HE.out]
        · have hxy : ¬ x = y := fun h => hpq (HXY.out.1 h)
          have hne1 : ((p : Int) != (q : Int)) = true := by rw [bne_iff_ne]; omega
          have hne2 : ((p : Int) == (q : Int)) = false := by rw [beq_eq_false_iff_ne]; omega
          have HNE := Lib.hid hxy
          clear hxy
          iterate 1
            refine wpS_t rfl (v := ?_) (by rfl) (fun W => ?_) ?_
            rotate_left
            · go_simp
              try rfl
            try simp only [Act.put, List.setIfInBounds_toArray, List.set_cons_zero, List.set_cons_succ]
          refine wpS_done ?_
          have hr : r = false := by
            rw [HQ.out]
            simp only [decide_eq_false_iff_not]
            intro h
            have := h j hlt
            rw [HGA.out, HGB.out] at this
            exact HNE.out (by simpa using this)
          go_wp2_with fail
          exact bodyPost_ret (results_tmp rfl _ _ _) rfl ⟨by rw [hr]; rfl, HBD.out⟩
      · have hjn : j = n := by omega
        subst hjn
        have hr : r = true := by rw [HQ.out]; simpa using HA.out
        go_wp2_with fail
        exact bodyPost_ret (results_tmp rfl _ _ _) rfl ⟨by rw [hr]; rfl, hB⟩
  · have hne : ((n : Int) != (m : Int)) = true := by rw [bne_iff_ne]; omega
    have hne2 : ((n : Int) == (m : Int)) = false := by rw [beq_eq_false_iff_ne]; omega
    have hab : ¬ a = b := by intro h; have h1 := HN.out; rw [h, ← HM.out] at h1; exact hnm h1
    have HNE := Lib.hid hab
    clear hab
    go_enter Try.func52, Try.ntmps52
    go_wp2_with fail
    exact bodyPost_ret (results_tmp rfl _ _ _) rfl ⟨by rw [decide_eq_false HNE.out]; rfl, Below.refl _ _⟩
end Go.Proofs.Ytdkcndgehgmadaa
-- Walks: clashes.Lists where none is told.
open Go Go.RowKit Alm
namespace Go.Proofs.Ytdkcndgehgmadaa
abbrev cnil : List Value := [.slice none 0 0, .slice none 0 0]
theorem infoClash : (Try.prog.info? 75).map (·.size) = some 2 := by kernel_rfl
theorem all_cnil : cnil.toArray.all (·.oneCell') = true := by kernel_rfl
theorem wpList_store_clash {ops : Array Oper} {rest : List Oper} {op : Oper} {a : Act} {w : World} {Q : Exit → Act → World → Prop} (hgd : op.guard = none) (x y : Operand) (ho : op.op = .store 75 x y)
    (b o : Nat) (hx : a.eval x = .pointer (some ⟨b, o, none⟩)) (hy : a.eval y = .agg cnil.toArray) (ht : w.there b o 2)
    (h : wpList Try.prog ops Q rest (a.put op.dst undef) (w.setCells b o cnil)) : wpList Try.prog ops Q (op :: rest) a w :=
  wpList_store_mid hgd _ x y ho b o _ hx hy ht infoClash all_cnil h
theorem box_two (w : World) (va vb : Value) (t u x : TypeId) (C : Array Value) :
    ((((w.alloc (.cells #[va] t)).alloc (.cells #[vb] u)).alloc (.cells C x))).cell? ⟨w.heap.size, 0, none⟩ = some va ∧ ((((w.alloc (.cells #[va] t)).alloc (.cells #[vb] u)).alloc (.cells C x))).cell? ⟨w.heap.size + 1, 0, none⟩ = some vb := by
  constructor
  · exact World.rangeAt_alloc (World.rangeAt_alloc (range_new w #[va] t _ rfl) _) _ 0 _ rfl
  · have := range_new (w.alloc (.cells #[va] t)) #[vb] u _ rfl
    rw [World.size_alloc] at this
    exact World.rangeAt_alloc this _ 0 _ rfl
set_option maxRecDepth 100000 in
set_option maxHeartbeats 1000000 in
theorem lists_same (a : List (List UInt8)) (va vb : Value) (w : World) (ha : ListsAt w va a) (hb : ListsAt w vb a) (hn : a.length < 1000000) : Calls Try.prog 54 #[va, vb] w fun e w' => e = .returned (.tuple #[cv (.slice none 0 0) (.slice none 0 0), .bool false]) ∧ Below w.heap.size w w' := by
  have hbw : Below w.heap.size w (((w.alloc (.cells #[va] 67)).alloc (.cells #[vb] 67)).alloc (.cells #[.slice none 0 0, .slice none 0 0] 75)) := al (al (al (Below.refl _ _) _) _) _
  have HBW := Lib.hid hbw
  have HT := Lib.hid (box_two w va vb 67 67 75 #[.slice none 0 0, .slice none 0 0])
  have HTH : Hid ((((w.alloc (.cells #[va] 67)).alloc (.cells #[vb] 67)).alloc (.cells #[.slice none 0 0, .slice none 0 0] 75)).there (w.heap.size + 1 + 1) 0 2) := Lib.hid (by
    have := there_new ((w.alloc (.cells #[va] 67)).alloc (.cells #[vb] 67)) #[.slice none 0 0, .slice none 0 0] 75
    simp only [World.size_alloc] at this
    exact this)
  have HA := Lib.hid (ha.below hbw)
  have HB := Lib.hid (hb.below hbw)
  obtain ⟨aa, ca, rfl, a1, a2, a3⟩ := ha
  obtain ⟨ab, cb, rfl, b1, b2, b3⟩ := hb
  clear a3 b3 hbw
  obtain ⟨n, hna⟩ : ∃ n, n = a.length := ⟨_, rfl⟩
  rw [← hna] at HA HB HT HBW HTH a1 b1 hn ⊢
  have HN := Lib.hid hna; clear hna
  go_enter Try.func54, Try.ntmps54
  go_wp2_with fail
  obtain ⟨z, hz⟩ : ∃ z, z = w.heap.size := ⟨_, rfl⟩
  rw [← hz] at HT HTH ⊢
  have HZ := Lib.hid hz; clear hz
  generalize ((w.alloc (.cells #[.slice aa n ca] 67)).alloc (.cells #[.slice ab n cb] 67)).alloc (.cells #[.slice none 0 0, .slice none 0 0] 75) = W at *
  refine wp_region_sched (fun V => V.cell? ⟨z, 0, none⟩ = some (.slice aa n ca) ∧ V.cell? ⟨z + 1, 0, none⟩ = some (.slice ab n cb) ∧ Below W.heap.size W V) [.s 0, .t 1, .e 2 true, .t 3, .t 4, .t 5, .s 6, .e 7 true, .e 8 true, .t 9, .t 10, .s 11, .s 13, .e 12 true, .e 14 true, .t 15, .t 16] (by kernel_rfl) (by kernel_rfl) (by intro c a d v w h; cases d <;> exact h) ?_
  have HSS : Hid (∀ V, Below W.heap.size W V → V.cell? ⟨z, 0, none⟩ = some (.slice aa n ca) ∧ V.cell? ⟨z + 1, 0, none⟩ = some (.slice ab n cb) ∧ Below W.heap.size W V) := Lib.hid (fun V hV => ⟨(hV.cell (p := ⟨z, 0, none⟩) (World.block_lt_of_cell? W _ HT.out.1)).trans HT.out.1, (hV.cell (p := ⟨z + 1, 0, none⟩) (World.block_lt_of_cell? W _ HT.out.2)).trans HT.out.2, hV⟩)
  have HS := Lib.hid (Below.refl W.heap.size W).drew
  generalize W.drew = V at *
  refine wpS_s (by exact HSS.out _ HS.out) rfl (v := ?_) (by rfl) (fun W hSW => ?_) ?_
  rotate_left
  · go_simp
    try rfl
  try simp only [Act.put, List.setIfInBounds_toArray, List.set_cons_zero, List.set_cons_succ]
  iterate 1
    refine wpS_t rfl (v := ?_) (by rfl) (fun W => ?_) ?_
    rotate_left
    · go_simp
      try rfl
    try simp only [Act.put, List.setIfInBounds_toArray, List.set_cons_zero, List.set_cons_succ]
  have g := (HSS.out _ HS.out).2.1
  refine wpS_k rfl (by rfl) (fun K hK => ?_)
  go_simp
  refine hK _ _ ⟨by exact HSS.out _ HS.out, ?_⟩; clear hK K
  try simp only [Act.put, List.setIfInBounds_toArray, List.set_cons_zero, List.set_cons_succ]
  clear g
  iterate 3
    refine wpS_t rfl (v := ?_) (by rfl) (fun W => ?_) ?_
    rotate_left
    · go_simp
      try rfl
    try simp only [Act.put, List.setIfInBounds_toArray, List.set_cons_zero, List.set_cons_succ]
  refine wpS_s (by exact HSS.out _ HS.out) rfl (v := ?_) (by rfl) (fun W hSW => ?_) ?_
  rotate_left
  · go_simp
    try rfl
  try simp only [Act.put, List.setIfInBounds_toArray, List.set_cons_zero, List.set_cons_succ]
  have g := (HSS.out _ HS.out).2.1
  refine wpS_k rfl (by rfl) (fun K hK => ?_)
  go_simp
  refine hK _ _ ⟨by exact HSS.out _ HS.out, ?_⟩; clear hK K
  try simp only [Act.put, List.setIfInBounds_toArray, List.set_cons_zero, List.set_cons_succ]
  clear g
  refine wpS_k rfl (by rfl) (fun K hK => ?_)
  go_simp
  refine (same_any a a _ _ V (HA.out.below HS.out) (HB.out.below HS.out) (by have := HN.out; omega)).mono ?_
  rw [decide_eq_true rfl]
  rintro e V1 ⟨rfl, rfl⟩
  refine hK _ _ ⟨by exact HSS.out _ HS.out, ?_⟩; clear hK K
  try simp only [Act.put, List.setIfInBounds_toArray, List.set_cons_zero, List.set_cons_succ]
  iterate 2
    refine wpS_t rfl (v := ?_) (by rfl) (fun W => ?_) ?_
    rotate_left
    · go_simp
      try rfl
    try simp only [Act.put, List.setIfInBounds_toArray, List.set_cons_zero, List.set_cons_succ]
  iterate 2
    refine wpS_s_skip (by exact HSS.out _ HS.out) rfl (by rfl) ?_
    try simp only [Act.put, List.setIfInBounds_toArray, List.set_cons_zero, List.set_cons_succ]
  refine wpS_k_skip (by exact HSS.out _ HS.out) rfl (by rfl) ?_
  try simp only [Act.put, List.setIfInBounds_toArray, List.set_cons_zero, List.set_cons_succ]
  refine wpS_k_skip (by exact HSS.out _ HS.out) rfl (by rfl) ?_
  try simp only [Act.put, List.setIfInBounds_toArray, List.set_cons_zero, List.set_cons_succ]
  iterate 1
    refine wpS_t_skip rfl (by rfl) ?_
    try simp only [Act.put, List.setIfInBounds_toArray, List.set_cons_zero, List.set_cons_succ]
  iterate 1
    refine wpS_t rfl (v := ?_) (by rfl) (fun W => ?_) ?_
    rotate_left
    · go_simp
      try rfl
    try simp only [Act.put, List.setIfInBounds_toArray, List.set_cons_zero, List.set_cons_succ]
  refine wpS_done ?_
  have HTV := Lib.hid ((Keeps.of_below (X := fun _ => False) HS.out).there HTH.out (by decide) (fun h => h))
  have HBV := Lib.hid (HBW.out.trans (HS.out.mono HBW.out.size))
  go_wp2_with (refine wpList_store_clash rfl _ _ rfl (z + 1 + 1) 0 rfl rfl HTV.out ?_)
  exact bodyPost_ret (results_cell_tmp Try.results54 _ _ (z + 1 + 1) 0 cnil _ rfl (range_stored _ _ _ _ (by exact World.there_setCells HTV.out _ _ _)) Try.underlying75 rfl infoClash) rfl ⟨rfl, setCells_below _ (by have := HZ.out; omega) _ _ _ _ HBV.out⟩
set_option maxRecDepth 100000 in
set_option maxHeartbeats 1000000 in
theorem lists_root (a b : List (List UInt8)) (va vb : Value) (w : World) (ha : ListsAt w va a) (hb : ListsAt w vb b) (hn : a.length < 1000000) (hab : a.length = b.length) (hne : ¬ a = b) (hsa : ∀ x ∈ a, x.length < 1000000) (hsb : ∀ x ∈ b, x.length < 1000000) (hr : ¬ rt (a.map lf) = rt (b.map lf)) : Calls Try.prog 54 #[va, vb] w fun e w' => e = .returned (.tuple #[cv (.slice none 0 0) (.slice none 0 0), .bool false]) ∧ Below w.heap.size w w' := by
  have hbw : Below w.heap.size w (((w.alloc (.cells #[va] 67)).alloc (.cells #[vb] 67)).alloc (.cells #[.slice none 0 0, .slice none 0 0] 75)) := al (al (al (Below.refl _ _) _) _) _
  have HBW := Lib.hid hbw
  have HT := Lib.hid (box_two w va vb 67 67 75 #[.slice none 0 0, .slice none 0 0])
  have HTH : Hid ((((w.alloc (.cells #[va] 67)).alloc (.cells #[vb] 67)).alloc (.cells #[.slice none 0 0, .slice none 0 0] 75)).there (w.heap.size + 1 + 1) 0 2) := Lib.hid (by
    have := there_new ((w.alloc (.cells #[va] 67)).alloc (.cells #[vb] 67)) #[.slice none 0 0, .slice none 0 0] 75
    simp only [World.size_alloc] at this
    exact this)
  have HA := Lib.hid (ha.below hbw)
  have HB := Lib.hid (hb.below hbw)
  obtain ⟨aa, ca, rfl, a1, a2, a3⟩ := ha
  obtain ⟨ab, cb, rfl, b1, b2, b3⟩ := hb
  rw [← hab] at b1 HB HT HBW HTH HA
  rw [← hab]
  clear a3 b3 hbw
  obtain ⟨n, hna⟩ : ∃ n, n = a.length := ⟨_, rfl⟩
  rw [← hna] at HA HB HT HBW HTH a1 b1 hn ⊢
  have HN := Lib.hid (And.intro hna (hna.trans hab))
  have HX := Lib.hid (And.intro hsa (And.intro hsb hne))
  obtain ⟨ra, hra⟩ : ∃ r, r = rt (a.map lf) := ⟨_, rfl⟩
  obtain ⟨rb, hrb⟩ : ∃ r, r = rt (b.map lf) := ⟨_, rfl⟩
  rw [← hra, ← hrb] at hr
  have HRA := Lib.hid hra
  have HRB := Lib.hid hrb
  have hes : ∀ w : World, (Op.equalIn 10000 24 (.agg (cellsOf ra).toArray) (.agg (cellsOf rb).toArray)).run Try.prog w = .ok false w := fun w => by rw [eq_sums]; simp [hr]
  have HES := Lib.hid hes
  clear hna hab hsa hsb hne hra hrb hr hes
  go_enter Try.func54, Try.ntmps54
  go_wp2_with fail
  obtain ⟨z, hz⟩ : ∃ z, z = w.heap.size := ⟨_, rfl⟩
  rw [← hz] at HT HTH ⊢
  have HZ := Lib.hid hz; clear hz
  generalize ((w.alloc (.cells #[.slice aa n ca] 67)).alloc (.cells #[.slice ab n cb] 67)).alloc (.cells #[.slice none 0 0, .slice none 0 0] 75) = W at *
  refine wp_region_sched (fun V => V.cell? ⟨z, 0, none⟩ = some (.slice aa n ca) ∧ V.cell? ⟨z + 1, 0, none⟩ = some (.slice ab n cb) ∧ Below W.heap.size W V) [.s 0, .t 1, .e 2 true, .t 3, .t 4, .t 5, .s 6, .e 7 true, .e 8 true, .t 9, .t 10, .s 11, .s 13, .e 12 true, .e 14 true, .t 15, .t 16] (by kernel_rfl) (by kernel_rfl) (by intro c a d v w h; cases d <;> exact h) ?_
  have HSS : Hid (∀ V, Below W.heap.size W V → V.cell? ⟨z, 0, none⟩ = some (.slice aa n ca) ∧ V.cell? ⟨z + 1, 0, none⟩ = some (.slice ab n cb) ∧ Below W.heap.size W V) := Lib.hid (fun V hV => ⟨(hV.cell (p := ⟨z, 0, none⟩) (World.block_lt_of_cell? W _ HT.out.1)).trans HT.out.1, (hV.cell (p := ⟨z + 1, 0, none⟩) (World.block_lt_of_cell? W _ HT.out.2)).trans HT.out.2, hV⟩)
  have HS := Lib.hid (Below.refl W.heap.size W).drew
  generalize W.drew = V at *
  refine wpS_s (by exact HSS.out _ HS.out) rfl (v := ?_) (by rfl) (fun W hSW => ?_) ?_
  rotate_left
  · go_simp
    try rfl
  try simp only [Act.put, List.setIfInBounds_toArray, List.set_cons_zero, List.set_cons_succ]
  iterate 1
    refine wpS_t rfl (v := ?_) (by rfl) (fun W => ?_) ?_
    rotate_left
    · go_simp
      try rfl
    try simp only [Act.put, List.setIfInBounds_toArray, List.set_cons_zero, List.set_cons_succ]
  have g := (HSS.out _ HS.out).2.1
  refine wpS_k rfl (by rfl) (fun K hK => ?_)
  go_simp
  refine hK _ _ ⟨by exact HSS.out _ HS.out, ?_⟩; clear hK K
  try simp only [Act.put, List.setIfInBounds_toArray, List.set_cons_zero, List.set_cons_succ]
  clear g
  iterate 3
    refine wpS_t rfl (v := ?_) (by rfl) (fun W => ?_) ?_
    rotate_left
    · go_simp
      try rfl
    try simp only [Act.put, List.setIfInBounds_toArray, List.set_cons_zero, List.set_cons_succ]
  refine wpS_s (by exact HSS.out _ HS.out) rfl (v := ?_) (by rfl) (fun W hSW => ?_) ?_
  rotate_left
  · go_simp
    try rfl
  try simp only [Act.put, List.setIfInBounds_toArray, List.set_cons_zero, List.set_cons_succ]
  have g := (HSS.out _ HS.out).2.1
  refine wpS_k rfl (by rfl) (fun K hK => ?_)
  go_simp
  refine hK _ _ ⟨by exact HSS.out _ HS.out, ?_⟩; clear hK K
  try simp only [Act.put, List.setIfInBounds_toArray, List.set_cons_zero, List.set_cons_succ]
  clear g
  refine wpS_k rfl (by rfl) (fun K hK => ?_)
  go_simp
  refine (same_any a b _ _ V (HA.out.below HS.out) (HB.out.below HS.out) (by have := HN.out.1; omega)).mono ?_
  rw [decide_eq_false HX.out.2.2]
  rintro e V1 ⟨rfl, rfl⟩
  refine hK _ _ ⟨by exact HSS.out _ HS.out, ?_⟩; clear hK K
  try simp only [Act.put, List.setIfInBounds_toArray, List.set_cons_zero, List.set_cons_succ]
  iterate 2
    refine wpS_t rfl (v := ?_) (by rfl) (fun W => ?_) ?_
    rotate_left
    · go_simp
      try rfl
    try simp only [Act.put, List.setIfInBounds_toArray, List.set_cons_zero, List.set_cons_succ]
  refine wpS_s (by exact HSS.out _ HS.out) rfl (v := ?_) (by rfl) (fun W hSW => ?_) ?_
  rotate_left
  · go_simp
    try rfl
  try simp only [Act.put, List.setIfInBounds_toArray, List.set_cons_zero, List.set_cons_succ]
  refine wpS_s (by exact HSS.out _ HS.out) rfl (v := ?_) (by rfl) (fun W hSW => ?_) ?_
  rotate_left
  · go_simp
    try rfl
  try simp only [Act.put, List.setIfInBounds_toArray, List.set_cons_zero, List.set_cons_succ]
  refine wpS_k rfl (by rfl) (fun K hK => ?_)
  go_simp
  refine (croot_any a _ V (HA.out.below HS.out) (by have := HN.out.1; omega) HX.out.1).mono ?_
  rw [← HRA.out]
  rintro e V ⟨rfl, hb⟩
  replace HS := Lib.hid (HS.out.trans (hb.mono HS.out.size)); clear hb
  refine hK _ _ ⟨by exact HSS.out _ HS.out, ?_⟩; clear hK K
  try simp only [Act.put, List.setIfInBounds_toArray, List.set_cons_zero, List.set_cons_succ]
  refine wpS_k rfl (by rfl) (fun K hK => ?_)
  go_simp
  refine (croot_any b _ V (HB.out.below HS.out) (by have := HN.out.2; omega) HX.out.2.1).mono ?_
  rw [← HRB.out]
  rintro e V ⟨rfl, hb⟩
  replace HS := Lib.hid (HS.out.trans (hb.mono HS.out.size)); clear hb
  refine hK _ _ ⟨by exact HSS.out _ HS.out, ?_⟩; clear hK K
  try simp only [Act.put, List.setIfInBounds_toArray, List.set_cons_zero, List.set_cons_succ]
  have hes := HES.out
  iterate 2
    refine wpS_t rfl (v := ?_) (by rfl) (fun W => ?_) ?_
    rotate_left
    · go_simp
      try rfl
    try simp only [Act.put, List.setIfInBounds_toArray, List.set_cons_zero, List.set_cons_succ]
  refine wpS_done ?_
  have HTV := Lib.hid ((Keeps.of_below (X := fun _ => False) HS.out).there HTH.out (by decide) (fun h => h))
  have HBV := Lib.hid (HBW.out.trans (HS.out.mono HBW.out.size))
  go_wp2_with (refine wpList_store_clash rfl _ _ rfl (z + 1 + 1) 0 rfl rfl HTV.out ?_)
  exact bodyPost_ret (results_cell_tmp Try.results54 _ _ (z + 1 + 1) 0 cnil _ rfl (range_stored _ _ _ _ (by exact World.there_setCells HTV.out _ _ _)) Try.underlying75 rfl infoClash) rfl ⟨rfl, setCells_below _ (by have := HZ.out; omega) _ _ _ _ HBV.out⟩
end Go.Proofs.Ytdkcndgehgmadaa
-- Walks: clashes.Path, clashes.Link where the same stands there.
open Go Go.RowKit Alm
namespace Go.Proofs.Ytdkcndgehgmadaa
theorem ListsAt.take {w : World} {b o n cap : Nat} {ls : List (List UInt8)} (h : ListsAt w (.slice (some ⟨b, o, none⟩) n cap) ls) (k : Nat) (hk : k ≤ ls.length) : ListsAt w (.slice (some ⟨b, o, none⟩) k cap) (ls.take k) := by
  have hc : n = ls.length ∧ ls.length ≤ cap ∧ cap ≤ maxLen := by
    obtain ⟨a, c, hv, h1, h2, _⟩ := h
    simp only [Value.slice.injEq] at hv
    obtain ⟨_, rfl, rfl⟩ := hv
    exact ⟨rfl, h1, h2⟩
  refine ⟨_, cap, by rw [List.length_take, Nat.min_eq_left hk], by rw [List.length_take, Nat.min_eq_left hk]; omega, hc.2.2, .inr ⟨b, o, rfl, fun j hj => ?_⟩⟩
  rw [List.length_take, Nat.min_eq_left hk] at hj
  obtain ⟨u, h1, h2⟩ := h.cell (sp := none) (j := j) (by omega)
  exact ⟨u, h1, by rw [List.getElem_take]; exact h2⟩
/-- Five variables. -/
theorem box_five (w : World) (v0 v1 v2 v3 : Value) (t0 t1 t2 t3 x : TypeId) (C : Array Value) (W : World)
    (hW : W = ((((w.alloc (.cells #[v0] t0)).alloc (.cells #[v1] t1)).alloc (.cells #[v2] t2)).alloc (.cells #[v3] t3)).alloc (.cells C x)) :
    W.cell? ⟨w.heap.size, 0, none⟩ = some v0 ∧ W.cell? ⟨w.heap.size + 1, 0, none⟩ = some v1 ∧ W.cell? ⟨w.heap.size + 1 + 1, 0, none⟩ = some v2 ∧ W.cell? ⟨w.heap.size + 1 + 1 + 1, 0, none⟩ = some v3 ∧ W.there (w.heap.size + 1 + 1 + 1 + 1) 0 C.size ∧ Below w.heap.size w W := by
  subst hW
  refine ⟨?_, ?_, ?_, ?_, ?_, al (al (al (al (al (Below.refl _ _) _) _) _) _) _⟩
  · exact World.rangeAt_alloc (World.rangeAt_alloc (World.rangeAt_alloc (World.rangeAt_alloc (range_new w #[v0] t0 _ rfl) _) _) _) _ 0 _ rfl
  · have := range_new (w.alloc (.cells #[v0] t0)) #[v1] t1 _ rfl
    simp only [World.size_alloc] at this
    exact World.rangeAt_alloc (World.rangeAt_alloc (World.rangeAt_alloc this _) _) _ 0 _ rfl
  · have := range_new ((w.alloc (.cells #[v0] t0)).alloc (.cells #[v1] t1)) #[v2] t2 _ rfl
    simp only [World.size_alloc] at this
    exact World.rangeAt_alloc (World.rangeAt_alloc this _) _ 0 _ rfl
  · have := range_new (((w.alloc (.cells #[v0] t0)).alloc (.cells #[v1] t1)).alloc (.cells #[v2] t2)) #[v3] t3 _ rfl
    simp only [World.size_alloc] at this
    exact World.rangeAt_alloc this _ 0 _ rfl
  · have := there_new ((((w.alloc (.cells #[v0] t0)).alloc (.cells #[v1] t1)).alloc (.cells #[v2] t2)).alloc (.cells #[v3] t3)) C x
    simp only [World.size_alloc] at this
    exact this
theorem bc {W V : World} {p : Addr} {v : Value} (h : W.cell? p = some v) (hb : Below W.heap.size W V) : V.cell? p = some v := (hb.cell (World.block_lt_of_cell? W _ h)).trans h
set_option maxRecDepth 100000 in
set_option maxHeartbeats 1000000 in
theorem path_same (l : List (List UInt8)) (k : Nat) (x : List UInt8) (vl vb vp : Value) (w : World) (hl : ListsAt w vl l) (hk : k < l.length) (hx : l[k]? = some x) (hb : BytesAt w vb x) (hn : l.length < 1000000) (hp : ∃ a n c, vp = .slice a n c) : Calls Try.prog 57 #[vl, .int .i64 (k : Int), vb, vp] w fun e w' => e = .returned (.tuple #[cv (.slice none 0 0) (.slice none 0 0), .bool false]) ∧ Below w.heap.size w w' := by
  obtain ⟨pa, pn, pc, rfl⟩ := hp
  have hb' := hb
  obtain ⟨ba, bcap, rfl, _, _, _⟩ := hb'
  have HBX := box_five w vl (.int .i64 (k : Int)) (.slice ba x.length bcap) (.slice pa pn pc) 67 3 50 22 75 #[.slice none 0 0, .slice none 0 0] _ rfl
  have hbw := HBX.2.2.2.2.2
  replace HBX := Lib.hid HBX
  have hl0 : l ≠ [] := by intro h; rw [h] at hk; simp at hk
  obtain ⟨bl, ol, cl, rfl, c1, c2⟩ := hl.form hl0
  obtain ⟨u, hcu, hu⟩ := hl.cell (sp := none) hk
  have hu : BytesAt w u x := by
    have : l[k] = x := by rw [List.getElem?_eq_getElem hk] at hx; exact Option.some.inj hx
    rw [← this]; exact hu
  have HU := Lib.hid (And.intro (bc hcu hbw) (And.intro (bytes_below hu hbw (Nat.le_refl _)) (bytes_below hb hbw (Nat.le_refl _))))
  clear hcu hu hbw hb hl hl0 hx
  obtain ⟨n, hna⟩ : ∃ n, n = l.length := ⟨_, rfl⟩
  rw [← hna] at HBX HU c1 hn hk ⊢
  clear hna
  unfold maxLen at c2
  have k0 : (0 : Int) ≤ (k : Int) := by omega
  have k1 : (k : Int) < (n : Int) := by omega
  have k2 : decide (n ≤ k) = false := decide_eq_false (by omega)
  have k3 : ¬ n ≤ k := by omega
  go_enter Try.func57, Try.ntmps57
  go_wp2_with fail
  obtain ⟨z, hz⟩ : ∃ z, z = w.heap.size := ⟨_, rfl⟩
  rw [← hz] at HBX ⊢
  have HZ := Lib.hid hz; clear hz
  have HBW := Lib.hid (HZ.out ▸ HBX.out.2.2.2.2.2 : Below w.heap.size w _)
  generalize ((((w.alloc (.cells #[.slice (some ⟨bl, ol, none⟩) n cl] 67)).alloc (.cells #[.int .i64 (k : Int)] 3)).alloc (.cells #[.slice ba x.length bcap] 50)).alloc (.cells #[.slice pa pn pc] 22)).alloc (.cells #[.slice none 0 0, .slice none 0 0] 75) = W at *
  refine wp_region_sched (fun V => V.cell? ⟨z, 0, none⟩ = some (.slice (some ⟨bl, ol, none⟩) n cl) ∧ V.cell? ⟨z + 1, 0, none⟩ = some (.int .i64 (k : Int)) ∧ V.cell? ⟨z + 1 + 1, 0, none⟩ = some (.slice ba x.length bcap) ∧ V.cell? ⟨z + 1 + 1 + 1, 0, none⟩ = some (.slice pa pn pc) ∧ V.cell? ⟨bl, ol + k, none⟩ = some u ∧ Below W.heap.size W V) [.e 0 true, .t 1, .t 2, .s 3, .e 4 true, .t 5, .t 6, .t 7, .t 8, .s 9, .s 10, .t 11, .s 12, .e 13 true, .e 14 true, .t 15, .t 16, .s 17, .s 19, .t 20, .s 21, .t 22, .t 23, .s 24, .s 25, .e 18 true, .e 26 true, .e 27 true, .t 28, .t 29] (by kernel_rfl) (by kernel_rfl) (by intro c a d v w h; cases d <;> exact h) ?_
  have HSS : Hid (∀ V, Below W.heap.size W V → V.cell? ⟨z, 0, none⟩ = some (.slice (some ⟨bl, ol, none⟩) n cl) ∧ V.cell? ⟨z + 1, 0, none⟩ = some (.int .i64 (k : Int)) ∧ V.cell? ⟨z + 1 + 1, 0, none⟩ = some (.slice ba x.length bcap) ∧ V.cell? ⟨z + 1 + 1 + 1, 0, none⟩ = some (.slice pa pn pc) ∧ V.cell? ⟨bl, ol + k, none⟩ = some u ∧ Below W.heap.size W V) := Lib.hid (fun V hV => ⟨bc HBX.out.1 hV, bc HBX.out.2.1 hV, bc HBX.out.2.2.1 hV, bc HBX.out.2.2.2.1 hV, bc HU.out.1 hV, hV⟩)
  have HS := Lib.hid (Below.refl W.heap.size W).drew
  generalize W.drew = V at *
  have g := (HSS.out _ HS.out).2.1
  refine wpS_k rfl (by rfl) (fun K hK => ?_)
  go_simp
  refine hK _ _ ⟨by exact HSS.out _ HS.out, ?_⟩; clear hK K
  try simp only [Act.put, List.setIfInBounds_toArray, List.set_cons_zero, List.set_cons_succ]
  clear g
  iterate 2
    refine wpS_t rfl (v := ?_) (by rfl) (fun W => ?_) ?_
    rotate_left
    · go_simp
      try rfl
    try simp only [Act.put, List.setIfInBounds_toArray, List.set_cons_zero, List.set_cons_succ]
  refine wpS_s (by exact HSS.out _ HS.out) rfl (v := ?_) (by rfl) (fun W hSW => ?_) ?_
  rotate_left
  · go_simp
    try rfl
  try simp only [Act.put, List.setIfInBounds_toArray, List.set_cons_zero, List.set_cons_succ]
  have g := (HSS.out _ HS.out).1
  refine wpS_k rfl (by rfl) (fun K hK => ?_)
  go_simp
  refine hK _ _ ⟨by exact HSS.out _ HS.out, ?_⟩; clear hK K
  try simp only [Act.put, List.setIfInBounds_toArray, List.set_cons_zero, List.set_cons_succ]
  clear g
  iterate 4
    refine wpS_t rfl (v := ?_) (by rfl) (fun W => ?_) ?_
    rotate_left
    · go_simp
      try rfl
    try simp only [Act.put, List.setIfInBounds_toArray, List.set_cons_zero, List.set_cons_succ]
  refine wpS_s (by exact HSS.out _ HS.out) rfl (v := ?_) (by rfl) (fun W hSW => ?_) ?_
  rotate_left
  · go_simp
    try rfl
  try simp only [Act.put, List.setIfInBounds_toArray, List.set_cons_zero, List.set_cons_succ]
  refine wpS_s (by exact HSS.out _ HS.out) rfl (v := ?_) (by rfl) (fun W hSW => ?_) ?_
  rotate_left
  · go_simp
    try rfl
  try simp only [Act.put, List.setIfInBounds_toArray, List.set_cons_zero, List.set_cons_succ]
  iterate 1
    refine wpS_t rfl (v := ?_) (by rfl) (fun W => ?_) ?_
    rotate_left
    · go_simp
      try rfl
    try simp only [Act.put, List.setIfInBounds_toArray, List.set_cons_zero, List.set_cons_succ]
  refine wpS_s (by exact HSS.out _ HS.out) rfl (v := ?_) (by rfl) (fun W hSW => ?_) ?_
  rotate_left
  · go_simp
    try rfl
  try simp only [Act.put, List.setIfInBounds_toArray, List.set_cons_zero, List.set_cons_succ]
  have g := (HSS.out _ HS.out).2.2.1
  refine wpS_k rfl (by rfl) (fun K hK => ?_)
  go_simp
  refine hK _ _ ⟨by exact HSS.out _ HS.out, ?_⟩; clear hK K
  try simp only [Act.put, List.setIfInBounds_toArray, List.set_cons_zero, List.set_cons_succ]
  clear g
  refine wpS_k rfl (by rfl) (fun K hK => ?_)
  go_simp
  refine (eqb_any x x u (.slice ba x.length bcap) V (bytes_below HU.out.2.1 HS.out (Nat.le_refl _)) (bytes_below HU.out.2.2 HS.out (Nat.le_refl _))).mono ?_
  rw [decide_eq_true rfl]
  rintro e V1 ⟨rfl, rfl⟩
  refine hK _ _ ⟨by exact HSS.out _ HS.out, ?_⟩; clear hK K
  try simp only [Act.put, List.setIfInBounds_toArray, List.set_cons_zero, List.set_cons_succ]
  iterate 2
    refine wpS_t rfl (v := ?_) (by rfl) (fun W => ?_) ?_
    rotate_left
    · go_simp
      try rfl
    try simp only [Act.put, List.setIfInBounds_toArray, List.set_cons_zero, List.set_cons_succ]
  iterate 2
    refine wpS_s_skip (by exact HSS.out _ HS.out) rfl (by rfl) ?_
    try simp only [Act.put, List.setIfInBounds_toArray, List.set_cons_zero, List.set_cons_succ]
  iterate 1
    refine wpS_t_skip rfl (by rfl) ?_
    try simp only [Act.put, List.setIfInBounds_toArray, List.set_cons_zero, List.set_cons_succ]
  iterate 1
    refine wpS_s_skip (by exact HSS.out _ HS.out) rfl (by rfl) ?_
    try simp only [Act.put, List.setIfInBounds_toArray, List.set_cons_zero, List.set_cons_succ]
  iterate 2
    refine wpS_t_skip rfl (by rfl) ?_
    try simp only [Act.put, List.setIfInBounds_toArray, List.set_cons_zero, List.set_cons_succ]
  iterate 2
    refine wpS_s_skip (by exact HSS.out _ HS.out) rfl (by rfl) ?_
    try simp only [Act.put, List.setIfInBounds_toArray, List.set_cons_zero, List.set_cons_succ]
  refine wpS_k_skip (by exact HSS.out _ HS.out) rfl (by rfl) ?_
  try simp only [Act.put, List.setIfInBounds_toArray, List.set_cons_zero, List.set_cons_succ]
  refine wpS_k_skip (by exact HSS.out _ HS.out) rfl (by rfl) ?_
  try simp only [Act.put, List.setIfInBounds_toArray, List.set_cons_zero, List.set_cons_succ]
  refine wpS_k_skip (by exact HSS.out _ HS.out) rfl (by rfl) ?_
  try simp only [Act.put, List.setIfInBounds_toArray, List.set_cons_zero, List.set_cons_succ]
  iterate 1
    refine wpS_t_skip rfl (by rfl) ?_
    try simp only [Act.put, List.setIfInBounds_toArray, List.set_cons_zero, List.set_cons_succ]
  iterate 1
    refine wpS_t rfl (v := ?_) (by rfl) (fun W => ?_) ?_
    rotate_left
    · go_simp
      try rfl
    try simp only [Act.put, List.setIfInBounds_toArray, List.set_cons_zero, List.set_cons_succ]
  refine wpS_done ?_
  have HTV := Lib.hid ((Keeps.of_below (X := fun _ => False) HS.out).there HBX.out.2.2.2.2.1 (by decide) (fun h => h))
  have HBV := Lib.hid (HBW.out.trans (HS.out.mono HBW.out.size))
  go_wp2_with (refine wpList_store_clash rfl _ _ rfl (z + 1 + 1 + 1 + 1) 0 rfl rfl HTV.out ?_)
  exact bodyPost_ret (results_cell_tmp Try.results57 _ _ (z + 1 + 1 + 1 + 1) 0 cnil _ rfl (range_stored _ _ _ _ (by exact World.there_setCells HTV.out _ _ _)) Try.underlying75 rfl infoClash) rfl ⟨rfl, setCells_below _ (by have := HZ.out; omega) _ _ _ _ HBV.out⟩
theorem box_four (w : World) (v0 v1 v2 v4 : Value) (t0 t1 t2 t4 x : TypeId) (C : Array Value) (W : World)
    (hW : W = ((((w.alloc (.cells #[v0] t0)).alloc (.cells #[v1] t1)).alloc (.cells #[v2] t2)).alloc (.cells C x)).alloc (.cells #[v4] t4)) :
    W.cell? ⟨w.heap.size, 0, none⟩ = some v0 ∧ W.cell? ⟨w.heap.size + 1, 0, none⟩ = some v1 ∧ W.cell? ⟨w.heap.size + 1 + 1, 0, none⟩ = some v2 ∧ W.cell? ⟨w.heap.size + 1 + 1 + 1 + 1, 0, none⟩ = some v4 ∧ W.there (w.heap.size + 1 + 1 + 1) 0 C.size ∧ Below w.heap.size w W := by
  subst hW
  refine ⟨?_, ?_, ?_, ?_, ?_, al (al (al (al (al (Below.refl _ _) _) _) _) _) _⟩
  · exact World.rangeAt_alloc (World.rangeAt_alloc (World.rangeAt_alloc (World.rangeAt_alloc (range_new w #[v0] t0 _ rfl) _) _) _) _ 0 _ rfl
  · have := range_new (w.alloc (.cells #[v0] t0)) #[v1] t1 _ rfl
    simp only [World.size_alloc] at this
    exact World.rangeAt_alloc (World.rangeAt_alloc (World.rangeAt_alloc this _) _) _ 0 _ rfl
  · have := range_new ((w.alloc (.cells #[v0] t0)).alloc (.cells #[v1] t1)) #[v2] t2 _ rfl
    simp only [World.size_alloc] at this
    exact World.rangeAt_alloc (World.rangeAt_alloc this _) _ 0 _ rfl
  · have := range_new ((((w.alloc (.cells #[v0] t0)).alloc (.cells #[v1] t1)).alloc (.cells #[v2] t2)).alloc (.cells C x)) #[v4] t4 _ rfl
    simp only [World.size_alloc] at this
    exact this 0 _ rfl
  · have := there_new (((w.alloc (.cells #[v0] t0)).alloc (.cells #[v1] t1)).alloc (.cells #[v2] t2)) C x
    simp only [World.size_alloc] at this
    exact World.there_alloc this _
set_option maxRecDepth 100000 in
set_option maxHeartbeats 1000000 in
theorem link_same (a b : List (List UInt8)) (va vb vp : Value) (w : World) (ha : ListsAt w va a) (hb : ListsAt w vb b) (h1 : 1 ≤ a.length) (h2 : a.length ≤ b.length) (hab : b.take a.length = a) (hn : b.length < 1000000) (hp : ∃ a n c, vp = .slice a n c) : Calls Try.prog 58 #[va, vb, vp] w fun e w' => e = .returned (.tuple #[cv (.slice none 0 0) (.slice none 0 0), .bool false]) ∧ Below w.heap.size w w' := by
  obtain ⟨pa, pn, pc, rfl⟩ := hp
  have HBX := box_four w va vb (.slice pa pn pc) (.int .i64 (a.length : Int)) 67 67 22 3 75 #[.slice none 0 0, .slice none 0 0] _ rfl
  have hbw := HBX.2.2.2.2.2
  replace HBX := Lib.hid HBX
  have hb0 : b ≠ [] := by intro h; rw [h] at h2; simp only [List.length_nil] at h2; omega
  obtain ⟨bl, ol, cl, rfl, c1, c2⟩ := hb.form hb0
  have HT : Hid (ListsAt w (.slice (some ⟨bl, ol, none⟩) a.length cl) a) := Lib.hid (by
    have := hb.take a.length h2
    rw [hab] at this
    exact this)
  have HA := Lib.hid (And.intro (ha.below hbw) (HT.out.below hbw))
  obtain ⟨aa, ca, rfl, a1, a2, a3⟩ := ha
  clear hbw hb hb0 HT hab a3
  obtain ⟨n, hna⟩ : ∃ n, n = a.length := ⟨_, rfl⟩
  rw [← hna] at HBX HA h1 h2 a1 ⊢
  have HN := Lib.hid hna
  clear hna
  obtain ⟨m, hmb⟩ : ∃ n, n = b.length := ⟨_, rfl⟩
  rw [← hmb] at HBX HA c1 h2 hn ⊢
  clear hmb
  unfold maxLen at c2 a2
  have k0 : (0 : Int) ≤ (n : Int) := by omega
  have k1 : (n : Int) ≤ (cl : Int) := by omega
  have k1' : (n : Int) ≤ (m : Int) := by omega
  have k2 : decide (m < n) = false := decide_eq_false (by omega)
  have k3 : ¬ m < n := by omega
  have k4 : decide ((n : Int) < 1) = false := decide_eq_false (by omega)
  have k5 : ¬ ((n : Int) < 1) := by omega
  go_enter Try.func58, Try.ntmps58
  go_wp2_with fail
  obtain ⟨z, hz⟩ : ∃ z, z = w.heap.size := ⟨_, rfl⟩
  rw [← hz] at HBX ⊢
  have HZ := Lib.hid hz; clear hz
  have HBW := Lib.hid (HZ.out ▸ HBX.out.2.2.2.2.2 : Below w.heap.size w _)
  generalize ((((w.alloc (.cells #[.slice aa n ca] 67)).alloc (.cells #[.slice (some ⟨bl, ol, none⟩) m cl] 67)).alloc (.cells #[.slice pa pn pc] 22)).alloc (.cells #[.slice none 0 0, .slice none 0 0] 75)).alloc (.cells #[.int .i64 (n : Int)] 3) = W at *
  refine wp_region_sched (fun V => V.cell? ⟨z, 0, none⟩ = some (.slice aa n ca) ∧ V.cell? ⟨z + 1, 0, none⟩ = some (.slice (some ⟨bl, ol, none⟩) m cl) ∧ V.cell? ⟨z + 1 + 1, 0, none⟩ = some (.slice pa pn pc) ∧ V.cell? ⟨z + 1 + 1 + 1 + 1, 0, none⟩ = some (.int .i64 (n : Int)) ∧ Below W.heap.size W V) [.e 0 true, .t 1, .t 2, .s 3, .e 4 true, .t 5, .t 6, .t 7, .t 8, .s 9, .s 10, .e 11 true, .t 12, .e 13 true, .t 14, .t 15, .s 16, .t 17, .s 18, .t 19, .t 20, .s 21, .s 23, .s 25, .e 22 true, .e 24 true, .e 26 true, .t 27, .t 28] (by kernel_rfl) (by kernel_rfl) (by intro c a d v w h; cases d <;> exact h) ?_
  have HSS : Hid (∀ V, Below W.heap.size W V → V.cell? ⟨z, 0, none⟩ = some (.slice aa n ca) ∧ V.cell? ⟨z + 1, 0, none⟩ = some (.slice (some ⟨bl, ol, none⟩) m cl) ∧ V.cell? ⟨z + 1 + 1, 0, none⟩ = some (.slice pa pn pc) ∧ V.cell? ⟨z + 1 + 1 + 1 + 1, 0, none⟩ = some (.int .i64 (n : Int)) ∧ Below W.heap.size W V) := Lib.hid (fun V hV => ⟨bc HBX.out.1 hV, bc HBX.out.2.1 hV, bc HBX.out.2.2.1 hV, bc HBX.out.2.2.2.1 hV, hV⟩)
  have HS := Lib.hid (Below.refl W.heap.size W).drew
  generalize W.drew = V at *
  have g := (HSS.out _ HS.out).2.2.2.1
  refine wpS_k rfl (by rfl) (fun K hK => ?_)
  go_simp
  refine hK _ _ ⟨by exact HSS.out _ HS.out, ?_⟩; clear hK K
  try simp only [Act.put, List.setIfInBounds_toArray, List.set_cons_zero, List.set_cons_succ]
  clear g
  iterate 2
    refine wpS_t rfl (v := ?_) (by rfl) (fun W => ?_) ?_
    rotate_left
    · go_simp
      try rfl
    try simp only [Act.put, List.setIfInBounds_toArray, List.set_cons_zero, List.set_cons_succ]
  refine wpS_s (by exact HSS.out _ HS.out) rfl (v := ?_) (by rfl) (fun W hSW => ?_) ?_
  rotate_left
  · go_simp
    try rfl
  try simp only [Act.put, List.setIfInBounds_toArray, List.set_cons_zero, List.set_cons_succ]
  have g := (HSS.out _ HS.out).2.1
  refine wpS_k rfl (by rfl) (fun K hK => ?_)
  go_simp
  refine hK _ _ ⟨by exact HSS.out _ HS.out, ?_⟩; clear hK K
  try simp only [Act.put, List.setIfInBounds_toArray, List.set_cons_zero, List.set_cons_succ]
  clear g
  iterate 4
    refine wpS_t rfl (v := ?_) (by rfl) (fun W => ?_) ?_
    rotate_left
    · go_simp
      try rfl
    try simp only [Act.put, List.setIfInBounds_toArray, List.set_cons_zero, List.set_cons_succ]
  refine wpS_s (by exact HSS.out _ HS.out) rfl (v := ?_) (by rfl) (fun W hSW => ?_) ?_
  rotate_left
  · go_simp
    try rfl
  try simp only [Act.put, List.setIfInBounds_toArray, List.set_cons_zero, List.set_cons_succ]
  refine wpS_s (by exact HSS.out _ HS.out) rfl (v := ?_) (by rfl) (fun W hSW => ?_) ?_
  rotate_left
  · go_simp
    try rfl
  try simp only [Act.put, List.setIfInBounds_toArray, List.set_cons_zero, List.set_cons_succ]
  have g := (HSS.out _ HS.out).2.2.2.1
  refine wpS_k rfl (by rfl) (fun K hK => ?_)
  go_simp
  refine hK _ _ ⟨by exact HSS.out _ HS.out, ?_⟩; clear hK K
  try simp only [Act.put, List.setIfInBounds_toArray, List.set_cons_zero, List.set_cons_succ]
  clear g
  iterate 1
    refine wpS_t rfl (v := ?_) (by rfl) (fun W => ?_) ?_
    rotate_left
    · go_simp
      try rfl
    try simp only [Act.put, List.setIfInBounds_toArray, List.set_cons_zero, List.set_cons_succ]
  refine wpS_k rfl (by rfl) (fun K hK => ?_)
  go_simp
  refine (same_any a a _ _ V (HA.out.1.below HS.out) (HA.out.2.below HS.out) (by have := HN.out; omega)).mono ?_
  rw [decide_eq_true rfl]
  rintro e V1 ⟨rfl, rfl⟩
  refine hK _ _ ⟨by exact HSS.out _ HS.out, ?_⟩; clear hK K
  try simp only [Act.put, List.setIfInBounds_toArray, List.set_cons_zero, List.set_cons_succ]
  iterate 2
    refine wpS_t rfl (v := ?_) (by rfl) (fun W => ?_) ?_
    rotate_left
    · go_simp
      try rfl
    try simp only [Act.put, List.setIfInBounds_toArray, List.set_cons_zero, List.set_cons_succ]
  iterate 1
    refine wpS_s_skip (by exact HSS.out _ HS.out) rfl (by rfl) ?_
    try simp only [Act.put, List.setIfInBounds_toArray, List.set_cons_zero, List.set_cons_succ]
  iterate 1
    refine wpS_t_skip rfl (by rfl) ?_
    try simp only [Act.put, List.setIfInBounds_toArray, List.set_cons_zero, List.set_cons_succ]
  iterate 1
    refine wpS_s_skip (by exact HSS.out _ HS.out) rfl (by rfl) ?_
    try simp only [Act.put, List.setIfInBounds_toArray, List.set_cons_zero, List.set_cons_succ]
  iterate 2
    refine wpS_t_skip rfl (by rfl) ?_
    try simp only [Act.put, List.setIfInBounds_toArray, List.set_cons_zero, List.set_cons_succ]
  iterate 3
    refine wpS_s_skip (by exact HSS.out _ HS.out) rfl (by rfl) ?_
    try simp only [Act.put, List.setIfInBounds_toArray, List.set_cons_zero, List.set_cons_succ]
  refine wpS_k_skip (by exact HSS.out _ HS.out) rfl (by rfl) ?_
  try simp only [Act.put, List.setIfInBounds_toArray, List.set_cons_zero, List.set_cons_succ]
  refine wpS_k_skip (by exact HSS.out _ HS.out) rfl (by rfl) ?_
  try simp only [Act.put, List.setIfInBounds_toArray, List.set_cons_zero, List.set_cons_succ]
  refine wpS_k_skip (by exact HSS.out _ HS.out) rfl (by rfl) ?_
  try simp only [Act.put, List.setIfInBounds_toArray, List.set_cons_zero, List.set_cons_succ]
  iterate 1
    refine wpS_t_skip rfl (by rfl) ?_
    try simp only [Act.put, List.setIfInBounds_toArray, List.set_cons_zero, List.set_cons_succ]
  iterate 1
    refine wpS_t rfl (v := ?_) (by rfl) (fun W => ?_) ?_
    rotate_left
    · go_simp
      try rfl
    try simp only [Act.put, List.setIfInBounds_toArray, List.set_cons_zero, List.set_cons_succ]
  refine wpS_done ?_
  have HTV := Lib.hid ((Keeps.of_below (X := fun _ => False) HS.out).there HBX.out.2.2.2.2.1 (by decide) (fun h => h))
  have HBV := Lib.hid (HBW.out.trans (HS.out.mono HBW.out.size))
  go_wp2_with (refine wpList_store_clash rfl _ _ rfl (z + 1 + 1 + 1) 0 rfl rfl HTV.out ?_)
  exact bodyPost_ret (results_cell_tmp Try.results58 _ _ (z + 1 + 1 + 1) 0 cnil _ rfl (range_stored _ _ _ _ (by exact World.there_setCells HTV.out _ _ _)) Try.underlying75 rfl infoClash) rfl ⟨rfl, setCells_below _ (by have := HZ.out; omega) _ _ _ _ HBV.out⟩
end Go.Proofs.Ytdkcndgehgmadaa
