/-
  Walks: slices.Concat of any parts of bytes; leaves.Leaf.
-/
import Derived.Test.YtdkcndgehgmadaaF0
import Derived.Lib.AppendZeros
open Go Go.RowKit Alm
namespace Go.Proofs.Ytdkcndgehgmadaa
/-- The sum of bytes, the leaf's sum: behind names that nothing opens. -/
noncomputable def sh : List UInt8 → Sum := Classical.choose (⟨sha, rfl⟩ : ∃ f : List UInt8 → Sum, f = sha)
theorem sh_eq : sh = sha := Classical.choose_spec (⟨sha, rfl⟩ : ∃ f : List UInt8 → Sum, f = sha)
noncomputable def lf : List UInt8 → Sum := Classical.choose (⟨fun l => sha (0 :: l), rfl⟩ : ∃ f : List UInt8 → Sum, f = fun l => sha (0 :: l))
theorem lf_eq : lf = fun l => sha (0 :: l) := Classical.choose_spec (⟨fun l => sha (0 :: l), rfl⟩ : ∃ f : List UInt8 → Sum, f = fun l => sha (0 :: l))
theorem sh_any (l : List UInt8) (v : Value) (w : World) (hv : BytesAt w v l) (hl : l.length < 72057594037927936) : Calls Try.prog 49 #[v] w fun e w' => e = .returned (sv (sh l)) ∧ Below w.heap.size w w' := by
  rw [sh_eq]; exact of_any l v w hv hl
/-- Parts of bytes in a row of slices. -/
def Parts2 (w : World) (b o : Nat) (vs : List Value) (ls : List (List UInt8)) : Prop :=
  w.rangeAt b o vs ∧ vs.length = ls.length ∧ ∀ j, j < ls.length → ∃ a n c, vs.getD j undef = .slice a n c ∧ n = (ls.getD j []).length ∧ n ≤ c ∧ (ls.getD j [] = [] ∨ ∃ b' o', a = some ⟨b', o', none⟩ ∧ w.rangeAt b' o' (cells8 (ls.getD j [])) ∧ b' < w.heap.size)
theorem parts2_cell {w : World} {b o : Nat} {vs : List Value} {ls : List (List UInt8)} (h : Parts2 w b o vs ls) {j : Nat} (hj : j < ls.length) : w.cell? ⟨b, o + j, none⟩ = some (vs.getD j undef) := by
  refine h.1 j _ ?_
  have : j < vs.length := by rw [h.2.1]; exact hj
  rw [List.getElem?_eq_getElem this]; simp [this]
theorem wpList_append_zero {w : World} {ops : Array Oper} {rest : List Oper} {o : Oper} {a : Act} {Q : Exit → Act → World → Prop} (hgd : o.guard = none) (s x : Operand)
    (ho : o.op = .call { callee := .builtin .append, args := #[s, x], argTypes := #[50, 50] })
    (base : Nat) (i : TypeInfo) (hi : Try.prog.info? 5 = some i)
    (v : Value) (n : Nat) (xs : List Value) (hs : a.eval s = v) (hown : w.ownsRow base 5 1 v n xs) (ad : Option Addr) (c : Nat) (hx : a.eval x = .slice ad 0 c)
    (h : wpList Try.prog ops Q rest (a.put o.dst v) w) : wpList Try.prog ops Q (o :: rest) a w := by
  refine wpList_plain hgd fun K hK => ?_
  have hrun : (Builtin.append_ #[50, 50] o.type #[v, .slice ad 0 c]).run Try.prog w = .ok v w := by
    rcases hown.2 with ⟨rfl, rfl⟩ | ⟨g, cap, cur, rfl, _, _, hnc, _⟩
    · cases ad <;> simp [Builtin.append_, run_underlying Try.underlying50, sizeOf, typeInfo, hi, Builtin.lenOf, Builtin.firstCells, loadCells, loadCellsFrom]
    · cases ad <;> simp [Builtin.append_, run_underlying Try.underlying50, sizeOf, typeInfo, hi, Builtin.lenOf, Builtin.firstCells, loadCells, loadCellsFrom, hnc, storeCells]
  unfold Oper.wp
  simp [execOp, ho, resolve, invoke, builtin, hs, hx, hrun, Result.andThen]
  exact hK _ _ h
set_option maxRecDepth 100000 in
theorem concat_all (vs : List Value) (ls : List (List UInt8)) (b o cap : Nat) (w : World) (h : Parts2 w b o vs ls) (hc : ls.length ≤ cap) (hk : ls.length ≤ 1000) (hpos : 1 ≤ ls.flatten.length) (hl : ls.flatten.length ≤ 140737488355328) :
    Calls Try.prog 70 #[.slice (some ⟨b, o, none⟩) ls.length cap] w fun e w' => ∃ v, e = .returned v ∧ BytesAt w' v ls.flatten ∧ Below w.heap.size w w' := by
  obtain ⟨k, hkk⟩ : ∃ k, k = ls.length := ⟨_, rfl⟩
  rw [← hkk] at hc hk ⊢
  have HK := Lib.hid hkk; clear hkk
  have HL := Lib.hid hl; clear hl
  have HP := Lib.hid hpos; clear hpos
  have hk' : (k : Int) ≤ 1000 := by omega
  go_enter Try.func70, Try.ntmps70
  go_wp2_with fail
  go_loopw [3, 11] (fun s i W => ∃ j : Nat, j ≤ k ∧ i = .int .i64 (j : Int) ∧ s = .int .i64 ((ls.take j).flatten.length : Int) ∧ Below w.heap.size w W) (fun _ i _ => k - (intOf i).toNat)
  case atStart => exact ⟨0, by omega, rfl, rfl, Below.refl _ _⟩
  case round =>
    obtain ⟨j, hj, rfl, rfl, hB⟩ := hrel
    by_cases hlt : j < k
    · have hlt' : (j : Int) < (k : Int) := by omega
      have hc0 := parts2_cell h (j := j) (by rw [← HK.out]; exact hlt)
      have hc1 : wr.cell? ⟨b, o + j, none⟩ = some (vs.getD j undef) := (hB.cell (p := ⟨b, o + j, none⟩) (World.block_lt_of_cell? w _ hc0)).trans hc0
      obtain ⟨a, n, c, hv, hn, hnc, -⟩ := h.2.2 j (by rw [← HK.out]; exact hlt)
      rw [hv] at hc1
      clear hc0 hv
      have hft := flat_take ls j (by rw [← HK.out]; exact hlt)
      have hfl := congrArg List.length hft
      rw [List.length_append, ← hn] at hfl
      have hle := flat_take_le ls (j + 1)
      have hmx := HL.out
      obtain ⟨s1, hs1⟩ : ∃ s, s = (ls.take j).flatten.length := ⟨_, rfl⟩
      obtain ⟨s2, hs2⟩ : ∃ s, s = (ls.take (j + 1)).flatten.length := ⟨_, rfl⟩
      rw [← hs1, ← hs2] at hfl
      rw [← hs2] at hle
      rw [← hs1]
      have hsum : IntKind.i64.wrap ((s1 : Int) + (n : Int)) = (s2 : Int) := by rw [IntKind.wrap_i64]; omega
      have HS2 := Lib.hid hs2
      clear hft hn hs1 hs2 hfl hle hmx
      go_wp2_with fail
      exact ⟨⟨j + 1, by omega, by simp, by rw [HS2.out], hB⟩, by simp [intOf]; omega⟩
    · have hjk : j = k := by omega
      subst hjk
      have htk : ls.take j = ls := List.take_of_length_le (by rw [HK.out]; exact Nat.le_refl _)
      rw [htk]
      obtain ⟨T, hT⟩ : ∃ T, T = ls.flatten.length := ⟨_, rfl⟩
      rw [← hT]
      have hT1 : 1 ≤ T := by rw [hT]; exact HP.out
      have hT2 : T ≤ 140737488355328 := by rw [hT]; exact HL.out
      have HT := Lib.hid hT; clear hT
      have Ht := Lib.hid htk; clear htk
      have G := Lib.hid (grow_any T wr hT1 hT2); clear hT1 hT2
      go_wp2_with fail
      refine G.out.mono ?_
      rintro e w1 ⟨v, rfl, ho1, hb1⟩
      obtain ⟨i0, hi0, hz0⟩ := Option.map_eq_some_iff.1 infoByteZ
      simp only [Prod.mk.injEq] at hz0
      have HI := Lib.hid hi0; clear hi0
      have HZ := Lib.hid hz0; clear hz0
      have hB1 : Below w.heap.size w w1 := hB.trans (hb1.mono hB.size)
      have ho1' : w1.ownsRow w.heap.size 5 1 v 0 [] := own_mono ho1 hB.size
      clear ho1 hb1 hB G
      go_wp2_with fail
      go_loopw [6, 27] (fun v i W => ∃ q : Nat, q ≤ j ∧ i = .int .i64 (q : Int) ∧ W.ownsRow w.heap.size 5 1 v (ls.take q).flatten.length (cells8 (ls.take q).flatten) ∧ Below w.heap.size w W) (fun _ i _ => j - (intOf i).toNat)
      case atStart => exact ⟨0, by omega, rfl, ho1', hB1⟩
      case round =>
        clear hB1 ho1'
        obtain ⟨q, hq, rfl, ho2, hB2⟩ := hrel
        by_cases hlt2 : q < j
        · have hlt' : (q : Int) < (j : Int) := by omega
          have hc0 := parts2_cell h (j := q) (by rw [← HK.out]; exact hlt2)
          have hc1 := (hB2.cell (p := ⟨b, o + q, none⟩) (World.block_lt_of_cell? w _ hc0)).trans hc0
          obtain ⟨a, n, c, hv, hn, hnc, hor⟩ := h.2.2 q (by rw [← HK.out]; exact hlt2)
          rw [hv] at hc1
          clear hc0 hv
          have hft := flat_take ls q (by rw [← HK.out]; exact hlt2)
          have hfl := congrArg List.length hft
          rw [List.length_append, ← hn] at hfl
          have hle := flat_take_le ls (q + 1)
          have hmx := HL.out
          have hnn : (ls.take q).flatten.length + n ≤ 140737488355328 := by omega
          have HN := Lib.hid hnn; clear hnn
          have HF := Lib.hid hft; clear hft
          have HFL := Lib.hid hfl; clear hfl
          have HNn := Lib.hid hn; clear hn
          clear hle hmx
          by_cases hn0 : n = 0
          · have hp0 : ls.getD q [] = [] := List.length_eq_zero_iff.1 (by rw [← HNn.out]; exact hn0)
            have hHF := HF.out
            rw [hp0, List.append_nil] at hHF
            have HHF := Lib.hid hHF; clear hHF hp0 hor
            subst hn0
            go_wp2_with (at_builtin; refine wpList_append_zero rfl _ _ rfl w.heap.size i0 HI.out _ _ _ rfl ho2 a c rfl ?_)
            exact ⟨⟨q + 1, by omega, by simp, by rw [HHF.out]; exact ho2, hB2⟩, by simp [intOf]; omega⟩
          · obtain ⟨b', o', rfl, hrg, hb'⟩ := hor.resolve_left (by intro h; rw [HNn.out, h] at hn0; exact hn0 rfl)
            have hrg' := range_below hB2 hrg hb'
            clear hrg
            go_wp2_with (at_builtin; refine wpList_append_own _ rfl _ _ _ rfl w.heap.size 5 i0 (.int .u8 0) 1 1 Try.underlying50 HI.out HZ.out.1 HZ.out.2.1 HZ.out.2.2 rfl (by decide) _ _ _ rfl ho2 ⟨b', o', none⟩ n c (cells8 (ls.getD q [])) rfl (by rw [length_cells8, HNn.out]; omega) (fun j u hj => by rw [Addr.add_mid]; exact hrg' j u hj) (oneCell_cells8 _) (by unfold maxLen; have := HN.out; omega) (by have := HN.out; omega) hB2.size ?_; intro v' w2 ho3 hg3 _)
            rw [← HFL.out, ← cells8_append, ← HF.out] at ho3
            exact ⟨⟨q + 1, by omega, by simp, ho3, hB2.grown hg3 hB2.size (own_base ho2)⟩, by simp [intOf]; omega⟩
        · have hqj : q = j := by omega
          subst hqj
          rw [Ht.out] at ho2
          go_wp2_with fail
          exact bodyPost_ret (results_tmp rfl _ _ _) rfl ⟨_, rfl, bytes_own ho2 HP.out, hB2⟩
theorem parts_two {w : World} {p q : Nat} (l : List UInt8) (v : Value) (hp : p < w.heap.size) (t : TypeId)
    (h1 : w.rangeAt p 0 (cells8 [0])) (h2 : BytesAt w v l) (hq : q = w.heap.size) :
    Parts2 (w.alloc (.cells #[.slice (some ⟨p, 0, none⟩) 1 1, v] t)) q 0 [.slice (some ⟨p, 0, none⟩) 1 1, v] [[0], l] := by
  subst hq
  have hB := al (Below.refl w.heap.size w) (.cells #[.slice (some ⟨p, 0, none⟩) 1 1, v] t)
  refine ⟨range_new _ _ _ _ rfl, rfl, fun j hj => ?_⟩
  have hj' : j < 2 := hj
  match j, hj' with
  | 0, _ => exact ⟨_, _, _, rfl, rfl, by decide, .inr ⟨p, 0, rfl, range_below hB h1 hp, by simp; omega⟩⟩
  | 1, _ =>
    obtain ⟨a, cap, rfl, h3, h4, h5⟩ := h2
    refine ⟨a, _, cap, rfl, by simp, h3, ?_⟩
    by_cases hl : l = []
    · exact .inl (by simpa using hl)
    · obtain ⟨b', o', rfl, hr⟩ := h5.resolve_left hl
      have hb' : b' < w.heap.size := range_lt hr (by intro h; have := length_cells8 l; rw [h] at this; exact hl (List.length_eq_zero_iff.1 this.symm))
      exact .inr ⟨b', o', rfl, by simpa using range_below hB hr hb', by simp; omega⟩
set_option maxRecDepth 100000 in
set_option maxHeartbeats 1000000 in
theorem lf_any (l : List UInt8) (v : Value) (w : World) (hv : BytesAt w v l) (hl : l.length < 140737488355000) : Calls Try.prog 48 #[v] w fun e w' => e = .returned (sv (lf l)) ∧ Below w.heap.size w w' := by
  obtain ⟨s, hsn⟩ : ∃ s, s = lf l := ⟨_, rfl⟩
  have hsf : sha [[0], l].flatten = s := by rw [hsn, lf_eq]; congr 1; simp
  rw [← hsn]
  have HSF := Lib.hid hsf; clear hsf hsn
  have R0 : Res w 32 (w.alloc (.cells (cells8 (List.replicate 32 0)).toArray 24)) := Res.start _ _ _ _ (by rfl)
  have HB0 := Lib.hid R0
  obtain ⟨ad, cap, rfl, h1, h2, h3⟩ := hv
  have HV := Lib.hid (show BytesAt w (.slice ad l.length cap) l from ⟨ad, cap, rfl, h1, h2, h3⟩)
  obtain ⟨n, hn⟩ : ∃ n, n = l.length := ⟨_, rfl⟩
  rw [← hn] at HV h1 ⊢
  have HN := Lib.hid (And.intro hn hl)
  clear hn hl h1 h2 h3 R0
  have z1 : (w.alloc (.cells (cells8 (List.replicate 32 0)).toArray 24)).heap.size = w.heap.size + 1 := Array.size_push _
  have z2 : ((w.alloc (.cells (cells8 (List.replicate 32 0)).toArray 24)).alloc (.cells #[.int .u8 0] 5)).heap.size = w.heap.size + 1 + 1 := by rw [World.size_alloc, z1]
  have hP := parts_two (w := (w.alloc (.cells (cells8 (List.replicate 32 0)).toArray 24)).alloc (.cells #[.int .u8 0] 5)) (p := w.heap.size + 1) (q := w.heap.size + 1 + 1) l (.slice ad n cap) (by rw [z2]; omega) 50
    (by rw [← z1]; exact range_new _ _ _ _ rfl) (bytes_below (bytes_below HV.out HB0.out.below (Nat.le_refl _)) (al (Below.refl _ _) _) (Nat.le_refl _)) z2.symm
  have hb3 : Below w.heap.size w (((w.alloc (.cells (cells8 (List.replicate 32 0)).toArray 24)).alloc (.cells #[.int .u8 0] 5)).alloc (.cells #[.slice (some ⟨w.heap.size + 1, 0, none⟩) 1 1, .slice ad n cap] 50)) := al (al HB0.out.below _) _
  have ht3 := World.there_alloc (World.there_alloc HB0.out.there (.cells #[.int .u8 0] 5)) (.cells #[.slice (some ⟨w.heap.size + 1, 0, none⟩) 1 1, .slice ad n cap] 50)
  have HPP := Lib.hid (And.intro hP (And.intro hb3 ht3))
  clear hP hb3 ht3 z1 z2 HB0 HV
  go_enter Try.func48, Try.ntmps48
  go_wp2_with fail
  change Calls _ _ _ (((w.alloc (.cells (cells8 (List.replicate 32 0)).toArray 24)).alloc (.cells #[.int .u8 0] 5)).alloc (.cells #[.slice (some ⟨w.heap.size + 1, 0, none⟩) 1 1, .slice ad n cap] 50)) _
  generalize (((w.alloc (.cells (cells8 (List.replicate 32 0)).toArray 24)).alloc (.cells #[.int .u8 0] 5)).alloc (.cells #[.slice (some ⟨w.heap.size + 1, 0, none⟩) 1 1, .slice ad n cap] 50)) = W at *
  refine (concat_all _ [[0], l] _ _ 2 W HPP.out.1 (by simp) (by simp) (by simp) (by have := HN.out.2; simp; omega)).mono ?_
  rintro e w1 ⟨v, rfl, hbv, hb⟩
  have hb1 := HPP.out.2.1.trans (hb.mono HPP.out.2.1.size)
  have ht1 := (Keeps.of_below (X := fun _ => False) hb).there HPP.out.2.2 (by decide) (fun h => h)
  have HH := Lib.hid (And.intro hbv (And.intro hb1 ht1))
  clear hb hbv hb1 ht1 HPP
  go_wp2_with fail
  refine (of_any _ _ _ HH.out.1 (by have := HN.out.2; simp; omega)).mono ?_
  rw [HSF.out]
  rintro e w2 ⟨rfl, hb⟩
  have hb2 := HH.out.2.1.trans (hb.mono HH.out.2.1.size)
  have ht2 := (Keeps.of_below (X := fun _ => False) hb).there HH.out.2.2 (by decide) (fun h => h)
  have HT := Lib.hid ht2
  have HB := Lib.hid hb2
  clear hb ht2 hb2 HH
  go_wp2_with (refine wpList_store_sum rfl _ _ rfl w.heap.size 0 s rfl rfl HT.out ?_)
  exact bodyPost_ret (results_sum Try.results48 _ _ _ _ rfl (World.there_setCells HT.out _ _ _)) rfl ⟨rfl, setCells_below _ (Nat.le_refl _) _ _ _ _ HB.out⟩
end Go.Proofs.Ytdkcndgehgmadaa
