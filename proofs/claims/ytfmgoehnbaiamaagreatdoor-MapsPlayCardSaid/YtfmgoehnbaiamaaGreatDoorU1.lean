/-
  Walks: slices.Concat of any parts of bytes; keys.Side.
-/
import Derived.Test.YtfmgoehnbaiamaaGreatDoorZAM
import Derived.Lib.AppendZeros
import Derived.Test.YtfmgoehnbaiamaaGreatDoorY2
import Derived.Deep.RegionWith
open Go Go.RowKit Alm
namespace Go.Proofs.YtfmgoehnbaiamaaGreatDoor
/-- The sum of bytes, a side's sum, the sum of nothing, what stands at a key: behind names that nothing opens. -/
noncomputable def sh : List UInt8 → Sum := Classical.choose (⟨sha, rfl⟩ : ∃ f : List UInt8 → Sum, f = sha)
theorem sh_eq : sh = sha := Classical.choose_spec (⟨sha, rfl⟩ : ∃ f : List UInt8 → Sum, f = sha)
noncomputable def sd : Sum → Sum → Sum := Classical.choose (⟨fun l r => sha (4 :: (l.toList ++ r.toList)), rfl⟩ : ∃ f : Sum → Sum → Sum, f = fun l r => sha (4 :: (l.toList ++ r.toList)))
theorem sd_eq : sd = fun l r => sha (4 :: (l.toList ++ r.toList)) := Classical.choose_spec (⟨fun l r => sha (4 :: (l.toList ++ r.toList)), rfl⟩ : ∃ f : Sum → Sum → Sum, f = fun l r => sha (4 :: (l.toList ++ r.toList)))
noncomputable def z0 : Sum := Classical.choose (⟨sha [2], rfl⟩ : ∃ s : Sum, s = sha [2])
theorem z0_eq : z0 = sha [2] := Classical.choose_spec (⟨sha [2], rfl⟩ : ∃ s : Sum, s = sha [2])
noncomputable def vl : Sum → List UInt8 → Sum := Classical.choose (⟨fun k v => if v = [] then sha [2] else sha (3 :: (k.toList ++ v)), rfl⟩ : ∃ f : Sum → List UInt8 → Sum, f = fun k v => if v = [] then sha [2] else sha (3 :: (k.toList ++ v)))
theorem vl_eq : vl = fun k v => if v = [] then sha [2] else sha (3 :: (k.toList ++ v)) := Classical.choose_spec (⟨fun k v => if v = [] then sha [2] else sha (3 :: (k.toList ++ v)), rfl⟩ : ∃ f : Sum → List UInt8 → Sum, f = fun k v => if v = [] then sha [2] else sha (3 :: (k.toList ++ v)))
theorem vl_nil (k : Sum) : vl k [] = z0 := by rw [vl_eq, z0_eq]; rfl
/-- What is empty, so high above the keys. -/
noncomputable def em : Nat → Sum := Keys.emp sd z0
theorem em_zero : em 0 = z0 := rfl
theorem em_succ (n : Nat) : em (n + 1) = sd (em n) (em n) := rfl
theorem sh_any (l : List UInt8) (v : Value) (w : World) (hv : BytesAt w v l) (hl : l.length < 72057594037927936) : Calls Tryz.prog 122 #[v] w fun e w' => e = .returned (sv (sh l)) ∧ Below w.heap.size w w' := by
  rw [sh_eq]; exact of_any l v w hv hl
/-- Parts of bytes in a row of slices. -/
def Parts2 (w : World) (b o : Nat) (vs : List Value) (ls : List (List UInt8)) : Prop :=
  w.rangeAt b o vs ∧ vs.length = ls.length ∧ ∀ j, j < ls.length → ∃ a n c, vs.getD j undef = .slice a n c ∧ n = (ls.getD j []).length ∧ n ≤ c ∧ (ls.getD j [] = [] ∨ ∃ b' o', a = some ⟨b', o', none⟩ ∧ w.rangeAt b' o' (cells8 (ls.getD j [])) ∧ b' < w.heap.size)
theorem parts2_cell {w : World} {b o : Nat} {vs : List Value} {ls : List (List UInt8)} (h : Parts2 w b o vs ls) {j : Nat} (hj : j < ls.length) : w.cell? ⟨b, o + j, none⟩ = some (vs.getD j undef) := by
  refine h.1 j _ ?_
  have : j < vs.length := by rw [h.2.1]; exact hj
  rw [List.getElem?_eq_getElem this]; simp [this]
theorem wpList_append_zero {w : World} {ops : Array Oper} {rest : List Oper} {o : Oper} {a : Act} {Q : Exit → Act → World → Prop} (hgd : o.guard = none) (s x : Operand)
    (ho : o.op = .call { callee := .builtin .append, args := #[s, x], argTypes := #[39, 39] })
    (base : Nat) (i : TypeInfo) (hi : Tryz.prog.info? 5 = some i)
    (v : Value) (n : Nat) (xs : List Value) (hs : a.eval s = v) (hown : w.ownsRow base 5 1 v n xs) (ad : Option Addr) (c : Nat) (hx : a.eval x = .slice ad 0 c)
    (h : wpList Tryz.prog ops Q rest (a.put o.dst v) w) : wpList Tryz.prog ops Q (o :: rest) a w := by
  refine wpList_plain hgd fun K hK => ?_
  have hrun : (Builtin.append_ #[39, 39] o.type #[v, .slice ad 0 c]).run Tryz.prog w = .ok v w := by
    rcases hown.2 with ⟨rfl, rfl⟩ | ⟨g, cap, cur, rfl, _, _, hnc, _⟩
    · cases ad <;> simp [Builtin.append_, run_underlying Tryz.underlying39, sizeOf, typeInfo, hi, Builtin.lenOf, Builtin.firstCells, loadCells, loadCellsFrom]
    · cases ad <;> simp [Builtin.append_, run_underlying Tryz.underlying39, sizeOf, typeInfo, hi, Builtin.lenOf, Builtin.firstCells, loadCells, loadCellsFrom, hnc, storeCells]
  unfold Oper.wp
  simp [execOp, ho, resolve, invoke, builtin, hs, hx, hrun, Result.andThen]
  exact hK _ _ h
set_option maxRecDepth 100000 in
theorem concat_all (vs : List Value) (ls : List (List UInt8)) (b o cap : Nat) (w : World) (h : Parts2 w b o vs ls) (hc : ls.length ≤ cap) (hk : ls.length ≤ 1000) (hpos : 1 ≤ ls.flatten.length) (hl : ls.flatten.length ≤ 140737488355328) :
    Calls Tryz.prog 123 #[.slice (some ⟨b, o, none⟩) ls.length cap] w fun e w' => ∃ v, e = .returned v ∧ BytesAt w' v ls.flatten ∧ Below w.heap.size w w' := by
  obtain ⟨k, hkk⟩ : ∃ k, k = ls.length := ⟨_, rfl⟩
  rw [← hkk] at hc hk ⊢
  have HK := Lib.hid hkk; clear hkk
  have HL := Lib.hid hl; clear hl
  have HP := Lib.hid hpos; clear hpos
  have hk' : (k : Int) ≤ 1000 := by omega
  go_enter Tryz.func123, Tryz.ntmps123
  go_wp2_with fail
  go_loopw [3, 11] (fun s i W => ∃ j : Nat, j ≤ k ∧ i = .int .i64 (j : Int) ∧ s = .int .i64 ((ls.take j).flatten.length : Int) ∧ Below w.heap.size w W) (fun _ i _ => k - (intOf i).toNat)
  case atStart => exact ⟨0, by omega, rfl, rfl, Below.refl _ _⟩
  case round =>
    obtain ⟨j, hj, rfl, rfl, hB⟩ := hrel
    by_cases hlt : j < k
    · have hlt' : (j : Int) < (k : Int) := by omega
      have hc0 := parts2_cell h (j := j) (by rw [← HK.out]; exact hlt)
      have hc1 : wr.cell? ⟨b, o + j, none⟩ = some (vs.getD j undef) := (hB.cell (p := ⟨b, o + j, none⟩) (World.block_lt_of_cell? w _ hc0)).trans hc0
      obtain ⟨a, n, c, hv, hn, hnc, -⟩ := h.2.2 j (by rw [← HK.out]; exact hlt)
      rw [hv] at hc1
      clear hc0 hv
      have hft := flat_take ls j (by rw [← HK.out]; exact hlt)
      have hfl := congrArg List.length hft
      rw [List.length_append, ← hn] at hfl
      have hle := flat_take_le ls (j + 1)
      have hmx := HL.out
      obtain ⟨s1, hs1⟩ : ∃ s, s = (ls.take j).flatten.length := ⟨_, rfl⟩
      obtain ⟨s2, hs2⟩ : ∃ s, s = (ls.take (j + 1)).flatten.length := ⟨_, rfl⟩
      rw [← hs1, ← hs2] at hfl
      rw [← hs2] at hle
      rw [← hs1]
      have hsum : IntKind.i64.wrap ((s1 : Int) + (n : Int)) = (s2 : Int) := by rw [IntKind.wrap_i64]; omega
      have HS2 := Lib.hid hs2
      clear hft hn hs1 hs2 hfl hle hmx
      go_wp2_with fail
      exact ⟨⟨j + 1, by omega, by simp, by rw [HS2.out], hB⟩, by simp [intOf]; omega⟩
    · have hjk : j = k := by omega
      subst hjk
      have htk : ls.take j = ls := List.take_of_length_le (by rw [HK.out]; exact Nat.le_refl _)
      rw [htk]
      obtain ⟨T, hT⟩ : ∃ T, T = ls.flatten.length := ⟨_, rfl⟩
      rw [← hT]
      have hT1 : 1 ≤ T := by rw [hT]; exact HP.out
      have hT2 : T ≤ 140737488355328 := by rw [hT]; exact HL.out
      have HT := Lib.hid hT; clear hT
      have Ht := Lib.hid htk; clear htk
      have G := Lib.hid (grow_any T wr hT1 hT2); clear hT1 hT2
      go_wp2_with fail
      refine G.out.mono ?_
      rintro e w1 ⟨v, rfl, ho1, hb1⟩
      obtain ⟨i0, hi0, hz0⟩ := Option.map_eq_some_iff.1 infoByteZ
      simp only [Prod.mk.injEq] at hz0
      have HI := Lib.hid hi0; clear hi0
      have HZ := Lib.hid hz0; clear hz0
      have hB1 : Below w.heap.size w w1 := hB.trans (hb1.mono hB.size)
      have ho1' : w1.ownsRow w.heap.size 5 1 v 0 [] := own_mono ho1 hB.size
      clear ho1 hb1 hB G
      go_wp2_with fail
      go_loopw [6, 27] (fun v i W => ∃ q : Nat, q ≤ j ∧ i = .int .i64 (q : Int) ∧ W.ownsRow w.heap.size 5 1 v (ls.take q).flatten.length (cells8 (ls.take q).flatten) ∧ Below w.heap.size w W) (fun _ i _ => j - (intOf i).toNat)
      case atStart => exact ⟨0, by omega, rfl, ho1', hB1⟩
      case round =>
        clear hB1 ho1'
        obtain ⟨q, hq, rfl, ho2, hB2⟩ := hrel
        by_cases hlt2 : q < j
        · have hlt' : (q : Int) < (j : Int) := by omega
          have hc0 := parts2_cell h (j := q) (by rw [← HK.out]; exact hlt2)
          have hc1 := (hB2.cell (p := ⟨b, o + q, none⟩) (World.block_lt_of_cell? w _ hc0)).trans hc0
          obtain ⟨a, n, c, hv, hn, hnc, hor⟩ := h.2.2 q (by rw [← HK.out]; exact hlt2)
          rw [hv] at hc1
          clear hc0 hv
          have hft := flat_take ls q (by rw [← HK.out]; exact hlt2)
          have hfl := congrArg List.length hft
          rw [List.length_append, ← hn] at hfl
          have hle := flat_take_le ls (q + 1)
          have hmx := HL.out
          have hnn : (ls.take q).flatten.length + n ≤ 140737488355328 := by omega
          have HN := Lib.hid hnn; clear hnn
          have HF := Lib.hid hft; clear hft
          have HFL := Lib.hid hfl; clear hfl
          have HNn := Lib.hid hn; clear hn
          clear hle hmx
          by_cases hn0 : n = 0
          · have hp0 : ls.getD q [] = [] := List.length_eq_zero_iff.1 (by rw [← HNn.out]; exact hn0)
            have hHF := HF.out
            rw [hp0, List.append_nil] at hHF
            have HHF := Lib.hid hHF; clear hHF hp0 hor
            subst hn0
            go_wp2_with (at_builtin; refine wpList_append_zero rfl _ _ rfl w.heap.size i0 HI.out _ _ _ rfl ho2 a c rfl ?_)
            exact ⟨⟨q + 1, by omega, by simp, by rw [HHF.out]; exact ho2, hB2⟩, by simp [intOf]; omega⟩
          · obtain ⟨b', o', rfl, hrg, hb'⟩ := hor.resolve_left (by intro h; rw [HNn.out, h] at hn0; exact hn0 rfl)
            have hrg' := range_below hB2 hrg hb'
            clear hrg
            go_wp2_with (at_builtin; refine wpList_append_own _ rfl _ _ _ rfl w.heap.size 5 i0 (.int .u8 0) 1 1 Tryz.underlying39 HI.out HZ.out.1 HZ.out.2.1 HZ.out.2.2 rfl (by decide) _ _ _ rfl ho2 ⟨b', o', none⟩ n c (cells8 (ls.getD q [])) rfl (by rw [length_cells8, HNn.out]; omega) (fun j u hj => by rw [Addr.add_mid]; exact hrg' j u hj) (oneCell_cells8 _) (by unfold maxLen; have := HN.out; omega) (by have := HN.out; omega) hB2.size ?_; intro v' w2 ho3 hg3 _)
            rw [← HFL.out, ← cells8_append, ← HF.out] at ho3
            exact ⟨⟨q + 1, by omega, by simp, ho3, hB2.grown hg3 hB2.size (own_base ho2)⟩, by simp [intOf]; omega⟩
        · have hqj : q = j := by omega
          subst hqj
          rw [Ht.out] at ho2
          go_wp2_with fail
          exact bodyPost_ret (results_tmp rfl _ _ _) rfl ⟨_, rfl, bytes_own ho2 HP.out, hB2⟩
theorem parts_three {w : World} {p q a b : Nat} (l r : Sum) (hp : p < w.heap.size) (t : TypeId)
    (h1 : w.rangeAt p 0 (cells8 [4])) (h2 : w.rangeAt a 0 (cellsOf l)) (h3 : w.rangeAt b 0 (cellsOf r)) (ha : a < w.heap.size) (hb : b < w.heap.size) (hq : q = w.heap.size) :
    PartsAt (w.alloc (.cells #[.slice (some ⟨p, 0, none⟩) 1 1, .slice (some ⟨a, 0, none⟩) 32 32, .slice (some ⟨b, 0, none⟩) 32 32] t)) q 0 [.slice (some ⟨p, 0, none⟩) 1 1, .slice (some ⟨a, 0, none⟩) 32 32, .slice (some ⟨b, 0, none⟩) 32 32] [[4], l.toList, r.toList] := by
  subst hq
  have hB := al (Below.refl w.heap.size w) (.cells #[.slice (some ⟨p, 0, none⟩) 1 1, .slice (some ⟨a, 0, none⟩) 32 32, .slice (some ⟨b, 0, none⟩) 32 32] t)
  refine ⟨range_new _ _ _ _ rfl, rfl, fun j hj => ?_⟩
  have hj' : j < 3 := hj
  match j, hj' with
  | 0, _ => exact ⟨_, _, _, rfl, rfl, by decide, p, 0, rfl, range_below hB h1 hp, by simp; omega⟩
  | 1, _ => exact ⟨_, _, _, rfl, by simp, by decide, a, 0, rfl, range_below hB h2 ha, by simp; omega⟩
  | 2, _ => exact ⟨_, _, _, rfl, by simp, by decide, b, 0, rfl, range_below hB h3 hb, by simp; omega⟩
/-- A store of many cells, as one step of a region that draws. -/
theorem step_store_mid {P : Program} {ops : Array Oper} {op : Oper} {a : Act} {w : World} {K : Act → World → Prop} {Q : Exit → Act → World → Prop} {E : Prop} (hg : op.guard = none) (ty : TypeId) (x y : Operand) (ho : op.op = .store ty x y)
    (b o : Nat) (cells : Array Value) (hx : a.eval x = .pointer (some ⟨b, o, none⟩)) (hy : a.eval y = .agg cells)
    (ht : w.there b o cells.size) (hi : (P.info? ty).map (·.size) = some cells.size) (h1 : cells.all (·.oneCell') = true)
    (h : K (a.put op.dst undef) (w.setCells b o cells.toList)) : if Region.wanted op (yielded ops a.tmps) = true then op.wp P a w K Q else E := by
  have hw : Region.wanted op (yielded ops a.tmps) = true := by simp [Region.wanted, hg]
  rw [if_pos hw]
  exact wp_store_mid ty x y ho b o cells hx hy ht hi h1 h
theorem parts_drew {w : World} {b o : Nat} {vs : List Value} {ls : List (List UInt8)} (h : PartsAt w b o vs ls) : PartsAt w.drew b o vs ls := ⟨h.1, h.2.1, h.2.2⟩
set_option maxRecDepth 100000 in
set_option maxHeartbeats 400000 in
theorem sd_any (l r : Sum) (w : World) : Calls Tryz.prog 64 #[sv l, sv r] w fun e w' => e = .returned (sv (sd l r)) ∧ Below w.heap.size w w' := by
  obtain ⟨s, hsn⟩ : ∃ s, s = sd l r := ⟨_, rfl⟩
  have hsf : sha [[4], l.toList, r.toList].flatten = s := by rw [hsn, sd_eq]; congr 1; simp
  rw [← hsn]
  have HSF := Lib.hid hsf; clear hsf hsn
  go_enter Tryz.func64, Tryz.ntmps64
  go_wp2_with fail
  change Code.wp _ _ _ _ (((w.alloc (.cells (cellsOf l).toArray 24)).alloc (.cells (cellsOf r).toArray 24)).alloc (.cells (cells8 (List.replicate 32 0)).toArray 24))
  have hB : Below w.heap.size w (((w.alloc (.cells (cellsOf l).toArray 24)).alloc (.cells (cellsOf r).toArray 24)).alloc (.cells (cells8 (List.replicate 32 0)).toArray 24)) := al (al (al (Below.refl _ _) _) _) _
  have hs : (((w.alloc (.cells (cellsOf l).toArray 24)).alloc (.cells (cellsOf r).toArray 24)).alloc (.cells (cells8 (List.replicate 32 0)).toArray 24)).heap.size = w.heap.size + 1 + 1 + 1 := by simp
  have h1 : (((w.alloc (.cells (cellsOf l).toArray 24)).alloc (.cells (cellsOf r).toArray 24)).alloc (.cells (cells8 (List.replicate 32 0)).toArray 24)).rangeAt w.heap.size 0 (cellsOf l) :=
    World.rangeAt_alloc (World.rangeAt_alloc (range_new w (cellsOf l).toArray 24 _ rfl) _) _
  have h2 : (((w.alloc (.cells (cellsOf l).toArray 24)).alloc (.cells (cellsOf r).toArray 24)).alloc (.cells (cells8 (List.replicate 32 0)).toArray 24)).rangeAt (w.heap.size + 1) 0 (cellsOf r) :=
    World.rangeAt_alloc (by have := range_new (w.alloc (.cells (cellsOf l).toArray 24)) (cellsOf r).toArray 24 _ rfl; simpa using this) _
  have h3 : (((w.alloc (.cells (cellsOf l).toArray 24)).alloc (.cells (cellsOf r).toArray 24)).alloc (.cells (cells8 (List.replicate 32 0)).toArray 24)).there (w.heap.size + 1 + 1) 0 32 := by
    have := Res.start ((w.alloc (.cells (cellsOf l).toArray 24)).alloc (.cells (cellsOf r).toArray 24)) 32 (cells8 (List.replicate 32 0)).toArray 24 (by rfl)
    have := this.there
    rw [show ((w.alloc (.cells (cellsOf l).toArray 24)).alloc (.cells (cellsOf r).toArray 24)).heap.size = w.heap.size + 1 + 1 from by simp] at this
    exact this
  generalize (((w.alloc (.cells (cellsOf l).toArray 24)).alloc (.cells (cellsOf r).toArray 24)).alloc (.cells (cells8 (List.replicate 32 0)).toArray 24)) = w0 at *
  have hw1 : (w0.alloc (.cells #[.int .u8 4] 5)).heap.size = w.heap.size + 1 + 1 + 1 + 1 := by simp [hs]
  have hP := parts_three (w := w0.alloc (.cells #[.int .u8 4] 5)) (q := w.heap.size + 1 + 1 + 1 + 1) (p := w.heap.size + 1 + 1 + 1) l r (by rw [hw1]; omega) 39 (by rw [← hs]; exact range_new _ _ _ _ rfl) (World.rangeAt_alloc h1 _) (World.rangeAt_alloc h2 _) (by rw [hw1]; omega) (by rw [hw1]; omega) hw1.symm
  have hQ : Below w.heap.size w ((w0.alloc (.cells #[.int .u8 4] 5)).alloc (.cells #[.slice (some ⟨w.heap.size + 1 + 1 + 1, 0, none⟩) 1 1, .slice (some ⟨w.heap.size, 0, none⟩) 32 32, .slice (some ⟨w.heap.size + 1, 0, none⟩) 32 32] 39)) := al (al hB _) _
  have hR := World.there_alloc (World.there_alloc h3 (.cells #[.int .u8 4] 5)) (.cells #[.slice (some ⟨w.heap.size + 1 + 1 + 1, 0, none⟩) 1 1, .slice (some ⟨w.heap.size, 0, none⟩) 32 32, .slice (some ⟨w.heap.size + 1, 0, none⟩) 32 32] 39)
  have hT : w.heap.size + 1 + 1 < ((w0.alloc (.cells #[.int .u8 4] 5)).alloc (.cells #[.slice (some ⟨w.heap.size + 1 + 1 + 1, 0, none⟩) 1 1, .slice (some ⟨w.heap.size, 0, none⟩) 32 32, .slice (some ⟨w.heap.size + 1, 0, none⟩) 32 32] 39)).heap.size := by simp [hs]
  have HP := Lib.hid hP; clear hP
  have HQ := Lib.hid hQ; clear hQ
  have HR := Lib.hid hR; clear hR
  have HT := Lib.hid hT; clear hT
  clear h1 h2 h3 hB hw1
  refine wp_region_any (by kernel_rfl) ?_
  change wpAny _ _ _ _ _ _ _ (World.drew _)
  refine wpAny_take (i := 1) (v := .slice (some ⟨w.heap.size, 0, none⟩) 32 32) rfl (by kernel_rfl) (by kernel_rfl) (by kernel_rfl) (fun _ _ _ h => h) (Or.inl ⟨by rfl, by intro w; go_simp⟩) ?_
  refine wpAny_take (i := 2) (v := .slice (some ⟨w.heap.size + 1, 0, none⟩) 32 32) rfl (by kernel_rfl) (by kernel_rfl) (by kernel_rfl) (fun _ _ _ h => h) (Or.inl ⟨by rfl, by intro w; go_simp⟩) ?_
  refine wpAny_ready (rs := [0]) (by kernel_rfl) (by simp) ?_
  refine AllReady.cons rfl (fun K hK => ?_) (by exact AllReady.nil)
  go_simp
  refine hK _ _ ?_; clear hK K
  refine wpAny_ready (rs := [3]) (by kernel_rfl) (by simp) ?_
  refine AllReady.cons rfl (fun K hK => ?_) (by exact AllReady.nil)
  go_simp
  refine hK _ _ ?_; clear hK K
  refine wpAny_ready (rs := [4]) (by kernel_rfl) (by simp) ?_
  refine AllReady.cons rfl (fun K hK => ?_) (by exact AllReady.nil)
  go_simp
  refine (concat_any _ [[4], l.toList, r.toList] _ _ 3 _ (parts_drew HP.out) (by simp) (by simp) (by simp) (by simp)).mono ?_
  rintro e w1 ⟨v, rfl, hbv, hbw⟩
  refine hK _ _ ?_; clear hK K
  refine wpAny_ready (rs := [5]) (by kernel_rfl) (by simp) ?_
  refine AllReady.cons rfl (fun K hK => ?_) (by exact AllReady.nil)
  go_simp
  refine (of_any _ _ _ hbv (by simp)).mono ?_
  rw [HSF.out]
  rintro e w2 ⟨rfl, hbw2⟩
  refine hK _ _ ?_; clear hK K
  refine wpAny_ready (rs := [6]) (by kernel_rfl) (by simp) ?_
  refine AllReady.cons rfl (fun K hK => ?_) (by exact AllReady.nil)
  have R2 : Below w.heap.size w w2 := (HQ.out.drew.trans (hbw.mono HQ.out.size)).trans (hbw2.mono (HQ.out.drew.trans (hbw.mono HQ.out.size)).size)
  have ht2 : w2.there (w.heap.size + 1 + 1) 0 32 :=
    there_block (hbw2.block _ (Nat.lt_of_lt_of_le HT.out hbw.size)) (there_block (hbw.block _ HT.out) HR.out)
  refine step_store_mid rfl _ _ _ rfl (w.heap.size + 1 + 1) 0 _ rfl rfl (by rw [size_cellsOf]; exact ht2) (by rw [size_cellsOf]; exact infoSum) (all_cellsOf s) ?_
  refine hK _ _ ?_; clear hK K
  refine wpAny_done (by kernel_rfl) ?_ _
  go_wp2_with fail
  exact bodyPost_ret (results_sum Tryz.results64 _ _ _ _ rfl (World.there_setCells ht2 _ _ _)) rfl ⟨rfl, setCells_below _ (by omega) _ _ _ _ R2⟩
end Go.Proofs.YtfmgoehnbaiamaaGreatDoor
