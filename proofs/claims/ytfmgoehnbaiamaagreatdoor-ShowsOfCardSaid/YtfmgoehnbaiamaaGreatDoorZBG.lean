/-
  Joined: S1, S3, V2.
-/
import Derived.Test.YtfmgoehnbaiamaaGreatDoorZBF
import Derived.Test.YtfmgoehnbaiamaaGreatDoorZBE
-- Plain law: what stands beside a key, depth by depth (shows).
open Go Go.RowKit Alm
namespace Go.Proofs.YtfmgoehnbaiamaaGreatDoor
open Keys (Rise Pr kn putB put del)
/-- What lies on the other side of a key, so high; what lies on its own side. -/
def oth (k : Sum) (n : Nat) (l : List Pr) : List Pr := l.filter fun p => (kn p.1).testBit n != (kn k).testBit n
def mine (k : Sum) (n : Nat) (l : List Pr) : List Pr := l.filter fun p => (kn p.1).testBit n == (kn k).testBit n
noncomputable def atH (n : Nat) (l : List Pr) : Sum := Keys.at' sd z0 vl n l
theorem atH_nil (n : Nat) : atH n [] = em n := Keys.at_nil sd z0 vl n
theorem atH_zero (l : List Pr) : atH 0 l = match l with | [] => z0 | p :: _ => vl p.1 p.2 := by
  cases l <;> rfl
/-- Put together with what is beside, so high. -/
noncomputable def join (k : Sum) (n : Nat) (t x : Sum) : Sum := if (kn k).testBit n then sd t x else sd x t
/-- What is told of a key, from above. -/
noncomputable def tells (k : Sum) : Nat → List Pr → List (Option Sum)
  | 0, _ => []
  | n + 1, l => (if atH n (oth k n l) = em n then none else some (atH n (oth k n l))) :: tells k n (mine k n l)
theorem length_tells (k : Sum) : ∀ n l, (tells k n l).length = n
  | 0, _ => rfl
  | n + 1, l => by rw [tells, List.length_cons, length_tells k n]
/-- Told so, or what is empty told too. -/
def Tells (k : Sum) : Nat → List Pr → List (Option Sum) → Prop
  | 0, _, T => T = []
  | n + 1, l, T => ∃ t T', T = t :: T' ∧ t.getD (em n) = atH n (oth k n l) ∧ Tells k n (mine k n l) T'
theorem Tells.length {k : Sum} : ∀ {n l T}, Tells k n l T → T.length = n
  | 0, _, _, h => by rw [show _ = [] from h]; rfl
  | n + 1, _, _, h => by obtain ⟨t, T', rfl, _, h⟩ := h; rw [List.length_cons, h.length]
/-- The sides of what is told. -/
def sidesOf (T : List (Option Sum)) : List Sum := T.filterMap id
theorem sidesOf_cons (t : Option Sum) (T : List (Option Sum)) : sidesOf (t :: T) = t.toList ++ sidesOf T := by
  unfold sidesOf; cases t <;> rfl
/-- What Check does, so high: what it has come to, the sides that are left, whether there were too few. -/
noncomputable def stepC (k which : Sum) (n : Nat) (s : Sum × List Sum × Bool) : Sum × List Sum × Bool :=
  if (kn which).testBit n then
    if s.2.2 = true ∨ s.2.1 = [] then (join k n zeroSum s.1, s.2.1, true) else (join k n (s.2.1.getLast?.getD zeroSum) s.1, s.2.1.dropLast, false)
  else (join k n (em n) s.1, s.2.1, s.2.2)
noncomputable def runC (k which : Sum) : Nat → Sum × List Sum × Bool → Sum × List Sum × Bool
  | 0, s => s
  | n + 1, s => stepC k which n (runC k which n s)
/-- What Check answers. -/
noncomputable def checkOf (root k : Sum) (v : List UInt8) (which : Sum) (sides : List Sum) : Bool :=
  decide ((runC k which 256 (vl k v, sides, false)).2.2 = false ∧ (runC k which 256 (vl k v, sides, false)).2.1 = [] ∧ (runC k which 256 (vl k v, sides, false)).1 = root)
/-- The bits of a show are those at which there is something told. -/
def Bits (which : Sum) (n : Nat) (T : List (Option Sum)) : Prop := ∀ j, j < n → (kn which).testBit (n - 1 - j) = (T.getD j none).isSome
theorem Bits.tail {which : Sum} {n : Nat} {t : Option Sum} {T : List (Option Sum)} (h : Bits which (n + 1) (t :: T)) : Bits which n T := fun j hj => by
  have := h (j + 1) (by omega)
  rw [show n + 1 - 1 - (j + 1) = n - 1 - j by omega] at this
  simpa using this
theorem mem_mine {k : Sum} {n : Nat} {l : List Pr} {p : Pr} : p ∈ mine k n l ↔ p ∈ l ∧ (kn p.1).testBit n = (kn k).testBit n := by
  unfold mine; rw [List.mem_filter]; simp
theorem mem_oth {k : Sum} {n : Nat} {l : List Pr} {p : Pr} : p ∈ oth k n l ↔ p ∈ l ∧ (kn p.1).testBit n ≠ (kn k).testBit n := by
  unfold oth; rw [List.mem_filter]; simp
/-- All lie under the way to a key, so high. -/
def Near (k : Sum) (n : Nat) (l : List Pr) : Prop := ∀ p ∈ l, kn p.1 >>> n = kn k >>> n
theorem Near.mine {k : Sum} {n : Nat} {l : List Pr} (h : Near k (n + 1) l) : Near k n (mine k n l) := fun p hp => by
  obtain ⟨h1, h2⟩ := mem_mine.1 hp
  rw [Keys.shr_succ (kn p.1), Keys.shr_succ (kn k), h p h1, h2]
theorem rise_mine {k : Sum} {n : Nat} {l : List Pr} (h : Rise l) : Rise (mine k n l) := h.sublist List.filter_sublist
theorem shr_256 (k : Sum) : kn k >>> 256 = 0 := by
  have := Fast.snum_lt k
  rw [Nat.shiftRight_eq_div_pow]
  exact Nat.div_eq_of_lt this
theorem near_top (k : Sum) (l : List Pr) : Near k 256 l := fun p _ => by rw [shr_256, shr_256]
/-- How many bits are set below a height. -/
def cnt (which : Sum) : Nat → Nat
  | 0 => 0
  | n + 1 => cnt which n + if (kn which).testBit n then 1 else 0
theorem length_mine (k : Sum) (n : Nat) (l : List Pr) : (oth k n l).length + (mine k n l).length = l.length := by
  unfold oth mine
  induction l with
  | nil => rfl
  | cons p r ih =>
    rw [List.filter_cons, List.filter_cons]
    cases h1 : (kn p.1).testBit n <;> cases h2 : (kn k).testBit n <;> simp only [h2, beq_self_eq_true, if_true, List.length_cons, bne] at ih ⊢ <;> (try simp only [h1, h2]) <;> (first | omega | (simp at ih ⊢; omega))
/-- As many sides as there are others, at most. -/
theorem length_sides (k : Sum) : ∀ n l, (sidesOf (tells k n l)).length ≤ l.length
  | 0, _ => Nat.zero_le _
  | n + 1, l => by
    have ih := length_sides k n (mine k n l)
    have hl := length_mine k n l
    rw [tells, sidesOf_cons, List.length_append]
    split
    · simp; omega
    · rename_i h
      have : (oth k n l) ≠ [] := fun e => h (by rw [e]; exact atH_nil n)
      have := List.length_pos_iff.2 this
      simp; omega
/-- Pairs that are the same but at a key. -/
def But (k : Sum) (l m : List Pr) : Prop := ∀ q : Pr → Bool, (∀ v, q (k, v) = false) → l.filter q = m.filter q
theorem But.oth {k : Sum} {n : Nat} {l m : List Pr} (h : But k l m) : oth k n l = oth k n m := h _ fun v => by simp
theorem But.mine {k : Sum} {n : Nat} {l m : List Pr} (h : But k l m) : But k (mine k n l) (mine k n m) := fun q hq => by
  unfold Go.Proofs.YtfmgoehnbaiamaaGreatDoor.mine
  rw [List.filter_filter, List.filter_filter]
  exact h _ fun v => by rw [hq]; rfl
/-! ### pairs cut where the bit changes -/
/-- How many have the bit 0, of those that rise under one node. -/
def cutH (n : Nat) (l : List Pr) : Nat := (l.filter fun p => !(kn p.1).testBit n).length
theorem cut_split {n : Nat} : ∀ {l : List Pr}, Rise l → Keys.Same (n + 1) l → l.take (cutH n l) = l.filter (fun p => !(kn p.1).testBit n) ∧ l.drop (cutH n l) = l.filter (fun p => (kn p.1).testBit n)
  | [], _, _ => ⟨rfl, rfl⟩
  | p :: r, h, hs => by
    obtain ⟨h1, h2⟩ := List.pairwise_cons.1 h
    have hs2 : Keys.Same (n + 1) r := fun a ha b hb => hs a (List.mem_cons_of_mem _ ha) b (List.mem_cons_of_mem _ hb)
    obtain ⟨i1, i2⟩ := cut_split h2 hs2
    unfold cutH at i1 i2 ⊢
    by_cases hb : (kn p.1).testBit n = true
    · have hall : ∀ q ∈ r, (kn q.1).testBit n = true := fun q hq => by
        have e := hs p List.mem_cons_self q (List.mem_cons_of_mem _ hq)
        have hlt := h1 q hq
        rcases Bool.eq_false_or_eq_true ((kn q.1).testBit n) with hc' | hc'
        · exact hc'
        exfalso
        have e1 := Keys.shr_succ (kn p.1) n
        have e2 := Keys.shr_succ (kn q.1) n
        rw [hb, if_pos rfl] at e1
        rw [hc', if_neg (by simp)] at e2
        have : kn p.1 >>> n ≤ kn q.1 >>> n := by
          rw [Nat.shiftRight_eq_div_pow, Nat.shiftRight_eq_div_pow]
          exact Nat.div_le_div_right (Nat.le_of_lt hlt)
        omega
      have hn : r.filter (fun p => !(kn p.1).testBit n) = [] := by
        rw [List.filter_eq_nil_iff]
        intro q hq; rw [hall q hq]; simp
      have hy : r.filter (fun p => (kn p.1).testBit n) = r := List.filter_eq_self.2 hall
      rw [List.filter_cons_of_neg (by rw [hb]; simp), hn, List.filter_cons_of_pos (by exact hb), hy]
      exact ⟨rfl, rfl⟩
    · have hb' : (kn p.1).testBit n = false := by simpa using hb
      rw [List.filter_cons_of_pos (by rw [hb']; rfl), List.filter_cons_of_neg (by rw [hb']; simp), List.length_cons, List.take_succ_cons, List.drop_succ_cons]
      exact ⟨by rw [i1], i2⟩
theorem cut_first {n : Nat} {l : List Pr} (h : Rise l) (hs : Keys.Same (n + 1) l) : (∀ j p, l[j]? = some p → j < cutH n l → (kn p.1).testBit n = false) ∧ (∀ p, l[cutH n l]? = some p → (kn p.1).testBit n = true) ∧ cutH n l ≤ l.length := by
  obtain ⟨e1, e2⟩ := cut_split h hs
  refine ⟨fun j p hj hlt => ?_, fun p hp => ?_, List.length_filter_le _ _⟩
  · have : p ∈ l.take (cutH n l) := by
      rw [List.mem_iff_getElem?]
      exact ⟨j, by rw [List.getElem?_take_of_lt hlt, hj]⟩
    rw [e1, List.mem_filter] at this
    simpa using this.2
  · have : p ∈ l.drop (cutH n l) := by
      rw [List.mem_iff_getElem?]
      exact ⟨0, by rw [List.getElem?_drop, Nat.add_zero, hp]⟩
    rw [e2, List.mem_filter] at this
    simpa using this.2
end Go.Proofs.YtfmgoehnbaiamaaGreatDoor
-- Walks: shows.cut (and slices.IndexFunc of its closure).
namespace Go.Proofs.YtfmgoehnbaiamaaGreatDoor
theorem enters_cut : ∀ args w, (callFunc 146 args).run Tryz.prog w = .ok (.enter 146 args) w := enters_of Tryz.func146 (by kernel_rfl) rfl
theorem cutf_any (y : PE) (z d : Nat) (w : World) (hd : d < 256) (hc : w.cell? ⟨z, 0, none⟩ = some (.int .i64 (d : Int))) : Calls Tryz.prog 146 #[.agg (encP y).toArray, .pointer (some ⟨z, 0, none⟩)] w fun e w' => e = .returned (.bool ((Keys.kn y.1).testBit (255 - d))) ∧ Below w.heap.size w w' := by
  have hr := range_new w (encP y).toArray 41 _ rfl
  have hb := al (Below.refl _ w) (.cells (encP y).toArray 41)
  have hc1 := (Keeps.of_below (X := fun _ => False) hb).cell hc (fun h => h)
  have HR := Lib.hid (encP_key hr)
  have HB := Lib.hid hb
  have HD := Lib.hid hd
  have hbit := Keys.bit_odd (Keys.kn y.1) (255 - d)
  obtain ⟨q, hq⟩ : ∃ q, q = (Keys.kn y.1 >>> (255 - d)) % 2 := ⟨_, rfl⟩
  rw [← hq] at hbit
  have HBI := Lib.hid (bit_any y.1 d)
  rw [← hq] at HBI
  have hq2 : q < 2 := by rw [hq]; exact Nat.mod_lt _ (by decide)
  obtain ⟨R, hR⟩ : ∃ R, R = (Keys.kn y.1).testBit (255 - d) := ⟨_, rfl⟩
  rw [← hR] at hbit ⊢
  have HX := Lib.hid (And.intro hbit hq2)
  clear hr hb hc hq hbit hR hq2
  go_enter Tryz.func146, Tryz.ntmps146
  go_wp2_with (refine wpList_load_sum rfl _ rfl w.heap.size 0 rfl y.1 HR.out ?_)
  refine (HBI.out _ HD.out).mono ?_
  rintro e w1 ⟨rfl, hb1⟩
  have HB1 := Lib.hid (HB.out.trans (hb1.mono HB.out.size))
  clear hb1 HBI
  have he : ((q : Int) == 1) = R := by
    rw [HX.out.1]
    by_cases h : q = 1
    · subst h; rfl
    · rw [decide_eq_false h, beq_eq_false_iff_ne]; omega
  have he2 : decide (q = 1) = R := HX.out.1.symm
  go_wp2_with fail
  exact bodyPost_ret (results_tmp rfl _ _ _) rfl ⟨rfl, HB1.out⟩
set_option maxRecDepth 100000 in
set_option maxHeartbeats 1000000 in
theorem idx_any (P : List Keys.Pr) (v : Value) (z d : Nat) (w : World) (hv : PairsAt w v P) (hd : d < 256) (hc : w.cell? ⟨z, 0, none⟩ = some (.int .i64 (d : Int))) (hn : P.length < 100000) :
    Calls Tryz.prog 145 #[v, .func (.func 146) #[] #[.pointer (some ⟨z, 0, none⟩)]] w fun e w' => ∃ c, c ≤ P.length ∧ (∀ j p, P[j]? = some p → j < c → (Keys.kn p.1).testBit (255 - d) = false) ∧ (∀ p, P[c]? = some p → (Keys.kn p.1).testBit (255 - d) = true) ∧ e = .returned (.int .i64 (if c = P.length then -1 else (c : Int))) ∧ Below w.heap.size w w' := by
  have HV := Lib.hid (And.intro hv hc)
  obtain ⟨a, cap, rfl, h1, h2⟩ := pairs_form hv
  obtain ⟨N, hN⟩ : ∃ N, N = P.length := ⟨_, rfl⟩
  rw [← hN] at HV h1 hn ⊢
  have HN := Lib.hid (And.intro hN (And.intro hn hd))
  clear hv hN h2 hc hn hd
  have k1 : (N : Int) ≤ (cap : Int) := by omega
  have eg := enters_cut
  go_enter Tryz.func145, Tryz.ntmps145
  go_wp2_with fail
  go_loopw [5, 8] (fun _ iv W => ∃ j : Nat, j ≤ N ∧ iv = .int .i64 (j : Int) ∧ (∀ i p, P[i]? = some p → i < j → (Keys.kn p.1).testBit (255 - d) = false) ∧ Below w.heap.size w W) (fun _ iv _ => N - (intOf iv).toNat)
  case atStart => exact ⟨0, by omega, rfl, fun i p _ h => by omega, Below.refl _ _⟩
  case round =>
    obtain ⟨j, hj, rfl, hall, hB⟩ := hrel
    have HB := Lib.hid (And.intro hall hB)
    clear hall hB
    by_cases hlt : j < N
    · have c1 : decide (j < N) = true := by simpa using hlt
      have c1' : decide ((j : Int) < (N : Int)) = true := by simp; omega
      have hj0 : (0 : Int) ≤ (j : Int) := by omega
      have hlt' : (j : Int) < (N : Int) := by omega
      obtain ⟨ba, oa, ca', y, xs, he1, hr1, hy1, hg1⟩ := pairs_one (HV.out.1.below HB.out.2) (i := j) (by rw [← HN.out.1]; exact hlt)
      simp only [Value.slice.injEq] at he1
      obtain ⟨rfl, -, rfl⟩ := he1
      have HX := Lib.hid (And.intro hr1 (And.intro hg1 ((Keeps.of_below (X := fun _ => False) HB.out.2).cell HV.out.2 (fun h => h))))
      have HJ := Lib.hid (And.intro hj hlt)
      clear hr1 hy1 hg1
      obtain ⟨R, hR⟩ : ∃ R, R = (Keys.kn y.1).testBit (255 - d) := ⟨_, rfl⟩
      have HC := Lib.hid (cutf_any y z d wr HN.out.2.2 HX.out.2.2)
      rw [← hR] at HC
      have HR := Lib.hid hR
      clear hR
      go_wp2_with (refine wpList_load_pair rfl _ rfl ba (oa + j * 33) rfl y HX.out.1 ?_)
      refine HC.out.mono ?_
      rintro e w1 ⟨rfl, hb1⟩
      have HB1 := Lib.hid (HB.out.2.trans (hb1.mono HB.out.2.size))
      clear hb1 HC
      cases R with
      | true =>
        go_wp2_with fail
        refine bodyPost_ret (results_tmp rfl _ _ _) rfl ⟨j, HJ.out.1, HB.out.1, fun p hp => ?_, ?_, HB1.out⟩
        · rw [HX.out.2.1, Option.some.injEq] at hp
          rw [← hp]; exact HR.out.symm
        · rw [if_neg (by have := HJ.out.2; omega)]; rfl
      | false =>
        have hwj : wrap64 ((j : Int) + 1) = ((j + 1 : Nat) : Int) := by have := HN.out.2.1; unfold wrap64; omega
        go_wp2_with fail
        rw [hwj]
        clear hwj
        refine ⟨⟨j + 1, by omega, rfl, fun i p hp hi => ?_, HB1.out⟩, by simp only [intOf]; omega⟩
        by_cases hij : i < j
        · exact HB.out.1 i p hp hij
        · have : i = j := by omega
          subst this
          rw [HX.out.2.1, Option.some.injEq] at hp
          rw [← hp]; exact HR.out.symm
    · have hjn : j = N := by omega
      subst hjn
      have c1 : decide (j < j) = false := by simp
      have c1' : decide ((j : Int) < (j : Int)) = false := by simp
      go_wp2_with fail
      refine bodyPost_ret (results_tmp rfl _ _ _) rfl ⟨j, Nat.le_refl _, HB.out.1, fun p hp => ?_, by rw [if_pos rfl]; rfl, HB.out.2⟩
      have := (List.getElem?_eq_some_iff.1 hp).1
      rw [← HN.out.1] at this
      omega
theorem cut_is {n c : Nat} {l : List Keys.Pr} (h : Keys.Rise l) (hs : Keys.Same (n + 1) l) (hc : c ≤ l.length) (h1 : ∀ j p, l[j]? = some p → j < c → (Keys.kn p.1).testBit n = false) (h2 : ∀ p, l[c]? = some p → (Keys.kn p.1).testBit n = true) : c = cutH n l := by
  obtain ⟨g1, g2, g3⟩ := cut_first h hs
  rcases Nat.lt_trichotomy c (cutH n l) with hlt | heq | hgt
  · have hcl : c < l.length := by omega
    have e := List.getElem?_eq_getElem hcl
    have a := g1 c _ e hlt
    rw [h2 _ e] at a
    cases a
  · exact heq
  · have hcl : cutH n l < l.length := by omega
    have e := List.getElem?_eq_getElem hcl
    have a := h1 _ _ e hgt
    rw [g2 _ e] at a
    cases a
set_option maxRecDepth 100000 in
theorem cut_any (P : List Keys.Pr) (v : Value) (d : Nat) (w : World) (hv : PairsAt w v P) (hd : d < 256) (hn : P.length < 100000) (hr : Keys.Rise P) (hs : Keys.Same (255 - d + 1) P) :
    Calls Tryz.prog 97 #[v, .int .i64 (d : Int)] w fun e w' => e = .returned (.int .i64 ((cutH (255 - d) P : Nat) : Int)) ∧ Below w.heap.size w w' := by
  have hmf : ∀ (fn : Fn) (first cap : Array Value) (w : World), (Instr.makeFunc fn first cap).run Tryz.prog w = .ok (.func fn first cap) w := fun _ _ _ _ => rfl
  have hb := al (Below.refl _ w) (.cells #[.int .i64 (d : Int)] 3)
  have hcell : (w.alloc (.cells #[.int .i64 (d : Int)] 3)).cell? ⟨w.heap.size, 0, none⟩ = some (.int .i64 (d : Int)) := by
    have := range_new w #[.int .i64 (d : Int)] 3 _ rfl 0 _ rfl
    exact this
  have HI := Lib.hid (idx_any P v w.heap.size d _ (hv.below hb) hd hcell hn)
  have HB := Lib.hid hb
  have HX := Lib.hid (And.intro hr hs)
  obtain ⟨a, cap, rfl, h1, h2⟩ := pairs_form hv
  obtain ⟨N, hN⟩ : ∃ N, N = P.length := ⟨_, rfl⟩
  rw [← hN] at HI h1 hn ⊢
  have HN := Lib.hid (And.intro hN hn)
  clear hv hN h2 hn hb hcell hr hs
  obtain ⟨C, hC⟩ : ∃ C, C = cutH (255 - d) P := ⟨_, rfl⟩
  rw [← hC]
  have HC := Lib.hid hC
  clear hC
  go_enter Tryz.func97, Tryz.ntmps97
  go_wp2_with fail
  refine HI.out.mono ?_
  rintro e w1 ⟨c, hc, g1, g2, rfl, hb1⟩
  have hcc : c = C := by rw [HC.out]; exact cut_is HX.out.1 HX.out.2 (by rw [← HN.out.1]; exact hc) g1 g2
  subst hcc
  have HB1 := Lib.hid (HB.out.trans (hb1.mono HB.out.size))
  clear hb1 HI g1 g2
  by_cases he : c = N
  · rw [if_pos he]
    subst he
    go_wp2_with fail
    exact bodyPost_ret (results_tmp rfl _ _ _) rfl ⟨rfl, HB1.out⟩
  · rw [if_neg he]
    have c1 : decide ((c : Int) < 0) = false := by simp
    go_wp2_with fail
    exact bodyPost_ret (results_tmp rfl _ _ _) rfl ⟨rfl, HB1.out⟩
end Go.Proofs.YtfmgoehnbaiamaaGreatDoor
-- Walks: append of pairs; parts of a list of pairs.
namespace Go.Proofs.YtfmgoehnbaiamaaGreatDoor
theorem pairs_own {W0 w : World} {base : Nat} {v : Value} {cs : List (PE × List UInt8)} {P : List Keys.Pr} (ho : w.ownsRow base 41 33 v cs.length (cellsP (cs.map Prod.fst))) (hE : ∀ c ∈ cs, BytesAt W0 (peV c.1) c.2) (hb : Below W0.heap.size W0 w) (hP : cs.map (fun c => (c.1.1, c.2)) = P) : PairsAt w v P := by
  have hl : P.length = cs.length := by rw [← hP, List.length_map]
  by_cases h0 : P = []
  · have hc : cs = [] := List.length_eq_zero_iff.1 (by rw [← hl, h0]; rfl)
    subst h0
    subst hc
    rcases ho.2 with ⟨rfl, _⟩ | ⟨g, cap, cur, rfl, _, _, hnc, hcm, _⟩
    · exact ⟨none, 0, [], rfl, Nat.le_refl _, by decide, rfl, (fun c hc => by cases hc), .inl rfl⟩
    · exact ⟨_, cap, [], rfl, hnc, hcm, rfl, (fun c hc => by cases hc), .inl rfl⟩
  · obtain ⟨g, cap, rfl, h1, h2, _, hr⟩ := own_range ho (by rw [← hl]; exact List.length_pos_iff.2 h0)
    exact ⟨_, cap, cs, by rw [hl], by rw [hl]; exact h1, h2, hP, fun c hc => bytes_below (hE c hc) hb (Nat.le_refl _), .inr ⟨g, 0, rfl, hr⟩⟩
theorem PairsAt.drop {w : World} {b o cap i : Nat} {P : List Keys.Pr} (h : PairsAt w (.slice (some ⟨b, o, none⟩) P.length cap) P) (hi : i ≤ P.length) : PairsAt w (.slice (some ⟨b, o + i * 33, none⟩) (P.length - i) (cap - i)) (P.drop i) := by
  obtain ⟨a, cap', cs, he, h1, h2, h3, h4, h5⟩ := h
  simp only [Value.slice.injEq, true_and] at he
  obtain ⟨rfl, rfl⟩ := he
  have hl : cs.length = P.length := by rw [← h3, List.length_map]
  refine ⟨_, cap - i, cs.drop i, by rw [List.length_drop], by rw [List.length_drop]; omega, by omega, by rw [List.map_drop, h3], fun c hc => h4 c (List.mem_of_mem_drop hc), ?_⟩
  by_cases h0 : P.drop i = []
  · exact .inl h0
  · right
    have hP : P ≠ [] := by intro e; rw [e] at h0; simp at h0
    obtain ⟨b', o', he, hr⟩ := h5.resolve_left hP
    simp only [Option.some.injEq, Addr.mk.injEq, and_true] at he
    obtain ⟨rfl, rfl⟩ := he
    refine ⟨_, _, rfl, ?_⟩
    have e : cellsP (cs.map Prod.fst) = cellsP ((cs.take i).map Prod.fst) ++ cellsP ((cs.drop i).map Prod.fst) := by
      rw [← cellsP_append, ← List.map_append, List.take_append_drop]
    rw [e] at hr
    have := (range_append.1 hr).2
    rw [length_cellsP, List.length_map, List.length_take, Nat.min_eq_left (by omega), Nat.mul_comm] at this
    exact this
theorem PairsAt.take {w : World} {a : Option Addr} {cap i : Nat} {P : List Keys.Pr} (h : PairsAt w (.slice a P.length cap) P) (hi : i ≤ P.length) : PairsAt w (.slice a i cap) (P.take i) := by
  obtain ⟨a', cap', cs, he, h1, h2, h3, h4, h5⟩ := h
  simp only [Value.slice.injEq, true_and] at he
  obtain ⟨rfl, rfl⟩ := he
  have hl : cs.length = P.length := by rw [← h3, List.length_map]
  have hi2 : (P.take i).length = i := by rw [List.length_take, Nat.min_eq_left hi]
  refine ⟨_, cap, cs.take i, by rw [hi2], by omega, by omega, by rw [List.map_take, h3], fun c hc => h4 c (List.mem_of_mem_take hc), ?_⟩
  by_cases h0 : P.take i = []
  · exact .inl h0
  · right
    have hP : P ≠ [] := by intro e; rw [e] at h0; simp at h0
    obtain ⟨b', o', rfl, hr⟩ := h5.resolve_left hP
    refine ⟨_, _, rfl, ?_⟩
    have e : cellsP (cs.map Prod.fst) = cellsP ((cs.take i).map Prod.fst) ++ cellsP ((cs.drop i).map Prod.fst) := by
      rw [← cellsP_append, ← List.map_append, List.take_append_drop]
    rw [e] at hr
    exact (range_append.1 hr).1
end Go.Proofs.YtfmgoehnbaiamaaGreatDoor
