/-
  Plain law: what stands beside a key, depth by depth (shows).
-/
import Derived.Test.YtfmgoehnbaiamaaV1
open Go Go.RowKit Alm
namespace Go.Proofs.Ytfmgoehnbaiamaa
open Keys (Rise Pr kn putB put del)
/-- What lies on the other side of a key, so high; what lies on its own side. -/
def oth (k : Sum) (n : Nat) (l : List Pr) : List Pr := l.filter fun p => (kn p.1).testBit n != (kn k).testBit n
def mine (k : Sum) (n : Nat) (l : List Pr) : List Pr := l.filter fun p => (kn p.1).testBit n == (kn k).testBit n
noncomputable def atH (n : Nat) (l : List Pr) : Sum := Keys.at' sd z0 vl n l
theorem atH_nil (n : Nat) : atH n [] = em n := Keys.at_nil sd z0 vl n
theorem atH_zero (l : List Pr) : atH 0 l = match l with | [] => z0 | p :: _ => vl p.1 p.2 := by
  cases l <;> rfl
/-- Put together with what is beside, so high. -/
noncomputable def join (k : Sum) (n : Nat) (t x : Sum) : Sum := if (kn k).testBit n then sd t x else sd x t
theorem atH_succ (k : Sum) (n : Nat) (l : List Pr) : atH (n + 1) l = join k n (atH n (oth k n l)) (atH n (mine k n l)) := by
  unfold join oth mine atH
  rw [Keys.at']
  by_cases h : (kn k).testBit n = true
  · rw [if_pos h]
    congr 3
    · funext p; rw [h]; cases (kn p.1).testBit n <;> rfl
    · funext p; rw [h]; cases (kn p.1).testBit n <;> rfl
  · have h' : (kn k).testBit n = false := by simpa using h
    rw [if_neg h]
    congr 3
    · funext p; rw [h']; cases (kn p.1).testBit n <;> rfl
    · funext p; rw [h']; cases (kn p.1).testBit n <;> rfl
/-- What is told of a key, from above. -/
noncomputable def tells (k : Sum) : Nat → List Pr → List (Option Sum)
  | 0, _ => []
  | n + 1, l => (if atH n (oth k n l) = em n then none else some (atH n (oth k n l))) :: tells k n (mine k n l)
theorem length_tells (k : Sum) : ∀ n l, (tells k n l).length = n
  | 0, _ => rfl
  | n + 1, l => by rw [tells, List.length_cons, length_tells k n]
/-- Told so, or what is empty told too. -/
def Tells (k : Sum) : Nat → List Pr → List (Option Sum) → Prop
  | 0, _, T => T = []
  | n + 1, l, T => ∃ t T', T = t :: T' ∧ t.getD (em n) = atH n (oth k n l) ∧ Tells k n (mine k n l) T'
theorem tells_ok (k : Sum) : ∀ n l, Tells k n l (tells k n l)
  | 0, _ => rfl
  | n + 1, l => by
    refine ⟨_, _, rfl, ?_, tells_ok k n _⟩
    split
    · rename_i h; exact h.symm
    · rfl
theorem Tells.length {k : Sum} : ∀ {n l T}, Tells k n l T → T.length = n
  | 0, _, _, h => by rw [show _ = [] from h]; rfl
  | n + 1, _, _, h => by obtain ⟨t, T', rfl, _, h⟩ := h; rw [List.length_cons, h.length]
/-- The sides of what is told. -/
def sidesOf (T : List (Option Sum)) : List Sum := T.filterMap id
theorem sidesOf_cons (t : Option Sum) (T : List (Option Sum)) : sidesOf (t :: T) = t.toList ++ sidesOf T := by
  unfold sidesOf; cases t <;> rfl
/-- What Check does, so high: what it has come to, the sides that are left, whether there were too few. -/
noncomputable def stepC (k which : Sum) (n : Nat) (s : Sum × List Sum × Bool) : Sum × List Sum × Bool :=
  if (kn which).testBit n then
    if s.2.2 = true ∨ s.2.1 = [] then (join k n zeroSum s.1, s.2.1, true) else (join k n (s.2.1.getLast?.getD zeroSum) s.1, s.2.1.dropLast, false)
  else (join k n (em n) s.1, s.2.1, s.2.2)
noncomputable def runC (k which : Sum) : Nat → Sum × List Sum × Bool → Sum × List Sum × Bool
  | 0, s => s
  | n + 1, s => stepC k which n (runC k which n s)
/-- What Check answers. -/
noncomputable def checkOf (root k : Sum) (v : List UInt8) (which : Sum) (sides : List Sum) : Bool :=
  decide ((runC k which 256 (vl k v, sides, false)).2.2 = false ∧ (runC k which 256 (vl k v, sides, false)).2.1 = [] ∧ (runC k which 256 (vl k v, sides, false)).1 = root)
/-- The bits of a show are those at which there is something told. -/
def Bits (which : Sum) (n : Nat) (T : List (Option Sum)) : Prop := ∀ j, j < n → (kn which).testBit (n - 1 - j) = (T.getD j none).isSome
theorem Bits.tail {which : Sum} {n : Nat} {t : Option Sum} {T : List (Option Sum)} (h : Bits which (n + 1) (t :: T)) : Bits which n T := fun j hj => by
  have := h (j + 1) (by omega)
  rw [show n + 1 - 1 - (j + 1) = n - 1 - j by omega] at this
  simpa using this
theorem mem_mine {k : Sum} {n : Nat} {l : List Pr} {p : Pr} : p ∈ mine k n l ↔ p ∈ l ∧ (kn p.1).testBit n = (kn k).testBit n := by
  unfold mine; rw [List.mem_filter]; simp
theorem mem_oth {k : Sum} {n : Nat} {l : List Pr} {p : Pr} : p ∈ oth k n l ↔ p ∈ l ∧ (kn p.1).testBit n ≠ (kn k).testBit n := by
  unfold oth; rw [List.mem_filter]; simp
/-- All lie under the way to a key, so high. -/
def Near (k : Sum) (n : Nat) (l : List Pr) : Prop := ∀ p ∈ l, kn p.1 >>> n = kn k >>> n
theorem Near.mine {k : Sum} {n : Nat} {l : List Pr} (h : Near k (n + 1) l) : Near k n (mine k n l) := fun p hp => by
  obtain ⟨h1, h2⟩ := mem_mine.1 hp
  rw [Keys.shr_succ (kn p.1), Keys.shr_succ (kn k), h p h1, h2]
theorem rise_mine {k : Sum} {n : Nat} {l : List Pr} (h : Rise l) : Rise (mine k n l) := h.sublist List.filter_sublist
theorem get_mine {k : Sum} {n : Nat} {l : List Pr} (h : Rise l) : Keys.get (mine k n l) k = Keys.get l k := by
  by_cases he : ∃ p ∈ l, p.1 = k
  · obtain ⟨p, hp, rfl⟩ := he
    rw [Keys.get_mem h hp, Keys.get_mem (rise_mine h) (mem_mine.2 ⟨hp, rfl⟩)]
  · rw [Keys.get_none (l := l) fun p hp e => he ⟨p, hp, e⟩, Keys.get_none fun p hp e => he ⟨p, (mem_mine.1 hp).1, e⟩]
theorem atH_own {k : Sum} {l : List Pr} (hr : Rise l) (h : Near k 0 l) : atH 0 l = vl k (Keys.get l k) := by
  rw [atH_zero]
  cases l with
  | nil => exact (vl_nil k).symm
  | cons p r =>
    have e : p.1 = k := Keys.kn_inj (by simpa using h p List.mem_cons_self)
    have := Keys.get_mem hr (List.mem_cons_self (a := p) (l := r))
    rw [e] at this
    show vl p.1 p.2 = _
    rw [this, e]
/-- The theorem: what is told leads back. -/
theorem run_tells {k which : Sum} : ∀ (n : Nat) (l : List Pr) (T : List (Option Sum)) (S : List Sum), Rise l → Near k n l → Tells k n l T → Bits which n T →
    runC k which n (vl k (Keys.get l k), S ++ sidesOf T, false) = (atH n l, S, false)
  | 0, l, T, S, hr, hn, hT, _ => by
    rw [show T = [] from hT, runC, atH_own hr hn, show sidesOf [] = [] from rfl, List.append_nil]
  | n + 1, l, T, S, hr, hn, hT, hB => by
    obtain ⟨t, T', rfl, h1, h2⟩ := hT
    have ih := run_tells n (mine k n l) T' (S ++ t.toList) (rise_mine hr) hn.mine h2 hB.tail
    rw [get_mine hr, List.append_assoc, ← sidesOf_cons] at ih
    rw [runC, ih, stepC, atH_succ k n l]
    have hb := hB 0 (by omega)
    rw [show n + 1 - 1 - 0 = n by omega] at hb
    have hb' : (kn which).testBit n = t.isSome := by simpa using hb
    cases t with
    | none =>
      rw [if_neg (by rw [hb']; simp)]
      simp only [Option.toList_none, List.append_nil]
      rw [show em n = atH n (oth k n l) from h1]
    | some t =>
      rw [if_pos (by rw [hb']; rfl), if_neg (by simp)]
      simp only [Option.toList_some, List.getLast?_append, List.getLast?_singleton, Option.some_or, Option.getD_some, List.dropLast_concat]
      rw [show t = atH n (oth k n l) from h1]
theorem shr_256 (k : Sum) : kn k >>> 256 = 0 := by
  have := Fast.snum_lt k
  rw [Nat.shiftRight_eq_div_pow]
  exact Nat.div_eq_of_lt this
theorem near_top (k : Sum) (l : List Pr) : Near k 256 l := fun p _ => by rw [shr_256, shr_256]
theorem check_tells {k which : Sum} {l : List Pr} {T : List (Option Sum)} (hr : Rise l) (hT : Tells k 256 l T) (hB : Bits which 256 T) : checkOf (rootOf l) k (Keys.get l k) which (sidesOf T) = true := by
  have := run_tells 256 l T [] hr (near_top k l) hT hB
  rw [List.nil_append] at this
  unfold checkOf
  rw [this]
  simp
  rfl
/-- How many bits are set below a height. -/
def cnt (which : Sum) : Nat → Nat
  | 0 => 0
  | n + 1 => cnt which n + if (kn which).testBit n then 1 else 0
theorem run_count (k which x : Sum) (L : List Sum) : ∀ n, (runC k which n (x, L, false)).2.2 = decide (L.length < cnt which n) ∧ (runC k which n (x, L, false)).2.1 = L.take (L.length - cnt which n)
  | 0 => ⟨by simp [runC, cnt], by simp [runC, cnt]⟩
  | n + 1 => by
    obtain ⟨h1, h2⟩ := run_count k which x L n
    rw [runC, stepC, cnt]
    by_cases hb : (kn which).testBit n = true
    · rw [if_pos hb, if_pos hb]
      by_cases hc : L.length < cnt which n + 1
      · rw [if_pos (by
          rw [h1, h2]
          by_cases h : L.length < cnt which n
          · exact .inl (by simpa using h)
          · exact .inr (by rw [show L.length - cnt which n = 0 by omega, List.take_zero]))]
        refine ⟨by simpa using hc, ?_⟩
        show (runC k which n (x, L, false)).2.1 = _
        rw [h2, show L.length - cnt which n = 0 by omega, show L.length - (cnt which n + 1) = 0 by omega]
      · rw [if_neg (by
          rw [h1, h2]
          rintro (h | h)
          · simp at h; omega
          · have := congrArg List.length h; simp at this; omega)]
        refine ⟨by simp; omega, ?_⟩
        show (runC k which n (x, L, false)).2.1.dropLast = _
        rw [h2, List.dropLast_eq_take, List.length_take, List.take_take]
        congr 1; omega
    · rw [if_neg hb, if_neg hb]
      exact ⟨by simpa using h1, by simpa using h2⟩
theorem check_count {root k which : Sum} {v : List UInt8} {L : List Sum} (h : checkOf root k v which L = true) : L.length = cnt which 256 := by
  unfold checkOf at h
  have h := of_decide_eq_true h
  obtain ⟨h1, h2⟩ := run_count k which (vl k v) L 256
  rw [h1] at h
  rw [h2] at h
  have g1 := of_decide_eq_false h.1
  have := congrArg List.length h.2.1
  simp at this
  omega
theorem cnt_bits {which : Sum} : ∀ (n : Nat) (T : List (Option Sum)), T.length = n → Bits which n T → cnt which n = (sidesOf T).length
  | 0, T, h, _ => by rw [List.length_eq_zero_iff.1 h]; rfl
  | n + 1, t :: T, h, hB => by
    have ih := cnt_bits n T (by simpa using h) hB.tail
    have hb := hB 0 (by omega)
    rw [show n + 1 - 1 - 0 = n by omega] at hb
    have hb' : (kn which).testBit n = t.isSome := by simpa using hb
    rw [cnt, sidesOf_cons, List.length_append, ih, hb']
    cases t <;> simp <;> omega
theorem length_mine (k : Sum) (n : Nat) (l : List Pr) : (oth k n l).length + (mine k n l).length = l.length := by
  unfold oth mine
  induction l with
  | nil => rfl
  | cons p r ih =>
    rw [List.filter_cons, List.filter_cons]
    cases h1 : (kn p.1).testBit n <;> cases h2 : (kn k).testBit n <;> simp only [h1, h2, bne_self_eq_false, beq_self_eq_true, Bool.false_eq_true, if_true, if_false, List.length_cons, bne, beq_eq_false_iff_ne, ne_eq, not_false_eq_true] at ih ⊢ <;> (try simp only [h1, h2]) <;> (first | omega | (simp at ih ⊢; omega))
/-- As many sides as there are others, at most. -/
theorem length_sides (k : Sum) : ∀ n l, (sidesOf (tells k n l)).length ≤ l.length
  | 0, _ => Nat.zero_le _
  | n + 1, l => by
    have ih := length_sides k n (mine k n l)
    have hl := length_mine k n l
    rw [tells, sidesOf_cons, List.length_append]
    split
    · simp; omega
    · rename_i h
      have : (oth k n l) ≠ [] := fun e => h (by rw [e]; exact atH_nil n)
      have := List.length_pos_iff.2 this
      simp; omega
/-- Pairs that are the same but at a key. -/
def But (k : Sum) (l m : List Pr) : Prop := ∀ q : Pr → Bool, (∀ v, q (k, v) = false) → l.filter q = m.filter q
theorem But.oth {k : Sum} {n : Nat} {l m : List Pr} (h : But k l m) : oth k n l = oth k n m := h _ fun v => by simp
theorem But.mine {k : Sum} {n : Nat} {l m : List Pr} (h : But k l m) : But k (mine k n l) (mine k n m) := fun q hq => by
  unfold Go.Proofs.Ytfmgoehnbaiamaa.mine
  rw [List.filter_filter, List.filter_filter]
  exact h _ fun v => by rw [hq]; rfl
theorem tells_but {k : Sum} : ∀ n {l m : List Pr}, But k l m → tells k n l = tells k n m
  | 0, _, _, _ => rfl
  | n + 1, l, m, h => by rw [tells, tells, h.oth, tells_but n h.mine]
theorem but_put {k : Sum} {l : List Pr} (hr : Rise l) (v : List UInt8) : But k l (putB l k v) := fun q hq => by
  refine Keys.rise_ext (hr.sublist List.filter_sublist) ((Keys.rise_putB hr k v).sublist List.filter_sublist) fun p => ?_
  rw [List.mem_filter, List.mem_filter]
  have hne : q p = true → p.1 ≠ k := fun h e => by
    obtain ⟨a, b⟩ := p
    simp only at e
    subst e
    rw [hq] at h; cases h
  unfold putB
  split
  · exact Iff.rfl
  · split
    · rw [Keys.mem_del]
      exact ⟨fun h => ⟨⟨h.1, hne h.2⟩, h.2⟩, fun h => ⟨h.1.1, h.2⟩⟩
    · rw [Keys.mem_put hr]
      constructor
      · exact fun h => ⟨.inr ⟨h.1, hne h.2⟩, h.2⟩
      · rintro ⟨h1 | h1, h2⟩
        · rw [h1] at h2; rw [hq] at h2; cases h2
        · exact ⟨h1.1, h2⟩
/-- Two keys tell the same ahead of where they part. -/
theorem tells_near {k o : Sum} : ∀ n l j, (∀ i, i ≤ j → (kn k).testBit (n - 1 - i) = (kn o).testBit (n - 1 - i)) → j < n → (tells k n l).take (j + 1) = (tells o n l).take (j + 1)
  | 0, _, _, _, h => by omega
  | n + 1, l, j, h, hj => by
    have h0 := h 0 (Nat.zero_le _)
    rw [show n + 1 - 1 - 0 = n by omega] at h0
    have e1 : oth k n l = oth o n l := by unfold oth; rw [h0]
    have e2 : mine k n l = mine o n l := by unfold mine; rw [h0]
    rw [tells, tells, e1, e2, List.take_succ_cons, List.take_succ_cons]
    congr 1
    cases j with
    | zero => simp
    | succ j =>
      refine tells_near n (mine o n l) j (fun i hi => ?_) (by omega)
      have := h (i + 1) (by omega)
      rw [show n + 1 - 1 - (i + 1) = n - 1 - i by omega] at this
      exact this
/-! ### pairs cut where the bit changes -/
/-- How many have the bit 0, of those that rise under one node. -/
def cutH (n : Nat) (l : List Pr) : Nat := (l.filter fun p => !(kn p.1).testBit n).length
theorem cut_split {n : Nat} : ∀ {l : List Pr}, Rise l → Keys.Same (n + 1) l → l.take (cutH n l) = l.filter (fun p => !(kn p.1).testBit n) ∧ l.drop (cutH n l) = l.filter (fun p => (kn p.1).testBit n)
  | [], _, _ => ⟨rfl, rfl⟩
  | p :: r, h, hs => by
    obtain ⟨h1, h2⟩ := List.pairwise_cons.1 h
    have hs2 : Keys.Same (n + 1) r := fun a ha b hb => hs a (List.mem_cons_of_mem _ ha) b (List.mem_cons_of_mem _ hb)
    obtain ⟨i1, i2⟩ := cut_split h2 hs2
    unfold cutH at i1 i2 ⊢
    by_cases hb : (kn p.1).testBit n = true
    · have hall : ∀ q ∈ r, (kn q.1).testBit n = true := fun q hq => by
        have e := hs p List.mem_cons_self q (List.mem_cons_of_mem _ hq)
        have hlt := h1 q hq
        rcases Bool.eq_false_or_eq_true ((kn q.1).testBit n) with hc' | hc'
        · exact hc'
        exfalso
        have e1 := Keys.shr_succ (kn p.1) n
        have e2 := Keys.shr_succ (kn q.1) n
        rw [hb, if_pos rfl] at e1
        rw [hc', if_neg (by simp)] at e2
        have : kn p.1 >>> n ≤ kn q.1 >>> n := by
          rw [Nat.shiftRight_eq_div_pow, Nat.shiftRight_eq_div_pow]
          exact Nat.div_le_div_right (Nat.le_of_lt hlt)
        omega
      have hn : r.filter (fun p => !(kn p.1).testBit n) = [] := by
        rw [List.filter_eq_nil_iff]
        intro q hq; rw [hall q hq]; simp
      have hy : r.filter (fun p => (kn p.1).testBit n) = r := List.filter_eq_self.2 hall
      rw [List.filter_cons_of_neg (by rw [hb]; simp), hn, List.filter_cons_of_pos (by exact hb), hy]
      exact ⟨rfl, rfl⟩
    · have hb' : (kn p.1).testBit n = false := by simpa using hb
      rw [List.filter_cons_of_pos (by rw [hb']; rfl), List.filter_cons_of_neg (by rw [hb']; simp), List.length_cons, List.take_succ_cons, List.drop_succ_cons]
      exact ⟨by rw [i1], i2⟩
theorem cut_first {n : Nat} {l : List Pr} (h : Rise l) (hs : Keys.Same (n + 1) l) : (∀ j p, l[j]? = some p → j < cutH n l → (kn p.1).testBit n = false) ∧ (∀ p, l[cutH n l]? = some p → (kn p.1).testBit n = true) ∧ cutH n l ≤ l.length := by
  obtain ⟨e1, e2⟩ := cut_split h hs
  refine ⟨fun j p hj hlt => ?_, fun p hp => ?_, List.length_filter_le _ _⟩
  · have : p ∈ l.take (cutH n l) := by
      rw [List.mem_iff_getElem?]
      exact ⟨j, by rw [List.getElem?_take_of_lt hlt, hj]⟩
    rw [e1, List.mem_filter] at this
    simpa using this.2
  · have : p ∈ l.drop (cutH n l) := by
      rw [List.mem_iff_getElem?]
      exact ⟨0, by rw [List.getElem?_drop, Nat.add_zero, hp]⟩
    rw [e2, List.mem_filter] at this
    simpa using this.2
end Go.Proofs.Ytfmgoehnbaiamaa
