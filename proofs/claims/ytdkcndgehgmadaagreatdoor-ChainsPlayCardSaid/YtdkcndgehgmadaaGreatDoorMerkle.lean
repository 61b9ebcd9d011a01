/-
  Plain law: trees over leaves (root, paths, links, fronts), over any type of sums and any way to put two together. No program in sight.
-/
namespace Alm
/-- The greatest power of two that is less than n (2 at least). -/
def cut (n : Nat) : Nat := 2 ^ (n - 1).log2
theorem cut_pos (n : Nat) : 0 < cut n := Nat.two_pow_pos _
theorem cut_lt {n : Nat} (h : 2 ≤ n) : cut n < n := by
  have := Nat.log2_self_le (n := n - 1) (by omega)
  unfold cut; omega
theorem le_two_cut {n : Nat} (h : 2 ≤ n) : n ≤ 2 * cut n := by
  have := Nat.lt_log2_self (n := n - 1)
  unfold cut; rw [Nat.pow_succ] at this; omega
/-- Between: 2^j < n ≤ 2^(j+1). -/
theorem cut_eq {n j : Nat} (h1 : 2 ^ j < n) (h2 : n ≤ 2 ^ (j + 1)) : cut n = 2 ^ j := by
  unfold cut; congr 1
  have h0 : n - 1 ≠ 0 := by have := Nat.two_pow_pos j; omega
  have a : (n - 1).log2 < j + 1 := (Nat.log2_lt h0).2 (by omega)
  have b : ¬ (n - 1).log2 < j := fun h => by have := (Nat.log2_lt h0).1 h; omega
  omega
theorem cut_is_pow (n : Nat) : ∃ j, cut n = 2 ^ j := ⟨_, rfl⟩

section
variable {α : Type} (nd : α → α → α) (e0 : α)

/-- The root of leaves' sums. -/
def root (l : List α) : α :=
  match l with
  | [] => e0
  | [x] => x
  | x :: y :: r =>
    nd (root ((x :: y :: r).take (cut (r.length + 2)))) (root ((x :: y :: r).drop (cut (r.length + 2))))
termination_by l.length
decreasing_by
  · have := cut_lt (n := r.length + 2) (by omega); simp only [List.length_take, List.length_cons]; omega
  · have := cut_pos (r.length + 2); simp only [List.length_drop, List.length_cons]; omega

theorem root_nil : root nd e0 [] = e0 := by rw [root]
theorem root_one (x : α) : root nd e0 [x] = x := by rw [root]
theorem root_split {l : List α} (h : 2 ≤ l.length) : root nd e0 l = nd (root nd e0 (l.take (cut l.length))) (root nd e0 (l.drop (cut l.length))) := by
  match l, h with
  | x :: y :: r, _ => rw [root]; rfl
theorem root_len1 {l : List α} {x : α} (h : l.length = 1) (hx : l[0]? = some x) : root nd e0 l = x := by
  match l, h with
  | [y], _ => simp at hx; subst hx; exact root_one _ _ _
/-- Two halves of which the first one is a power of two, and not the lesser one. -/
theorem root_append {a b : List α} {j : Nat} (ha : a.length = 2 ^ j) (hb : 0 < b.length) (hb2 : b.length ≤ 2 ^ j) : root nd e0 (a ++ b) = nd (root nd e0 a) (root nd e0 b) := by
  have hl : (a ++ b).length = 2 ^ j + b.length := by rw [List.length_append, ha]
  have hp := Nat.two_pow_pos j
  have hc : cut (a ++ b).length = 2 ^ j := cut_eq (by omega) (by rw [hl, Nat.pow_succ]; omega)
  rw [root_split nd e0 (by omega), hc, ← ha, List.take_left' rfl, List.drop_left' rfl]

/-! ### Paths -/
/-- Why a leaf is in a tree: the nearest sum first. -/
def path (l : List α) (k : Nat) : List α :=
  if _h : l.length ≤ 1 then [] else
  if k < cut l.length then path (l.take (cut l.length)) k ++ [root nd e0 (l.drop (cut l.length))]
  else path (l.drop (cut l.length)) (k - cut l.length) ++ [root nd e0 (l.take (cut l.length))]
termination_by l.length
decreasing_by
  · have := cut_lt (n := l.length) (by omega); simp only [List.length_take]; omega
  · have := cut_pos l.length; simp only [List.length_drop]; omega

/-- What a path leads to, and what is left of it; none: too few. -/
def leads (leaf : α) (k n : Nat) (p : List α) : Option (α × List α) :=
  if _h : n ≤ 1 then some (leaf, p) else
  if k < cut n then
    match leads leaf k (cut n) p with
    | some (s, x :: r) => some (nd s x, r)
    | _ => none
  else
    match leads leaf (k - cut n) (n - cut n) p with
    | some (s, x :: r) => some (nd x s, r)
    | _ => none
termination_by n
decreasing_by
  · exact cut_lt (by omega)
  · have := cut_pos n; omega

/-- How many sums a path has. -/
def plen (k n : Nat) : Nat :=
  if _h : n ≤ 1 then 0 else
  if k < cut n then plen k (cut n) + 1 else plen (k - cut n) (n - cut n) + 1
termination_by n
decreasing_by
  · exact cut_lt (by omega)
  · have := cut_pos n; omega

theorem length_path (l : List α) (k : Nat) : (path nd e0 l k).length = plen k l.length := by
  induction l, k using path.induct with
  | case1 l k h => rw [path, dif_pos h, plen, dif_pos h]; rfl
  | case2 l k h hk ih =>
    have := cut_lt (n := l.length) (by omega)
    rw [path, dif_neg h, if_pos hk, plen, dif_neg h, if_pos hk, List.length_append, ih, List.length_take, Nat.min_eq_left (by omega)]; rfl
  | case3 l k h hk ih =>
    rw [path, dif_neg h, if_neg hk, plen, dif_neg h, if_neg hk, List.length_append, ih, List.length_drop]; rfl

theorem leads_some (leaf : α) (k n : Nat) (p : List α) (h : plen k n ≤ p.length) : ∃ s, leads nd leaf k n p = some (s, p.drop (plen k n)) := by
  induction k, n using plen.induct with
  | case1 k n hn => exact ⟨leaf, by rw [leads, dif_pos hn, plen, dif_pos hn]; rfl⟩
  | case2 k n hn hk ih =>
    have e : plen k n = plen k (cut n) + 1 := by rw [plen, dif_neg hn, if_pos hk]
    rw [e] at h ⊢
    obtain ⟨s, hs⟩ := ih (by omega)
    have hd : p.drop (plen k (cut n)) = p[plen k (cut n)] :: p.drop (plen k (cut n) + 1) := List.drop_eq_getElem_cons (by omega)
    rw [leads, dif_neg hn, if_pos hk, hs, hd]
    exact ⟨_, rfl⟩
  | case3 k n hn hk ih =>
    have e : plen k n = plen (k - cut n) (n - cut n) + 1 := by rw [plen, dif_neg hn, if_neg hk]
    rw [e] at h ⊢
    obtain ⟨s, hs⟩ := ih (by omega)
    have hd : p.drop (plen (k - cut n) (n - cut n)) = p[plen (k - cut n) (n - cut n)] :: p.drop (plen (k - cut n) (n - cut n) + 1) := List.drop_eq_getElem_cons (by omega)
    rw [leads, dif_neg hn, if_neg hk, hs, hd]
    exact ⟨_, rfl⟩

theorem leads_none (leaf : α) (k n : Nat) (p : List α) (h : p.length < plen k n) : leads nd leaf k n p = none := by
  induction k, n using plen.induct with
  | case1 k n hn => rw [plen, dif_pos hn] at h; omega
  | case2 k n hn hk ih =>
    rw [plen, dif_neg hn, if_pos hk] at h
    rw [leads, dif_neg hn, if_pos hk]
    by_cases hl : p.length < plen k (cut n)
    · rw [ih hl]
    · obtain ⟨s, hs⟩ := leads_some nd leaf k (cut n) p (by omega)
      have : p.drop (plen k (cut n)) = [] := List.drop_eq_nil_of_le (by omega)
      rw [hs, this]
  | case3 k n hn hk ih =>
    rw [plen, dif_neg hn, if_neg hk] at h
    rw [leads, dif_neg hn, if_neg hk]
    by_cases hl : p.length < plen (k - cut n) (n - cut n)
    · rw [ih hl]
    · obtain ⟨s, hs⟩ := leads_some nd leaf (k - cut n) (n - cut n) p (by omega)
      have : p.drop (plen (k - cut n) (n - cut n)) = [] := List.drop_eq_nil_of_le (by omega)
      rw [hs, this]

theorem leads_path (l : List α) (k : Nat) : ∀ (x : α), l[k]? = some x → ∀ r, leads nd x k l.length (path nd e0 l k ++ r) = some (root nd e0 l, r) := by
  induction l, k using path.induct with
  | case1 l k h =>
    intro x hx r
    have hk : k < l.length := (List.getElem?_eq_some_iff.1 hx).1
    obtain rfl : k = 0 := by omega
    rw [path, dif_pos h, leads, dif_pos h, root_len1 nd e0 (by omega) hx]; rfl
  | case2 l k h hk ih =>
    intro x hx r
    have hc := cut_lt (n := l.length) (by omega)
    have hlen : (l.take (cut l.length)).length = cut l.length := by rw [List.length_take, Nat.min_eq_left (by omega)]
    have := ih x (by rw [List.getElem?_take, if_pos hk]; exact hx) ([root nd e0 (l.drop (cut l.length))] ++ r)
    rw [hlen] at this
    rw [path, dif_neg h, if_pos hk, leads, dif_neg h, if_pos hk, List.append_assoc, this, root_split nd e0 (l := l) (by omega)]
    rfl
  | case3 l k h hk ih =>
    intro x hx r
    have hlen : (l.drop (cut l.length)).length = l.length - cut l.length := List.length_drop
    have := ih x (by rw [List.getElem?_drop, Nat.add_sub_cancel' (by omega)]; exact hx) ([root nd e0 (l.take (cut l.length))] ++ r)
    rw [hlen] at this
    rw [path, dif_neg h, if_neg hk, leads, dif_neg h, if_neg hk, List.append_assoc, this, root_split nd e0 (l := l) (by omega)]
    rfl

theorem plen_le (k n : Nat) : ∀ j, n ≤ 2 ^ j → plen k n ≤ j := by
  induction k, n using plen.induct with
  | case1 k n hn => intro j _; rw [plen, dif_pos hn]; omega
  | case2 k n hn hk ih =>
    intro j hj
    rw [plen, dif_neg hn, if_pos hk]
    cases j with
    | zero => simp at hj; omega
    | succ j =>
      have : cut n ≤ 2 ^ j := by
        unfold cut; refine Nat.pow_le_pow_right (by omega) ?_
        have := (Nat.log2_lt (n := n - 1) (k := j + 1) (by omega)).2 (by omega)
        omega
      have := ih j this
      omega
  | case3 k n hn hk ih =>
    intro j hj
    rw [plen, dif_neg hn, if_neg hk]
    cases j with
    | zero => simp at hj; omega
    | succ j =>
      have := le_two_cut (n := n) (by omega)
      have : cut n ≤ 2 ^ j := by
        unfold cut; refine Nat.pow_le_pow_right (by omega) ?_
        have := (Nat.log2_lt (n := n - 1) (k := j + 1) (by omega)).2 (by omega)
        omega
      have := ih j (by omega)
      omega

/-! ### Fronts -/
/-- The roots of the whole trees of leaves, the greatest first (fewer than 2^j leaves). -/
def stk : Nat → List α → List α
  | 0, _ => []
  | j + 1, l => if 2 ^ j ≤ l.length then root nd e0 (l.take (2 ^ j)) :: stk j (l.drop (2 ^ j)) else stk j l

/-- The last two put together, so many times. -/
def fold2 : Nat → List α → List α
  | 0, l => l
  | k + 1, l => match l.reverse with
    | y :: x :: r => fold2 k (r.reverse ++ [nd x y])
    | _ => l

theorem fold2_two (k : Nat) (l : List α) (x y : α) : fold2 nd (k + 1) (l ++ [x, y]) = fold2 nd k (l ++ [nd x y]) := by
  rw [fold2]; simp

theorem exists_two {l : List α} (h : 2 ≤ l.length) : ∃ r x y, l = r ++ [x, y] := by
  have h1 : l.reverse.length ≥ 2 := by simpa using h
  match hr : l.reverse, h1 with
  | y :: x :: r, _ => exact ⟨r.reverse, x, y, by have := congrArg List.reverse hr; simpa using this⟩

theorem fold2_cons (k : Nat) : ∀ (l : List α) (z : α), k < l.length → fold2 nd k (z :: l) = z :: fold2 nd k l := by
  induction k with
  | zero => intro l z _; rfl
  | succ k ih =>
    intro l z h
    obtain ⟨r, x, y, rfl⟩ := exists_two (l := l) (by omega)
    rw [← List.cons_append, fold2_two, fold2_two, List.cons_append, ih _ _ (by simp at h ⊢; omega)]

theorem length_fold2 (k : Nat) : ∀ (l : List α), k < l.length → (fold2 nd k l).length = l.length - k := by
  induction k with
  | zero => intro l _; rfl
  | succ k ih =>
    intro l h
    obtain ⟨r, x, y, rfl⟩ := exists_two (l := l) (by omega)
    rw [fold2_two, ih _ (by simp at h ⊢; omega)]; simp <;> omega

theorem fold2_add (a b : Nat) : ∀ (l : List α), a < l.length → fold2 nd (a + b) l = fold2 nd b (fold2 nd a l) := by
  induction a with
  | zero => intro l _; rw [Nat.zero_add]; rfl
  | succ a ih =>
    intro l h
    obtain ⟨r, x, y, rfl⟩ := exists_two (l := l) (by omega)
    rw [show a + 1 + b = a + b + 1 from by omega, fold2_two, fold2_two, ih _ (by simp at h ⊢; omega)]

/-- How many bits that are set stand at the end. -/
def ones (n : Nat) : Nat := if _h : n % 2 = 1 then ones (n / 2) + 1 else 0
termination_by n
decreasing_by omega

theorem ones_all (j : Nat) : ones (2 ^ j - 1) = j := by
  induction j with
  | zero => rw [ones]; rfl
  | succ j ih =>
    have := Nat.two_pow_pos j
    rw [ones, dif_pos (by rw [Nat.pow_succ]; omega), show (2 ^ (j + 1) - 1) / 2 = 2 ^ j - 1 from by rw [Nat.pow_succ]; omega, ih]

theorem ones_high (j : Nat) : ∀ n, n < 2 ^ j - 1 → ones (2 ^ j + n) = ones n := by
  induction j with
  | zero => intro n h; simp at h
  | succ j ih =>
    intro n h
    rw [Nat.pow_succ] at h ⊢
    rw [ones, ones.eq_def n]
    by_cases hn : n % 2 = 1
    · rw [dif_pos hn, dif_pos (by omega), show (2 ^ j * 2 + n) / 2 = 2 ^ j + n / 2 from by omega, ih _ (by omega)]
    · rw [dif_neg hn, dif_neg (by omega)]

/-- The number of bits that are set. -/
def bits (n : Nat) : Nat := if _h : n = 0 then 0 else bits (n / 2) + n % 2
termination_by n
decreasing_by omega

theorem bits_pos {n : Nat} : 0 < n → 0 < bits n := by
  induction n using bits.induct with
  | case1 => intro h; omega
  | case2 n h ih =>
    intro _; rw [bits, dif_neg h]
    by_cases h2 : n / 2 = 0
    · omega
    · have := ih (by omega); omega

theorem bits_high (j : Nat) : ∀ n, n < 2 ^ j → bits (2 ^ j + n) = bits n + 1 := by
  induction j with
  | zero => intro n h; simp at h; subst h; rw [bits, dif_neg (by omega)]
  | succ j ih =>
    intro n h
    have hp := Nat.two_pow_pos j
    rw [Nat.pow_succ] at h ⊢
    rw [bits, dif_neg (by omega), show (2 ^ j * 2 + n) / 2 = 2 ^ j + n / 2 from by omega, ih _ (by omega), show (2 ^ j * 2 + n) % 2 = n % 2 from by omega]
    by_cases hn : n = 0
    · subst hn; rw [Nat.zero_div]
    · rw [bits.eq_def n, dif_neg hn]; omega

theorem length_stk (j : Nat) : ∀ (l : List α), l.length < 2 ^ j → (stk nd e0 j l).length = bits l.length := by
  induction j with
  | zero => intro l h; simp at h; subst h; rw [stk, List.length_nil, bits, dif_pos (by rfl)]
  | succ j ih =>
    intro l h
    rw [Nat.pow_succ] at h
    rw [stk]
    by_cases hl : 2 ^ j ≤ l.length
    · rw [if_pos hl, List.length_cons, ih _ (by rw [List.length_drop]; omega), List.length_drop, ← bits_high j _ (by omega), Nat.add_sub_cancel' hl]
    · rw [if_neg hl, ih _ (by omega)]

theorem ones_le_bits : ∀ n, ones n ≤ bits n := by
  intro n
  induction n using ones.induct with
  | case1 n h ih => rw [ones, dif_pos h, bits, dif_neg (by omega)]; omega
  | case2 n h => rw [ones, dif_neg h]; omega

/-- All: a leaf more where all bits are set. -/
theorem stk_full (j : Nat) : ∀ (l : List α) (s : α), l.length + 1 = 2 ^ j → fold2 nd j (stk nd e0 j l ++ [s]) = [root nd e0 (l ++ [s])] := by
  induction j with
  | zero => intro l s h; simp at h; subst h; rw [stk, fold2, List.nil_append, root_one]
  | succ j ih =>
    intro l s h
    have hp := Nat.two_pow_pos j
    rw [Nat.pow_succ] at h
    have hd : (l.drop (2 ^ j)).length + 1 = 2 ^ j := by rw [List.length_drop]; omega
    have hstk : (stk nd e0 j (l.drop (2 ^ j)) ++ [s]).length = j + 1 := by
      rw [List.length_append, length_stk nd e0 j _ (by omega)]
      have : bits (l.drop (2 ^ j)).length = j := by
        rw [show (l.drop (2 ^ j)).length = 2 ^ j - 1 from by omega]
        clear ih h hd
        induction j with
        | zero => rw [bits, dif_pos (by rfl)]
        | succ j ih =>
          have hp := Nat.two_pow_pos j
          rw [Nat.pow_succ, show 2 ^ j * 2 - 1 = 2 ^ j + (2 ^ j - 1) from by omega, bits_high j _ (by omega), ih hp]
      rw [this]; rfl
    rw [stk, if_pos (by omega), List.cons_append, fold2_add nd j 1 _ (by rw [List.length_cons, hstk]; omega), fold2_cons nd j _ _ (by omega), ih _ _ hd]
    have : fold2 nd 1 (root nd e0 (l.take (2 ^ j)) :: [root nd e0 (l.drop (2 ^ j) ++ [s])]) = [nd (root nd e0 (l.take (2 ^ j))) (root nd e0 (l.drop (2 ^ j) ++ [s]))] := rfl
    rw [this, ← root_append nd e0 (j := j) (by rw [List.length_take]; omega) (by rw [List.length_append]; simp) (by rw [List.length_append]; simp <;> omega), ← List.append_assoc, List.take_append_drop]

/-- A leaf more: what the front holds. -/
theorem stk_add (j : Nat) : ∀ (l : List α) (s : α), l.length + 1 < 2 ^ j → fold2 nd (ones l.length) (stk nd e0 j l ++ [s]) = stk nd e0 j (l ++ [s]) := by
  induction j with
  | zero => intro l s h; simp at h
  | succ j ih =>
    intro l s h
    have hp := Nat.two_pow_pos j
    rw [Nat.pow_succ] at h
    rw [stk, stk]
    by_cases hl : 2 ^ j ≤ l.length
    · have ht : (l ++ [s]).take (2 ^ j) = l.take (2 ^ j) := List.take_append_of_le_length hl
      have hd : (l ++ [s]).drop (2 ^ j) = l.drop (2 ^ j) ++ [s] := List.drop_append_of_le_length hl
      have hlen : (l.drop (2 ^ j)).length = l.length - 2 ^ j := List.length_drop
      have hones : ones l.length = ones (l.drop (2 ^ j)).length := by
        rw [hlen]; have := ones_high j (l.length - 2 ^ j) (by omega); rw [Nat.add_sub_cancel' hl] at this; exact this
      have hlt : ones (l.drop (2 ^ j)).length < (stk nd e0 j (l.drop (2 ^ j)) ++ [s]).length := by
        have := ones_le_bits (l.drop (2 ^ j)).length
        rw [List.length_append, length_stk nd e0 j _ (by omega), List.length_singleton]; omega
      rw [if_pos hl, if_pos (by rw [List.length_append]; omega), ht, hd, List.cons_append, hones, fold2_cons nd _ _ _ hlt, ih _ _ (by omega)]
    · rw [if_neg hl]
      by_cases hf : l.length + 1 = 2 ^ j
      · rw [if_pos (by rw [List.length_append]; simp <;> omega), show l.length = 2 ^ j - 1 from by omega, ones_all, stk_full nd e0 j _ _ hf, List.take_of_length_le (by simp <;> omega), List.drop_eq_nil_of_le (by simp <;> omega)]
        have : ∀ j, stk nd e0 j [] = [] := by
          intro j; induction j with
          | zero => rfl
          | succ j ih => rw [stk, if_neg (by have := Nat.two_pow_pos j; simp <;> omega), ih]
        rw [this]
      · rw [if_neg (by rw [List.length_append]; simp <;> omega), ih _ _ (by omega)]

theorem stk_nil (j : Nat) : stk nd e0 j [] = [] := by
  induction j with
  | zero => rfl
  | succ j ih => rw [stk, if_neg (by have := Nat.two_pow_pos j; simp <;> omega), ih]

/-- All put together: the root. -/
theorem stk_root (j : Nat) : ∀ (l : List α), l ≠ [] → l.length < 2 ^ j → fold2 nd ((stk nd e0 j l).length - 1) (stk nd e0 j l) = [root nd e0 l] := by
  induction j with
  | zero => intro l hn h; simp at h; exact (hn h).elim
  | succ j ih =>
    intro l hn h
    have hp := Nat.two_pow_pos j
    rw [Nat.pow_succ] at h
    rw [stk]
    by_cases hl : 2 ^ j ≤ l.length
    · rw [if_pos hl]
      by_cases he : l.length = 2 ^ j
      · rw [List.drop_eq_nil_of_le (by omega), stk_nil, List.take_of_length_le (by omega)]; rfl
      · have hb : 0 < (l.drop (2 ^ j)).length := by rw [List.length_drop]; omega
        have hb2 : (l.drop (2 ^ j)).length < 2 ^ j := by rw [List.length_drop]; omega
        have hbn : l.drop (2 ^ j) ≠ [] := List.length_pos_iff.1 hb
        have h1 := ih _ hbn hb2
        have hpos : 0 < (stk nd e0 j (l.drop (2 ^ j))).length := by
          rw [length_stk nd e0 j _ hb2]; exact bits_pos hb
        have hlen := length_fold2 nd ((stk nd e0 j (l.drop (2 ^ j))).length - 1) (stk nd e0 j (l.drop (2 ^ j))) (by omega)
        rw [List.length_cons, show (stk nd e0 j (l.drop (2 ^ j))).length + 1 - 1 = (stk nd e0 j (l.drop (2 ^ j))).length - 1 + 1 from by omega, fold2_add nd _ 1 _ (by rw [List.length_cons]; omega), fold2_cons nd _ _ _ (by omega), h1]
        have : fold2 nd 1 (root nd e0 (l.take (2 ^ j)) :: [root nd e0 (l.drop (2 ^ j))]) = [nd (root nd e0 (l.take (2 ^ j))) (root nd e0 (l.drop (2 ^ j)))] := rfl
        rw [this, ← root_append nd e0 (j := j) (by rw [List.length_take]; omega) hb (by omega), List.take_append_drop]
    · rw [if_neg hl, ih _ hn (by omega)]

/-! ### Links -/
/-- Why the first ones are the beginning of all: the nearest sum first. -/
def link (l : List α) (m : Nat) (edge : Bool) : List α :=
  if _h : l.length ≤ m then (if edge then [] else [root nd e0 l]) else
  if _h1 : l.length ≤ 1 then [] else
  if m ≤ cut l.length then link (l.take (cut l.length)) m edge ++ [root nd e0 (l.drop (cut l.length))]
  else link (l.drop (cut l.length)) (m - cut l.length) false ++ [root nd e0 (l.take (cut l.length))]
termination_by l.length
decreasing_by
  · have := cut_lt (n := l.length) (by omega); simp only [List.length_take]; omega
  · have := cut_pos l.length; simp only [List.length_drop]; omega

/-- The next sum, which is both. -/
def told : List α → Option ((α × α) × List α)
  | x :: r => some ((x, x), r)
  | [] => none

/-- What a link leads to (the old sum, and the new one), and what is left of it; none: too few. -/
def leads2 (a : α) (m n : Nat) (edge : Bool) (p : List α) : Option ((α × α) × List α) :=
  if _h : n ≤ m then
    (if edge then some ((a, a), p) else told p) else
  if _h1 : n ≤ 1 then none else
  if m ≤ cut n then
    match leads2 a m (cut n) edge p with
    | some ((x, y), s :: r) => some ((x, nd y s), r)
    | _ => none
  else
    match leads2 a (m - cut n) (n - cut n) false p with
    | some ((x, y), s :: r) => some ((nd s x, nd s y), r)
    | _ => none
termination_by n
decreasing_by
  · exact cut_lt (by omega)
  · have := cut_pos n; omega

/-- How many sums a link has. -/
def llen (m n : Nat) (edge : Bool) : Nat :=
  if _h : n ≤ m then (if edge then 0 else 1) else
  if _h1 : n ≤ 1 then 0 else
  if m ≤ cut n then llen m (cut n) edge + 1 else llen (m - cut n) (n - cut n) false + 1
termination_by n
decreasing_by
  · exact cut_lt (by omega)
  · have := cut_pos n; omega


theorem length_link (l : List α) (m : Nat) (edge : Bool) : (link nd e0 l m edge).length = llen m l.length edge := by
  induction l, m, edge using link.induct with
  | case1 l m h => rw [link, dif_pos h, llen, dif_pos h]; rfl
  | case2 l m edge h he => rw [link, dif_pos h, llen, dif_pos h, if_neg he, if_neg he]; rfl
  | case3 l m edge h h1 => rw [link, dif_neg h, dif_pos h1, llen, dif_neg h, dif_pos h1]; rfl
  | case4 l m edge h h1 hk ih =>
    have := cut_lt (n := l.length) (by omega)
    rw [link, dif_neg h, dif_neg h1, if_pos hk, llen, dif_neg h, dif_neg h1, if_pos hk, List.length_append, ih, List.length_take, Nat.min_eq_left (by omega)]; rfl
  | case5 l m edge h h1 hk ih =>
    rw [link, dif_neg h, dif_neg h1, if_neg hk, llen, dif_neg h, dif_neg h1, if_neg hk, List.length_append, ih, List.length_drop]; rfl

theorem leads2_some (a : α) (m n : Nat) (edge : Bool) (p : List α) (hm : 1 ≤ m) (h : llen m n edge ≤ p.length) : ∃ s, leads2 nd a m n edge p = some (s, p.drop (llen m n edge)) := by
  induction m, n, edge using llen.induct with
  | case1 m n hn => exact ⟨(a, a), by rw [leads2, dif_pos hn, llen, dif_pos hn]; rfl⟩
  | case2 m n edge hn he =>
    have e : llen m n edge = 1 := by rw [llen, dif_pos hn, if_neg he]
    rw [e] at h ⊢
    match p, h with
    | x :: r, _ => exact ⟨(x, x), by rw [leads2, dif_pos hn, if_neg he]; rfl⟩
  | case3 m n edge hn h1 => omega
  | case4 m n edge hn h1 hk ih =>
    have e : llen m n edge = llen m (cut n) edge + 1 := by rw [llen, dif_neg hn, dif_neg h1, if_pos hk]
    rw [e] at h ⊢
    obtain ⟨⟨x, y⟩, hs⟩ := ih hm (by omega)
    have hd : p.drop (llen m (cut n) edge) = p[llen m (cut n) edge] :: p.drop (llen m (cut n) edge + 1) := List.drop_eq_getElem_cons (by omega)
    rw [leads2, dif_neg hn, dif_neg h1, if_pos hk, hs, hd]
    exact ⟨_, rfl⟩
  | case5 m n edge hn h1 hk ih =>
    have e : llen m n edge = llen (m - cut n) (n - cut n) false + 1 := by rw [llen, dif_neg hn, dif_neg h1, if_neg hk]
    rw [e] at h ⊢
    obtain ⟨⟨x, y⟩, hs⟩ := ih (by omega) (by omega)
    have hd : p.drop (llen (m - cut n) (n - cut n) false) = p[llen (m - cut n) (n - cut n) false] :: p.drop (llen (m - cut n) (n - cut n) false + 1) := List.drop_eq_getElem_cons (by omega)
    rw [leads2, dif_neg hn, dif_neg h1, if_neg hk, hs, hd]
    exact ⟨_, rfl⟩

theorem leads2_none (a : α) (m n : Nat) (edge : Bool) (p : List α) (hm : 1 ≤ m) (h : p.length < llen m n edge) : leads2 nd a m n edge p = none := by
  induction m, n, edge using llen.induct with
  | case1 m n hn => rw [llen, dif_pos hn] at h; simp at h
  | case2 m n edge hn he =>
    rw [llen, dif_pos hn, if_neg he] at h
    obtain rfl : p = [] := List.eq_nil_of_length_eq_zero (by omega)
    rw [leads2, dif_pos hn, if_neg he]; rfl
  | case3 m n edge hn h1 => omega
  | case4 m n edge hn h1 hk ih =>
    rw [llen, dif_neg hn, dif_neg h1, if_pos hk] at h
    rw [leads2, dif_neg hn, dif_neg h1, if_pos hk]
    by_cases hl : p.length < llen m (cut n) edge
    · rw [ih hm hl]
    · obtain ⟨⟨x, y⟩, hs⟩ := leads2_some nd a m (cut n) edge p hm (by omega)
      have : p.drop (llen m (cut n) edge) = [] := List.drop_eq_nil_of_le (by omega)
      rw [hs, this]
  | case5 m n edge hn h1 hk ih =>
    rw [llen, dif_neg hn, dif_neg h1, if_neg hk] at h
    rw [leads2, dif_neg hn, dif_neg h1, if_neg hk]
    by_cases hl : p.length < llen (m - cut n) (n - cut n) false
    · rw [ih (by omega) hl]
    · obtain ⟨⟨x, y⟩, hs⟩ := leads2_some nd a (m - cut n) (n - cut n) false p (by omega) (by omega)
      have : p.drop (llen (m - cut n) (n - cut n) false) = [] := List.drop_eq_nil_of_le (by omega)
      rw [hs, this]

/-- The link of a beginning leads to both roots (edge: the old root is known; else it is told). -/
theorem leads2_link (l : List α) (m : Nat) (edge : Bool) : ∀ (a : α), 1 ≤ m → m ≤ l.length → (edge = true → a = root nd e0 (l.take m)) →
    ∀ r, leads2 nd a m l.length edge (link nd e0 l m edge ++ r) = some ((root nd e0 (l.take m), root nd e0 l), r) := by
  induction l, m, edge using link.induct with
  | case1 l m h =>
    intro a h1 h2 ha r
    rw [link, dif_pos h, leads2, dif_pos h, if_pos rfl, if_pos rfl, ha rfl, List.take_of_length_le h]; rfl
  | case2 l m edge h he =>
    intro a h1 h2 ha r
    rw [link, dif_pos h, leads2, dif_pos h, if_neg he, if_neg he, List.take_of_length_le h]; rfl
  | case3 l m edge h h1 => intro a h1 h2; omega
  | case4 l m edge h h1 hk ih =>
    intro a hm h2 ha r
    have hc := cut_lt (n := l.length) (by omega)
    have hlen : (l.take (cut l.length)).length = cut l.length := by rw [List.length_take, Nat.min_eq_left (by omega)]
    have ht : (l.take (cut l.length)).take m = l.take m := by rw [List.take_take, Nat.min_eq_left hk]
    have := ih a hm (by omega) (by rw [ht]; exact ha) ([root nd e0 (l.drop (cut l.length))] ++ r)
    rw [hlen, ht] at this
    rw [link, dif_neg h, dif_neg h1, if_pos hk, leads2, dif_neg h, dif_neg h1, if_pos hk, List.append_assoc, this, root_split nd e0 (l := l) (by omega)]
    rfl
  | case5 l m edge h h1 hk ih =>
    intro a hm h2 ha r
    have hlen : (l.drop (cut l.length)).length = l.length - cut l.length := List.length_drop
    have h2c := le_two_cut (n := l.length) (by omega)
    have := ih a (by omega) (by omega) (fun h => by cases h) ([root nd e0 (l.take (cut l.length))] ++ r)
    rw [hlen] at this
    have ht : root nd e0 (l.take m) = nd (root nd e0 (l.take (cut l.length))) (root nd e0 ((l.drop (cut l.length)).take (m - cut l.length))) := by
      obtain ⟨j, hj⟩ := cut_is_pow l.length
      have hcl : (l.take (cut l.length)).length = cut l.length := by rw [List.length_take]; omega
      rw [← root_append nd e0 (j := j) (by omega) (by rw [List.length_take, hlen]; omega) (by rw [List.length_take, hlen]; omega)]
      congr 1
      rw [← List.take_add, Nat.add_sub_cancel' (by omega)]
    rw [link, dif_neg h, dif_neg h1, if_neg hk, leads2, dif_neg h, dif_neg h1, if_neg hk, List.append_assoc, this, root_split nd e0 (l := l) (by omega), ht]
    rfl


/-! ### More of paths and links -/
theorem path_left {a b : List α} {j k : Nat} (ha : a.length = 2 ^ j) (hb : b.length = 2 ^ j) (hk : k < 2 ^ j) : path nd e0 (a ++ b) k = path nd e0 a k ++ [root nd e0 b] := by
  have hp := Nat.two_pow_pos j
  have hl : (a ++ b).length = 2 ^ (j + 1) := by rw [List.length_append, ha, hb, Nat.pow_succ]; omega
  have hc : cut (a ++ b).length = a.length := by rw [ha]; exact cut_eq (by rw [hl, Nat.pow_succ]; omega) (by rw [hl]; omega)
  rw [path, dif_neg (by rw [hl, Nat.pow_succ]; omega), hc, if_pos (by omega), List.take_left, List.drop_left]

theorem path_right {a b : List α} {j k : Nat} (ha : a.length = 2 ^ j) (hb : b.length = 2 ^ j) : path nd e0 (a ++ b) (2 ^ j + k) = path nd e0 b k ++ [root nd e0 a] := by
  have hp := Nat.two_pow_pos j
  have hl : (a ++ b).length = 2 ^ (j + 1) := by rw [List.length_append, ha, hb, Nat.pow_succ]; omega
  have hc : cut (a ++ b).length = a.length := by rw [ha]; exact cut_eq (by rw [hl, Nat.pow_succ]; omega) (by rw [hl]; omega)
  rw [path, dif_neg (by rw [hl, Nat.pow_succ]; omega), hc, if_neg (by omega), List.take_left, List.drop_left, ha, Nat.add_sub_cancel_left]

theorem pow_le_cut {n j : Nat} (h : 2 ^ j < n) : 2 ^ j ≤ cut n := by
  unfold cut
  refine Nat.pow_le_pow_right (by omega) ?_
  have hp := Nat.two_pow_pos j
  have : ¬ (n - 1).log2 < j := fun h2 => by have := (Nat.log2_lt (by omega)).1 h2; omega
  omega

theorem link_power (l : List α) (m : Nat) (edge : Bool) : edge = true → ∀ j, m = 2 ^ j → m ≤ l.length → (link nd e0 l m edge).foldl nd (root nd e0 (l.take m)) = root nd e0 l := by
  induction l, m, edge using link.induct with
  | case1 l m h => intro _ j _ h2; rw [link, dif_pos h, if_pos rfl, List.take_of_length_le h]; rfl
  | case2 l m edge h he => intro h2; exact (he h2).elim
  | case3 l m edge h h1 => intro _ j hj _; have := Nat.two_pow_pos j; omega
  | case4 l m edge h h1 hk ih =>
    intro he j hj h2
    have hc := cut_lt (n := l.length) (by omega)
    have hlen : (l.take (cut l.length)).length = cut l.length := by rw [List.length_take, Nat.min_eq_left (by omega)]
    have := ih he j hj (by omega)
    rw [List.take_take, Nat.min_eq_left hk] at this
    rw [link, dif_neg h, dif_neg h1, if_pos hk, List.foldl_append, this, root_split nd e0 (l := l) (by omega)]
    rfl
  | case5 l m edge h h1 hk ih =>
    intro he j hj h2
    have := pow_le_cut (n := l.length) (j := j) (by omega)
    omega

/-- How often a number can be halved. -/
def halves (n : Nat) : Nat := if _h : n = 0 then 0 else halves (n / 2) + 1
termination_by n
decreasing_by omega

theorem lt_pow_halves (n : Nat) : n < 2 ^ halves n := by
  induction n using halves.induct with
  | case1 => rw [halves]; simp
  | case2 n h ih => rw [halves, dif_neg h, Nat.pow_succ]; omega

theorem plen_le_halves (k n : Nat) : plen k n ≤ halves (n - 1) := plen_le k n _ (by have := lt_pow_halves (n - 1); omega)

end
end Alm
