/-
  Merged: V1, S1, V2, V3.
-/
import Derived.Test.YtfmgoehnbaiamaaU13
import Derived.Test.YtfmgoehnbaiamaaZU
-- Plain law: what stands at a key behind puts; pairs are what stands at keys.
open Go Go.RowKit Alm
namespace Go.Proofs.Ytfmgoehnbaiamaa
open Keys (Rise Pr kn putB put del)
theorem get_of_mem {l : List Pr} (h : Rise l) {k : Sum} {v : List UInt8} (hm : (k, v) ∈ l) : Keys.get l k = v := Keys.get_mem h hm
theorem get_ne {l : List Pr} {k : Sum} (h : Keys.get l k ≠ []) : (k, Keys.get l k) ∈ l := by
  unfold Keys.get at h ⊢
  cases hf : l.find? (fun p => decide (p.1 = k)) with
  | none => rw [hf] at h; exact absurd rfl h
  | some p =>
    have h1 := List.mem_of_find?_eq_some hf
    have h2 := List.find?_some hf
    simp only [decide_eq_true_eq] at h2
    subst h2
    exact h1
/-- No pair is without bytes, none has more than 256. -/
def Full (l : List Pr) : Prop := ∀ p ∈ l, p.2 ≠ [] ∧ p.2.length ≤ 256
theorem full_putB {l : List Pr} (hr : Rise l) (h : Full l) (k : Sum) (v : List UInt8) : Full (putB l k v) := by
  unfold putB
  split
  · exact h
  · split
    · exact fun p hp => h p (Keys.mem_del.1 hp).1
    · intro p hp
      rcases (Keys.mem_put hr).1 hp with rfl | ⟨hp, _⟩
      · exact ⟨by assumption, by show v.length ≤ 256; omega⟩
      · exact h p hp
theorem puts_ok (P : List Pr) : ∀ {x}, Rise x → Full x → Rise (puts x P) ∧ Full (puts x P) := by
  induction P with
  | nil => intro x h1 h2; exact ⟨h1, h2⟩
  | cons q P ih =>
    intro x h1 h2
    exact ih (Keys.rise_putB h1 _ _) (full_putB h1 h2 _ _)
theorem get_putB {l : List Pr} (hr : Rise l) (hf : Full l) (k : Sum) (v : List UInt8) (j : Sum) : Keys.get (putB l k v) j = if k = j ∧ v.length ≤ 256 then v else Keys.get l j := by
  have hr2 : Rise (putB l k v) := Keys.rise_putB hr k v
  unfold putB at hr2 ⊢
  by_cases h1 : v.length > 256
  · rw [if_pos h1, if_neg (by omega)]
  · rw [if_neg h1] at hr2 ⊢
    by_cases h2 : v = []
    · rw [if_pos h2] at hr2 ⊢
      by_cases hk : k = j
      · rw [if_pos ⟨hk, by omega⟩, h2]
        exact Keys.get_none fun p hp => by rw [← hk]; exact (Keys.mem_del.1 hp).2
      · rw [if_neg (fun h => hk h.1)]
        by_cases hg : Keys.get l j = []
        · rw [hg]
          refine Keys.get_none fun p hp e => ?_
          have hp2 := (Keys.mem_del.1 hp).1
          have := Keys.get_mem hr hp2
          rw [e, hg] at this
          exact (hf p hp2).1 this.symm
        · have := get_ne hg
          exact get_of_mem hr2 (Keys.mem_del.2 ⟨this, fun e => hk e.symm⟩)
    · rw [if_neg h2] at hr2 ⊢
      by_cases hk : k = j
      · rw [if_pos ⟨hk, by omega⟩]
        subst hk
        exact get_of_mem hr2 ((Keys.mem_put hr).2 (.inl rfl))
      · rw [if_neg (fun h => hk h.1)]
        by_cases hg : Keys.get l j = []
        · rw [hg]
          refine Keys.get_none fun p hp e => ?_
          rcases (Keys.mem_put hr).1 hp with rfl | ⟨hp2, _⟩
          · exact hk e
          · have := Keys.get_mem hr hp2
            rw [e, hg] at this
            exact (hf p hp2).1 this.symm
        · have := get_ne hg
          exact get_of_mem hr2 ((Keys.mem_put hr).2 (.inr ⟨this, fun e => hk e.symm⟩))
/-- Pairs are what stands at keys. -/
theorem ext_get {a b : List Pr} (ha : Rise a) (hb : Rise b) (fa : Full a) (fb : Full b) (h : ∀ k, Keys.get a k = Keys.get b k) : a = b := by
  refine Keys.rise_ext ha hb fun p => ⟨fun hp => ?_, fun hp => ?_⟩
  · have h1 := Keys.get_mem ha hp
    have h2 : Keys.get b p.1 ≠ [] := by rw [← h, h1]; exact (fa p hp).1
    have h3 := get_ne h2
    rw [← h, h1] at h3
    exact h3
  · have h1 := Keys.get_mem hb hp
    have h2 : Keys.get a p.1 ≠ [] := by rw [h, h1]; exact (fb p hp).1
    have h3 := get_ne h2
    rw [h, h1] at h3
    exact h3
theorem rise_nil : Rise ([] : List Pr) := List.Pairwise.nil
theorem full_nil : Full [] := fun p hp => by cases hp
theorem get_nil (k : Sum) : Keys.get [] k = [] := rfl
/-- What was put at a key last. -/
def lastOf (P : List Pr) (k : Sum) (w : List UInt8) : List UInt8 := P.foldl (fun w q => if q.1 = k ∧ q.2.length ≤ 256 then q.2 else w) w
theorem get_puts (P : List Pr) (k : Sum) : ∀ {x}, Rise x → Full x → Keys.get (puts x P) k = lastOf P k (Keys.get x k) := by
  induction P with
  | nil => intro x _ _; rfl
  | cons q P ih =>
    intro x h1 h2
    show Keys.get (puts (putB x q.1 q.2) P) k = _
    rw [ih (Keys.rise_putB h1 _ _) (full_putB h1 h2 _ _), get_putB h1 h2]
    rfl
theorem lastOf_take (P : List Pr) (k : Sum) (w : List UInt8) {i : Nat} {j : Sum} {bs : List UInt8} (h : P[i]? = some (j, bs)) : lastOf (P.take (i + 1)) k w = if j = k ∧ bs.length ≤ 256 then bs else lastOf (P.take i) k w := by
  have hi := (List.getElem?_eq_some_iff.1 h).1
  have e := (List.getElem?_eq_some_iff.1 h).2
  unfold lastOf
  rw [List.take_succ_eq_append_getElem hi, List.foldl_append, e]
  rfl
theorem puts_append (x A B : List Pr) : puts x (A ++ B) = puts (puts x A) B := by unfold puts; rw [List.foldl_append]
theorem get_rise (_P : List Pr) (k : Sum) : ∀ {x}, Rise x → Full x → (Keys.get x k).length ≤ 256 := fun {x} _ h2 => by
  by_cases hg : Keys.get x k = []
  · rw [hg]; exact Nat.zero_le _
  · exact (h2 _ (get_ne hg)).2
/-- Pairs of unlike keys, put in any order, are these. -/
theorem lastOf_perm {P : List Pr} (hf : Full P) (hn : P.Pairwise fun p q => p.1 ≠ q.1) (k : Sum) : ∀ w, (∀ p ∈ P, p.1 = k → lastOf P k w = p.2) ∧ ((∀ p ∈ P, p.1 ≠ k) → lastOf P k w = w) := by
  induction P with
  | nil => intro w; exact ⟨fun p hp => (List.not_mem_nil hp).elim, fun _ => rfl⟩
  | cons q P ih =>
    intro w
    obtain ⟨n1, n2⟩ := List.pairwise_cons.1 hn
    have hf2 : Full P := fun p hp => hf p (List.mem_cons_of_mem _ hp)
    have ih2 := ih hf2 n2
    constructor
    · intro p hp hk
      show lastOf P k (if q.1 = k ∧ q.2.length ≤ 256 then q.2 else w) = p.2
      rcases List.mem_cons.1 hp with rfl | hp2
      · rw [if_pos ⟨hk, (hf p List.mem_cons_self).2⟩]
        exact (ih2 _).2 fun r hr e => n1 r hr (by rw [hk, e])
      · exact (ih2 _).1 p hp2 hk
    · intro h
      show lastOf P k (if q.1 = k ∧ q.2.length ≤ 256 then q.2 else w) = w
      rw [if_neg (fun e => h q List.mem_cons_self e.1)]
      exact (ih2 _).2 fun p hp => h p (List.mem_cons_of_mem _ hp)
theorem puts_same {P Q : List Pr} (hP : Rise P) (hf : Full P) (hq : Q.Perm P) : puts [] Q = P := by
  have hfq : Full Q := fun p hp => hf p (hq.mem_iff.1 hp)
  have hnp : P.Pairwise fun p q => p.1 ≠ q.1 := hP.imp fun {a b} h e => by rw [e] at h; exact Nat.lt_irrefl _ h
  have hnq : Q.Pairwise fun p q => p.1 ≠ q.1 := (hq.pairwise_iff (fun {a b} h => h.symm)).2 hnp
  obtain ⟨r1, r2⟩ := puts_ok Q rise_nil full_nil
  refine ext_get r1 hP r2 hf fun k => ?_
  rw [get_puts Q k rise_nil full_nil, get_nil]
  by_cases hk : ∃ p ∈ Q, p.1 = k
  · obtain ⟨p, hp, e⟩ := hk
    rw [(lastOf_perm hfq hnq k []).1 p hp e, ← e]
    exact (Keys.get_mem hP (hq.mem_iff.1 hp)).symm
  · have hne : ∀ p ∈ Q, p.1 ≠ k := fun p hp e => hk ⟨p, hp, e⟩
    rw [(lastOf_perm hfq hnq k []).2 hne]
    exact (Keys.get_none fun p hp => hne p (hq.mem_iff.2 hp)).symm
/-- What was there is put back. -/
theorem lastOf_back (x : List Pr) (O : List Pr) (k : Sum) (h256 : (Keys.get x k).length ≤ 256) : ∀ w, lastOf (O.map fun q => (q.1, Keys.get x q.1)) k w = if ∃ q ∈ O, q.1 = k then Keys.get x k else w := by
  induction O with
  | nil => intro w; simp [lastOf]
  | cons q O ih =>
    intro w
    show lastOf (O.map fun q => (q.1, Keys.get x q.1)) k (if q.1 = k ∧ (Keys.get x q.1).length ≤ 256 then Keys.get x q.1 else w) = _
    rw [ih]
    by_cases hk : q.1 = k
    · have e1 : (if q.1 = k ∧ (Keys.get x q.1).length ≤ 256 then Keys.get x q.1 else w) = Keys.get x k := by rw [if_pos ⟨hk, by rw [hk]; exact h256⟩, hk]
      have e2 : ∃ q' ∈ q :: O, q'.1 = k := ⟨q, List.mem_cons_self, hk⟩
      rw [e1, if_pos e2]
      split <;> rfl
    · have e1 : (if q.1 = k ∧ (Keys.get x q.1).length ≤ 256 then Keys.get x q.1 else w) = w := by rw [if_neg (fun e => hk e.1)]
      rw [e1]
      by_cases he : ∃ q' ∈ O, q'.1 = k
      · obtain ⟨q', h1, h2⟩ := he
        rw [if_pos ⟨q', h1, h2⟩, if_pos ⟨q', List.mem_cons_of_mem _ h1, h2⟩]
      · rw [if_neg he, if_neg]
        rintro ⟨q', h1, h2⟩
        rcases List.mem_cons.1 h1 with rfl | h1
        · exact hk h2
        · exact he ⟨q', h1, h2⟩
theorem lastOf_not (O : List Pr) (k : Sum) : ∀ w, (¬ ∃ q ∈ O, q.1 = k) → lastOf O k w = w := by
  induction O with
  | nil => intro w _; rfl
  | cons q O ih =>
    intro w h
    show lastOf O k (if q.1 = k ∧ q.2.length ≤ 256 then q.2 else w) = w
    rw [if_neg (fun e => h ⟨q, List.mem_cons_self, e.1⟩)]
    exact ih w fun ⟨q', h1, h2⟩ => h ⟨q', List.mem_cons_of_mem _ h1, h2⟩
theorem puts_back {x : List Pr} (hr : Rise x) (hf : Full x) (O : List Pr) : puts (puts x O) (O.map fun q => (q.1, Keys.get x q.1)) = x := by
  obtain ⟨r1, r2⟩ := puts_ok O hr hf
  obtain ⟨r3, r4⟩ := puts_ok (O.map fun q => (q.1, Keys.get x q.1)) r1 r2
  refine ext_get r3 hr r4 hf fun k => ?_
  rw [get_puts _ k r1 r2, lastOf_back x O k (get_rise [] k hr hf)]
  by_cases he : ∃ q ∈ O, q.1 = k
  · rw [if_pos he]
  · rw [if_neg he, get_puts O k hr hf, lastOf_not O k _ he]
end Go.Proofs.Ytfmgoehnbaiamaa
-- Plain law: what stands beside a key, depth by depth (shows).
namespace Go.Proofs.Ytfmgoehnbaiamaa
open Keys (Rise Pr kn putB put del)
/-- What lies on the other side of a key, so high; what lies on its own side. -/
def oth (k : Sum) (n : Nat) (l : List Pr) : List Pr := l.filter fun p => (kn p.1).testBit n != (kn k).testBit n
def mine (k : Sum) (n : Nat) (l : List Pr) : List Pr := l.filter fun p => (kn p.1).testBit n == (kn k).testBit n
noncomputable def atH (n : Nat) (l : List Pr) : Sum := Keys.at' sd z0 vl n l
theorem atH_nil (n : Nat) : atH n [] = em n := Keys.at_nil sd z0 vl n
theorem atH_zero (l : List Pr) : atH 0 l = match l with | [] => z0 | p :: _ => vl p.1 p.2 := by
  cases l <;> rfl
/-- Put together with what is beside, so high. -/
noncomputable def join (k : Sum) (n : Nat) (t x : Sum) : Sum := if (kn k).testBit n then sd t x else sd x t
theorem atH_succ (k : Sum) (n : Nat) (l : List Pr) : atH (n + 1) l = join k n (atH n (oth k n l)) (atH n (mine k n l)) := by
  unfold join oth mine atH
  rw [Keys.at']
  by_cases h : (kn k).testBit n = true
  · rw [if_pos h]
    congr 3
    · funext p; rw [h]; cases (kn p.1).testBit n <;> rfl
    · funext p; rw [h]; cases (kn p.1).testBit n <;> rfl
  · have h' : (kn k).testBit n = false := by simpa using h
    rw [if_neg h]
    congr 3
    · funext p; rw [h']; cases (kn p.1).testBit n <;> rfl
    · funext p; rw [h']; cases (kn p.1).testBit n <;> rfl
/-- What is told of a key, from above. -/
noncomputable def tells (k : Sum) : Nat → List Pr → List (Option Sum)
  | 0, _ => []
  | n + 1, l => (if atH n (oth k n l) = em n then none else some (atH n (oth k n l))) :: tells k n (mine k n l)
theorem length_tells (k : Sum) : ∀ n l, (tells k n l).length = n
  | 0, _ => rfl
  | n + 1, l => by rw [tells, List.length_cons, length_tells k n]
/-- Told so, or what is empty told too. -/
def Tells (k : Sum) : Nat → List Pr → List (Option Sum) → Prop
  | 0, _, T => T = []
  | n + 1, l, T => ∃ t T', T = t :: T' ∧ t.getD (em n) = atH n (oth k n l) ∧ Tells k n (mine k n l) T'
theorem tells_ok (k : Sum) : ∀ n l, Tells k n l (tells k n l)
  | 0, _ => rfl
  | n + 1, l => by
    refine ⟨_, _, rfl, ?_, tells_ok k n _⟩
    split
    · rename_i h; exact h.symm
    · rfl
theorem Tells.length {k : Sum} : ∀ {n l T}, Tells k n l T → T.length = n
  | 0, _, _, h => by rw [show _ = [] from h]; rfl
  | n + 1, _, _, h => by obtain ⟨t, T', rfl, _, h⟩ := h; rw [List.length_cons, h.length]
/-- The sides of what is told. -/
def sidesOf (T : List (Option Sum)) : List Sum := T.filterMap id
theorem sidesOf_cons (t : Option Sum) (T : List (Option Sum)) : sidesOf (t :: T) = t.toList ++ sidesOf T := by
  unfold sidesOf; cases t <;> rfl
/-- What Check does, so high: what it has come to, the sides that are left, whether there were too few. -/
noncomputable def stepC (k which : Sum) (n : Nat) (s : Sum × List Sum × Bool) : Sum × List Sum × Bool :=
  if (kn which).testBit n then
    if s.2.2 = true ∨ s.2.1 = [] then (join k n zeroSum s.1, s.2.1, true) else (join k n (s.2.1.getLast?.getD zeroSum) s.1, s.2.1.dropLast, false)
  else (join k n (em n) s.1, s.2.1, s.2.2)
noncomputable def runC (k which : Sum) : Nat → Sum × List Sum × Bool → Sum × List Sum × Bool
  | 0, s => s
  | n + 1, s => stepC k which n (runC k which n s)
/-- What Check answers. -/
noncomputable def checkOf (root k : Sum) (v : List UInt8) (which : Sum) (sides : List Sum) : Bool :=
  decide ((runC k which 256 (vl k v, sides, false)).2.2 = false ∧ (runC k which 256 (vl k v, sides, false)).2.1 = [] ∧ (runC k which 256 (vl k v, sides, false)).1 = root)
/-- The bits of a show are those at which there is something told. -/
def Bits (which : Sum) (n : Nat) (T : List (Option Sum)) : Prop := ∀ j, j < n → (kn which).testBit (n - 1 - j) = (T.getD j none).isSome
theorem Bits.tail {which : Sum} {n : Nat} {t : Option Sum} {T : List (Option Sum)} (h : Bits which (n + 1) (t :: T)) : Bits which n T := fun j hj => by
  have := h (j + 1) (by omega)
  rw [show n + 1 - 1 - (j + 1) = n - 1 - j by omega] at this
  simpa using this
theorem mem_mine {k : Sum} {n : Nat} {l : List Pr} {p : Pr} : p ∈ mine k n l ↔ p ∈ l ∧ (kn p.1).testBit n = (kn k).testBit n := by
  unfold mine; rw [List.mem_filter]; simp
theorem mem_oth {k : Sum} {n : Nat} {l : List Pr} {p : Pr} : p ∈ oth k n l ↔ p ∈ l ∧ (kn p.1).testBit n ≠ (kn k).testBit n := by
  unfold oth; rw [List.mem_filter]; simp
/-- All lie under the way to a key, so high. -/
def Near (k : Sum) (n : Nat) (l : List Pr) : Prop := ∀ p ∈ l, kn p.1 >>> n = kn k >>> n
theorem Near.mine {k : Sum} {n : Nat} {l : List Pr} (h : Near k (n + 1) l) : Near k n (mine k n l) := fun p hp => by
  obtain ⟨h1, h2⟩ := mem_mine.1 hp
  rw [Keys.shr_succ (kn p.1), Keys.shr_succ (kn k), h p h1, h2]
theorem rise_mine {k : Sum} {n : Nat} {l : List Pr} (h : Rise l) : Rise (mine k n l) := h.sublist List.filter_sublist
theorem get_mine {k : Sum} {n : Nat} {l : List Pr} (h : Rise l) : Keys.get (mine k n l) k = Keys.get l k := by
  by_cases he : ∃ p ∈ l, p.1 = k
  · obtain ⟨p, hp, rfl⟩ := he
    rw [Keys.get_mem h hp, Keys.get_mem (rise_mine h) (mem_mine.2 ⟨hp, rfl⟩)]
  · rw [Keys.get_none (l := l) fun p hp e => he ⟨p, hp, e⟩, Keys.get_none fun p hp e => he ⟨p, (mem_mine.1 hp).1, e⟩]
theorem atH_own {k : Sum} {l : List Pr} (hr : Rise l) (h : Near k 0 l) : atH 0 l = vl k (Keys.get l k) := by
  rw [atH_zero]
  cases l with
  | nil => exact (vl_nil k).symm
  | cons p r =>
    have e : p.1 = k := Keys.kn_inj (by simpa using h p List.mem_cons_self)
    have := Keys.get_mem hr (List.mem_cons_self (a := p) (l := r))
    rw [e] at this
    show vl p.1 p.2 = _
    rw [this, e]
/-- The theorem: what is told leads back. -/
theorem run_tells {k which : Sum} : ∀ (n : Nat) (l : List Pr) (T : List (Option Sum)) (S : List Sum), Rise l → Near k n l → Tells k n l T → Bits which n T →
    runC k which n (vl k (Keys.get l k), S ++ sidesOf T, false) = (atH n l, S, false)
  | 0, l, T, S, hr, hn, hT, _ => by
    rw [show T = [] from hT, runC, atH_own hr hn, show sidesOf [] = [] from rfl, List.append_nil]
  | n + 1, l, T, S, hr, hn, hT, hB => by
    obtain ⟨t, T', rfl, h1, h2⟩ := hT
    have ih := run_tells n (mine k n l) T' (S ++ t.toList) (rise_mine hr) hn.mine h2 hB.tail
    rw [get_mine hr, List.append_assoc, ← sidesOf_cons] at ih
    rw [runC, ih, stepC, atH_succ k n l]
    have hb := hB 0 (by omega)
    rw [show n + 1 - 1 - 0 = n by omega] at hb
    have hb' : (kn which).testBit n = t.isSome := by simpa using hb
    cases t with
    | none =>
      rw [if_neg (by rw [hb']; simp)]
      simp only [Option.toList_none, List.append_nil]
      rw [show em n = atH n (oth k n l) from h1]
    | some t =>
      rw [if_pos (by rw [hb']; rfl), if_neg (by simp)]
      simp only [Option.toList_some, List.getLast?_append, List.getLast?_singleton, Option.some_or, Option.getD_some, List.dropLast_concat]
      rw [show t = atH n (oth k n l) from h1]
theorem shr_256 (k : Sum) : kn k >>> 256 = 0 := by
  have := Fast.snum_lt k
  rw [Nat.shiftRight_eq_div_pow]
  exact Nat.div_eq_of_lt this
theorem near_top (k : Sum) (l : List Pr) : Near k 256 l := fun p _ => by rw [shr_256, shr_256]
theorem check_tells {k which : Sum} {l : List Pr} {T : List (Option Sum)} (hr : Rise l) (hT : Tells k 256 l T) (hB : Bits which 256 T) : checkOf (rootOf l) k (Keys.get l k) which (sidesOf T) = true := by
  have := run_tells 256 l T [] hr (near_top k l) hT hB
  rw [List.nil_append] at this
  unfold checkOf
  rw [this]
  simp
  rfl
/-- How many bits are set below a height. -/
def cnt (which : Sum) : Nat → Nat
  | 0 => 0
  | n + 1 => cnt which n + if (kn which).testBit n then 1 else 0
theorem run_count (k which x : Sum) (L : List Sum) : ∀ n, (runC k which n (x, L, false)).2.2 = decide (L.length < cnt which n) ∧ (runC k which n (x, L, false)).2.1 = L.take (L.length - cnt which n)
  | 0 => ⟨by simp [runC, cnt], by simp [runC, cnt]⟩
  | n + 1 => by
    obtain ⟨h1, h2⟩ := run_count k which x L n
    rw [runC, stepC, cnt]
    by_cases hb : (kn which).testBit n = true
    · rw [if_pos hb, if_pos hb]
      by_cases hc : L.length < cnt which n + 1
      · rw [if_pos (by
          rw [h1, h2]
          by_cases h : L.length < cnt which n
          · exact .inl (by simpa using h)
          · exact .inr (by rw [show L.length - cnt which n = 0 by omega, List.take_zero]))]
        refine ⟨by simpa using hc, ?_⟩
        show (runC k which n (x, L, false)).2.1 = _
        rw [h2, show L.length - cnt which n = 0 by omega, show L.length - (cnt which n + 1) = 0 by omega]
      · rw [if_neg (by
          rw [h1, h2]
          rintro (h | h)
          · simp at h; omega
          · have := congrArg List.length h; simp at this; omega)]
        refine ⟨by simp; omega, ?_⟩
        show (runC k which n (x, L, false)).2.1.dropLast = _
        rw [h2, List.dropLast_eq_take, List.length_take, List.take_take]
        congr 1; omega
    · rw [if_neg hb, if_neg hb]
      exact ⟨by simpa using h1, by simpa using h2⟩
theorem check_count {root k which : Sum} {v : List UInt8} {L : List Sum} (h : checkOf root k v which L = true) : L.length = cnt which 256 := by
  unfold checkOf at h
  have h := of_decide_eq_true h
  obtain ⟨h1, h2⟩ := run_count k which (vl k v) L 256
  rw [h1] at h
  rw [h2] at h
  have g1 := of_decide_eq_false h.1
  have := congrArg List.length h.2.1
  simp at this
  omega
theorem cnt_bits {which : Sum} : ∀ (n : Nat) (T : List (Option Sum)), T.length = n → Bits which n T → cnt which n = (sidesOf T).length
  | 0, T, h, _ => by rw [List.length_eq_zero_iff.1 h]; rfl
  | n + 1, t :: T, h, hB => by
    have ih := cnt_bits n T (by simpa using h) hB.tail
    have hb := hB 0 (by omega)
    rw [show n + 1 - 1 - 0 = n by omega] at hb
    have hb' : (kn which).testBit n = t.isSome := by simpa using hb
    rw [cnt, sidesOf_cons, List.length_append, ih, hb']
    cases t <;> simp <;> omega
theorem length_mine (k : Sum) (n : Nat) (l : List Pr) : (oth k n l).length + (mine k n l).length = l.length := by
  unfold oth mine
  induction l with
  | nil => rfl
  | cons p r ih =>
    rw [List.filter_cons, List.filter_cons]
    cases h1 : (kn p.1).testBit n <;> cases h2 : (kn k).testBit n <;> simp only [h2, beq_self_eq_true, if_true, List.length_cons, bne] at ih ⊢ <;> (try simp only [h1, h2]) <;> (first | omega | (simp at ih ⊢; omega))
/-- As many sides as there are others, at most. -/
theorem length_sides (k : Sum) : ∀ n l, (sidesOf (tells k n l)).length ≤ l.length
  | 0, _ => Nat.zero_le _
  | n + 1, l => by
    have ih := length_sides k n (mine k n l)
    have hl := length_mine k n l
    rw [tells, sidesOf_cons, List.length_append]
    split
    · simp; omega
    · rename_i h
      have : (oth k n l) ≠ [] := fun e => h (by rw [e]; exact atH_nil n)
      have := List.length_pos_iff.2 this
      simp; omega
/-- Pairs that are the same but at a key. -/
def But (k : Sum) (l m : List Pr) : Prop := ∀ q : Pr → Bool, (∀ v, q (k, v) = false) → l.filter q = m.filter q
theorem But.oth {k : Sum} {n : Nat} {l m : List Pr} (h : But k l m) : oth k n l = oth k n m := h _ fun v => by simp
theorem But.mine {k : Sum} {n : Nat} {l m : List Pr} (h : But k l m) : But k (mine k n l) (mine k n m) := fun q hq => by
  unfold Go.Proofs.Ytfmgoehnbaiamaa.mine
  rw [List.filter_filter, List.filter_filter]
  exact h _ fun v => by rw [hq]; rfl
theorem tells_but {k : Sum} : ∀ n {l m : List Pr}, But k l m → tells k n l = tells k n m
  | 0, _, _, _ => rfl
  | n + 1, l, m, h => by rw [tells, tells, h.oth, tells_but n h.mine]
theorem but_put {k : Sum} {l : List Pr} (hr : Rise l) (v : List UInt8) : But k l (putB l k v) := fun q hq => by
  refine Keys.rise_ext (hr.sublist List.filter_sublist) ((Keys.rise_putB hr k v).sublist List.filter_sublist) fun p => ?_
  rw [List.mem_filter, List.mem_filter]
  have hne : q p = true → p.1 ≠ k := fun h e => by
    obtain ⟨a, b⟩ := p
    simp only at e
    subst e
    rw [hq] at h; cases h
  unfold putB
  split
  · exact Iff.rfl
  · split
    · rw [Keys.mem_del]
      exact ⟨fun h => ⟨⟨h.1, hne h.2⟩, h.2⟩, fun h => ⟨h.1.1, h.2⟩⟩
    · rw [Keys.mem_put hr]
      constructor
      · exact fun h => ⟨.inr ⟨h.1, hne h.2⟩, h.2⟩
      · rintro ⟨h1 | h1, h2⟩
        · rw [h1] at h2; rw [hq] at h2; cases h2
        · exact ⟨h1.1, h2⟩
/-- Two keys tell the same ahead of where they part. -/
theorem tells_near {k o : Sum} : ∀ n l j, (∀ i, i ≤ j → (kn k).testBit (n - 1 - i) = (kn o).testBit (n - 1 - i)) → j < n → (tells k n l).take (j + 1) = (tells o n l).take (j + 1)
  | 0, _, _, _, h => by omega
  | n + 1, l, j, h, hj => by
    have h0 := h 0 (Nat.zero_le _)
    rw [show n + 1 - 1 - 0 = n by omega] at h0
    have e1 : oth k n l = oth o n l := by unfold oth; rw [h0]
    have e2 : mine k n l = mine o n l := by unfold mine; rw [h0]
    rw [tells, tells, e1, e2, List.take_succ_cons, List.take_succ_cons]
    congr 1
    cases j with
    | zero => simp
    | succ j =>
      refine tells_near n (mine o n l) j (fun i hi => ?_) (by omega)
      have := h (i + 1) (by omega)
      rw [show n + 1 - 1 - (i + 1) = n - 1 - i by omega] at this
      exact this
/-! ### pairs cut where the bit changes -/
/-- How many have the bit 0, of those that rise under one node. -/
def cutH (n : Nat) (l : List Pr) : Nat := (l.filter fun p => !(kn p.1).testBit n).length
theorem cut_split {n : Nat} : ∀ {l : List Pr}, Rise l → Keys.Same (n + 1) l → l.take (cutH n l) = l.filter (fun p => !(kn p.1).testBit n) ∧ l.drop (cutH n l) = l.filter (fun p => (kn p.1).testBit n)
  | [], _, _ => ⟨rfl, rfl⟩
  | p :: r, h, hs => by
    obtain ⟨h1, h2⟩ := List.pairwise_cons.1 h
    have hs2 : Keys.Same (n + 1) r := fun a ha b hb => hs a (List.mem_cons_of_mem _ ha) b (List.mem_cons_of_mem _ hb)
    obtain ⟨i1, i2⟩ := cut_split h2 hs2
    unfold cutH at i1 i2 ⊢
    by_cases hb : (kn p.1).testBit n = true
    · have hall : ∀ q ∈ r, (kn q.1).testBit n = true := fun q hq => by
        have e := hs p List.mem_cons_self q (List.mem_cons_of_mem _ hq)
        have hlt := h1 q hq
        rcases Bool.eq_false_or_eq_true ((kn q.1).testBit n) with hc' | hc'
        · exact hc'
        exfalso
        have e1 := Keys.shr_succ (kn p.1) n
        have e2 := Keys.shr_succ (kn q.1) n
        rw [hb, if_pos rfl] at e1
        rw [hc', if_neg (by simp)] at e2
        have : kn p.1 >>> n ≤ kn q.1 >>> n := by
          rw [Nat.shiftRight_eq_div_pow, Nat.shiftRight_eq_div_pow]
          exact Nat.div_le_div_right (Nat.le_of_lt hlt)
        omega
      have hn : r.filter (fun p => !(kn p.1).testBit n) = [] := by
        rw [List.filter_eq_nil_iff]
        intro q hq; rw [hall q hq]; simp
      have hy : r.filter (fun p => (kn p.1).testBit n) = r := List.filter_eq_self.2 hall
      rw [List.filter_cons_of_neg (by rw [hb]; simp), hn, List.filter_cons_of_pos (by exact hb), hy]
      exact ⟨rfl, rfl⟩
    · have hb' : (kn p.1).testBit n = false := by simpa using hb
      rw [List.filter_cons_of_pos (by rw [hb']; rfl), List.filter_cons_of_neg (by rw [hb']; simp), List.length_cons, List.take_succ_cons, List.drop_succ_cons]
      exact ⟨by rw [i1], i2⟩
theorem cut_first {n : Nat} {l : List Pr} (h : Rise l) (hs : Keys.Same (n + 1) l) : (∀ j p, l[j]? = some p → j < cutH n l → (kn p.1).testBit n = false) ∧ (∀ p, l[cutH n l]? = some p → (kn p.1).testBit n = true) ∧ cutH n l ≤ l.length := by
  obtain ⟨e1, e2⟩ := cut_split h hs
  refine ⟨fun j p hj hlt => ?_, fun p hp => ?_, List.length_filter_le _ _⟩
  · have : p ∈ l.take (cutH n l) := by
      rw [List.mem_iff_getElem?]
      exact ⟨j, by rw [List.getElem?_take_of_lt hlt, hj]⟩
    rw [e1, List.mem_filter] at this
    simpa using this.2
  · have : p ∈ l.drop (cutH n l) := by
      rw [List.mem_iff_getElem?]
      exact ⟨0, by rw [List.getElem?_drop, Nat.add_zero, hp]⟩
    rw [e2, List.mem_filter] at this
    simpa using this.2
end Go.Proofs.Ytfmgoehnbaiamaa
-- Walks: append of pairs; parts of a list of pairs.
namespace Go.Proofs.Ytfmgoehnbaiamaa
theorem one_cellsP (l : List PE) : ∀ v ∈ cellsP l, v.oneCell' = true := fun v hv => by
  unfold cellsP at hv
  obtain ⟨x, _, hx⟩ := List.mem_flatMap.1 hv
  exact one_encP x v hx
theorem pairs_own {W0 w : World} {base : Nat} {v : Value} {cs : List (PE × List UInt8)} {P : List Keys.Pr} (ho : w.ownsRow base 36 33 v cs.length (cellsP (cs.map Prod.fst))) (hE : ∀ c ∈ cs, BytesAt W0 (peV c.1) c.2) (hb : Below W0.heap.size W0 w) (hP : cs.map (fun c => (c.1.1, c.2)) = P) : PairsAt w v P := by
  have hl : P.length = cs.length := by rw [← hP, List.length_map]
  by_cases h0 : P = []
  · have hc : cs = [] := List.length_eq_zero_iff.1 (by rw [← hl, h0]; rfl)
    subst h0
    subst hc
    rcases ho.2 with ⟨rfl, _⟩ | ⟨g, cap, cur, rfl, _, _, hnc, hcm, _⟩
    · exact ⟨none, 0, [], rfl, Nat.le_refl _, by decide, rfl, (fun c hc => by cases hc), .inl rfl⟩
    · exact ⟨_, cap, [], rfl, hnc, hcm, rfl, (fun c hc => by cases hc), .inl rfl⟩
  · obtain ⟨g, cap, rfl, h1, h2, _, hr⟩ := own_range ho (by rw [← hl]; exact List.length_pos_iff.2 h0)
    exact ⟨_, cap, cs, by rw [hl], by rw [hl]; exact h1, h2, hP, fun c hc => bytes_below (hE c hc) hb (Nat.le_refl _), .inr ⟨g, 0, rfl, hr⟩⟩
theorem PairsAt.drop {w : World} {b o cap i : Nat} {P : List Keys.Pr} (h : PairsAt w (.slice (some ⟨b, o, none⟩) P.length cap) P) (hi : i ≤ P.length) : PairsAt w (.slice (some ⟨b, o + i * 33, none⟩) (P.length - i) (cap - i)) (P.drop i) := by
  obtain ⟨a, cap', cs, he, h1, h2, h3, h4, h5⟩ := h
  simp only [Value.slice.injEq, true_and] at he
  obtain ⟨rfl, rfl⟩ := he
  have hl : cs.length = P.length := by rw [← h3, List.length_map]
  refine ⟨_, cap - i, cs.drop i, by rw [List.length_drop], by rw [List.length_drop]; omega, by omega, by rw [List.map_drop, h3], fun c hc => h4 c (List.mem_of_mem_drop hc), ?_⟩
  by_cases h0 : P.drop i = []
  · exact .inl h0
  · right
    have hP : P ≠ [] := by intro e; rw [e] at h0; simp at h0
    obtain ⟨b', o', he, hr⟩ := h5.resolve_left hP
    simp only [Option.some.injEq, Addr.mk.injEq, and_true] at he
    obtain ⟨rfl, rfl⟩ := he
    refine ⟨_, _, rfl, ?_⟩
    have e : cellsP (cs.map Prod.fst) = cellsP ((cs.take i).map Prod.fst) ++ cellsP ((cs.drop i).map Prod.fst) := by
      rw [← cellsP_append, ← List.map_append, List.take_append_drop]
    rw [e] at hr
    have := (range_append.1 hr).2
    rw [length_cellsP, List.length_map, List.length_take, Nat.min_eq_left (by omega), Nat.mul_comm] at this
    exact this
theorem PairsAt.take {w : World} {a : Option Addr} {cap i : Nat} {P : List Keys.Pr} (h : PairsAt w (.slice a P.length cap) P) (hi : i ≤ P.length) : PairsAt w (.slice a i cap) (P.take i) := by
  obtain ⟨a', cap', cs, he, h1, h2, h3, h4, h5⟩ := h
  simp only [Value.slice.injEq, true_and] at he
  obtain ⟨rfl, rfl⟩ := he
  have hl : cs.length = P.length := by rw [← h3, List.length_map]
  have hi2 : (P.take i).length = i := by rw [List.length_take, Nat.min_eq_left hi]
  refine ⟨_, cap, cs.take i, by rw [hi2], by omega, by omega, by rw [List.map_take, h3], fun c hc => h4 c (List.mem_of_mem_take hc), ?_⟩
  by_cases h0 : P.take i = []
  · exact .inl h0
  · right
    have hP : P ≠ [] := by intro e; rw [e] at h0; simp at h0
    obtain ⟨b', o', rfl, hr⟩ := h5.resolve_left hP
    refine ⟨_, _, rfl, ?_⟩
    have e : cellsP (cs.map Prod.fst) = cellsP ((cs.take i).map Prod.fst) ++ cellsP ((cs.drop i).map Prod.fst) := by
      rw [← cellsP_append, ← List.map_append, List.take_append_drop]
    rw [e] at hr
    exact (range_append.1 hr).1
theorem run_app_pairs_none {w : World} {ty : TypeId} {base : Nat} {v : Value} {n : Nat} {xs : List Value} (hown : w.ownsRow base 36 33 v n xs) (ad : Option Addr) (c : Nat) : (Builtin.append_ #[22, 22] ty #[v, .slice ad 0 c]).run Try.prog w = .ok v w := by
  obtain ⟨i, z, hi, hz, h1, h2, h3⟩ := info_pair
  rcases hown.2 with ⟨rfl, rfl⟩ | ⟨g, cap, cur, rfl, _, _, hnc, _⟩
  · cases ad <;> simp [Builtin.append_, run_underlying Try.underlying22, sizeOf, typeInfo, hi, Builtin.lenOf, Builtin.firstCells, loadCells, loadCellsFrom]
  · cases ad <;> simp [Builtin.append_, run_underlying Try.underlying22, sizeOf, typeInfo, hi, Builtin.lenOf, Builtin.firstCells, loadCells, loadCellsFrom, hnc, storeCells]
theorem wp_app_pairs {W0 w : World} {o : Oper} {a : Act} {K : Act → World → Prop} {Q : Exit → Act → World → Prop} (s x : Operand)
    (ho : o.op = .call { callee := .builtin .append, args := #[s, x], argTypes := #[22, 22] })
    (hW0 : Below W0.heap.size W0 w) (v vx : Value) (cs : List (PE × List UInt8)) (xs : List Keys.Pr) (hs : a.eval s = v) (hown : w.ownsRow W0.heap.size 36 33 v cs.length (cellsP (cs.map Prod.fst))) (hE : ∀ c ∈ cs, BytesAt W0 (peV c.1) c.2)
    (hx : a.eval x = vx) (hl : PairsAt W0 vx xs) (hlen : cs.length + xs.length < 1000000)
    (h : ∀ (a' : Option Addr) (c' : Nat) (w' : World) (cs' : List (PE × List UInt8)), w'.ownsRow W0.heap.size 36 33 (.slice a' cs'.length c') cs'.length (cellsP (cs'.map Prod.fst)) → (∀ c ∈ cs', BytesAt W0 (peV c.1) c.2) → cs'.map (fun c => (c.1.1, c.2)) = cs.map (fun c => (c.1.1, c.2)) ++ xs → Below W0.heap.size W0 w' → K (a.put o.dst (.slice a' cs'.length c')) w') : o.wp Try.prog a w K Q := by
  obtain ⟨i, z, hi, hz, h1, h2, h3⟩ := info_pair
  by_cases h0 : xs = []
  · subst h0
    obtain ⟨ax, cx, cs0, rfl, _⟩ := hl
    have hform : ∃ a' c', v = .slice a' cs.length c' := by
      rcases hown.2 with ⟨rfl, e0⟩ | ⟨g, cap, cur, rfl, _⟩
      · exact ⟨none, 0, by rw [e0]⟩
      · exact ⟨_, _, rfl⟩
    obtain ⟨a', c', rfl⟩ := hform
    have hrun := run_app_pairs_none (ty := o.type) hown ax cx
    unfold Oper.wp
    simp [execOp, ho, resolve, invoke, builtin, hs, hx, hrun, Result.andThen]
    exact h a' c' w cs hown hE (by simp) hW0
  · obtain ⟨ax, cap, ds, rfl, g1, g2, g3, g4, g5⟩ := hl
    obtain ⟨b, off, rfl, hr⟩ := g5.resolve_left h0
    have hr' : w.rangeAt b off (cellsP (ds.map Prod.fst)) := (Keeps.of_below (X := fun _ => False) hW0).range hr (fun h => h)
    have hdl : ds.length = xs.length := by rw [← g3, List.length_map]
    refine wp_append_own w s x _ ho W0.heap.size _ i z 33 56 Try.underlying22 hi hz h1 h2 h3 (by omega) v cs.length _ hs hown ⟨b, off, none⟩ xs.length cap (cellsP (ds.map Prod.fst)) hx (by rw [length_cellsP, List.length_map, hdl, Nat.mul_comm]) (fun j u hj => by rw [Addr.add_mid]; exact hr' j u hj) (one_cellsP _) (by unfold maxLen; omega) (by omega) hW0.size ?_
    intro v' w' ho' hg _
    have e1 : cellsP (cs.map Prod.fst) ++ cellsP (ds.map Prod.fst) = cellsP ((cs ++ ds).map Prod.fst) := by rw [List.map_append, cellsP_append]
    have e2 : cs.length + xs.length = (cs ++ ds).length := by rw [List.length_append, hdl]
    rw [e1, e2] at ho'
    have hform : ∃ a' c', v' = .slice a' (cs ++ ds).length c' := by
      rcases ho'.2 with ⟨rfl, e0⟩ | ⟨g, cap, cur, rfl, _⟩
      · exact ⟨none, 0, by rw [e0]⟩
      · exact ⟨_, _, rfl⟩
    obtain ⟨a', c', rfl⟩ := hform
    refine h a' c' w' (cs ++ ds) ho' (fun c hc => ?_) (by rw [List.map_append, g3]) ?_
    · rcases List.mem_append.1 hc with hc | hc
      · exact hE c hc
      · exact g4 c hc
    · exact ((Keeps.of_below (X := fun k => W0.heap.size ≤ k) hW0).trans (Keeps.of_grown (X := fun k => W0.heap.size ≤ k) hg (fun k hk => own_base hown k hk))).below (Nat.le_refl _) (fun k h => h)
theorem wpList_app_pairs {W0 w : World} {ops : Array Oper} {rest : List Oper} {o : Oper} {a : Act} {Q : Exit → Act → World → Prop} (hgd : o.guard = none) (s x : Operand)
    (ho : o.op = .call { callee := .builtin .append, args := #[s, x], argTypes := #[22, 22] })
    (hW0 : Below W0.heap.size W0 w) (v vx : Value) (cs : List (PE × List UInt8)) (xs : List Keys.Pr) (hs : a.eval s = v) (hown : w.ownsRow W0.heap.size 36 33 v cs.length (cellsP (cs.map Prod.fst))) (hE : ∀ c ∈ cs, BytesAt W0 (peV c.1) c.2)
    (hx : a.eval x = vx) (hl : PairsAt W0 vx xs) (hlen : cs.length + xs.length < 1000000)
    (h : ∀ (a' : Option Addr) (c' : Nat) (w' : World) (cs' : List (PE × List UInt8)), w'.ownsRow W0.heap.size 36 33 (.slice a' cs'.length c') cs'.length (cellsP (cs'.map Prod.fst)) → (∀ c ∈ cs', BytesAt W0 (peV c.1) c.2) → cs'.map (fun c => (c.1.1, c.2)) = cs.map (fun c => (c.1.1, c.2)) ++ xs → Below W0.heap.size W0 w' → wpList Try.prog ops Q rest (a.put o.dst (.slice a' cs'.length c')) w') : wpList Try.prog ops Q (o :: rest) a w :=
  wpList_plain hgd fun _ hK => wp_app_pairs s x ho hW0 v vx cs xs hs hown hE hx hl hlen fun a' c' w' cs' h1 h2 h3 h4 => hK _ _ (h a' c' w' cs' h1 h2 h3 h4)
theorem pairs_nil (w : World) (base : Nat) : w.ownsRow base 36 33 (.slice none 0 0) ([] : List (PE × List UInt8)).length (cellsP (([] : List (PE × List UInt8)).map Prod.fst)) := World.ownsRow_nil w base 36 33
end Go.Proofs.Ytfmgoehnbaiamaa
-- Walk: almonerlaw15.MapsGet.
namespace Go.Proofs.Ytfmgoehnbaiamaa
theorem less_before : ∀ x y : List UInt8, Op.bytesLess x y = Go.bytesBefore x y
  | [], [] => rfl
  | _ :: _, [] => rfl
  | [], _ :: _ => rfl
  | a :: x, b :: y => by rw [Op.bytesLess, Go.bytesBefore, less_before x y]
/-- A key's bytes, as a string. -/
def skey (k : Sum) : ByteArray := ⟨k.toList.toArray⟩
theorem size_skey (k : Sum) : (skey k).size = 32 := by show k.toList.toArray.size = 32; simp
theorem key_string {w : World} {b o : Nat} {k : Sum} (h : w.rangeAt b o (cellsOf k)) : (convert 34 9 (.slice (some ⟨b, o, none⟩) 32 32)).run Try.prog w = .ok (.string (skey k)) w := by
  have h2 := Lib.run_convert_whole (P := Try.prog) w 34 5 9 Try.underlying34 Try.underlying5 Try.underlying9 b o (skey k) (fun i hi => by
    have hi' : i < 32 := by rw [size_skey] at hi; exact hi
    have := h i _ (cell_key k hi')
    rw [this]
    congr 2
    show k.toList.getD i 0 = (k.toList.toArray)[i]'_
    simp [List.getD_eq_getElem?_getD, hi']
    rfl) 32
  rw [size_skey] at h2
  exact h2
theorem geq_keys {a b : Sum} (h : Keys.kn a < Keys.kn b) (w : World) : (binOp .geq 9 (.string (skey a)) (.string (skey b))).run Try.prog w = .ok (.bool false) w := by
  have e : ∀ k : Sum, (skey k).toList = k.toList := fun k => by rw [Lib.toList_data]; show k.toList.toArray.toList = _; simp
  have hb : Op.bytesLess (skey a).toList (skey b).toList = true := by
    rw [e, e, less_before, Keys.before_kn]; simpa using h
  simp [binOp, Op.stringOp, hb]
theorem same_self (a : List UInt8) (va vb : Value) (w : World) (ha : BytesAt w va a) (hb : BytesAt w vb a) : Calls Try.prog 28 #[va, vb] w fun e w' => e = .returned (.bool true) ∧ Below w.heap.size w w' :=
  (same_bytes a a va vb w ha hb).mono fun e w' ⟨h1, h2⟩ => ⟨by rw [h1, decide_eq_true rfl], h2⟩
/-- What MapsGet has in hand. -/
structure GW (w W : World) (z2 : Nat) (k : Sum) (v : Value) (P : List Keys.Pr) (p b n : Nat) (l : List Ent) : Prop where
  bw : Below w.heap.size w W
  key : W.rangeAt z2 0 (cellsOf k)
  prs : PairsAt W v P
  map : MapIn W p b n l
theorem GW.below {w W W' : World} {z2 : Nat} {k : Sum} {v : Value} {P : List Keys.Pr} {p b n : Nat} {l : List Ent} (h : GW w W z2 k v P p b n l) (hb : Below W.heap.size W W') : GW w W' z2 k v P p b n l :=
  ⟨h.bw.trans (hb.mono h.bw.size), (Keeps.of_below (X := fun _ => False) hb).range h.key (fun h => h), h.prs.below hb, h.map.below hb⟩
theorem vals_full {W : World} {p b n : Nat} {l : List Ent} (h : MapIn W p b n l) : Full (prs l) := fun q hq => by
  obtain ⟨e, he, rfl⟩ := List.mem_map.1 hq
  exact ⟨(h.vals e he).2.1, (h.vals e he).2.2⟩
set_option maxRecDepth 100000 in
set_option maxHeartbeats 2000000 in
theorem mapsGet_any (P : List Keys.Pr) (v : Value) (k : Sum) (w : World) (hv : PairsAt w v P) : Calls Try.prog 4 #[v, sv k] w fun e w' => e = .returned (.bool true) ∧ Below w.heap.size w w' := by
  obtain ⟨z2, hz2⟩ : ∃ z, z = w.heap.size := ⟨_, rfl⟩
  have hb0 := al (Below.refl _ w) (.cells (cellsOf k).toArray 29)
  have hr0 : (w.alloc (.cells (cellsOf k).toArray 29)).rangeAt z2 0 (cellsOf k) := by rw [hz2]; exact range_new w (cellsOf k).toArray 29 _ rfl
  have hv0 := hv.below hb0
  have H0 := Lib.hid (And.intro hb0 (And.intro hr0 hv0))
  obtain ⟨a, cap, rfl, h1, h2⟩ := pairs_form hv
  obtain ⟨N, hN⟩ : ∃ N, N = P.length := ⟨_, rfl⟩
  rw [← hN] at H0 h1 ⊢
  have HN := Lib.hid (And.intro hN trivial)
  have HZ2 := Lib.hid hz2
  clear hN hb0 hr0 hv0 h2 hv
  have k1 : (N : Int) ≤ (cap : Int) := by omega
  go_enter Try.func4, Try.ntmps4
  go_wp2_with fail
  rw [← hz2]
  clear hz2
  generalize w.alloc (.cells (cellsOf k).toArray 29) = w1 at *
  refine (great15_any P _ w1 H0.out.2.2).mono ?_
  rintro e w2 ⟨r, rfl, hg, hb⟩
  have H2 := Lib.hid (And.intro (H0.out.1.trans (hb.mono H0.out.1.size)) (And.intro (show w2.rangeAt z2 0 (cellsOf k) from (Keeps.of_below (X := fun _ => False) hb).range H0.out.2.1 (fun h => h)) (H0.out.2.2.below hb)))
  have HG := Lib.hid hg
  clear hb H0 hg
  cases r with
  | true =>
    go_wp2_with fail
    refine (alive15_any w2).mono ?_
    rintro e w4 ⟨rfl, hb⟩
    have HB := Lib.hid (H2.out.1.trans (hb.mono H2.out.1.size))
    clear hb H2
    go_wp2_with fail
    exact bodyPost_ret (results_tmp rfl _ _ _) rfl ⟨rfl, HB.out⟩
  | false =>
    have hn24 : P.length ≤ 24 := HG.out rfl
    have H24 := Lib.hid (show N ≤ 24 by rw [HN.out.1]; exact hn24)
    clear HG hn24
    have HO := Lib.hid (mof_any P _ w2 H2.out.2.2 (by have := H24.out; rw [HN.out.1] at this; omega))
    go_wp2_with fail
    refine HO.out.mono ?_
    rintro e w3 ⟨p, b, l, rfl, hm, hp, g1, g2, g3, hb⟩
    have H3 := Lib.hid (show GW w w3 z2 k (.slice a N cap) P p b P.length l from ⟨H2.out.1.trans (hb.mono H2.out.1.size), (Keeps.of_below (X := fun _ => False) hb).range H2.out.2.1 (fun h => h), H2.out.2.2.below hb, hm⟩)
    have HP := Lib.hid hp
    clear hm hp g1 g2 g3 hb H2 HO
    go_wp2_with fail
    go_loopw [6, 7] (fun sv iv W => ∃ j : Nat, j ≤ N ∧ iv = .int .i64 (j : Int) ∧ BytesAt W sv (lastOf (P.take j) k []) ∧ GW w W z2 k (.slice a N cap) P p b P.length l) (fun _ iv _ => N - (intOf iv).toNat)
    case atStart => exact ⟨0, by omega, rfl, ⟨none, 0, rfl, Nat.le_refl _, by unfold maxLen; omega, .inl rfl⟩, H3.out⟩
    case round =>
      clear H3
      obtain ⟨j, hj, rfl, hW, hO⟩ := hrel
      obtain ⟨wa, wc, hwf, hw1, hw2, hw3⟩ := id hW
      obtain ⟨L, hL⟩ : ∃ L, L = (lastOf (P.take j) k []).length := ⟨_, rfl⟩
      rw [← hL] at hwf
      have HW := Lib.hid hW
      have HS := Lib.hid hO
      clear hW hO hw1 hw2 hw3 hL
      subst hwf
      by_cases hlt : j < N
      · have c1 : decide (j < N) = true := by simpa using hlt
        have c1' : decide ((j : Int) < (N : Int)) = true := by simp; omega
        have hj0 : (0 : Int) ≤ (j : Int) := by omega
        have hlt' : (j : Int) < (N : Int) := by omega
        obtain ⟨ba, oa, ca', y, xs, he1, hr1, hy1, hg1⟩ := pairs_one (HS.out.below (Below.refl _ _).drew).prs (i := j) (by rw [← HN.out.1]; exact hlt)
        simp only [Value.slice.injEq] at he1
        obtain ⟨rfl, -, rfl⟩ := he1
        have hcell : wr.drew.cell? ⟨ba, oa + j * 33 + 32, none⟩ = some (peV y) := hr1 32 (peV y) (by rw [encP, List.getElem?_append_right (by rw [length_cellsOf]; omega), length_cellsOf]; rfl)
        obtain ⟨xa, xc, hxf, hx1, hx2, hx3⟩ := id hy1
        obtain ⟨M, hM⟩ : ∃ M, M = xs.length := ⟨_, rfl⟩
        rw [← hM] at hxf
        rw [hxf] at hcell hy1
        have HC := Lib.hid (And.intro (encP_key hr1) hcell)
        have HY := Lib.hid (And.intro hy1 (And.intro hg1 hM))
        have HJ := Lib.hid (And.intro hj hlt)
        clear hr1 hy1 hg1 hcell hxf hx1 hx2 hx3 hM
        have heq := eq_sums y.1 k
        go_wp2_with fail
        refine wp_region_sched (fun W => W.rangeAt ba (oa + j * 33) (cellsOf y.1) ∧ W.rangeAt z2 0 (cellsOf k)) [.t 0, .t 1, .t 2, .t 3, .s 4, .e 5 true, .t 6, .t 7, .t 8, .t 9, .t 10, .t 11, .e 12 false, .t 13, .t 14, .t 15] (by kernel_rfl) (by kernel_rfl) (by intro c a d v w h; cases d <;> exact h) ?_
        have HS1 := Lib.hid (HS.out.below (Below.refl wr.heap.size wr).drew)
        have HW1 := Lib.hid (bytes_below HW.out (Below.refl wr.heap.size wr).drew (Nat.le_refl _))
        clear HS HW
        generalize wr.drew = V at *
        iterate 4
          refine wpS_t rfl (v := ?_) (by rfl) (fun W => ?_) ?_
          rotate_left
          · go_simp
            try rfl
          try simp only [Act.put, List.setIfInBounds_toArray, List.set_cons_zero, List.set_cons_succ]
        refine wpS_load_sum (by exact ⟨HC.out.1, HS1.out.key⟩) rfl (by rfl) _ (by rfl) ba (oa + j * 33) (by rfl) y.1 (fun V hV => hV.1) ?_
        try simp only [Act.put, List.setIfInBounds_toArray, List.set_cons_zero, List.set_cons_succ]
        refine wpS_k rfl (by rfl) (fun K hK => ?_)
        refine wp_load_sum _ (by rfl) z2 0 (by rfl) k HS1.out.key ?_
        refine hK _ _ ⟨by exact ⟨HC.out.1, HS1.out.key⟩, ?_⟩; clear hK K
        try simp only [Act.put, List.setIfInBounds_toArray, List.set_cons_zero, List.set_cons_succ]
        by_cases hk : y.1 = k
        · have hd : decide (y.1 = k) = true := by simpa using hk
          rw [hd] at heq
          have HK := Lib.hid hk
          clear hd hk
          iterate 6
            refine wpS_t rfl (v := ?_) (by rfl) (fun W => ?_) ?_
            rotate_left
            · go_simp
              try rfl
            try simp only [Act.put, List.setIfInBounds_toArray, List.set_cons_zero, List.set_cons_succ]
          refine wpS_e rfl (by rfl) (fun K hK => ?_)
          have g := HC.out.2
          go_simp
          refine hK _ _ ?_; clear hK K
          try simp only [Act.put, List.setIfInBounds_toArray, List.set_cons_zero, List.set_cons_succ]
          clear g
          by_cases hM : M ≤ 256
          · have d1 : decide (M ≤ 256) = true := by simpa using hM
            have d1' : decide ((M : Int) ≤ 256) = true := by simp; omega
            iterate 3
              refine wpS_t rfl (v := ?_) (by rfl) (fun W => ?_) ?_
              rotate_left
              · go_simp
                try rfl
              try simp only [Act.put, List.setIfInBounds_toArray, List.set_cons_zero, List.set_cons_succ]
            refine wpS_done ?_
            have g := HC.out.2
            go_wp2_with fail
            clear g
            have hwj : wrap64 ((j : Int) + 1) = ((j + 1 : Nat) : Int) := by have := H24.out; unfold wrap64; omega
            rw [hwj]
            clear hwj
            refine ⟨⟨j + 1, by omega, rfl, ?_, HS1.out⟩, by simp only [intOf]; omega⟩
            rw [lastOf_take P k [] HY.out.2.1, if_pos ⟨HK.out, by rw [← HY.out.2.2]; exact hM⟩]
            exact HY.out.1
          · have d1 : decide (M ≤ 256) = false := by simpa using hM
            have d1' : decide ((M : Int) ≤ 256) = false := by simp; omega
            iterate 3
              refine wpS_t rfl (v := ?_) (by rfl) (fun W => ?_) ?_
              rotate_left
              · go_simp
                try rfl
              try simp only [Act.put, List.setIfInBounds_toArray, List.set_cons_zero, List.set_cons_succ]
            refine wpS_done ?_
            go_wp2_with fail
            have hwj : wrap64 ((j : Int) + 1) = ((j + 1 : Nat) : Int) := by have := H24.out; unfold wrap64; omega
            rw [hwj]
            clear hwj
            refine ⟨⟨j + 1, by omega, rfl, ?_, HS1.out⟩, by simp only [intOf]; omega⟩
            rw [lastOf_take P k [] HY.out.2.1, if_neg (fun h => hM (by rw [HY.out.2.2]; exact h.2))]
            exact HW1.out
        · have hd : decide (y.1 = k) = false := by simpa using hk
          rw [hd] at heq
          have HK := Lib.hid hk
          clear hd hk
          iterate 2
            refine wpS_t rfl (v := ?_) (by rfl) (fun W => ?_) ?_
            rotate_left
            · go_simp
              try rfl
            try simp only [Act.put, List.setIfInBounds_toArray, List.set_cons_zero, List.set_cons_succ]
          iterate 4
            refine wpS_t_skip rfl (by rfl) ?_
            try simp only [Act.put, List.setIfInBounds_toArray, List.set_cons_zero, List.set_cons_succ]
          refine wpS_e_skip rfl (by rfl) ?_
          try simp only [Act.put, List.setIfInBounds_toArray, List.set_cons_zero, List.set_cons_succ]
          iterate 2
            refine wpS_t_skip rfl (by rfl) ?_
            try simp only [Act.put, List.setIfInBounds_toArray, List.set_cons_zero, List.set_cons_succ]
          iterate 1
            refine wpS_t rfl (v := ?_) (by rfl) (fun W => ?_) ?_
            rotate_left
            · go_simp
              try rfl
            try simp only [Act.put, List.setIfInBounds_toArray, List.set_cons_zero, List.set_cons_succ]
          refine wpS_done ?_
          go_wp2_with fail
          have hwj : wrap64 ((j : Int) + 1) = ((j + 1 : Nat) : Int) := by have := H24.out; unfold wrap64; omega
          rw [hwj]
          clear hwj
          refine ⟨⟨j + 1, by omega, rfl, ?_, HS1.out⟩, by simp only [intOf]; omega⟩
          rw [lastOf_take P k [] HY.out.2.1, if_neg (fun h => HK.out h.1)]
          exact HW1.out
      · have hjn : j = N := by omega
        subst hjn
        clear hlt hj
        have c1 : decide (j < j) = false := by simp
        have c1' : decide ((j : Int) < (j : Int)) = false := by simp
        rw [List.take_of_length_le (by rw [← HN.out.1]; exact Nat.le_refl _)] at HW
        go_wp2_with (refine wpList_load_sum rfl _ rfl z2 0 rfl k HS.out.key ?_)
        refine (mget_any k wr p b P.length l HS.out.map).mono ?_
        rintro e w4 ⟨v4, rfl, hN4, hb⟩
        have hget : Keys.get (prs l) k = lastOf P k [] := by rw [HP.out, get_puts P k rise_nil full_nil]; rfl
        rw [hget] at hN4
        obtain ⟨a4, c4, rfl, _, _, _⟩ := id hN4.1
        obtain ⟨W0, hW0⟩ : ∃ x, x = lastOf P k [] := ⟨_, rfl⟩
        rw [← hW0] at hN4 HW ⊢
        have H4 := Lib.hid (HS.out.below hb)
        have HV4 := Lib.hid (And.intro hN4.1 (bytes_below HW.out hb (Nat.le_refl _)))
        clear hb HS HW hN4 hget hW0
        obtain ⟨m0, hm0⟩ : ∃ m, m = W0.length := ⟨_, rfl⟩
        rw [← hm0] at HV4 ⊢
        clear hm0
        go_wp2_with fail
        refine (same_self W0 _ _ w4 HV4.out.1 HV4.out.2).mono ?_
        rintro e w5 ⟨rfl, hb⟩
        have H5 := Lib.hid (H4.out.below hb)
        clear hb H4 HV4
        go_wp2_with fail
        have hln : l.length ≤ 24 := by
          have h1 := congrArg List.length HP.out
          have h2 := length_puts P []
          have h3 := H24.out
          have h4 := HN.out.1
          simp [prs] at h1
          simp at h2
          omega
        refine (mpairs_any w5 p b P.length l H5.out.map (by omega)).mono ?_
        rintro e w6 ⟨vp, rfl, hP, hb⟩
        obtain ⟨ap, cp, rfl, hp1, hp2⟩ := pairs_form hP
        obtain ⟨L, hL⟩ : ∃ L, L = (prs l).length := ⟨_, rfl⟩
        rw [← hL] at hP hp1 ⊢
        have hL24 : L ≤ 24 := by rw [hL]; simpa [prs] using hln
        have H6 := Lib.hid (And.intro (H5.out.below hb) hP)
        have HL := Lib.hid (And.intro hL hL24)
        clear hb hP hp2 H5 hL hL24 hln
        have k2 : (L : Int) ≤ (cp : Int) := by omega
        go_wp2_with fail
        go_loopw [11, 12, 13] (fun iv _ _ W => ∃ i : Nat, i ≤ L ∧ iv = .int .i64 (i : Int) ∧ GW w W z2 k (.slice a j cap) P p b P.length l ∧ PairsAt W (.slice ap L cp) (prs l)) (fun iv _ _ _ => L - (intOf iv).toNat)
        case atStart => exact ⟨0, by omega, rfl, H6.out⟩
        case round =>
          clear H6
          obtain ⟨i, hi, rfl, hS, hP⟩ := hrel
          have HS := Lib.hid (And.intro hS hP)
          clear hS hP
          by_cases hlt : i < L
          · have d1 : decide (i < L) = true := by simpa using hlt
            have d1' : decide ((i : Int) < (L : Int)) = true := by simp; omega
            have hi0 : (0 : Int) ≤ (i : Int) := by omega
            have hlt' : (i : Int) < (L : Int) := by omega
            obtain ⟨ba, oa, ca', y, xs, he1, hr1, hy1, hg1⟩ := pairs_one HS.out.2 (i := i) (by rw [← HL.out.1]; exact hlt)
            simp only [Value.slice.injEq] at he1
            obtain ⟨rfl, -, rfl⟩ := he1
            have hmem : (y.1, xs) ∈ prs l := List.mem_iff_getElem?.2 ⟨i, hg1⟩
            have hgx : Keys.get (prs l) y.1 = xs := Keys.get_mem (prs_rise HS.out.1.map.rise) hmem
            have hxne : xs ≠ [] := (vals_full HS.out.1.map _ hmem).1
            have HI := Lib.hid (And.intro hi hlt)
            have HX := Lib.hid (And.intro hr1 (And.intro hgx hg1))
            obtain ⟨xa, xc, hxf, hx1, hx2, hx3⟩ := id hy1
            obtain ⟨M, hM⟩ : ∃ M, M = xs.length := ⟨_, rfl⟩
            have hM0 : M ≠ 0 := fun e => hxne (List.length_eq_zero_iff.1 (by rw [← hM, e]))
            rw [← hM] at hxf
            rw [hxf] at hy1
            have HXF := Lib.hid (And.intro hxf hM)
            have HY := Lib.hid hy1
            clear hr1 hy1 hg1 hmem hgx hxne hx1 hx2 hx3 hxf hi hlt hM
            have m1 : decide (M = 0) = false := by simpa using hM0
            have m1' : decide ((M : Int) = 0) = false := by simp; omega
            have m1'' : ((M : Int) == 0) = false := by rw [beq_eq_false_iff_ne]; omega
            go_wp2_with (refine wpList_load_sum rfl _ rfl ba (oa + i * 33) rfl y.1 (encP_key HX.out.1) ?_)
            refine (mget_any y.1 wr p b P.length l HS.out.1.map).mono ?_
            rintro e w7 ⟨v7, rfl, hN7, hb⟩
            rw [HX.out.2.1] at hN7
            obtain ⟨a7, c7, rfl, _, _, _⟩ := id hN7.1
            rw [← HXF.out.2] at hN7 ⊢
            have H7 := Lib.hid (And.intro (HS.out.1.below hb) (And.intro (HS.out.2.below hb) (And.intro hN7.1 (And.intro (bytes_below HY.out hb (Nat.le_refl _)) ((Keeps.of_below (X := fun _ => False) hb).range HX.out.1 (fun h => h))))))
            have HG := Lib.hid HX.out.2.2
            clear hb hN7 HX HY HS
            by_cases hi1 : i = 0
            · have z1 : decide ((0 : Int) < (i : Int)) = false := by simp; omega
              have z2' : decide (0 < i) = false := by simp; omega
              have HI1 := Lib.hid hi1
              clear hi1
              go_wp2_with fail
              have hcell : w7.drew.cell? ⟨ba, oa + i * 33 + 32, none⟩ = some (.slice xa M xc) := by
                have := H7.out.2.2.2.2 32 (peV y) (by rw [encP, List.getElem?_append_right (by rw [length_cellsOf]; omega), length_cellsOf]; rfl)
                rw [HXF.out.1] at this
                exact this
              have HC := Lib.hid hcell
              clear hcell
              refine wp_region_sched (fun W => True) [.t 0, .t 1, .t 2, .t 3, .t 4, .t 5, .t 6, .t 7, .t 8, .t 9, .t 10, .t 11, .t 12, .e 13 true, .e 14 true, .t 15, .t 16, .t 17, .t 18, .t 19, .t 20, .t 21, .t 22, .t 23, .t 24, .t 25, .t 26, .s 27, .t 28, .t 29, .t 30, .t 31, .t 32, .s 33, .t 34, .t 35, .t 36] (by kernel_rfl) (by kernel_rfl) (by intro c a d v w h; cases d <;> exact h) ?_
              have HS7 := Lib.hid (And.intro (H7.out.1.below (Below.refl _ _).drew) (And.intro (H7.out.2.1.below (Below.refl _ _).drew) (And.intro (bytes_below H7.out.2.2.1 (Below.refl _ _).drew (Nat.le_refl _)) (bytes_below H7.out.2.2.2.1 (Below.refl _ _).drew (Nat.le_refl _)))))
              clear H7
              generalize w7.drew = V at *
              iterate 13
                refine wpS_t rfl (v := ?_) (by rfl) (fun W => ?_) ?_
                rotate_left
                · go_simp
                  try rfl
                try simp only [Act.put, List.setIfInBounds_toArray, List.set_cons_zero, List.set_cons_succ]
              refine wpS_k rfl (by rfl) (fun K hK => ?_)
              have g := HC.out
              go_simp
              refine hK _ _ ⟨trivial, ?_⟩; clear hK K
              try simp only [Act.put, List.setIfInBounds_toArray, List.set_cons_zero, List.set_cons_succ]
              clear g
              refine wpS_k rfl (by rfl) (fun K hK => ?_)
              go_simp
              refine (same_self xs _ _ V HS7.out.2.2.1 HS7.out.2.2.2).mono ?_
              rintro e V1 ⟨rfl, hb⟩
              have HS8 := Lib.hid (And.intro (HS7.out.1.below hb) (HS7.out.2.1.below hb))
              clear hb HS7
              refine hK _ _ ⟨trivial, ?_⟩; clear hK K
              try simp only [Act.put, List.setIfInBounds_toArray, List.set_cons_zero, List.set_cons_succ]
              iterate 6
                refine wpS_t rfl (v := ?_) (by rfl) (fun W => ?_) ?_
                rotate_left
                · go_simp
                  try rfl
                try simp only [Act.put, List.setIfInBounds_toArray, List.set_cons_zero, List.set_cons_succ]
              iterate 6
                refine wpS_t_skip rfl (by rfl) ?_
                try simp only [Act.put, List.setIfInBounds_toArray, List.set_cons_zero, List.set_cons_succ]
              iterate 1
                refine wpS_s_skip (trivial) rfl (by rfl) ?_
                try simp only [Act.put, List.setIfInBounds_toArray, List.set_cons_zero, List.set_cons_succ]
              iterate 5
                refine wpS_t_skip rfl (by rfl) ?_
                try simp only [Act.put, List.setIfInBounds_toArray, List.set_cons_zero, List.set_cons_succ]
              iterate 1
                refine wpS_s_skip (trivial) rfl (by rfl) ?_
                try simp only [Act.put, List.setIfInBounds_toArray, List.set_cons_zero, List.set_cons_succ]
              iterate 1
                refine wpS_t_skip rfl (by rfl) ?_
                try simp only [Act.put, List.setIfInBounds_toArray, List.set_cons_zero, List.set_cons_succ]
              iterate 2
                refine wpS_t rfl (v := ?_) (by rfl) (fun W => ?_) ?_
                rotate_left
                · go_simp
                  try rfl
                try simp only [Act.put, List.setIfInBounds_toArray, List.set_cons_zero, List.set_cons_succ]
              refine wpS_done ?_
              have hwi : wrap64 ((i : Int) + 1) = ((i + 1 : Nat) : Int) := by have := HL.out.2; have := HI.out; unfold wrap64; omega
              go_wp2_with fail
              rw [hwi]
              clear hwi
              refine ⟨⟨i + 1, by have := HI.out; omega, rfl, HS8.out⟩, ?_⟩
              simp only [intOf]
              have := HI.out
              omega
            · obtain ⟨J, hJ⟩ : ∃ J, J = i - 1 := ⟨_, rfl⟩
              have z1 : decide ((0 : Int) < (i : Int)) = true := by simp; omega
              have z2' : decide (0 < i) = true := by simp; omega
              have hw : IntKind.i64.wrap ((i : Int) - 1) = (J : Int) := by rw [IntKind.wrap_i64]; have := HL.out.2; have := HI.out; omega
              have hJ0 : (0 : Int) ≤ (J : Int) := by omega
              have hJL : (J : Int) < (L : Int) := by omega
              have hJi : J + 1 = i := by omega
              obtain ⟨bq, oq, cq, yq, xq, heq, hrq, hyq, hgq⟩ := pairs_one H7.out.2.1 (i := J) (by rw [← HL.out.1]; omega)
              simp only [Value.slice.injEq, Option.some.injEq, Addr.mk.injEq, and_true] at heq
              obtain ⟨⟨rfl, rfl⟩, -, rfl⟩ := heq
              have hless : Keys.kn yq.1 < Keys.kn y.1 := by
                have hri := prs_rise H7.out.1.map.rise
                have h1 := (List.getElem?_eq_some_iff.1 hgq)
                have h2 := (List.getElem?_eq_some_iff.1 HG.out)
                obtain ⟨g1, g1'⟩ := h1
                obtain ⟨g2, g2'⟩ := h2
                have := (List.pairwise_iff_getElem.1 hri) J i g1 g2 (by omega)
                rw [g1', g2'] at this
                exact this
              have hgeq := geq_keys hless
              have HI1 := Lib.hid (And.intro hi1 hJi)
              have HQ := Lib.hid (And.intro (encP_key hrq) (encP_key H7.out.2.2.2.2))
              clear hi1 hJ hJi hrq hyq hgq hless
              obtain ⟨s1, hs1⟩ : ∃ s, s = skey yq.1 := ⟨_, rfl⟩
              obtain ⟨s2, hs2⟩ : ∃ s, s = skey y.1 := ⟨_, rfl⟩
              rw [← hs1, ← hs2] at hgeq
              have HSK := Lib.hid (And.intro hs1 hs2)
              clear hs1 hs2
              go_wp2_with fail
              have hcell : w7.drew.cell? ⟨ba, oa + i * 33 + 32, none⟩ = some (.slice xa M xc) := by
                have := H7.out.2.2.2.2 32 (peV y) (by rw [encP, List.getElem?_append_right (by rw [length_cellsOf]; omega), length_cellsOf]; rfl)
                rw [HXF.out.1] at this
                exact this
              have HC := Lib.hid hcell
              have HQD := Lib.hid (show w7.drew.rangeAt ba (oa + J * 33) (cellsOf yq.1) ∧ w7.drew.rangeAt ba (oa + i * 33) (cellsOf y.1) from HQ.out)
              clear hcell HQ
              refine wp_region_sched (fun W => W.rangeAt ba (oa + J * 33) (cellsOf yq.1) ∧ W.rangeAt ba (oa + i * 33) (cellsOf y.1)) [.t 0, .t 1, .t 2, .t 3, .t 4, .t 5, .t 6, .t 7, .t 8, .t 9, .t 10, .t 11, .t 12, .e 13 true, .e 14 true, .t 15, .t 16, .t 17, .t 18, .t 19, .t 20, .t 21, .t 22, .t 23, .t 24, .t 25, .t 26, .s 27, .t 28, .t 29, .t 30, .t 31, .t 32, .s 33, .t 34, .t 35, .t 36] (by kernel_rfl) (by kernel_rfl) (by intro c a d v w h; cases d <;> exact h) ?_
              have HS7 := Lib.hid (And.intro (H7.out.1.below (Below.refl _ _).drew) (And.intro (H7.out.2.1.below (Below.refl _ _).drew) (And.intro (bytes_below H7.out.2.2.1 (Below.refl _ _).drew (Nat.le_refl _)) (bytes_below H7.out.2.2.2.1 (Below.refl _ _).drew (Nat.le_refl _)))))
              clear H7
              generalize w7.drew = V at *
              iterate 13
                refine wpS_t rfl (v := ?_) (by rfl) (fun W => ?_) ?_
                rotate_left
                · go_simp
                  try rfl
                try simp only [Act.put, List.setIfInBounds_toArray, List.set_cons_zero, List.set_cons_succ]
              refine wpS_k rfl (by rfl) (fun K hK => ?_)
              have g := HC.out
              go_simp
              refine hK _ _ ⟨by exact HQD.out, ?_⟩; clear hK K
              try simp only [Act.put, List.setIfInBounds_toArray, List.set_cons_zero, List.set_cons_succ]
              clear g
              refine wpS_k rfl (by rfl) (fun K hK => ?_)
              go_simp
              refine (same_self xs _ _ V HS7.out.2.2.1 HS7.out.2.2.2).mono ?_
              rintro e V1 ⟨rfl, hb⟩
              have HS8 := Lib.hid (And.intro (HS7.out.1.below hb) (HS7.out.2.1.below hb))
              have HQ2 := Lib.hid (And.intro ((Keeps.of_below (X := fun _ => False) hb).range HQD.out.1 (fun h => h)) ((Keeps.of_below (X := fun _ => False) hb).range HQD.out.2 (fun h => h)))
              clear hb HS7
              refine hK _ _ ⟨by exact HQ2.out, ?_⟩; clear hK K
              try simp only [Act.put, List.setIfInBounds_toArray, List.set_cons_zero, List.set_cons_succ]
              iterate 12
                refine wpS_t rfl (v := ?_) (by rfl) (fun W => ?_) ?_
                rotate_left
                · go_simp
                  try rfl
                try simp only [Act.put, List.setIfInBounds_toArray, List.set_cons_zero, List.set_cons_succ]
              refine wpS_s (by exact HQ2.out) rfl (v := .string s1) (by rfl) (fun W hW => ?_) ?_
              · have hk := key_string hW.1
                rw [← HSK.out.1] at hk
                go_simp
              try simp only [Act.put, List.setIfInBounds_toArray, List.set_cons_zero, List.set_cons_succ]
              iterate 5
                refine wpS_t rfl (v := ?_) (by rfl) (fun W => ?_) ?_
                rotate_left
                · go_simp
                  try rfl
                try simp only [Act.put, List.setIfInBounds_toArray, List.set_cons_zero, List.set_cons_succ]
              refine wpS_s (by exact HQ2.out) rfl (v := .string s2) (by rfl) (fun W hW => ?_) ?_
              · have hk := key_string hW.2
                rw [← HSK.out.2] at hk
                go_simp
              try simp only [Act.put, List.setIfInBounds_toArray, List.set_cons_zero, List.set_cons_succ]
              iterate 3
                refine wpS_t rfl (v := ?_) (by rfl) (fun W => ?_) ?_
                rotate_left
                · go_simp
                  try rfl
                try simp only [Act.put, List.setIfInBounds_toArray, List.set_cons_zero, List.set_cons_succ]
              refine wpS_done ?_
              have hwi : wrap64 ((i : Int) + 1) = ((i + 1 : Nat) : Int) := by have := HL.out.2; have := HI.out; unfold wrap64; omega
              clear hw
              go_wp2_with fail
              rw [hwi]
              clear hwi
              refine ⟨⟨i + 1, by have := HI.out; omega, rfl, HS8.out⟩, ?_⟩
              simp only [intOf]
              have := HI.out
              omega
          · have hiL : i = L := by omega
            subst hiL
            clear hlt hi
            have d1 : decide (i < i) = false := by simp
            have d1' : decide ((i : Int) < (i : Int)) = false := by simp
            go_wp2_with fail
            refine (alive15_any wr).mono ?_
            rintro e w8 ⟨rfl, hb⟩
            have HB := Lib.hid (HS.out.1.bw.trans (hb.mono HS.out.1.bw.size))
            clear hb
            go_wp2_with fail
            exact bodyPost_ret (results_tmp rfl _ _ _) rfl ⟨rfl, HB.out⟩
end Go.Proofs.Ytfmgoehnbaiamaa
