/-
  Plain law: what stands at a key behind puts; pairs are what stands at keys.
-/
import Derived.Test.YtfmgoehnbaiamaaU13
open Go Go.RowKit Alm
namespace Go.Proofs.Ytfmgoehnbaiamaa
open Keys (Rise Pr kn putB put del)
theorem get_of_mem {l : List Pr} (h : Rise l) {k : Sum} {v : List UInt8} (hm : (k, v) ∈ l) : Keys.get l k = v := Keys.get_mem h hm
theorem get_ne {l : List Pr} {k : Sum} (h : Keys.get l k ≠ []) : (k, Keys.get l k) ∈ l := by
  unfold Keys.get at h ⊢
  cases hf : l.find? (fun p => decide (p.1 = k)) with
  | none => rw [hf] at h; exact absurd rfl h
  | some p =>
    have h1 := List.mem_of_find?_eq_some hf
    have h2 := List.find?_some hf
    simp only [decide_eq_true_eq] at h2
    subst h2
    exact h1
/-- No pair is without bytes, none has more than 256. -/
def Full (l : List Pr) : Prop := ∀ p ∈ l, p.2 ≠ [] ∧ p.2.length ≤ 256
theorem full_putB {l : List Pr} (hr : Rise l) (h : Full l) (k : Sum) (v : List UInt8) : Full (putB l k v) := by
  unfold putB
  split
  · exact h
  · split
    · exact fun p hp => h p (Keys.mem_del.1 hp).1
    · intro p hp
      rcases (Keys.mem_put hr).1 hp with rfl | ⟨hp, _⟩
      · exact ⟨by assumption, by show v.length ≤ 256; omega⟩
      · exact h p hp
theorem puts_ok (P : List Pr) : ∀ {x}, Rise x → Full x → Rise (puts x P) ∧ Full (puts x P) := by
  induction P with
  | nil => intro x h1 h2; exact ⟨h1, h2⟩
  | cons q P ih =>
    intro x h1 h2
    exact ih (Keys.rise_putB h1 _ _) (full_putB h1 h2 _ _)
theorem get_putB {l : List Pr} (hr : Rise l) (hf : Full l) (k : Sum) (v : List UInt8) (j : Sum) : Keys.get (putB l k v) j = if k = j ∧ v.length ≤ 256 then v else Keys.get l j := by
  have hr2 : Rise (putB l k v) := Keys.rise_putB hr k v
  unfold putB at hr2 ⊢
  by_cases h1 : v.length > 256
  · rw [if_pos h1, if_neg (by omega)]
  · rw [if_neg h1] at hr2 ⊢
    by_cases h2 : v = []
    · rw [if_pos h2] at hr2 ⊢
      by_cases hk : k = j
      · rw [if_pos ⟨hk, by omega⟩, h2]
        exact Keys.get_none fun p hp => by rw [← hk]; exact (Keys.mem_del.1 hp).2
      · rw [if_neg (fun h => hk h.1)]
        by_cases hg : Keys.get l j = []
        · rw [hg]
          refine Keys.get_none fun p hp e => ?_
          have hp2 := (Keys.mem_del.1 hp).1
          have := Keys.get_mem hr hp2
          rw [e, hg] at this
          exact (hf p hp2).1 this.symm
        · have := get_ne hg
          exact get_of_mem hr2 (Keys.mem_del.2 ⟨this, fun e => hk e.symm⟩)
    · rw [if_neg h2] at hr2 ⊢
      by_cases hk : k = j
      · rw [if_pos ⟨hk, by omega⟩]
        subst hk
        exact get_of_mem hr2 ((Keys.mem_put hr).2 (.inl rfl))
      · rw [if_neg (fun h => hk h.1)]
        by_cases hg : Keys.get l j = []
        · rw [hg]
          refine Keys.get_none fun p hp e => ?_
          rcases (Keys.mem_put hr).1 hp with rfl | ⟨hp2, _⟩
          · exact hk e
          · have := Keys.get_mem hr hp2
            rw [e, hg] at this
            exact (hf p hp2).1 this.symm
        · have := get_ne hg
          exact get_of_mem hr2 ((Keys.mem_put hr).2 (.inr ⟨this, fun e => hk e.symm⟩))
/-- Pairs are what stands at keys. -/
theorem ext_get {a b : List Pr} (ha : Rise a) (hb : Rise b) (fa : Full a) (fb : Full b) (h : ∀ k, Keys.get a k = Keys.get b k) : a = b := by
  refine Keys.rise_ext ha hb fun p => ⟨fun hp => ?_, fun hp => ?_⟩
  · have h1 := Keys.get_mem ha hp
    have h2 : Keys.get b p.1 ≠ [] := by rw [← h, h1]; exact (fa p hp).1
    have h3 := get_ne h2
    rw [← h, h1] at h3
    exact h3
  · have h1 := Keys.get_mem hb hp
    have h2 : Keys.get a p.1 ≠ [] := by rw [h, h1]; exact (fb p hp).1
    have h3 := get_ne h2
    rw [h, h1] at h3
    exact h3
theorem rise_nil : Rise ([] : List Pr) := List.Pairwise.nil
theorem full_nil : Full [] := fun p hp => by cases hp
theorem get_nil (k : Sum) : Keys.get [] k = [] := rfl
/-- What was put at a key last. -/
def lastOf (P : List Pr) (k : Sum) (w : List UInt8) : List UInt8 := P.foldl (fun w q => if q.1 = k ∧ q.2.length ≤ 256 then q.2 else w) w
theorem get_puts (P : List Pr) (k : Sum) : ∀ {x}, Rise x → Full x → Keys.get (puts x P) k = lastOf P k (Keys.get x k) := by
  induction P with
  | nil => intro x _ _; rfl
  | cons q P ih =>
    intro x h1 h2
    show Keys.get (puts (putB x q.1 q.2) P) k = _
    rw [ih (Keys.rise_putB h1 _ _) (full_putB h1 h2 _ _), get_putB h1 h2]
    rfl
theorem lastOf_take (P : List Pr) (k : Sum) (w : List UInt8) {i : Nat} {j : Sum} {bs : List UInt8} (h : P[i]? = some (j, bs)) : lastOf (P.take (i + 1)) k w = if j = k ∧ bs.length ≤ 256 then bs else lastOf (P.take i) k w := by
  have hi := (List.getElem?_eq_some_iff.1 h).1
  have e := (List.getElem?_eq_some_iff.1 h).2
  unfold lastOf
  rw [List.take_succ_eq_append_getElem hi, List.foldl_append, e]
  rfl
theorem puts_append (x A B : List Pr) : puts x (A ++ B) = puts (puts x A) B := by unfold puts; rw [List.foldl_append]
theorem get_rise (P : List Pr) (k : Sum) : ∀ {x}, Rise x → Full x → (Keys.get x k).length ≤ 256 := fun {x} _ h2 => by
  by_cases hg : Keys.get x k = []
  · rw [hg]; exact Nat.zero_le _
  · exact (h2 _ (get_ne hg)).2
/-- Pairs of unlike keys, put in any order, are these. -/
theorem lastOf_perm {P : List Pr} (hf : Full P) (hn : P.Pairwise fun p q => p.1 ≠ q.1) (k : Sum) : ∀ w, (∀ p ∈ P, p.1 = k → lastOf P k w = p.2) ∧ ((∀ p ∈ P, p.1 ≠ k) → lastOf P k w = w) := by
  induction P with
  | nil => intro w; exact ⟨fun p hp => (List.not_mem_nil hp).elim, fun _ => rfl⟩
  | cons q P ih =>
    intro w
    obtain ⟨n1, n2⟩ := List.pairwise_cons.1 hn
    have hf2 : Full P := fun p hp => hf p (List.mem_cons_of_mem _ hp)
    have ih2 := ih hf2 n2
    constructor
    · intro p hp hk
      show lastOf P k (if q.1 = k ∧ q.2.length ≤ 256 then q.2 else w) = p.2
      rcases List.mem_cons.1 hp with rfl | hp2
      · rw [if_pos ⟨hk, (hf p List.mem_cons_self).2⟩]
        exact (ih2 _).2 fun r hr e => n1 r hr (by rw [hk, e])
      · exact (ih2 _).1 p hp2 hk
    · intro h
      show lastOf P k (if q.1 = k ∧ q.2.length ≤ 256 then q.2 else w) = w
      rw [if_neg (fun e => h q List.mem_cons_self e.1)]
      exact (ih2 _).2 fun p hp => h p (List.mem_cons_of_mem _ hp)
theorem puts_same {P Q : List Pr} (hP : Rise P) (hf : Full P) (hq : Q.Perm P) : puts [] Q = P := by
  have hfq : Full Q := fun p hp => hf p (hq.mem_iff.1 hp)
  have hnp : P.Pairwise fun p q => p.1 ≠ q.1 := hP.imp fun {a b} h e => by rw [e] at h; exact Nat.lt_irrefl _ h
  have hnq : Q.Pairwise fun p q => p.1 ≠ q.1 := (hq.pairwise_iff (fun {a b} h => h.symm)).2 hnp
  obtain ⟨r1, r2⟩ := puts_ok Q rise_nil full_nil
  refine ext_get r1 hP r2 hf fun k => ?_
  rw [get_puts Q k rise_nil full_nil, get_nil]
  by_cases hk : ∃ p ∈ Q, p.1 = k
  · obtain ⟨p, hp, e⟩ := hk
    rw [(lastOf_perm hfq hnq k []).1 p hp e, ← e]
    exact (Keys.get_mem hP (hq.mem_iff.1 hp)).symm
  · have hne : ∀ p ∈ Q, p.1 ≠ k := fun p hp e => hk ⟨p, hp, e⟩
    rw [(lastOf_perm hfq hnq k []).2 hne]
    exact (Keys.get_none fun p hp => hne p (hq.mem_iff.2 hp)).symm
/-- What was there is put back. -/
theorem lastOf_back (x : List Pr) (O : List Pr) (k : Sum) (h256 : (Keys.get x k).length ≤ 256) : ∀ w, lastOf (O.map fun q => (q.1, Keys.get x q.1)) k w = if ∃ q ∈ O, q.1 = k then Keys.get x k else w := by
  induction O with
  | nil => intro w; simp [lastOf]
  | cons q O ih =>
    intro w
    show lastOf (O.map fun q => (q.1, Keys.get x q.1)) k (if q.1 = k ∧ (Keys.get x q.1).length ≤ 256 then Keys.get x q.1 else w) = _
    rw [ih]
    by_cases hk : q.1 = k
    · have e1 : (if q.1 = k ∧ (Keys.get x q.1).length ≤ 256 then Keys.get x q.1 else w) = Keys.get x k := by rw [if_pos ⟨hk, by rw [hk]; exact h256⟩, hk]
      have e2 : ∃ q' ∈ q :: O, q'.1 = k := ⟨q, List.mem_cons_self, hk⟩
      rw [e1, if_pos e2]
      split <;> rfl
    · have e1 : (if q.1 = k ∧ (Keys.get x q.1).length ≤ 256 then Keys.get x q.1 else w) = w := by rw [if_neg (fun e => hk e.1)]
      rw [e1]
      by_cases he : ∃ q' ∈ O, q'.1 = k
      · obtain ⟨q', h1, h2⟩ := he
        rw [if_pos ⟨q', h1, h2⟩, if_pos ⟨q', List.mem_cons_of_mem _ h1, h2⟩]
      · rw [if_neg he, if_neg]
        rintro ⟨q', h1, h2⟩
        rcases List.mem_cons.1 h1 with rfl | h1
        · exact hk h2
        · exact he ⟨q', h1, h2⟩
theorem lastOf_not (O : List Pr) (k : Sum) : ∀ w, (¬ ∃ q ∈ O, q.1 = k) → lastOf O k w = w := by
  induction O with
  | nil => intro w _; rfl
  | cons q O ih =>
    intro w h
    show lastOf O k (if q.1 = k ∧ q.2.length ≤ 256 then q.2 else w) = w
    rw [if_neg (fun e => h ⟨q, List.mem_cons_self, e.1⟩)]
    exact ih w fun ⟨q', h1, h2⟩ => h ⟨q', List.mem_cons_of_mem _ h1, h2⟩
theorem puts_back {x : List Pr} (hr : Rise x) (hf : Full x) (O : List Pr) : puts (puts x O) (O.map fun q => (q.1, Keys.get x q.1)) = x := by
  obtain ⟨r1, r2⟩ := puts_ok O hr hf
  obtain ⟨r3, r4⟩ := puts_ok (O.map fun q => (q.1, Keys.get x q.1)) r1 r2
  refine ext_get r3 hr r4 hf fun k => ?_
  rw [get_puts _ k r1 r2, lastOf_back x O k (get_rise [] k hr hf)]
  by_cases he : ∃ q ∈ O, q.1 = k
  · rw [if_pos he]
  · rw [if_neg he, get_puts O k hr hf, lastOf_not O k _ he]
end Go.Proofs.Ytfmgoehnbaiamaa
