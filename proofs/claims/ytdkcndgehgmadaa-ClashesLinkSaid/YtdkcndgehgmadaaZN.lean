/-
  Merged: N1, N2, N3, N4, N5.
-/
import Derived.Test.YtdkcndgehgmadaaZL
import Derived.Test.YtdkcndgehgmadaaZP
import Derived.Test.YtdkcndgehgmadaaG1
import Derived.Test.YtdkcndgehgmadaaZM
-- Plain law: what a way down comes to.
open Go Go.RowKit Alm
namespace Go.Proofs.Ytdkcndgehgmadaa
/-- What a step leads to. -/
def mkP (s : Bool × Sum) (v : Sum) : Sum × Sum := if s.1 then (v, s.2) else (s.2, v)
noncomputable def ndP (p : Sum × Sum) : Sum := nd p.1 p.2
/-- What steps come to, the top one first; what they lead to; the old sum's. -/
noncomputable def valT (a : Sum) : List (Bool × Sum) → Sum
  | [] => a
  | s :: T => ndP (mkP s (valT a T))
noncomputable def saidT (a : Sum) : List (Bool × Sum) → List (Sum × Sum)
  | [] => []
  | s :: T => mkP s (valT a T) :: saidT a T
noncomputable def oldT (x : Sum) : List (Bool × Sum) → Sum
  | [] => x
  | s :: T => if s.1 then oldT x T else nd s.2 (oldT x T)
noncomputable def oldH (x : Sum) : List (Bool × Sum) → List (Sum × Sum) → Sum
  | s :: T, p :: th => if s.1 then oldH x T th else nd p.1 (oldH x T th)
  | _, _ => x
/-- Up from a sum, the nearest step first. -/
noncomputable def upM (a : Sum) : List (Bool × Sum) → List (Sum × Sum)
  | [] => []
  | s :: T => mkP s a :: upM (ndP (mkP s a)) T
noncomputable def upR (a : Sum) : List (Bool × Sum) → Sum
  | [] => a
  | s :: T => upR (ndP (mkP s a)) T
theorem upM_snoc (s : Bool × Sum) : ∀ (T : List (Bool × Sum)) (a : Sum), upM a (T ++ [s]) = upM a T ++ [mkP s (upR a T)] ∧ upR a (T ++ [s]) = ndP (mkP s (upR a T))
  | [], a => ⟨rfl, rfl⟩
  | t :: T, a => by
    have h := upM_snoc s T (ndP (mkP t a))
    exact ⟨by simp only [List.cons_append, upM, upR]; rw [h.1], by simp only [List.cons_append, upR]; exact h.2⟩
theorem upM_reverse (a : Sum) : ∀ T : List (Bool × Sum), upM a T.reverse = (saidT a T).reverse ∧ upR a T.reverse = valT a T
  | [] => ⟨rfl, rfl⟩
  | s :: T => by
    have h := upM_reverse a T
    have h2 := upM_snoc s T.reverse a
    rw [List.reverse_cons, h2.1, h2.2, h.1, h.2]
    exact ⟨by simp [saidT], rfl⟩
theorem length_saidT (a : Sum) : ∀ T : List (Bool × Sum), (saidT a T).length = T.length
  | [] => rfl
  | s :: T => by simp [saidT, length_saidT a T]
theorem valT_snoc (s : Bool × Sum) (y : Sum) : ∀ T : List (Bool × Sum), valT y (T ++ [s]) = valT (ndP (mkP s y)) T
  | [] => rfl
  | t :: T => by simp only [List.cons_append, valT]; rw [valT_snoc s y T]
theorem oldT_snoc (s : Bool × Sum) (y : Sum) : ∀ T : List (Bool × Sum), oldT y (T ++ [s]) = oldT (if s.1 then y else nd s.2 y) T
  | [] => by simp [oldT]
  | t :: T => by simp only [List.cons_append, oldT]; rw [oldT_snoc s y T]
theorem oldH_snoc (s : Bool × Sum) (p : Sum × Sum) (y : Sum) : ∀ (T : List (Bool × Sum)) (th : List (Sum × Sum)), T.length = th.length → oldH y (T ++ [s]) (th ++ [p]) = oldH (if s.1 then y else nd p.1 y) T th
  | [], [], _ => by simp [oldH]
  | t :: T, q :: th, h => by
    simp only [List.cons_append, oldH]
    rw [oldH_snoc s p y T th (by simpa using h)]
  | [], _ :: _, h => by simp at h
  | _ :: _, [], h => by simp at h
theorem oldH_said (a x : Sum) : ∀ T : List (Bool × Sum), oldH x T (saidT a T) = oldT x T
  | [] => rfl
  | s :: T => by
    simp only [saidT, oldH, oldT]
    rw [oldH_said a x T]
    cases hs : s.1 <;> simp [mkP, hs]
noncomputable abbrev sd (l : List (List UInt8)) : Sum := rt (l.map lf)
/-- A way down from entries to some of them: the steps, and what is there. -/
inductive Down : List (List UInt8) → List (List UInt8) → List (Bool × Sum) → List (Sum × Sum) → Prop
  | nil (l) : Down l l [] []
  | left (l l' x T th) : 2 ≤ l.length → Down (l.take (cut l.length)) l' T th → Down l l' ((true, x) :: T) ((sd (l.take (cut l.length)), sd (l.drop (cut l.length))) :: th)
  | right (l l' x T th) : 2 ≤ l.length → Down (l.drop (cut l.length)) l' T th → Down l l' ((false, x) :: T) ((sd (l.take (cut l.length)), sd (l.drop (cut l.length))) :: th)
theorem Down.lens {l l' T th} (h : Down l l' T th) : T.length = th.length := by
  induction h with
  | nil => rfl
  | left _ _ _ _ _ _ _ ih => simp [ih]
  | right _ _ _ _ _ _ _ ih => simp [ih]
theorem Down.snocL {l l' T th} (h : Down l l' T th) (x : Sum) (h2 : 2 ≤ l'.length) : Down l (l'.take (cut l'.length)) (T ++ [(true, x)]) (th ++ [(sd (l'.take (cut l'.length)), sd (l'.drop (cut l'.length)))]) := by
  induction h with
  | nil => exact .left _ _ _ _ _ h2 (.nil _)
  | left _ _ _ _ _ h3 _ ih => exact .left _ _ _ _ _ h3 (ih h2)
  | right _ _ _ _ _ h3 _ ih => exact .right _ _ _ _ _ h3 (ih h2)
theorem Down.snocR {l l' T th} (h : Down l l' T th) (x : Sum) (h2 : 2 ≤ l'.length) : Down l (l'.drop (cut l'.length)) (T ++ [(false, x)]) (th ++ [(sd (l'.take (cut l'.length)), sd (l'.drop (cut l'.length)))]) := by
  induction h with
  | nil => exact .right _ _ _ _ _ h2 (.nil _)
  | left _ _ _ _ _ h3 _ ih => exact .left _ _ _ _ _ h3 (ih h2)
  | right _ _ _ _ _ h3 _ ih => exact .right _ _ _ _ _ h3 (ih h2)
/-- Side by side: what is left of a way down, where all above was the same. -/
structure Side (a : Sum) (l' : List (List UInt8)) (T : List (Bool × Sum)) (th : List (Sum × Sum)) : Prop where
  l : ∃ l, Down l l' T th ∧ sd l = valT a T
theorem Side.clash {a : Sum} {l' : List (List UInt8)} {T : List (Bool × Sum)} {th : List (Sum × Sum)} (h : Side a l' T th) {p q : Sum × Sum} {th' sd' : List (Sum × Sum)} (h1 : th = p :: th') (h2 : saidT a T = q :: sd') : nd p.1 p.2 = nd q.1 q.2 := by
  obtain ⟨l, hd, he⟩ := h.l
  subst h1
  cases hd with
  | left _ _ x T _ h3 h4 =>
    rw [saidT] at h2
    obtain ⟨rfl, rfl⟩ := List.cons.inj h2
    rw [valT] at he
    exact (rt_lf l h3).symm.trans he
  | right _ _ x T _ h3 h4 =>
    rw [saidT] at h2
    obtain ⟨rfl, rfl⟩ := List.cons.inj h2
    rw [valT] at he
    exact (rt_lf l h3).symm.trans he
theorem Side.step {a : Sum} {l' : List (List UInt8)} {T : List (Bool × Sum)} {th : List (Sum × Sum)} (h : Side a l' T th) {p : Sum × Sum} {th' sd' : List (Sum × Sum)} (h1 : th = p :: th') (h2 : saidT a T = p :: sd') : ∃ s T', T = s :: T' ∧ sd' = saidT a T' ∧ Side a l' T' th' := by
  obtain ⟨l, hd, he⟩ := h.l
  subst h1
  cases hd with
  | left _ _ x T _ h3 h4 =>
    rw [saidT] at h2
    obtain ⟨h5, h6⟩ := List.cons.inj h2
    exact ⟨_, T, rfl, h6.symm, ⟨_, h4, ((Prod.mk.inj h5).1).symm⟩⟩
  | right _ _ x T _ h3 h4 =>
    rw [saidT] at h2
    obtain ⟨h5, h6⟩ := List.cons.inj h2
    exact ⟨_, T, rfl, h6.symm, ⟨_, h4, ((Prod.mk.inj h5).2).symm⟩⟩
theorem Side.end_ {a : Sum} {l' : List (List UInt8)} {T : List (Bool × Sum)} {th : List (Sum × Sum)} (h : Side a l' T th) (h1 : th = []) : sd l' = a := by
  obtain ⟨l, hd, he⟩ := h.l
  subst h1
  cases hd with
  | nil => exact he
theorem leads_frame (a : Sum) (m n : Nat) : ∀ (p : List Sum) (s : Sum) (t : List Sum), leads nd a m n p = some (s, t) → ∀ r, leads nd a m n (p ++ r) = some (s, t ++ r) := by
  induction m, n using plen.induct with
  | case1 m n hn =>
    intro p s t h r
    rw [leads, dif_pos hn] at h ⊢
    obtain ⟨rfl, rfl⟩ := Prod.mk.inj (Option.some.inj h)
    rfl
  | case2 m n hn hk ih =>
    intro p s t h r
    rw [pleads_step a m n _ hn, if_pos hk] at h ⊢
    rcases hr : leads nd a m (cut n) p with _ | ⟨z, _ | ⟨x, q⟩⟩
    · rw [hr] at h; cases h
    · rw [hr] at h; cases h
    · rw [hr] at h
      rw [ih p z _ hr r]
      obtain ⟨rfl, rfl⟩ := Prod.mk.inj (Option.some.inj h)
      rfl
  | case3 m n hn hk ih =>
    intro p s t h r
    rw [pleads_step a m n _ hn, if_neg hk] at h ⊢
    rcases hr : leads nd a (m - cut n) (n - cut n) p with _ | ⟨z, _ | ⟨x, q⟩⟩
    · rw [hr] at h; cases h
    · rw [hr] at h; cases h
    · rw [hr] at h
      rw [ih p z _ hr r]
      obtain ⟨rfl, rfl⟩ := Prod.mk.inj (Option.some.inj h)
      rfl
/-- A step of a path's way down. -/
theorem path_down (a : Sum) (m n : Nat) (q : List Sum) (y : Sum) (hn : ¬ n ≤ 1) (h : leads nd a m n q.reverse = some (y, [])) :
    ∃ x r z, q = x :: r ∧ y = ndP (mkP (decide (m < cut n), x) z) ∧ leads nd a (if m < cut n then m else m - cut n) (if m < cut n then cut n else n - cut n) r.reverse = some (z, []) := by
  have frame : ∀ (m n : Nat) (p : List Sum) (z x : Sum), leads nd a m n p = some (z, [x]) → ∃ r, p.reverse = x :: r ∧ leads nd a m n r.reverse = some (z, []) := by
    intro m n p z x h
    have hl : plen m n ≤ p.length := by
      rcases Nat.lt_or_ge p.length (plen m n) with h1 | h1
      · rw [leads_none nd a m n p h1] at h; cases h
      · exact h1
    obtain ⟨s, hs⟩ := leads_some nd a m n p hl
    rw [hs] at h
    obtain ⟨rfl, hd⟩ := Prod.mk.inj (Option.some.inj h)
    have hp : p = p.take (plen m n) ++ [x] := by rw [← hd, List.take_append_drop]
    have hlt : (p.take (plen m n)).length = plen m n := by rw [List.length_take, Nat.min_eq_left hl]
    refine ⟨(p.take (plen m n)).reverse, by conv => lhs; rw [hp]
                                            simp, ?_⟩
    rw [List.reverse_reverse]
    obtain ⟨s', hs'⟩ := leads_some nd a m n (p.take (plen m n)) (by omega)
    have hs2 := leads_frame a m n (p.take (plen m n)) s' _ hs' [x]
    rw [← hp, hs] at hs2
    have h7 := (Prod.mk.inj (Option.some.inj hs2)).1
    rw [hs', List.drop_eq_nil_of_le (by omega), h7]
  rw [pleads_step a m n _ hn] at h
  by_cases hk : m < cut n
  · rw [if_pos hk] at h
    rw [if_pos hk, if_pos hk]
    rcases hr : leads nd a m (cut n) q.reverse with _ | ⟨z, _ | ⟨x, t⟩⟩
    · rw [hr] at h; cases h
    · rw [hr] at h; cases h
    · rw [hr] at h
      obtain ⟨rfl, rfl⟩ := Prod.mk.inj (Option.some.inj h)
      obtain ⟨r, h1, h2⟩ := frame _ _ _ _ _ hr
      rw [List.reverse_reverse] at h1
      exact ⟨x, r, z, h1, by simp [mkP, ndP, hk], h2⟩
  · rw [if_neg hk] at h
    rw [if_neg hk, if_neg hk]
    rcases hr : leads nd a (m - cut n) (n - cut n) q.reverse with _ | ⟨z, _ | ⟨x, t⟩⟩
    · rw [hr] at h; cases h
    · rw [hr] at h; cases h
    · rw [hr] at h
      obtain ⟨rfl, rfl⟩ := Prod.mk.inj (Option.some.inj h)
      obtain ⟨r, h1, h2⟩ := frame _ _ _ _ _ hr
      rw [List.reverse_reverse] at h1
      exact ⟨x, r, z, h1, by simp [mkP, ndP, hk], h2⟩
end Go.Proofs.Ytdkcndgehgmadaa
-- Rows of steps, and of pairs.
open Go Go.RowKit Alm
namespace Go.Proofs.Ytdkcndgehgmadaa
section
variable {α : Type} (cf : α → List Value) (z : Nat)
/-- All cells of a list. -/
def cfA (l : List α) : List Value := l.flatMap cf
variable {cf} {z}
theorem cfA_append (a b : List α) : cfA cf (a ++ b) = cfA cf a ++ cfA cf b := by simp [cfA]
theorem cfA_cons (a : α) (b : List α) : cfA cf (a :: b) = cf a ++ cfA cf b := by simp [cfA]
theorem cfA_one (a : α) : cfA cf [a] = cf a := by simp [cfA]
theorem length_cfA (hl : ∀ a, (cf a).length = z) : ∀ l : List α, (cfA cf l).length = z * l.length
  | [] => rfl
  | a :: l => by rw [cfA_cons, List.length_append, hl, length_cfA hl l, List.length_cons, Nat.mul_succ, Nat.add_comm]
theorem oneCell_cfA (h1 : ∀ a, ∀ v ∈ cf a, v.oneCell' = true) (l : List α) : ∀ v ∈ cfA cf l, v.oneCell' = true := by
  intro v hv
  obtain ⟨a, _, ha⟩ := List.mem_flatMap.1 hv
  exact h1 a v ha
theorem cfA_split {l : List α} {i : Nat} (h : i < l.length) : cfA cf l = cfA cf (l.take i) ++ (cf l[i] ++ cfA cf (l.drop (i + 1))) := by
  conv => lhs; rw [← List.take_append_drop i l, cfA_append, List.drop_eq_getElem_cons h, cfA_cons]
theorem rangeG_at (hl : ∀ a, (cf a).length = z) {w : World} {b o : Nat} {l : List α} (h : w.rangeAt b o (cfA cf l)) {i : Nat} (hi : i < l.length) : w.rangeAt b (o + i * z) (cf l[i]) := by
  rw [cfA_split hi, range_append, length_cfA hl, range_append, List.length_take, Nat.min_eq_left (by omega)] at h
  rw [Nat.mul_comm]; exact h.2.1
theorem rangeG_set (hl : ∀ a, (cf a).length = z) {w : World} {b o : Nat} {t : List α} {i : Nat} (s : α) (hr : w.rangeAt b o (cfA cf t)) (ht : w.there b o (z * t.length)) (hi : i < t.length) : (w.setCells b (o + i * z) (cf s)).rangeAt b o (cfA cf (t.set i s)) := by
  have hl2 : cfA cf (t.set i s) = cfA cf (t.take i) ++ (cf s ++ cfA cf (t.drop (i + 1))) := by
    rw [List.set_eq_take_append_cons_drop, if_pos hi, cfA_append, cfA_cons]
  rw [cfA_split hi, range_append, range_append, length_cfA hl, List.length_take, Nat.min_eq_left (by omega), hl] at hr
  rw [hl2, range_append, range_append, length_cfA hl, List.length_take, Nat.min_eq_left (by omega), hl]
  have e : o + z * i = o + i * z := by rw [Nat.mul_comm]
  refine ⟨?_, ?_, ?_⟩
  · exact World.rangeAt_setCells_apart hr.1 _ _ _ (by right; left; rw [length_cfA hl, List.length_take, Nat.min_eq_left (by omega), e]; exact Nat.le_refl _)
  · rw [e]
    exact World.rangeAt_setCells_same w b _ _ (fun j hj => by
      rw [hl] at hj
      have h9 : i * z + j < z * t.length := by
        have : z * (i + 1) ≤ z * t.length := Nat.mul_le_mul_left _ hi
        rw [Nat.mul_add, Nat.mul_one, Nat.mul_comm z i] at this
        omega
      have := ht (i * z + j) h9
      rwa [show o + (i * z + j) = o + i * z + j from by omega] at this)
  · exact World.rangeAt_setCells_apart hr.2.2 _ _ _ (by right; right; rw [hl, e]; exact Nat.le_refl _)
/-- After i swaps. -/
def swapG (l : List α) (i : Nat) (t : List α) : Prop := t.length = l.length ∧ ∀ k, k < l.length → t[k]? = if k < i ∨ l.length - i ≤ k then l[l.length - 1 - k]? else l[k]?
theorem swapG_zero (l : List α) : swapG l 0 l := ⟨rfl, fun k hk => by rw [if_neg (by omega)]⟩
theorem swapG_step {l t : List α} {i j : Nat} {x y : α} (h : swapG l i t) (hij : i < j) (hj : j = l.length - 1 - i) (hl : j < l.length) (hx : t[i]? = some x) (hy : t[j]? = some y) : swapG l (i + 1) ((t.set i y).set j x) := by
  refine ⟨by simp [h.1], fun k hk => ?_⟩
  have h2 := h.2 k hk
  have hi2 := h.2 i (by omega)
  have hj2 := h.2 j (by omega)
  rw [if_neg (by omega), hx] at hi2
  rw [if_neg (by omega), hy] at hj2
  have ht := h.1
  by_cases hkj : k = j
  · subst hkj
    rw [if_pos (by omega), List.getElem?_set_self (by simp [ht]; omega), hi2]
    congr 1; omega
  · by_cases hki : k = i
    · subst hki
      rw [if_pos (by omega), List.getElem?_set_ne (by omega), List.getElem?_set_self (by omega), hj2]
      congr 1
    · rw [List.getElem?_set_ne (by omega), List.getElem?_set_ne (by omega), h2]
      by_cases hc : k < i ∨ l.length - i ≤ k
      · rw [if_pos hc, if_pos (by omega)]
      · rw [if_neg hc, if_neg (by omega)]
theorem swapG_end {l t : List α} {i : Nat} (h : swapG l i t) (hi : l.length ≤ 2 * i + 1) : t = l.reverse := by
  refine List.ext_getElem? fun k => ?_
  by_cases hk : k < l.length
  · rw [h.2 k hk, List.getElem?_reverse hk]
    by_cases hc : k < i ∨ l.length - i ≤ k
    · rw [if_pos hc]
    · rw [if_neg hc]; congr 1; omega
  · rw [List.getElem?_eq_none (by rw [h.1]; omega), List.getElem?_eq_none (by simp; omega)]
variable (cf) (z)
/-- A row that is new (from base on), or nil. -/
def RowNew (w : World) (base : Nat) (v : Value) (l : List α) : Prop :=
  (v = .slice none 0 0 ∧ l = []) ∨ ∃ g cap, v = .slice (some ⟨g, 0, none⟩) l.length cap ∧ l ≠ [] ∧ l.length ≤ cap ∧ cap ≤ maxLen ∧ base ≤ g ∧ w.rangeAt g 0 (cfA cf l) ∧ w.there g 0 (z * l.length)
variable {cf} {z}
theorem RowNew.keep (hz : 0 < z) {X : Nat → Prop} {w w' : World} {base : Nat} {v : Value} {l : List α} (h : RowNew cf z w base v l) (hk : Keeps X w w') (hv : ∀ k, v.ownBlock = some k → ¬ X k) : RowNew cf z w' base v l := by
  rcases h with ⟨rfl, rfl⟩ | ⟨g, cap, rfl, h0, h1, h2, h3, h4, h5⟩
  · exact .inl ⟨rfl, rfl⟩
  · exact .inr ⟨g, cap, rfl, h0, h1, h2, h3, hk.range h4 (hv g rfl), hk.there h5 (Nat.mul_pos hz (List.length_pos_iff.2 h0)) (hv g rfl)⟩
theorem RowNew.own {w : World} {base : Nat} {v : Value} {l : List α} (h : RowNew cf z w base v l) : ∀ k, v.ownBlock = some k → base ≤ k := by
  intro k hk
  rcases h with ⟨rfl, rfl⟩ | ⟨g, cap, rfl, h0, h1, h2, h3, h4, h5⟩
  · cases hk
  · simp only [Value.ownBlock, Option.some.injEq] at hk; omega
theorem rowG_new (hl : ∀ a, (cf a).length = z) {w : World} {base : Nat} {e : TypeId} {v : Value} {l : List α} (h : w.ownsRow base e z v l.length (cfA cf l)) (h0 : l = [] → v = .slice none 0 0) : RowNew cf z w base v l := by
  by_cases hn : l = []
  · exact .inl ⟨h0 hn, hn⟩
  · rcases h.2 with ⟨_, h2⟩ | ⟨g, cap, cur, rfl, hb, hg, hnc, hcm, hsz, htk⟩
    · exact (hn (List.length_eq_zero_iff.1 h2)).elim
    · refine .inr ⟨g, cap, rfl, hn, hnc, hcm, hb, fun j u hj => ?_, fun j hj => ⟨?_, frozen_of_row w g _ cur _ hg⟩⟩
      · have := h.cells (g := g) rfl j u hj
        rwa [Addr.add_mid] at this
      · have h8 : z * l.length ≤ cur.size := by rw [hsz, Nat.mul_comm]; exact Nat.mul_le_mul_right _ hnc
        rw [cell_of_row w g _ cur _ (0, 0) hg, Nat.zero_add, Array.getElem?_eq_getElem (by omega)]; rfl
end
/-- A step, as a value. -/
def cellsS (s : Bool × Sum) : List Value := .bool s.1 :: cellsOf s.2
def cellsQ (p : Sum × Sum) : List Value := cellsP p.1 p.2
theorem length_cellsS (s : Bool × Sum) : (cellsS s).length = 33 := by simp [cellsS, length_cellsOf]
theorem length_cellsQ (s : Sum × Sum) : (cellsQ s).length = 64 := length_cellsP _ _
theorem one_cellsS (s : Bool × Sum) : ∀ v ∈ cellsS s, v.oneCell' = true := by
  intro v hv
  rcases List.mem_cons.1 hv with rfl | hv
  · rfl
  · exact oneCell_cellsOf s.2 v hv
theorem one_cellsQ (s : Sum × Sum) : ∀ v ∈ cellsQ s, v.oneCell' = true := by
  intro v hv
  rcases List.mem_append.1 hv with h | h
  · exact oneCell_cellsOf _ v h
  · exact oneCell_cellsOf _ v h
abbrev stv (s : Bool × Sum) : Value := .agg (cellsS s).toArray
abbrev pqv (p : Sum × Sum) : Value := .agg (cellsQ p).toArray
theorem infoStep : (Try.prog.info? 135).map (·.size) = some 33 := by kernel_rfl
theorem build_step32 (b : Bool) (c0 c1 c2 c3 c4 c5 c6 c7 c8 c9 c10 c11 c12 c13 c14 c15 c16 c17 c18 c19 c20 c21 c22 c23 c24 c25 c26 c27 c28 c29 c30 c31 : Value) (w : World) : (Instr.build 135 #[(0, .bool b), (1, .agg #[c0, c1, c2, c3, c4, c5, c6, c7, c8, c9, c10, c11, c12, c13, c14, c15, c16, c17, c18, c19, c20, c21, c22, c23, c24, c25, c26, c27, c28, c29, c30, c31])]).run Try.prog w = .ok (.agg #[.bool b, c0, c1, c2, c3, c4, c5, c6, c7, c8, c9, c10, c11, c12, c13, c14, c15, c16, c17, c18, c19, c20, c21, c22, c23, c24, c25, c26, c27, c28, c29, c30, c31]) w := by kernel_rfl
theorem build_step_ (b : Bool) (l : List Value) (h : l.length = 32) (w : World) : (Instr.build 135 #[(0, .bool b), (1, .agg l.toArray)]).run Try.prog w = .ok (.agg (.bool b :: l).toArray) w := by
  match l, h with
  | [c0, c1, c2, c3, c4, c5, c6, c7, c8, c9, c10, c11, c12, c13, c14, c15, c16, c17, c18, c19, c20, c21, c22, c23, c24, c25, c26, c27, c28, c29, c30, c31], _ => exact build_step32 b c0 c1 c2 c3 c4 c5 c6 c7 c8 c9 c10 c11 c12 c13 c14 c15 c16 c17 c18 c19 c20 c21 c22 c23 c24 c25 c26 c27 c28 c29 c30 c31 w
theorem build_step (b : Bool) (s : Sum) (w : World) : (Instr.build 135 #[(0, .bool b), (1, .agg (cellsOf s).toArray)]).run Try.prog w = .ok (stv (b, s)) w := build_step_ b _ (length_cellsOf s) w
theorem fieldS (s : Bool × Sum) (b : Nat) (W : World) (h : W.rangeAt b 0 (cellsS s)) : W.cell? ⟨b, 0, none⟩ = some (.bool s.1) ∧ W.rangeAt b 1 (cellsOf s.2) := by
  refine ⟨h 0 _ rfl, fun j v hj => ?_⟩
  have := h (j + 1) v (by simpa [cellsS] using hj)
  rwa [Nat.zero_add, Nat.add_comm] at this
theorem rangeQ_left {w : World} {b : Nat} {p : Sum × Sum} (h : w.rangeAt b 0 (cellsQ p)) : w.rangeAt b 0 (cellsOf p.1) ∧ w.rangeAt b 32 (cellsOf p.2) := ⟨rangeP_left h, rangeP_right h⟩

theorem info_st : ∃ i z, Try.prog.info? 135 = some i ∧ i.zero = some z ∧ i.size = 33 ∧ i.bytes = 33 ∧ z.cells.size = 33 := by
  have h : (Try.prog.info? 135).map (fun i => (i.zero.map fun z => z.cells.size, i.size, i.bytes)) = some (some 33, 33, 33) := by kernel_rfl
  obtain ⟨i, hi, h2⟩ := Option.map_eq_some_iff.1 h
  simp only [Prod.mk.injEq] at h2
  obtain ⟨z, hz, hz2⟩ := Option.map_eq_some_iff.1 h2.1
  exact ⟨i, z, hi, hz, h2.2.1, h2.2.2, hz2⟩
theorem wp_load_st {op : Oper} {a : Act} {w : World} {K : Act → World → Prop} {Q : Exit → Act → World → Prop} (x : Operand) (ho : op.op = .load 135 x)
    (b o : Nat) (hx : a.eval x = .pointer (some ⟨b, o, none⟩)) (s : Bool × Sum) (hc : w.rangeAt b o (cellsS s)) (h : K (a.put op.dst (.agg (cellsS s).toArray)) w) : op.wp Try.prog a w K Q :=
  wp_load_mid _ x ho b o hx (cellsS s) _ hc Try.underlying135 rfl (by rw [length_cellsS]; exact infoStep) h
theorem wpList_load_st {ops : Array Oper} {rest : List Oper} {op : Oper} {a : Act} {w : World} {Q : Exit → Act → World → Prop} (hgd : op.guard = none) (x : Operand) (ho : op.op = .load 135 x)
    (b o : Nat) (hx : a.eval x = .pointer (some ⟨b, o, none⟩)) (s : Bool × Sum) (hc : w.rangeAt b o (cellsS s)) (h : wpList Try.prog ops Q rest (a.put op.dst (.agg (cellsS s).toArray)) w) : wpList Try.prog ops Q (op :: rest) a w :=
  wpList_load_mid hgd _ x ho b o hx (cellsS s) _ hc Try.underlying135 rfl (by rw [length_cellsS]; exact infoStep) h
theorem wp_store_st {op : Oper} {a : Act} {w : World} {K : Act → World → Prop} {Q : Exit → Act → World → Prop} (x y : Operand) (ho : op.op = .store 135 x y)
    (b o : Nat) (s : Bool × Sum) (hx : a.eval x = .pointer (some ⟨b, o, none⟩)) (hy : a.eval y = .agg (cellsS s).toArray) (ht : w.there b o 33) (h : K (a.put op.dst undef) (w.setCells b o (cellsS s))) : op.wp Try.prog a w K Q :=
  wp_store_mid _ x y ho b o _ hx hy (by simpa [length_cellsS] using ht) (by simpa [length_cellsS] using infoStep) (all_oneCell_toArray (one_cellsS s)) h
theorem wpList_store_st {ops : Array Oper} {rest : List Oper} {op : Oper} {a : Act} {w : World} {Q : Exit → Act → World → Prop} (hgd : op.guard = none) (x y : Operand) (ho : op.op = .store 135 x y)
    (b o : Nat) (s : Bool × Sum) (hx : a.eval x = .pointer (some ⟨b, o, none⟩)) (hy : a.eval y = .agg (cellsS s).toArray) (ht : w.there b o 33) (h : wpList Try.prog ops Q rest (a.put op.dst undef) (w.setCells b o (cellsS s))) : wpList Try.prog ops Q (op :: rest) a w :=
  wpList_plain hgd fun _ hK => wp_store_st x y ho b o s hx hy ht (hK _ _ h)
theorem wpS_load_st {md : Region.Mode} {S : World → Prop} {ops : List Oper} {Q : Exit → Act → World → Prop} {r : List Mv} {a : Act} {w : World} {o : Oper} {i : Nat} (hS : S w) (ho : ops[i]? = some o) (hg : Region.wanted o (yielded ops.toArray a.tmps) = true) (x : Operand) (hop : o.op = .load 135 x) (b off : Nat) (hx : a.eval x = .pointer (some ⟨b, off, none⟩)) (s : Bool × Sum)
    (hc : ∀ W, S W → W.rangeAt b off (cellsS s)) (h : wpS Try.prog md ops.toArray Q S r (a.put o.dst (.agg (cellsS s).toArray)) w) : wpS Try.prog md ops.toArray Q S (.s i :: r) a w :=
  wpS_load_mid hS ho hg _ x hop b off hx (cellsS s) _ hc Try.underlying135 rfl (by rw [length_cellsS]; exact infoStep) h
theorem wp_append_st {w : World} {o : Oper} {a : Act} {K : Act → World → Prop} {Q : Exit → Act → World → Prop} (s x : Operand)
    (ho : o.op = .call { callee := .builtin .append, args := #[s, x], argTypes := #[129, 129] })
    (base : Nat) (v : Value) (l : List (Bool × Sum)) (y : Bool × Sum) (n : Nat) (hn : l.length = n) (hs : a.eval s = v) (hown : w.ownsRow base 135 33 v n (cfA cellsS l))
    (b off c : Nat) (hx : a.eval x = .slice (some ⟨b, off, none⟩) 1 c) (hr : w.rangeAt b off (cellsS y)) (hl : n < 1000000000) (hB : base ≤ w.heap.size)
    (h : ∀ g cap w', w'.ownsRow base 135 33 (.slice (some ⟨g, 0, none⟩) (n + 1) cap) (n + 1) (cfA cellsS (l ++ [y])) → w.grownBy w' v.ownBlock → (v.ownBlock = some g ∨ g = w.heap.size) → g < w'.heap.size → K (a.put o.dst (.slice (some ⟨g, 0, none⟩) (n + 1) cap)) w') : o.wp Try.prog a w K Q := by
  obtain ⟨i, z, hi, hz, h1, h2, h3⟩ := info_st
  refine wp_append_lies w s x _ ho base _ i z 33 33 Try.underlying129 hi hz h1 h2 h3 (by omega) v n (cfA cellsS l) hs hown ⟨b, off, none⟩ 1 c (cellsS y) hx (by rw [length_cellsS]) (fun j u hj => by rw [Addr.add_mid]; exact hr j u hj) (one_cellsS y) (by omega) (by unfold maxLen; omega) (by omega) hB w.heap.size rfl ?_
  intro g cap w' ho' hg hat hlt
  refine h g cap w' ?_ hg hat hlt
  rw [cfA_append, cfA_one]; exact ho'
theorem wpList_append_st {w : World} {ops : Array Oper} {rest : List Oper} {o : Oper} {a : Act} {Q : Exit → Act → World → Prop} (hgd : o.guard = none) (s x : Operand)
    (ho : o.op = .call { callee := .builtin .append, args := #[s, x], argTypes := #[129, 129] })
    (base : Nat) (v : Value) (l : List (Bool × Sum)) (y : Bool × Sum) (n : Nat) (hn : l.length = n) (hs : a.eval s = v) (hown : w.ownsRow base 135 33 v n (cfA cellsS l))
    (b off c : Nat) (hx : a.eval x = .slice (some ⟨b, off, none⟩) 1 c) (hr : w.rangeAt b off (cellsS y)) (hl : n < 1000000000) (hB : base ≤ w.heap.size)
    (h : ∀ g cap w', w'.ownsRow base 135 33 (.slice (some ⟨g, 0, none⟩) (n + 1) cap) (n + 1) (cfA cellsS (l ++ [y])) → w.grownBy w' v.ownBlock → (v.ownBlock = some g ∨ g = w.heap.size) → g < w'.heap.size → wpList Try.prog ops Q rest (a.put o.dst (.slice (some ⟨g, 0, none⟩) (n + 1) cap)) w') : wpList Try.prog ops Q (o :: rest) a w :=
  wpList_plain hgd fun _ hK => wp_append_st s x ho base v l y n hn hs hown b off c hx hr hl hB fun g cap w' h1 h2 h3 h4 => hK _ _ (h g cap w' h1 h2 h3 h4)
theorem wp_lit_st {w : World} {o : Oper} {a : Act} {K : Act → World → Prop} {Q : Exit → Act → World → Prop} (x : Operand) (ho : o.op = .buildSlice 129 1 #[(0, x)]) (s : Bool × Sum) (hx : a.eval x = .agg (cellsS s).toArray)
    (h : K (a.put o.dst (.slice (some ⟨w.heap.size, 0, none⟩) 1 1)) (w.alloc (.cells (cellsS s).toArray 135))) : o.wp Try.prog a w K Q := by
  obtain ⟨i, z, hi, hz, hs, hb, hzs⟩ := info_st
  refine wp_buildSlice _ 135 1 _ ho (cellsS s).toArray i z Try.underlying129 hi hz (by rw [hs]; omega) (by rw [hs]; omega) ?_ h
  have hp : ((#[(0, x)] : Array (Nat × Operand)).toList.map fun (i, x) => (i, a.eval x)) = (([(.agg (cellsS s).toArray : Value)]).zipIdx 0).map fun x => (x.2, x.1) := by simp [hx]
  rw [Array.toList_map, hp, hs, Great.fill_whole (s := 33) (by omega) [(.agg (cellsS s).toArray : Value)] _ (fun v hv => by rw [List.mem_singleton.1 hv]; simp [Value.cells, length_cellsS]) (by simp)]
  simp [Value.cells]
theorem wpList_lit_st {w : World} {ops : Array Oper} {rest : List Oper} {o : Oper} {a : Act} {Q : Exit → Act → World → Prop} (hgd : o.guard = none) (x : Operand) (ho : o.op = .buildSlice 129 1 #[(0, x)]) (s : Bool × Sum) (hx : a.eval x = .agg (cellsS s).toArray)
    (h : wpList Try.prog ops Q rest (a.put o.dst (.slice (some ⟨w.heap.size, 0, none⟩) 1 1)) (w.alloc (.cells (cellsS s).toArray 135))) : wpList Try.prog ops Q (o :: rest) a w :=
  wpList_plain hgd fun _ hK => wp_lit_st x ho s hx (hK _ _ h)

theorem info_pq : ∃ i z, Try.prog.info? 132 = some i ∧ i.zero = some z ∧ i.size = 64 ∧ i.bytes = 64 ∧ z.cells.size = 64 := by
  have h : (Try.prog.info? 132).map (fun i => (i.zero.map fun z => z.cells.size, i.size, i.bytes)) = some (some 64, 64, 64) := by kernel_rfl
  obtain ⟨i, hi, h2⟩ := Option.map_eq_some_iff.1 h
  simp only [Prod.mk.injEq] at h2
  obtain ⟨z, hz, hz2⟩ := Option.map_eq_some_iff.1 h2.1
  exact ⟨i, z, hi, hz, h2.2.1, h2.2.2, hz2⟩
theorem wp_load_pq {op : Oper} {a : Act} {w : World} {K : Act → World → Prop} {Q : Exit → Act → World → Prop} (x : Operand) (ho : op.op = .load 132 x)
    (b o : Nat) (hx : a.eval x = .pointer (some ⟨b, o, none⟩)) (s : Sum × Sum) (hc : w.rangeAt b o (cellsQ s)) (h : K (a.put op.dst (.agg (cellsQ s).toArray)) w) : op.wp Try.prog a w K Q :=
  wp_load_mid _ x ho b o hx (cellsQ s) _ hc Try.underlying132 rfl (by rw [length_cellsQ]; exact infoPair) h
theorem wpList_load_pq {ops : Array Oper} {rest : List Oper} {op : Oper} {a : Act} {w : World} {Q : Exit → Act → World → Prop} (hgd : op.guard = none) (x : Operand) (ho : op.op = .load 132 x)
    (b o : Nat) (hx : a.eval x = .pointer (some ⟨b, o, none⟩)) (s : Sum × Sum) (hc : w.rangeAt b o (cellsQ s)) (h : wpList Try.prog ops Q rest (a.put op.dst (.agg (cellsQ s).toArray)) w) : wpList Try.prog ops Q (op :: rest) a w :=
  wpList_load_mid hgd _ x ho b o hx (cellsQ s) _ hc Try.underlying132 rfl (by rw [length_cellsQ]; exact infoPair) h
theorem wp_store_pq {op : Oper} {a : Act} {w : World} {K : Act → World → Prop} {Q : Exit → Act → World → Prop} (x y : Operand) (ho : op.op = .store 132 x y)
    (b o : Nat) (s : Sum × Sum) (hx : a.eval x = .pointer (some ⟨b, o, none⟩)) (hy : a.eval y = .agg (cellsQ s).toArray) (ht : w.there b o 64) (h : K (a.put op.dst undef) (w.setCells b o (cellsQ s))) : op.wp Try.prog a w K Q :=
  wp_store_mid _ x y ho b o _ hx hy (by simpa [length_cellsQ] using ht) (by simpa [length_cellsQ] using infoPair) (all_oneCell_toArray (one_cellsQ s)) h
theorem wpList_store_pq {ops : Array Oper} {rest : List Oper} {op : Oper} {a : Act} {w : World} {Q : Exit → Act → World → Prop} (hgd : op.guard = none) (x y : Operand) (ho : op.op = .store 132 x y)
    (b o : Nat) (s : Sum × Sum) (hx : a.eval x = .pointer (some ⟨b, o, none⟩)) (hy : a.eval y = .agg (cellsQ s).toArray) (ht : w.there b o 64) (h : wpList Try.prog ops Q rest (a.put op.dst undef) (w.setCells b o (cellsQ s))) : wpList Try.prog ops Q (op :: rest) a w :=
  wpList_plain hgd fun _ hK => wp_store_pq x y ho b o s hx hy ht (hK _ _ h)
theorem wpS_load_pq {md : Region.Mode} {S : World → Prop} {ops : List Oper} {Q : Exit → Act → World → Prop} {r : List Mv} {a : Act} {w : World} {o : Oper} {i : Nat} (hS : S w) (ho : ops[i]? = some o) (hg : Region.wanted o (yielded ops.toArray a.tmps) = true) (x : Operand) (hop : o.op = .load 132 x) (b off : Nat) (hx : a.eval x = .pointer (some ⟨b, off, none⟩)) (s : Sum × Sum)
    (hc : ∀ W, S W → W.rangeAt b off (cellsQ s)) (h : wpS Try.prog md ops.toArray Q S r (a.put o.dst (.agg (cellsQ s).toArray)) w) : wpS Try.prog md ops.toArray Q S (.s i :: r) a w :=
  wpS_load_mid hS ho hg _ x hop b off hx (cellsQ s) _ hc Try.underlying132 rfl (by rw [length_cellsQ]; exact infoPair) h
theorem wp_append_pq {w : World} {o : Oper} {a : Act} {K : Act → World → Prop} {Q : Exit → Act → World → Prop} (s x : Operand)
    (ho : o.op = .call { callee := .builtin .append, args := #[s, x], argTypes := #[130, 130] })
    (base : Nat) (v : Value) (l : List (Sum × Sum)) (y : Sum × Sum) (n : Nat) (hn : l.length = n) (hs : a.eval s = v) (hown : w.ownsRow base 132 64 v n (cfA cellsQ l))
    (b off c : Nat) (hx : a.eval x = .slice (some ⟨b, off, none⟩) 1 c) (hr : w.rangeAt b off (cellsQ y)) (hl : n < 1000000000) (hB : base ≤ w.heap.size)
    (h : ∀ g cap w', w'.ownsRow base 132 64 (.slice (some ⟨g, 0, none⟩) (n + 1) cap) (n + 1) (cfA cellsQ (l ++ [y])) → w.grownBy w' v.ownBlock → (v.ownBlock = some g ∨ g = w.heap.size) → g < w'.heap.size → K (a.put o.dst (.slice (some ⟨g, 0, none⟩) (n + 1) cap)) w') : o.wp Try.prog a w K Q := by
  obtain ⟨i, z, hi, hz, h1, h2, h3⟩ := info_pq
  refine wp_append_lies w s x _ ho base _ i z 64 64 Try.underlying130 hi hz h1 h2 h3 (by omega) v n (cfA cellsQ l) hs hown ⟨b, off, none⟩ 1 c (cellsQ y) hx (by rw [length_cellsQ]) (fun j u hj => by rw [Addr.add_mid]; exact hr j u hj) (one_cellsQ y) (by omega) (by unfold maxLen; omega) (by omega) hB w.heap.size rfl ?_
  intro g cap w' ho' hg hat hlt
  refine h g cap w' ?_ hg hat hlt
  rw [cfA_append, cfA_one]; exact ho'
theorem wpList_append_pq {w : World} {ops : Array Oper} {rest : List Oper} {o : Oper} {a : Act} {Q : Exit → Act → World → Prop} (hgd : o.guard = none) (s x : Operand)
    (ho : o.op = .call { callee := .builtin .append, args := #[s, x], argTypes := #[130, 130] })
    (base : Nat) (v : Value) (l : List (Sum × Sum)) (y : Sum × Sum) (n : Nat) (hn : l.length = n) (hs : a.eval s = v) (hown : w.ownsRow base 132 64 v n (cfA cellsQ l))
    (b off c : Nat) (hx : a.eval x = .slice (some ⟨b, off, none⟩) 1 c) (hr : w.rangeAt b off (cellsQ y)) (hl : n < 1000000000) (hB : base ≤ w.heap.size)
    (h : ∀ g cap w', w'.ownsRow base 132 64 (.slice (some ⟨g, 0, none⟩) (n + 1) cap) (n + 1) (cfA cellsQ (l ++ [y])) → w.grownBy w' v.ownBlock → (v.ownBlock = some g ∨ g = w.heap.size) → g < w'.heap.size → wpList Try.prog ops Q rest (a.put o.dst (.slice (some ⟨g, 0, none⟩) (n + 1) cap)) w') : wpList Try.prog ops Q (o :: rest) a w :=
  wpList_plain hgd fun _ hK => wp_append_pq s x ho base v l y n hn hs hown b off c hx hr hl hB fun g cap w' h1 h2 h3 h4 => hK _ _ (h g cap w' h1 h2 h3 h4)
theorem wp_lit_pq {w : World} {o : Oper} {a : Act} {K : Act → World → Prop} {Q : Exit → Act → World → Prop} (x : Operand) (ho : o.op = .buildSlice 130 1 #[(0, x)]) (s : Sum × Sum) (hx : a.eval x = .agg (cellsQ s).toArray)
    (h : K (a.put o.dst (.slice (some ⟨w.heap.size, 0, none⟩) 1 1)) (w.alloc (.cells (cellsQ s).toArray 132))) : o.wp Try.prog a w K Q := by
  obtain ⟨i, z, hi, hz, hs, hb, hzs⟩ := info_pq
  refine wp_buildSlice _ 132 1 _ ho (cellsQ s).toArray i z Try.underlying130 hi hz (by rw [hs]; omega) (by rw [hs]; omega) ?_ h
  have hp : ((#[(0, x)] : Array (Nat × Operand)).toList.map fun (i, x) => (i, a.eval x)) = (([(.agg (cellsQ s).toArray : Value)]).zipIdx 0).map fun x => (x.2, x.1) := by simp [hx]
  rw [Array.toList_map, hp, hs, Great.fill_whole (s := 64) (by omega) [(.agg (cellsQ s).toArray : Value)] _ (fun v hv => by rw [List.mem_singleton.1 hv]; simp [Value.cells, length_cellsQ]) (by simp)]
  simp [Value.cells]
theorem wpList_lit_pq {w : World} {ops : Array Oper} {rest : List Oper} {o : Oper} {a : Act} {Q : Exit → Act → World → Prop} (hgd : o.guard = none) (x : Operand) (ho : o.op = .buildSlice 130 1 #[(0, x)]) (s : Sum × Sum) (hx : a.eval x = .agg (cellsQ s).toArray)
    (h : wpList Try.prog ops Q rest (a.put o.dst (.slice (some ⟨w.heap.size, 0, none⟩) 1 1)) (w.alloc (.cells (cellsQ s).toArray 132))) : wpList Try.prog ops Q (o :: rest) a w :=
  wpList_plain hgd fun _ hK => wp_lit_pq x ho s hx (hK _ _ h)
end Go.Proofs.Ytdkcndgehgmadaa
-- Walks: slices.Reverse of steps, of pairs.
open Go Go.RowKit Alm
namespace Go.Proofs.Ytdkcndgehgmadaa
set_option maxRecDepth 100000 in
set_option maxHeartbeats 1000000 in
theorem reverse_st (w : World) (base : Nat) (v : Value) (l : List (Bool × Sum)) (h : RowNew cellsS 33 w base v l) (hl : l.length < 4000000000) : Calls Try.prog 99 #[v] w fun e w' => e = .returned (.tuple #[]) ∧ RowNew cellsS 33 w' base v l.reverse ∧ Keeps (fun k => v.ownBlock = some k) w w' := by
  rcases h with ⟨rfl, rfl⟩ | ⟨g, cap, rfl, h0, h1, h2, h3, h4, h5⟩
  · go_enter Try.func99, Try.ntmps99
    go_wp2_with fail
    refine wp_loop_once ?_
    go_wp2_with fail
    exact bodyPost_end (results_none rfl _ _ _) rfl ⟨rfl, .inl ⟨rfl, rfl⟩, Keeps.refl _ _⟩
  · obtain ⟨n, hn⟩ : ∃ n, n = l.length := ⟨_, rfl⟩
    rw [← hn] at h1 h5 hl ⊢
    have HN := Lib.hid hn; clear hn
    have HR := Lib.hid h4; clear h4
    have HT := Lib.hid h5; clear h5
    have hn1 : (n : Int) < 4000000000 := by omega
    go_enter Try.func99, Try.ntmps99
    go_wp2_with fail
    go_loopw [2, 3] (fun a b W => ∃ (i : Nat) (z : Int) (t : List (Bool × Sum)), a = .int .i64 (i : Int) ∧ b = .int .i64 z ∧ z = (n : Int) - 1 - i ∧ i ≤ n ∧ swapG l i t ∧ W.rangeAt g 0 (cfA cellsS t) ∧ W.there g 0 (33 * n) ∧ Keeps (· = g) w W) (fun a _ _ => n - (intOf a).toNat)
    case atStart => exact ⟨0, _, l, rfl, rfl, by omega, by omega, swapG_zero l, HR.out, HT.out, Keeps.refl _ _⟩
    case round =>
      clear HR HT
      obtain ⟨i, z, t, rfl, rfl, hz, hi, hs, hR, hT, hK⟩ := hrel
      have HS := Lib.hid hs; clear hs
      have HR := Lib.hid hR; clear hR
      have HT := Lib.hid hT; clear hT
      have HK := Lib.hid hK; clear hK
      by_cases hlt : (i : Int) < z
      · obtain ⟨j, hj⟩ : ∃ j : Nat, z = (j : Int) := ⟨z.toNat, by omega⟩
        subst hj
        have hij : i < j := by omega
        have hjn : j = n - 1 - i := by omega
        have HJ := Lib.hid hjn; clear hjn hz
        have htl : t.length = n := by rw [HS.out.1, HN.out]
        have hx := Lib.hid (rangeG_at length_cellsS HR.out (i := i) (by have := HJ.out; omega))
        have hy := Lib.hid (rangeG_at length_cellsS HR.out (i := j) (by have := HJ.out; omega))
        have hgx := Lib.hid (List.getElem?_eq_getElem (l := t) (i := i) (by have := HJ.out; omega))
        have hgy := Lib.hid (List.getElem?_eq_getElem (l := t) (i := j) (by have := HJ.out; omega))
        have HTL := Lib.hid htl
        generalize t[i]'_ = x at *
        generalize t[j]'_ = y at *
        rw [Nat.zero_add] at hx hy
        have hi0 : (0 : Int) ≤ (i : Int) := by omega
        have hin : (i : Int) < (n : Int) := by have := HJ.out; omega
        have hj0 : (0 : Int) ≤ (j : Int) := by omega
        have hjn : (j : Int) < (n : Int) := by have := HJ.out; omega
        clear htl
        go_wp2_with fail
        refine wp_region_sched (fun W => W.rangeAt g (j * 33) (cellsS y)) [.t 0, .t 1, .t 2, .t 3, .t 4, .t 5, .t 6, .t 8, .t 9, .t 10, .s 7, .e 11 true, .t 12, .e 13 false, .t 14, .e 15 false] (by kernel_rfl) (by kernel_rfl) (by intro c a d v w h; cases d <;> exact h) ?_
        iterate 10
          refine wpS_t rfl (v := ?_) (by rfl) (fun W => ?_) ?_
          rotate_left
          · go_simp
            try rfl
          try simp only [Act.put, List.setIfInBounds_toArray, List.set_cons_zero, List.set_cons_succ]
        refine wpS_load_st (by exact hy.out) rfl (by rfl) _ (by rfl) g (j * 33) (by rfl) y (fun W hW => hW) ?_
        try simp only [Act.put, List.setIfInBounds_toArray, List.set_cons_zero, List.set_cons_succ]
        refine wpS_k rfl (by rfl) (fun K hK => ?_)
        refine wp_load_st _ (by rfl) g (i * 33) (by rfl) x (by exact hx.out) ?_
        refine hK _ _ ⟨by exact hy.out, ?_⟩; clear hK K
        try simp only [Act.put, List.setIfInBounds_toArray, List.set_cons_zero, List.set_cons_succ]
        iterate 1
          refine wpS_t rfl (v := ?_) (by rfl) (fun W => ?_) ?_
          rotate_left
          · go_simp
            try rfl
          try simp only [Act.put, List.setIfInBounds_toArray, List.set_cons_zero, List.set_cons_succ]
        refine wpS_e rfl (by rfl) (fun K hK => ?_)
        refine wp_store_st _ _ (by rfl) g (i * 33) y (by rfl) (by rfl) (fun k hk => by have := HT.out (i * 33 + k) (by have := HJ.out; omega); rwa [Nat.zero_add] at this) ?_
        refine hK _ _ ?_; clear hK K
        try simp only [Act.put, List.setIfInBounds_toArray, List.set_cons_zero, List.set_cons_succ]
        have HR1 := Lib.hid (rangeG_set length_cellsS (i := i) (t := t) y (by exact HR.out : wr.drew.rangeAt g 0 (cfA cellsS t)) (by rw [HTL.out]; exact HT.out) (by rw [HTL.out]; have := HJ.out; omega))
        have HT1 := Lib.hid (World.there_setCells (by exact HT.out : wr.drew.there g 0 (33 * n)) g (i * 33) (cellsS y))
        have HK1 := Lib.hid ((HK.out.drew).trans (keeps_setCells_ g (cellsS y) (i * 33) wr.drew))
        rw [Nat.zero_add] at HR1
        generalize wr.drew.setCells g (i * 33) (cellsS y) = w1 at *
        iterate 1
          refine wpS_t rfl (v := ?_) (by rfl) (fun W => ?_) ?_
          rotate_left
          · go_simp
            try rfl
          try simp only [Act.put, List.setIfInBounds_toArray, List.set_cons_zero, List.set_cons_succ]
        refine wpS_e rfl (by rfl) (fun K hK => ?_)
        refine wp_store_st _ _ (by rfl) g (j * 33) x (by rfl) (by rfl) (fun k hk => by have := HT1.out (j * 33 + k) (by have := HJ.out; omega); rwa [Nat.zero_add] at this) ?_
        refine hK _ _ ?_; clear hK K
        try simp only [Act.put, List.setIfInBounds_toArray, List.set_cons_zero, List.set_cons_succ]
        have HR2 := Lib.hid (rangeG_set length_cellsS (i := j) (t := t.set i y) x HR1.out (by rw [List.length_set, HTL.out]; exact HT1.out) (by rw [List.length_set, HTL.out]; have := HJ.out; omega))
        have HT2 := Lib.hid (World.there_setCells HT1.out g (j * 33) (cellsS x))
        have HK2 := Lib.hid (HK1.out.trans (keeps_setCells_ g (cellsS x) (j * 33) w1))
        rw [Nat.zero_add] at HR2
        generalize w1.setCells g (j * 33) (cellsS x) = w2 at *
        have HS2 := Lib.hid (swapG_step HS.out hij (by rw [← HN.out]; exact HJ.out) (by rw [← HN.out]; have := HJ.out; omega) hgx.out hgy.out)
        clear HR HT HK HR1 HT1 HK1 HS hx hy hgx hgy
        refine wpS_done ?_
        go_wp2_with fail
        refine ⟨⟨i + 1, _, _, by simp, rfl, ?_, ?_, HS2.out, HR2.out, HT2.out, HK2.out⟩, by simp [intOf]; omega⟩
        · have := HJ.out; omega
        · omega
      · have hrev : t = l.reverse := swapG_end HS.out (by rw [← HN.out]; omega)
        have HRV := Lib.hid hrev; clear hrev hz
        have hlt' : decide ((i : Int) < z) = false := decide_eq_false hlt
        go_wp2_with fail
        refine bodyPost_end (results_none rfl _ _ _) rfl ⟨rfl, .inr ⟨g, cap, ?_, ?_, ?_, h2, h3, ?_, ?_⟩, HK.out.mono (fun k hk => by rw [hk]; rfl)⟩
        · rw [List.length_reverse, ← HN.out]
        · simpa using h0
        · rw [List.length_reverse, ← HN.out]; exact h1
        · rw [← HRV.out]; exact HR.out
        · rw [List.length_reverse, ← HN.out]; exact HT.out
set_option maxRecDepth 100000 in
set_option maxHeartbeats 1000000 in
theorem reverse_pq (w : World) (base : Nat) (v : Value) (l : List (Sum × Sum)) (h : RowNew cellsQ 64 w base v l) (hl : l.length < 4000000000) : Calls Try.prog 101 #[v] w fun e w' => e = .returned (.tuple #[]) ∧ RowNew cellsQ 64 w' base v l.reverse ∧ Keeps (fun k => v.ownBlock = some k) w w' := by
  rcases h with ⟨rfl, rfl⟩ | ⟨g, cap, rfl, h0, h1, h2, h3, h4, h5⟩
  · go_enter Try.func101, Try.ntmps101
    go_wp2_with fail
    refine wp_loop_once ?_
    go_wp2_with fail
    exact bodyPost_end (results_none rfl _ _ _) rfl ⟨rfl, .inl ⟨rfl, rfl⟩, Keeps.refl _ _⟩
  · obtain ⟨n, hn⟩ : ∃ n, n = l.length := ⟨_, rfl⟩
    rw [← hn] at h1 h5 hl ⊢
    have HN := Lib.hid hn; clear hn
    have HR := Lib.hid h4; clear h4
    have HT := Lib.hid h5; clear h5
    have hn1 : (n : Int) < 4000000000 := by omega
    go_enter Try.func101, Try.ntmps101
    go_wp2_with fail
    go_loopw [2, 3] (fun a b W => ∃ (i : Nat) (z : Int) (t : List (Sum × Sum)), a = .int .i64 (i : Int) ∧ b = .int .i64 z ∧ z = (n : Int) - 1 - i ∧ i ≤ n ∧ swapG l i t ∧ W.rangeAt g 0 (cfA cellsQ t) ∧ W.there g 0 (64 * n) ∧ Keeps (· = g) w W) (fun a _ _ => n - (intOf a).toNat)
    case atStart => exact ⟨0, _, l, rfl, rfl, by omega, by omega, swapG_zero l, HR.out, HT.out, Keeps.refl _ _⟩
    case round =>
      clear HR HT
      obtain ⟨i, z, t, rfl, rfl, hz, hi, hs, hR, hT, hK⟩ := hrel
      have HS := Lib.hid hs; clear hs
      have HR := Lib.hid hR; clear hR
      have HT := Lib.hid hT; clear hT
      have HK := Lib.hid hK; clear hK
      by_cases hlt : (i : Int) < z
      · obtain ⟨j, hj⟩ : ∃ j : Nat, z = (j : Int) := ⟨z.toNat, by omega⟩
        subst hj
        have hij : i < j := by omega
        have hjn : j = n - 1 - i := by omega
        have HJ := Lib.hid hjn; clear hjn hz
        have htl : t.length = n := by rw [HS.out.1, HN.out]
        have hx := Lib.hid (rangeG_at length_cellsQ HR.out (i := i) (by have := HJ.out; omega))
        have hy := Lib.hid (rangeG_at length_cellsQ HR.out (i := j) (by have := HJ.out; omega))
        have hgx := Lib.hid (List.getElem?_eq_getElem (l := t) (i := i) (by have := HJ.out; omega))
        have hgy := Lib.hid (List.getElem?_eq_getElem (l := t) (i := j) (by have := HJ.out; omega))
        have HTL := Lib.hid htl
        generalize t[i]'_ = x at *
        generalize t[j]'_ = y at *
        rw [Nat.zero_add] at hx hy
        have hi0 : (0 : Int) ≤ (i : Int) := by omega
        have hin : (i : Int) < (n : Int) := by have := HJ.out; omega
        have hj0 : (0 : Int) ≤ (j : Int) := by omega
        have hjn : (j : Int) < (n : Int) := by have := HJ.out; omega
        clear htl
        go_wp2_with fail
        refine wp_region_sched (fun W => W.rangeAt g (j * 64) (cellsQ y)) [.t 0, .t 1, .t 2, .t 3, .t 4, .t 5, .t 6, .t 8, .t 9, .t 10, .s 7, .e 11 true, .t 12, .e 13 false, .t 14, .e 15 false] (by kernel_rfl) (by kernel_rfl) (by intro c a d v w h; cases d <;> exact h) ?_
        iterate 10
          refine wpS_t rfl (v := ?_) (by rfl) (fun W => ?_) ?_
          rotate_left
          · go_simp
            try rfl
          try simp only [Act.put, List.setIfInBounds_toArray, List.set_cons_zero, List.set_cons_succ]
        refine wpS_load_pq (by exact hy.out) rfl (by rfl) _ (by rfl) g (j * 64) (by rfl) y (fun W hW => hW) ?_
        try simp only [Act.put, List.setIfInBounds_toArray, List.set_cons_zero, List.set_cons_succ]
        refine wpS_k rfl (by rfl) (fun K hK => ?_)
        refine wp_load_pq _ (by rfl) g (i * 64) (by rfl) x (by exact hx.out) ?_
        refine hK _ _ ⟨by exact hy.out, ?_⟩; clear hK K
        try simp only [Act.put, List.setIfInBounds_toArray, List.set_cons_zero, List.set_cons_succ]
        iterate 1
          refine wpS_t rfl (v := ?_) (by rfl) (fun W => ?_) ?_
          rotate_left
          · go_simp
            try rfl
          try simp only [Act.put, List.setIfInBounds_toArray, List.set_cons_zero, List.set_cons_succ]
        refine wpS_e rfl (by rfl) (fun K hK => ?_)
        refine wp_store_pq _ _ (by rfl) g (i * 64) y (by rfl) (by rfl) (fun k hk => by have := HT.out (i * 64 + k) (by have := HJ.out; omega); rwa [Nat.zero_add] at this) ?_
        refine hK _ _ ?_; clear hK K
        try simp only [Act.put, List.setIfInBounds_toArray, List.set_cons_zero, List.set_cons_succ]
        have HR1 := Lib.hid (rangeG_set length_cellsQ (i := i) (t := t) y (by exact HR.out : wr.drew.rangeAt g 0 (cfA cellsQ t)) (by rw [HTL.out]; exact HT.out) (by rw [HTL.out]; have := HJ.out; omega))
        have HT1 := Lib.hid (World.there_setCells (by exact HT.out : wr.drew.there g 0 (64 * n)) g (i * 64) (cellsQ y))
        have HK1 := Lib.hid ((HK.out.drew).trans (keeps_setCells_ g (cellsQ y) (i * 64) wr.drew))
        rw [Nat.zero_add] at HR1
        generalize wr.drew.setCells g (i * 64) (cellsQ y) = w1 at *
        iterate 1
          refine wpS_t rfl (v := ?_) (by rfl) (fun W => ?_) ?_
          rotate_left
          · go_simp
            try rfl
          try simp only [Act.put, List.setIfInBounds_toArray, List.set_cons_zero, List.set_cons_succ]
        refine wpS_e rfl (by rfl) (fun K hK => ?_)
        refine wp_store_pq _ _ (by rfl) g (j * 64) x (by rfl) (by rfl) (fun k hk => by have := HT1.out (j * 64 + k) (by have := HJ.out; omega); rwa [Nat.zero_add] at this) ?_
        refine hK _ _ ?_; clear hK K
        try simp only [Act.put, List.setIfInBounds_toArray, List.set_cons_zero, List.set_cons_succ]
        have HR2 := Lib.hid (rangeG_set length_cellsQ (i := j) (t := t.set i y) x HR1.out (by rw [List.length_set, HTL.out]; exact HT1.out) (by rw [List.length_set, HTL.out]; have := HJ.out; omega))
        have HT2 := Lib.hid (World.there_setCells HT1.out g (j * 64) (cellsQ x))
        have HK2 := Lib.hid (HK1.out.trans (keeps_setCells_ g (cellsQ x) (j * 64) w1))
        rw [Nat.zero_add] at HR2
        generalize w1.setCells g (j * 64) (cellsQ x) = w2 at *
        have HS2 := Lib.hid (swapG_step HS.out hij (by rw [← HN.out]; exact HJ.out) (by rw [← HN.out]; have := HJ.out; omega) hgx.out hgy.out)
        clear HR HT HK HR1 HT1 HK1 HS hx hy hgx hgy
        refine wpS_done ?_
        go_wp2_with fail
        refine ⟨⟨i + 1, _, _, by simp, rfl, ?_, ?_, HS2.out, HR2.out, HT2.out, HK2.out⟩, by simp [intOf]; omega⟩
        · have := HJ.out; omega
        · omega
      · have hrev : t = l.reverse := swapG_end HS.out (by rw [← HN.out]; omega)
        have HRV := Lib.hid hrev; clear hrev hz
        have hlt' : decide ((i : Int) < z) = false := decide_eq_false hlt
        go_wp2_with fail
        refine bodyPost_end (results_none rfl _ _ _) rfl ⟨rfl, .inr ⟨g, cap, ?_, ?_, ?_, h2, h3, ?_, ?_⟩, HK.out.mono (fun k hk => by rw [hk]; rfl)⟩
        · rw [List.length_reverse, ← HN.out]
        · simpa using h0
        · rw [List.length_reverse, ← HN.out]; exact h1
        · rw [← HRV.out]; exact HR.out
        · rw [List.length_reverse, ← HN.out]; exact HT.out
end Go.Proofs.Ytdkcndgehgmadaa
-- Walks: clashes.up.
open Go Go.RowKit Alm
namespace Go.Proofs.Ytdkcndgehgmadaa
theorem wpList_var_st {ops : Array Oper} {rest : List Oper} {op : Oper} {a : Act} {w : World} {C : Array Value} {t : TypeId} {Q : Exit → Act → World → Prop} (hC : C.size = 33) (hgd : op.guard = none) (x y : Operand) (ho : op.op = .store 135 x y)
    (s : Bool × Sum) (hx : a.eval x = .pointer (some ⟨w.heap.size, 0, none⟩)) (hy : a.eval y = .agg (cellsS s).toArray)
    (h : ∀ W' z, z = w.heap.size → Below w.heap.size w W' → W'.rangeAt z 0 (cellsS s) → W'.there z 0 33 → z < W'.heap.size → wpList Try.prog ops Q rest (a.put op.dst undef) W') : wpList Try.prog ops Q (op :: rest) a (w.alloc (.cells C t)) := by
  have ht : (w.alloc (.cells C t)).there w.heap.size 0 33 := by rw [← hC]; exact there_new _ _ _
  have ht2 := World.there_setCells ht w.heap.size 0 (cellsS s)
  refine wpList_store_st hgd x y ho w.heap.size 0 s hx hy ht (h _ _ rfl (setCells_below _ (Nat.le_refl _) _ 0 _ _ (al (Below.refl _ _) _)) (range_stored _ _ _ _ (by rw [length_cellsS]; exact ht2)) ht2 (there_lt ht2 (by omega)))
theorem wpList_var_pq {ops : Array Oper} {rest : List Oper} {op : Oper} {a : Act} {w : World} {C : Array Value} {t : TypeId} {Q : Exit → Act → World → Prop} (hC : C.size = 64) (hgd : op.guard = none) (x y : Operand) (ho : op.op = .store 132 x y)
    (s : Sum × Sum) (hx : a.eval x = .pointer (some ⟨w.heap.size, 0, none⟩)) (hy : a.eval y = .agg (cellsQ s).toArray)
    (h : ∀ W' z, z = w.heap.size → Below w.heap.size w W' → W'.rangeAt z 0 (cellsQ s) → W'.there z 0 64 → z < W'.heap.size → wpList Try.prog ops Q rest (a.put op.dst undef) W') : wpList Try.prog ops Q (op :: rest) a (w.alloc (.cells C t)) := by
  have ht : (w.alloc (.cells C t)).there w.heap.size 0 64 := by rw [← hC]; exact there_new _ _ _
  have ht2 := World.there_setCells ht w.heap.size 0 (cellsQ s)
  refine wpList_store_pq hgd x y ho w.heap.size 0 s hx hy ht (h _ _ rfl (setCells_below _ (Nat.le_refl _) _ 0 _ _ (al (Below.refl _ _) _)) (range_stored _ _ _ _ (by rw [length_cellsQ]; exact ht2)) ht2 (there_lt ht2 (by omega)))

def zST : Array Value := #[.bool false] ++ Array.replicate 32 (.int .u8 0)
theorem run_alloc_st (w : World) : (Instr.alloc 135 true (.tuple #[])).run Try.prog w = .ok (.pointer (some ⟨w.heap.size, 0, none⟩)) (w.alloc (.cells zST 135)) := by kernel_rfl
theorem wpList_alloc_st {ops : Array Oper} {rest : List Oper} {op : Oper} {a : Act} {w : World} {Q : Exit → Act → World → Prop} (hgd : op.guard = none) (ho : op.op = .alloc 135)
    (h : wpList Try.prog ops Q rest (a.put op.dst (.pointer (some ⟨w.heap.size, 0, none⟩))) (w.alloc (.cells zST 135))) : wpList Try.prog ops Q (op :: rest) a w :=
  wpList_plain hgd fun _ hK => by
    unfold Oper.wp execOp
    simp only [ho, Sem.run_bind, Sem.run_pure, Result.andThen_ok, run_alloc_st]
    exact hK _ _ h
def zPQ : Array Value := Array.replicate 64 (.int .u8 0)
theorem run_alloc_pq (w : World) : (Instr.alloc 132 true (.tuple #[])).run Try.prog w = .ok (.pointer (some ⟨w.heap.size, 0, none⟩)) (w.alloc (.cells zPQ 132)) := by kernel_rfl
theorem wpList_alloc_pq {ops : Array Oper} {rest : List Oper} {op : Oper} {a : Act} {w : World} {Q : Exit → Act → World → Prop} (hgd : op.guard = none) (ho : op.op = .alloc 132)
    (h : wpList Try.prog ops Q rest (a.put op.dst (.pointer (some ⟨w.heap.size, 0, none⟩))) (w.alloc (.cells zPQ 132))) : wpList Try.prog ops Q (op :: rest) a w :=
  wpList_plain hgd fun _ hK => by
    unfold Oper.wp execOp
    simp only [ho, Sem.run_bind, Sem.run_pure, Result.andThen_ok, run_alloc_pq]
    exact hK _ _ h
theorem wpList_build_pq {ops : Array Oper} {rest : List Oper} {op : Oper} {a : Act} {w : World} {Q : Exit → Act → World → Prop} (hgd : op.guard = none) (parts : Array (Nat × Operand)) (ho : op.op = .build 132 parts) (x y : Sum)
    (hp : (parts.toList.map fun (i, x) => (i, a.eval x)) = [(0, sv x), (1, sv y)]) (h : wpList Try.prog ops Q rest (a.put op.dst (pqv (x, y))) w) : wpList Try.prog ops Q (op :: rest) a w :=
  wpList_plain hgd fun _ hK => by
    unfold Oper.wp
    rw [exec_build_pair parts ho x y hp w]
    exact hK _ _ h
/-- Where 'up' stands. -/
structure UpIn (w W : World) (z : Nat) (cur : Sum) (out : Value) (done : List (Sum × Sum)) : Prop where
  r : W.rangeAt z 0 (cellsOf cur)
  t : W.there z 0 32
  o : W.ownsRow (w.heap.size + 1) 132 64 out done.length (cfA cellsQ done)
  n : done = [] → out = .slice none 0 0
  b : Below w.heap.size w W
  s : w.heap.size + 1 ≤ W.heap.size
theorem UpIn.below {w W W' : World} {z : Nat} {cur : Sum} {out : Value} {done : List (Sum × Sum)} (h : UpIn w W z cur out done) (hb : Below W.heap.size W W') : UpIn w W' z cur out done := by
  have hk := Keeps.of_below (X := fun _ => False) hb
  exact ⟨hk.range h.r (fun h => h), hk.there h.t (by omega) (fun h => h), hk.owns h.o (fun _ _ h => h), h.n, h.b.trans (hb.mono h.b.size), Nat.le_trans h.s hb.size⟩
theorem UpIn.apart {w W : World} {z : Nat} {cur : Sum} {out : Value} {done : List (Sum × Sum)} (h : UpIn w W z cur out done) {k : Nat} (hk : out.ownBlock = some k) : w.heap.size + 1 ≤ k ∧ k < W.heap.size := h.o.lt k hk
theorem UpIn.grown {w W W' : World} {z n g cap : Nat} {cur : Sum} {out : Value} {done : List (Sum × Sum)} {p : Sum × Sum} (h : UpIn w W z cur out done) (hz : z = w.heap.size) (hg : W.grownBy W' out.ownBlock)
    (ho : W'.ownsRow (w.heap.size + 1) 132 64 (.slice (some ⟨g, 0, none⟩) (n + 1) cap) (n + 1) (cfA cellsQ (done ++ [p]))) (hn : done.length = n) : UpIn w W' z cur (.slice (some ⟨g, 0, none⟩) (n + 1) cap) (done ++ [p]) := by
  have hk : Keeps (fun k => out.ownBlock = some k) W W' := Keeps.of_grown hg (fun k h => h)
  have hx : ¬ out.ownBlock = some z := fun e => by have := h.apart e; omega
  refine ⟨hk.range h.r hx, hk.there h.t (by omega) hx, ?_, fun e => by simp at e, h.b.trans (hk.below h.b.size (fun k e => by have := h.apart e; omega)), Nat.le_trans h.s hk.size⟩
  rw [List.length_append, hn]
  exact ho
theorem UpIn.store {w W : World} {z : Nat} {cur : Sum} {out : Value} {done : List (Sum × Sum)} (h : UpIn w W z cur out done) (hz : z = w.heap.size) (s : Sum) : UpIn w (W.setCells z 0 (cellsOf s)) z s out done := by
  have ht := World.there_setCells h.t z 0 (cellsOf s)
  have hk := keeps_setCells_ z (cellsOf s) 0 W
  exact ⟨range_stored _ _ _ _ (by rw [length_cellsOf]; exact ht), ht, hk.owns h.o (fun k e => by have := h.apart e; omega), h.n, setCells_below _ (by omega) _ _ _ _ h.b, Nat.le_trans h.s hk.size⟩
set_option maxRecDepth 100000 in
set_option maxHeartbeats 2000000 in
theorem up_any (a : Sum) (T : List (Bool × Sum)) (base : Nat) (v : Value) (w : World) (hv : RowNew cellsS 33 w base v T) (hn : T.length < 1000000) : Calls Try.prog 100 #[sv a, v] w fun e w' => ∃ u, e = .returned u ∧ RowNew cellsQ 64 w' (w.heap.size + 1) u (upM a T) ∧ Below w.heap.size w w' := by
  have HV := Lib.hid hv
  have hv' : ∃ ad c, v = .slice ad T.length c := by
    rcases hv with ⟨rfl, rfl⟩ | ⟨g, cap, rfl, _⟩
    · exact ⟨none, 0, rfl⟩
    · exact ⟨_, cap, rfl⟩
  clear hv
  obtain ⟨ad, cp, rfl⟩ := hv'
  obtain ⟨n, hnl⟩ : ∃ n, n = T.length := ⟨_, rfl⟩
  rw [← hnl] at HV hn ⊢
  have HN := Lib.hid hnl; clear hnl
  have hn63 : (n : Int) < 1000000 := by omega
  have hb0 := al (Below.refl _ w) (.cells (cellsOf a).toArray 24)
  have hS : UpIn w (w.alloc (.cells (cellsOf a).toArray 24)) w.heap.size a (.slice none 0 0) [] := ⟨range_new w _ _ _ rfl, by have := there_new w (cellsOf a).toArray 24; rwa [size_cellsOf] at this, World.ownsRow_nil _ _ _ _, fun _ => rfl, hb0, by rw [World.size_alloc]; omega⟩
  have HS := Lib.hid hS
  clear hS hb0
  obtain ⟨U, hU⟩ : ∃ U, U = upM a T := ⟨_, rfl⟩
  rw [← hU]
  have HU := Lib.hid hU; clear hU
  go_enter Try.func100, Try.ntmps100
  go_wp2_with fail
  obtain ⟨z, hz⟩ : ∃ z, z = w.heap.size := ⟨_, rfl⟩
  have HZ := Lib.hid hz
  rw [← hz] at HS ⊢
  have HS0 : Hid (UpIn w (w.alloc (.cells (cellsOf a).toArray 24)) z a (.slice none 0 0) []) := Lib.hid HS.out
  clear HS
  have HB0 : Hid (Below w.heap.size w (w.alloc (.cells (cellsOf a).toArray 24))) := Lib.hid HS0.out.b
  generalize w.alloc (.cells (cellsOf a).toArray 24) = W0 at *
  rw [hz]
  rw [← hz]
  clear hz
  go_loopw [5, 11] (fun out i W => ∃ (j : Nat) (cur : Sum) (done : List (Sum × Sum)), j ≤ n ∧ i = .int .i64 (j : Int) ∧ done.length = j ∧ U = done ++ upM cur (T.drop j) ∧ UpIn w W z cur out done) (fun _ i _ => n - (intOf i).toNat)
  case atStart => exact ⟨0, a, [], by omega, rfl, rfl, by rw [HU.out]; rfl, HS0.out⟩
  case round =>
    obtain ⟨j, cur, done, hj, rfl, hd, hU1, hI⟩ := hrel
    have HI := Lib.hid hI; clear hI
    have HU1 := Lib.hid hU1; clear hU1
    have HDL := Lib.hid hd; clear hd
    by_cases hlt : j < n
    · have hlt' : (j : Int) < (n : Int) := by omega
      have hj0 : (0 : Int) ≤ (j : Int) := by omega
      have hjl : j < T.length := by have := HN.out; omega
      have hdr : T.drop j = T[j] :: T.drop (j + 1) := List.drop_eq_getElem_cons hjl
      have hrow : ∃ g, ad = some ⟨g, 0, none⟩ ∧ w.rangeAt g 0 (cfA cellsS T) := by
        rcases HV.out with ⟨h1, h2⟩ | ⟨g, cap, h1, _, _, _, _, h4, _⟩
        · rw [h2] at hjl; simp at hjl
        · simp only [Value.slice.injEq] at h1
          exact ⟨g, h1.1, h4⟩
      obtain ⟨g, rfl, hrg⟩ := hrow
      have hst := rangeG_at length_cellsS hrg hjl
      have HST := Lib.hid ((Keeps.of_below (X := fun _ => False) ((Below.refl w.heap.size w).trans (HI.out.b))).range hst (fun h => h))
      have HDR := Lib.hid hdr
      clear hst hrg hdr
      generalize T[j] = s at *
      clear hjl
      rw [Nat.zero_add] at HST
      obtain ⟨b, x⟩ := s
      cases b
      · have hmk : mkP (false, x) cur = (x, cur) := rfl
        go_wp2_with (first
          | (refine wpList_load_st rfl _ rfl g (j * 33) rfl (false, x) HST.out ?_)
          | (refine wpList_alloc_st rfl rfl ?_; refine wpList_var_st (by rfl) rfl _ _ rfl (false, x) rfl rfl ?_; intro W1 z7 hz7 hb1 hr1 _ hlt1; have HW1 := Lib.hid (And.intro (HI.out.below hb1) hr1); rw [← hz7]; clear hz7 hb1 hr1 hlt1 HST HI)
          | (refine wpList_load_sum rfl _ rfl z7 1 rfl x (fieldS (false, x) z7 W1 HW1.out.2).2 ?_)
          | (refine wpList_load_sum rfl _ rfl z 0 rfl cur HW1.out.1.r ?_)
          | (refine wpList_build_pq rfl _ rfl x cur (by rfl) ?_)
          | (refine wpList_alloc_pq rfl rfl ?_; refine wpList_var_pq (by rfl) rfl _ _ rfl (x, cur) rfl rfl ?_; intro W2 z8 hz8 hb2 hr2 ht2 hlt2; have HW2 := Lib.hid (And.intro (HW1.out.1.below hb2) (And.intro ((Keeps.of_below (X := fun _ => False) hb2).range HW1.out.2 (fun h => h)) (And.intro hr2 (And.intro ht2 (And.intro hz8 (And.intro hb2 hlt2)))))); have e0 : W2.cell? ⟨z7, 0, none⟩ = some (.bool false) := (fieldS (false, x) z7 W2 HW2.out.2.1).1; rw [← hz8]; clear hz8 hb2 hr2 ht2 hlt2)
          | (refine wpList_load_pq rfl _ rfl z8 0 rfl (x, cur) HW2.out.2.2.1 ?_; refine wpList_lit_pq rfl _ rfl (x, cur) rfl ?_; have HL := Lib.hid (And.intro (HW2.out.1.below (al (Below.refl _ _) (.cells (cellsQ (x, cur)).toArray 132))) (And.intro (range_new W2 _ _ _ rfl : (W2.alloc (.cells (cellsQ (x, cur)).toArray 132)).rangeAt W2.heap.size 0 (cellsQ (x, cur))) ((Keeps.of_below (X := fun _ => False) (al (Below.refl W2.heap.size W2) (.cells (cellsQ (x, cur)).toArray 132))).range HW2.out.2.2.1 (fun h => h)))); generalize W2.alloc (.cells (cellsQ (x, cur)).toArray 132) = W4 at *; generalize W2.heap.size = z9 at *)
          | (at_builtin; refine wpList_append_pq rfl _ _ rfl (w.heap.size + 1) _ done (x, cur) j HDL.out rfl (by have := HL.out.1.o; rw [HDL.out] at this; exact this) z9 0 1 rfl HL.out.2.1 (by omega) HL.out.1.s ?_; intro g4 c4 w4 ho4 hg4 _ _; have HW5 := Lib.hid (And.intro (HL.out.1.grown HZ.out hg4 ho4 HDL.out) (show w4.rangeAt z8 0 (cellsQ (x, cur)) from (Keeps.of_grown (X := fun k => u5.ownBlock = some k) hg4 (fun k h => h)).range HL.out.2.2 (fun e => by have := (HW1.out.1.apart e).2; have := HW2.out.2.2.2.2.1; omega))); clear ho4 hg4)
          | (have _ := HW5; refine wpList_load_sum rfl _ rfl z8 0 rfl _ (rangeQ_left HW5.out.2).1 ?_)
          | (have _ := HW5; refine wpList_load_sum rfl _ rfl z8 32 rfl _ (rangeQ_left HW5.out.2).2 ?_)
          | (go_at_call 34; refine (nd_any _ _ _).mono ?_; rintro e5 w5 ⟨rfl, hb5⟩; have HW6 := Lib.hid (HW5.out.1.below hb5); clear hb5)
          | (refine wpList_store_sum rfl _ _ rfl z 0 (nd ((x, cur)).1 ((x, cur)).2) rfl rfl HW6.out.t ?_; have HW7 := Lib.hid (HW6.out.store HZ.out (nd ((x, cur)).1 ((x, cur)).2))))
        refine ⟨⟨j + 1, _, done ++ [(x, cur)], by omega, by simp, by simp [HDL.out], ?_, HW7.out⟩, by simp [intOf]; omega⟩
        rw [HU1.out, HDR.out, upM, hmk, List.append_assoc]; rfl
      · have hmk : mkP (true, x) cur = (cur, x) := rfl
        go_wp2_with (first
          | (refine wpList_load_st rfl _ rfl g (j * 33) rfl (true, x) HST.out ?_)
          | (refine wpList_alloc_st rfl rfl ?_; refine wpList_var_st (by rfl) rfl _ _ rfl (true, x) rfl rfl ?_; intro W1 z7 hz7 hb1 hr1 _ hlt1; have HW1 := Lib.hid (And.intro (HI.out.below hb1) hr1); rw [← hz7]; clear hz7 hb1 hr1 hlt1 HST HI)
          | (refine wpList_load_sum rfl _ rfl z7 1 rfl x (fieldS (true, x) z7 W1 HW1.out.2).2 ?_)
          | (refine wpList_load_sum rfl _ rfl z 0 rfl cur HW1.out.1.r ?_)
          | (refine wpList_build_pq rfl _ rfl x cur (by rfl) ?_)
          | (refine wpList_alloc_pq rfl rfl ?_; refine wpList_var_pq (by rfl) rfl _ _ rfl (x, cur) rfl rfl ?_; intro W2 z8 hz8 hb2 hr2 ht2 hlt2; have HW2 := Lib.hid (And.intro (HW1.out.1.below hb2) (And.intro ((Keeps.of_below (X := fun _ => False) hb2).range HW1.out.2 (fun h => h)) (And.intro hr2 (And.intro ht2 (And.intro hz8 (And.intro hb2 hlt2)))))); have e0 : W2.cell? ⟨z7, 0, none⟩ = some (.bool true) := (fieldS (true, x) z7 W2 HW2.out.2.1).1; rw [← hz8]; clear hz8 hb2 hr2 ht2 hlt2)
          | (have _ := e0; refine wpList_load_sum rfl _ rfl z 0 rfl cur HW2.out.1.r ?_)
          | (have _ := e0; refine wpList_load_sum rfl _ rfl z7 1 rfl x (fieldS (true, x) z7 W2 HW2.out.2.1).2 ?_)
          | (have _ := e0; refine wpList_build_pq rfl _ rfl cur x (by rfl) ?_)
          | (refine wpList_store_pq rfl _ _ rfl z8 0 (cur, x) rfl rfl HW2.out.2.2.2.1 ?_; have HW3 := Lib.hid (show UpIn w (W2.setCells z8 0 (cellsQ (cur, x))) z cur u5 done ∧ (W2.setCells z8 0 (cellsQ (cur, x))).rangeAt z8 0 (cellsQ (cur, x)) from And.intro (HW1.out.1.below (setCells_below _ (by rw [HW2.out.2.2.2.2.1]; exact Nat.le_refl _) _ _ _ _ HW2.out.2.2.2.2.2.1)) (range_stored _ _ _ _ (by rw [length_cellsQ]; exact World.there_setCells HW2.out.2.2.2.1 _ _ _))); generalize W2.setCells z8 0 (cellsQ (cur, x)) = W3 at *; clear e0)
          | (refine wpList_load_pq rfl _ rfl z8 0 rfl (cur, x) HW3.out.2 ?_; refine wpList_lit_pq rfl _ rfl (cur, x) rfl ?_; have HL := Lib.hid (And.intro (HW3.out.1.below (al (Below.refl _ _) (.cells (cellsQ (cur, x)).toArray 132))) (And.intro (range_new W3 _ _ _ rfl : (W3.alloc (.cells (cellsQ (cur, x)).toArray 132)).rangeAt W3.heap.size 0 (cellsQ (cur, x))) ((Keeps.of_below (X := fun _ => False) (al (Below.refl W3.heap.size W3) (.cells (cellsQ (cur, x)).toArray 132))).range HW3.out.2 (fun h => h)))); generalize W3.alloc (.cells (cellsQ (cur, x)).toArray 132) = W4 at *; generalize W3.heap.size = z9 at *)
          | (at_builtin; refine wpList_append_pq rfl _ _ rfl (w.heap.size + 1) _ done (cur, x) j HDL.out rfl (by have := HL.out.1.o; rw [HDL.out] at this; exact this) z9 0 1 rfl HL.out.2.1 (by omega) HL.out.1.s ?_; intro g4 c4 w4 ho4 hg4 _ _; have HW5 := Lib.hid (And.intro (HL.out.1.grown HZ.out hg4 ho4 HDL.out) (show w4.rangeAt z8 0 (cellsQ (cur, x)) from (Keeps.of_grown (X := fun k => u5.ownBlock = some k) hg4 (fun k h => h)).range HL.out.2.2 (fun e => by have := (HW1.out.1.apart e).2; have := HW2.out.2.2.2.2.1; omega))); clear ho4 hg4)
          | (have _ := HW5; refine wpList_load_sum rfl _ rfl z8 0 rfl _ (rangeQ_left HW5.out.2).1 ?_)
          | (have _ := HW5; refine wpList_load_sum rfl _ rfl z8 32 rfl _ (rangeQ_left HW5.out.2).2 ?_)
          | (go_at_call 34; refine (nd_any _ _ _).mono ?_; rintro e5 w5 ⟨rfl, hb5⟩; have HW6 := Lib.hid (HW5.out.1.below hb5); clear hb5)
          | (refine wpList_store_sum rfl _ _ rfl z 0 (nd ((cur, x)).1 ((cur, x)).2) rfl rfl HW6.out.t ?_; have HW7 := Lib.hid (HW6.out.store HZ.out (nd ((cur, x)).1 ((cur, x)).2))))
        refine ⟨⟨j + 1, _, done ++ [(cur, x)], by omega, by simp, by simp [HDL.out], ?_, HW7.out⟩, by simp [intOf]; omega⟩
        rw [HU1.out, HDR.out, upM, hmk, List.append_assoc]; rfl
    · have hjn : j = n := by omega
      subst hjn
      have hU9 : U = done := by rw [HU1.out, List.drop_of_length_le (by rw [← HN.out]; exact Nat.le_refl _)]; simp [upM]
      have ho := HI.out.o
      have HRN := Lib.hid (rowG_new length_cellsQ ho HI.out.n)
      rw [← hU9] at HRN
      go_wp2_with fail
      refine bodyPost_ret (results_tmp rfl _ _ _) rfl ?_
      exact ⟨_, rfl, HRN.out, HI.out.b⟩
end Go.Proofs.Ytdkcndgehgmadaa
-- Plain law: where a path's way down stands. Walk: clashes.finds where the way writes its variables.
open Go Go.RowKit Alm
namespace Go.Proofs.Ytdkcndgehgmadaa
structure PathSt (a : Sum) (l : List (List UInt8)) (m : Nat) (p : List Sum) (lj : List (List UInt8)) (mj : Nat) (q : List Sum) (T : List (Bool × Sum)) (th : List (Sum × Sum)) : Prop where
  py : ∃ y, leads nd a mj lj.length q.reverse = some (y, []) ∧ sd l = valT y T
  pd : Down l lj T th
  pq : ∃ r, p.reverse = r ++ q
  pm : mj < lj.length
  pe : lj[mj]? = l[m]?
  pz : ∀ x ∈ lj, x ∈ l
  pn : lj.length ≤ l.length
theorem PathSt.start {a : Sum} {l : List (List UInt8)} {m : Nat} {p : List Sum} (h : pathBe a m l.length p (sd l) = true) : PathSt a l m p l m p.reverse [] [] := by
  unfold pathBe at h
  rw [Bool.and_eq_true] at h
  have h1 := of_decide_eq_true h.1
  have h2 := h.2
  rcases hr : leads nd a m l.length p with _ | ⟨s, _ | ⟨x, t⟩⟩
  · rw [hr] at h2; cases h2
  · rw [hr] at h2
    exact ⟨⟨s, by rw [List.reverse_reverse]; exact hr, (of_decide_eq_true h2).symm⟩, .nil _, ⟨[], rfl⟩, h1, rfl, fun _ h => h, Nat.le_refl _⟩
  · rw [hr] at h2; cases h2
theorem PathSt.step {a : Sum} {l : List (List UInt8)} {m : Nat} {p : List Sum} {lj : List (List UInt8)} {mj : Nat} {q : List Sum} {T : List (Bool × Sum)} {th : List (Sum × Sum)} (h : PathSt a l m p lj mj q T th) (h2 : 2 ≤ lj.length) :
    ∃ x r, q = x :: r ∧ p[r.length]? = some x ∧ r.length < p.length ∧
      (mj < cut lj.length → PathSt a l m p (lj.take (cut lj.length)) mj r (T ++ [(true, x)]) (th ++ [(sd (lj.take (cut lj.length)), sd (lj.drop (cut lj.length)))])) ∧
      (¬ mj < cut lj.length → PathSt a l m p (lj.drop (cut lj.length)) (mj - cut lj.length) r (T ++ [(false, x)]) (th ++ [(sd (lj.take (cut lj.length)), sd (lj.drop (cut lj.length)))])) := by
  obtain ⟨y, hy, hv⟩ := h.py
  obtain ⟨x, r, z, hq, hyz, hl⟩ := path_down a mj lj.length q y (by omega) hy
  have hc := cut_lt (n := lj.length) (by omega)
  have hp := cut_pos lj.length
  obtain ⟨rr, hr⟩ := h.pq
  have hpx : p = r.reverse ++ x :: rr.reverse := by
    have := congrArg List.reverse hr
    rw [List.reverse_reverse, hq] at this
    rw [this]; simp
  have hr2 : p.reverse = (rr ++ [x]) ++ r := by rw [hr, hq]; simp
  refine ⟨x, r, hq, ?_, by rw [hpx]; simp, fun hm => ?_, fun hm => ?_⟩
  · rw [hpx, List.getElem?_append_right (by simp)]; simp
  · rw [if_pos hm, if_pos hm] at hl
    have hlen : (lj.take (cut lj.length)).length = cut lj.length := by rw [List.length_take]; omega
    refine ⟨⟨z, by rw [hlen]; exact hl, ?_⟩, h.pd.snocL x h2, ⟨_, hr2⟩, by rw [hlen]; exact hm, ?_, fun x hx => h.pz x (List.mem_of_mem_take hx), by rw [hlen]; have := h.pn; omega⟩
    · rw [valT_snoc, hv, hyz, decide_eq_true hm]
    · rw [List.getElem?_take_of_lt hm]; exact h.pe
  · rw [if_neg hm, if_neg hm] at hl
    have hlen : (lj.drop (cut lj.length)).length = lj.length - cut lj.length := List.length_drop
    have hmj := h.pm
    refine ⟨⟨z, by rw [hlen]; exact hl, ?_⟩, h.pd.snocR x h2, ⟨_, hr2⟩, by rw [hlen]; omega, ?_, fun x hx => h.pz x (List.mem_of_mem_drop hx), by rw [hlen]; have := h.pn; omega⟩
    · rw [valT_snoc, hv, hyz, decide_eq_false hm]
    · rw [List.getElem?_drop, Nat.add_sub_cancel' (by omega)]; exact h.pe
theorem PathSt.fin {a : Sum} {l : List (List UInt8)} {m : Nat} {p : List Sum} {lj : List (List UInt8)} {mj : Nat} {q : List Sum} {T : List (Bool × Sum)} {th : List (Sum × Sum)} (h : PathSt a l m p lj mj q T th) (h2 : lj.length ≤ 1) :
    q = [] ∧ Side a lj T th ∧ ∃ x, lj = [x] ∧ l[m]? = some x := by
  obtain ⟨y, hy, hv⟩ := h.py
  rw [leads, dif_pos h2] at hy
  obtain ⟨rfl, hq⟩ := Prod.mk.inj (Option.some.inj hy)
  have hm := h.pm
  obtain ⟨x, hx⟩ : ∃ x, lj = [x] := List.length_eq_one_iff.1 (by omega)
  refine ⟨by simpa using hq, ⟨l, h.pd, hv⟩, x, hx, ?_⟩
  have he := h.pe
  have h0 : mj = 0 := by omega
  rw [hx, h0] at he
  exact he.symm
theorem Down.short {l l' T th} (h : Down l l' T th) : th.length ≤ l.length := by
  induction h with
  | nil => exact Nat.zero_le _
  | left l l' x T th h2 _ ih => have := cut_lt (n := l.length) (by omega); rw [List.length_take] at ih; simp; omega
  | right l l' x T th h2 _ ih => have := cut_pos l.length; rw [List.length_drop] at ih; simp; omega
/-- A clash that panics where some variables were written; what finds tells of it. -/
def ClashK (X : Nat → Prop) (w : World) (e : Ending) (w' : World) : Prop := ∃ va vb A B, e = .panicked (panC va vb) ∧ BytesAt w' va A ∧ BytesAt w' vb B ∧ isB A B = true ∧ A.length < 1000000 ∧ B.length < 1000000 ∧ Keeps X w w'
def FoundK (X : Nat → Prop) (w : World) (e : Ending) (w' : World) : Prop := ∃ va vb A B, e = .returned (.tuple #[cv va vb, .bool true]) ∧ BytesAt w' va A ∧ BytesAt w' vb B ∧ isB A B = true ∧ A.length < 1000000 ∧ B.length < 1000000 ∧ Keeps X w w'
theorem ClashOf.k {X : Nat → Prop} {w0 w w' : World} {e : Ending} (h : ClashOf w e w') (hk : Keeps X w0 w) : ClashK X w0 e w' := by
  obtain ⟨va, vb, A, B, h1, h2, h3, h4, h5, h6, h7⟩ := h
  exact ⟨va, vb, A, B, h1, h2, h3, h4, h5, h6, hk.trans (Keeps.of_below h7)⟩
set_option maxRecDepth 100000 in
set_option maxHeartbeats 1000000 in
theorem finds_keeps (X : Nat → Prop) (fn : FuncId) (cap : Array Value) (w : World) (hX : ∀ k, X k → k < w.heap.size) (hrun : ∀ W, (callFunc fn cap).run Try.prog W = .ok (.enter fn cap) W) (hway : ∀ W, Below w.heap.size w W → Calls Try.prog fn cap W (ClashK X W)) : Calls Try.prog 93 #[.func (.func fn) #[] cap] w (FoundK X w) := by
  have hmf : ∀ (fn : Fn) (first cap : Array Value) (w : World), (Instr.makeFunc fn first cap).run Try.prog w = .ok (.func fn first cap) w := fun _ _ _ _ => rfl
  have HWAY := Lib.hid hway; clear hway
  have HX := Lib.hid hX; clear hX
  have hbw := al (al (Below.refl _ w) (.cells #[.slice none 0 0, .slice none 0 0] 75)) (.cells #[.bool false] 4)
  have HB := Lib.hid hbw
  have HH := Lib.hid (two_rows w (.cells #[.slice none 0 0, .slice none 0 0] 75) (.cells #[.bool false] 4))
  clear hbw
  go_enter_defers Try.func93, Try.ntmps93
  go_wp2_with fail
  obtain ⟨z, hz⟩ : ∃ z, z = w.heap.size := ⟨_, rfl⟩
  have HZ := Lib.hid hz
  rw [← hz] at HH ⊢
  clear hz
  generalize (w.alloc (.cells #[.slice none 0 0, .slice none 0 0] 75)).alloc (.cells #[.bool false] 4) = W at *
  refine (HWAY.out W HB.out).mono ?_
  rintro e W1 ⟨va, vb, A, B, rfl, hA, hB, hI, hla, hlb, hk⟩
  have hc := hk.heap HH.out.1 (fun h => by have := HX.out _ h; have := HZ.out; omega)
  have hf := hk.heap HH.out.2 (fun h => by have := HX.out _ h; have := HZ.out; omega)
  have hk0 : Keeps X w W1 := (Keeps.of_below HB.out).trans hk
  have HP := Lib.hid (And.intro hA (And.intro hB (And.intro hI (And.intro hla (And.intro hlb hk0)))))
  clear hA hB hI hla hlb hk hk0
  have hva : ∃ a n c, va = .slice a n c := by obtain ⟨a, c, h, _⟩ := HP.out.1; exact ⟨a, _, c, h⟩
  have hvb : ∃ a n c, vb = .slice a n c := by obtain ⟨a, c, h, _⟩ := HP.out.2.1; exact ⟨a, _, c, h⟩
  obtain ⟨a1, n1, c1, hva⟩ := hva
  obtain ⟨a2, n2, c2, hvb⟩ := hvb
  change bodyPostD _ _ _ (.panic (panC va vb)) _ W1
  refine leaves_cons (f := 116) (args := #[.pointer (some ⟨z, 0, none⟩), .pointer (some ⟨z + 1, 0, none⟩)]) (by simp) (by simp [go_sem]) ?_
  refine (foundF z (z + 1) va vb W1 a1 a2 n1 c1 n2 c2 hva hvb hc hf (by omega)).mono ?_
  rintro e u' w'' ⟨rfl, rfl, h1, h2, hk⟩
  have hb9 : Keeps X w w'' := HP.out.2.2.2.2.2.trans' hk (fun k hk => .inr (by have := HZ.out; omega))
  have hFin : FoundK X w (.returned (.tuple #[cv va vb, .bool true])) w'' := ⟨va, vb, A, B, rfl, hk.bytes HP.out.1 (no_byte W1 z hc hf), hk.bytes HP.out.2.1 (no_byte W1 z hc hf), HP.out.2.2.1, HP.out.2.2.2.1, HP.out.2.2.2.2.1, hb9⟩
  have HFin := Lib.hid hFin
  clear hFin hb9 hk
  have h3 := h1.1
  have h4 := h1.2
  simp [Leaves, settle, results, Try.results93, go_sem, h2, h3, h4]
  exact HFin.out
end Go.Proofs.Ytdkcndgehgmadaa
