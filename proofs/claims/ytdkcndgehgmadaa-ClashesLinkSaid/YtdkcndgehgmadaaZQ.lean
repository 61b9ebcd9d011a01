/-
  Merged: N9, N10, N11, N12.
-/
import Derived.Test.YtdkcndgehgmadaaZN
import Derived.Test.YtdkcndgehgmadaaG9
import Derived.Test.YtdkcndgehgmadaaG10
import Derived.Test.YtdkcndgehgmadaaZO
-- Plain law: where a link's way down stands.
open Go Go.RowKit Alm
namespace Go.Proofs.Ytdkcndgehgmadaa
theorem cut_twice (n : Nat) (h : 2 ≤ n) : n ≤ 2 * cut n := by
  exact le_two_cut h
theorem sd_take_right (l : List (List UInt8)) (m : Nat) (h2 : 2 ≤ l.length) (h1 : cut l.length < m) (hm : m ≤ l.length) : sd (l.take m) = nd (sd (l.take (cut l.length))) (sd ((l.drop (cut l.length)).take (m - cut l.length))) := by
  obtain ⟨j, hj⟩ := cut_is_pow l.length
  have ht := cut_twice l.length h2
  have hsplit : (l.take m).map lf = (l.take (cut l.length)).map lf ++ ((l.drop (cut l.length)).take (m - cut l.length)).map lf := by
    rw [← List.map_append]
    congr 1
    have h9 : m = cut l.length + (m - cut l.length) := by omega
    conv => lhs; rw [h9]
    rw [List.take_add]
  unfold sd
  rw [hsplit, rt_eq]
  exact root_append nd e0 (j := j) (by rw [List.length_map, List.length_take, hj]; omega) (by rw [List.length_map, List.length_take, List.length_drop]; omega) (by rw [List.length_map, List.length_take, List.length_drop]; omega)
theorem leads2_frame (a : Sum) (m n : Nat) (e : Bool) : ∀ (p : List Sum) (s : Sum × Sum) (t : List Sum), 1 ≤ m → leads2 nd a m n e p = some (s, t) → ∀ r, leads2 nd a m n e (p ++ r) = some (s, t ++ r) := by
  induction m, n, e using llen.induct with
  | case1 m n hn =>
    intro p s t hm h r
    rw [leads2, dif_pos hn, if_pos rfl] at h ⊢
    obtain ⟨rfl, rfl⟩ := Prod.mk.inj (Option.some.inj h)
    rfl
  | case2 m n e hn he =>
    intro p s t hm h r
    rw [leads2, dif_pos hn, if_neg he] at h ⊢
    cases p with
    | nil => cases h
    | cons x q =>
      obtain ⟨rfl, rfl⟩ := Prod.mk.inj (Option.some.inj h)
      rfl
  | case3 m n e hn h1 => intro p s t hm; omega
  | case4 m n e hn h1 hk ih =>
    intro p s t hm h r
    rw [leads_step a m n e _ hn h1, if_pos hk] at h ⊢
    rcases hr : leads2 nd a m (cut n) e p with _ | ⟨⟨x, y⟩, _ | ⟨z, q⟩⟩
    · rw [hr] at h; cases h
    · rw [hr] at h; cases h
    · rw [hr] at h
      rw [ih p (x, y) _ hm hr r]
      obtain ⟨rfl, rfl⟩ := Prod.mk.inj (Option.some.inj h)
      rfl
  | case5 m n e hn h1 hk ih =>
    intro p s t hm h r
    rw [leads_step a m n e _ hn h1, if_neg hk] at h ⊢
    rcases hr : leads2 nd a (m - cut n) (n - cut n) false p with _ | ⟨⟨x, y⟩, _ | ⟨z, q⟩⟩
    · rw [hr] at h; cases h
    · rw [hr] at h; cases h
    · rw [hr] at h
      rw [ih p (x, y) _ (by omega) hr r]
      obtain ⟨rfl, rfl⟩ := Prod.mk.inj (Option.some.inj h)
      rfl
theorem leads2_one (a : Sum) (m n : Nat) (e : Bool) (p : List Sum) (z : Sum × Sum) (x : Sum) (hm : 1 ≤ m) (h : leads2 nd a m n e p = some (z, [x])) : ∃ r, p.reverse = x :: r ∧ leads2 nd a m n e r.reverse = some (z, []) := by
  have hl : llen m n e ≤ p.length := by
    rcases Nat.lt_or_ge p.length (llen m n e) with h1 | h1
    · rw [leads2_none nd a m n e p hm h1] at h; cases h
    · exact h1
  obtain ⟨s, hs⟩ := leads2_some nd a m n e p hm hl
  rw [hs] at h
  obtain ⟨rfl, hd⟩ := Prod.mk.inj (Option.some.inj h)
  have hp : p = p.take (llen m n e) ++ [x] := by rw [← hd, List.take_append_drop]
  have hlt : (p.take (llen m n e)).length = llen m n e := by rw [List.length_take, Nat.min_eq_left hl]
  refine ⟨(p.take (llen m n e)).reverse, by conv => lhs; rw [hp]
                                            simp, ?_⟩
  rw [List.reverse_reverse]
  obtain ⟨s', hs'⟩ := leads2_some nd a m n e (p.take (llen m n e)) hm (by omega)
  have hs2 := leads2_frame a m n e (p.take (llen m n e)) s' _ hm hs' [x]
  rw [← hp, hs] at hs2
  have h7 := (Prod.mk.inj (Option.some.inj hs2)).1
  rw [hs', List.drop_eq_nil_of_le (by omega), h7]
/-- A step of a link's way down. -/
theorem link_down (a : Sum) (m n : Nat) (e : Bool) (q : List Sum) (x y : Sum) (hm : 1 ≤ m) (hn : m < n) (h : leads2 nd a m n e q.reverse = some ((x, y), [])) :
    ∃ s r x' y', q = s :: r ∧ y = ndP (mkP (decide (m ≤ cut n), s) y') ∧ x = (if m ≤ cut n then x' else nd s x') ∧ leads2 nd a (if m ≤ cut n then m else m - cut n) (if m ≤ cut n then cut n else n - cut n) (if m ≤ cut n then e else false) r.reverse = some ((x', y'), []) := by
  rw [leads_step a m n e _ (by omega) (by omega)] at h
  by_cases hk : m ≤ cut n
  · rw [if_pos hk] at h
    rw [if_pos hk, if_pos hk, if_pos hk]
    rcases hr : leads2 nd a m (cut n) e q.reverse with _ | ⟨⟨x', y'⟩, _ | ⟨s, t⟩⟩
    · rw [hr] at h; cases h
    · rw [hr] at h; cases h
    · rw [hr] at h
      obtain ⟨h1, rfl⟩ := Prod.mk.inj (Option.some.inj h)
      obtain ⟨rfl, rfl⟩ := Prod.mk.inj h1
      obtain ⟨r, h1, h2⟩ := leads2_one _ _ _ _ _ _ _ hm hr
      rw [List.reverse_reverse] at h1
      exact ⟨s, r, x', y', h1, by simp [mkP, ndP, hk], by rw [if_pos hk], h2⟩
  · rw [if_neg hk] at h
    rw [if_neg hk, if_neg hk, if_neg hk]
    rcases hr : leads2 nd a (m - cut n) (n - cut n) false q.reverse with _ | ⟨⟨x', y'⟩, _ | ⟨s, t⟩⟩
    · rw [hr] at h; cases h
    · rw [hr] at h; cases h
    · rw [hr] at h
      obtain ⟨h1, rfl⟩ := Prod.mk.inj (Option.some.inj h)
      obtain ⟨rfl, rfl⟩ := Prod.mk.inj h1
      obtain ⟨r, h1, h2⟩ := leads2_one _ _ _ _ _ _ _ (by omega) hr
      rw [List.reverse_reverse] at h1
      exact ⟨s, r, x', y', h1, by simp [mkP, ndP, hk], by rw [if_neg hk], h2⟩
structure LinkSt (a : Sum) (l : List (List UInt8)) (m : Nat) (p : List Sum) (lj : List (List UInt8)) (mj : Nat) (ej : Bool) (q : List Sum) (T : List (Bool × Sum)) (th : List (Sum × Sum)) : Prop where
  py : ∃ x y, leads2 nd a mj lj.length ej q.reverse = some ((x, y), []) ∧ sd l = valT y T ∧ a = oldT x T
  pd : Down l lj T th
  pq : ∃ r, p.reverse = r ++ q
  pm : 1 ≤ mj ∧ mj ≤ lj.length
  po : sd (l.take m) = oldH (sd (lj.take mj)) T th
  pn : lj.length ≤ l.length
  pz : ∀ x ∈ lj, x ∈ l
theorem LinkSt.start {a : Sum} {l : List (List UInt8)} {m : Nat} {p : List Sum} (h : letBe m l.length a (sd l) p = true) : LinkSt a l m p l m true p.reverse [] [] := by
  unfold letBe at h
  rw [Bool.and_eq_true, Bool.and_eq_true] at h
  have h0 := of_decide_eq_true h.1.1
  have h1 := of_decide_eq_true h.1.2
  have h2 := h.2
  rcases hr : leads2 nd a m l.length true p with _ | ⟨⟨x, y⟩, _ | ⟨s, t⟩⟩
  · rw [hr] at h2; cases h2
  · rw [hr] at h2
    simp only [Bool.and_eq_true, beq_iff_eq] at h2
    exact ⟨⟨x, y, by rw [List.reverse_reverse]; exact hr, h2.2.symm, h2.1.symm⟩, .nil _, ⟨[], rfl⟩, ⟨h0, h1⟩, rfl, Nat.le_refl _, fun _ h => h⟩
  · rw [hr] at h2; cases h2
theorem LinkSt.step {a : Sum} {l : List (List UInt8)} {m : Nat} {p : List Sum} {lj : List (List UInt8)} {mj : Nat} {ej : Bool} {q : List Sum} {T : List (Bool × Sum)} {th : List (Sum × Sum)} (h : LinkSt a l m p lj mj ej q T th) (h2 : mj < lj.length) :
    ∃ x r, q = x :: r ∧ p[r.length]? = some x ∧ r.length < p.length ∧
      (mj ≤ cut lj.length → LinkSt a l m p (lj.take (cut lj.length)) mj ej r (T ++ [(true, x)]) (th ++ [(sd (lj.take (cut lj.length)), sd (lj.drop (cut lj.length)))])) ∧
      (¬ mj ≤ cut lj.length → LinkSt a l m p (lj.drop (cut lj.length)) (mj - cut lj.length) false r (T ++ [(false, x)]) (th ++ [(sd (lj.take (cut lj.length)), sd (lj.drop (cut lj.length)))])) := by
  obtain ⟨x, y, hy, hv, ho⟩ := h.py
  obtain ⟨s, r, x', y', hq, hyz, hxz, hl⟩ := link_down a mj lj.length ej q x y h.pm.1 h2 hy
  have hm1 := h.pm.1
  have hc := cut_lt (n := lj.length) (by omega)
  have hp := cut_pos lj.length
  obtain ⟨rr, hr⟩ := h.pq
  have hpx : p = r.reverse ++ s :: rr.reverse := by
    have := congrArg List.reverse hr
    rw [List.reverse_reverse, hq] at this
    rw [this]; simp
  have hr2 : p.reverse = (rr ++ [s]) ++ r := by rw [hr, hq]; simp
  refine ⟨s, r, hq, ?_, by rw [hpx]; simp, fun hm => ?_, fun hm => ?_⟩
  · rw [hpx, List.getElem?_append_right (by simp)]; simp
  · rw [if_pos hm, if_pos hm, if_pos hm] at hl
    rw [if_pos hm] at hxz
    have hlen : (lj.take (cut lj.length)).length = cut lj.length := by rw [List.length_take]; omega
    refine ⟨⟨x', y', by rw [hlen]; exact hl, ?_, ?_⟩, h.pd.snocL s (by omega), ⟨_, hr2⟩, by rw [hlen]; exact ⟨hm1, hm⟩, ?_, by rw [hlen]; have := h.pn; omega, fun x hx => h.pz x (List.mem_of_mem_take hx)⟩
    · rw [valT_snoc, hv, hyz, decide_eq_true hm]
    · rw [oldT_snoc, ho, hxz]; rfl
    · rw [oldH_snoc _ _ _ _ _ h.pd.lens, h.po, List.take_take, Nat.min_eq_left hm]; rfl
  · rw [if_neg hm, if_neg hm, if_neg hm] at hl
    rw [if_neg hm] at hxz
    have hlen : (lj.drop (cut lj.length)).length = lj.length - cut lj.length := List.length_drop
    refine ⟨⟨x', y', by rw [hlen]; exact hl, ?_, ?_⟩, h.pd.snocR s (by omega), ⟨_, hr2⟩, by rw [hlen]; omega, ?_, by rw [hlen]; have := h.pn; omega, fun x hx => h.pz x (List.mem_of_mem_drop hx)⟩
    · rw [valT_snoc, hv, hyz, decide_eq_false hm]
    · rw [oldT_snoc, ho, hxz]; rfl
    · rw [oldH_snoc _ _ _ _ _ h.pd.lens, h.po, sd_take_right lj mj (by omega) (by omega) h.pm.2]; rfl
theorem LinkSt.fin {a : Sum} {l : List (List UInt8)} {m : Nat} {p : List Sum} {lj : List (List UInt8)} {mj : Nat} {ej : Bool} {q : List Sum} {T : List (Bool × Sum)} {th : List (Sum × Sum)} (h : LinkSt a l m p lj mj ej q T th) (h2 : ¬ mj < lj.length) :
    ∃ f, (ej = true → f = a) ∧ (ej = false → p[0]? = some f) ∧ Side f lj T th ∧ a = oldT f T ∧ sd (l.take m) = oldH (sd lj) T th := by
  obtain ⟨x, y, hy, hv, ho⟩ := h.py
  have hm := h.pm
  rw [leads2, dif_pos (by omega)] at hy
  have hpo := h.po
  rw [show lj.take mj = lj from List.take_of_length_le (by omega)] at hpo
  cases ej with
  | true =>
    rw [if_pos rfl] at hy
    obtain ⟨h1, _⟩ := Prod.mk.inj (Option.some.inj hy)
    obtain ⟨rfl, rfl⟩ := Prod.mk.inj h1
    exact ⟨a, fun _ => rfl, (fun h => by cases h), ⟨l, h.pd, hv⟩, ho, hpo⟩
  | false =>
    rw [if_neg (by simp)] at hy
    rcases hq : q.reverse with _ | ⟨z, t⟩
    · rw [hq] at hy; cases hy
    · rw [hq] at hy
      obtain ⟨h1, rfl⟩ := Prod.mk.inj (Option.some.inj hy)
      obtain ⟨rfl, rfl⟩ := Prod.mk.inj h1
      obtain ⟨rr, hr⟩ := h.pq
      have hpx : p = z :: rr.reverse := by
        have := congrArg List.reverse hr
        rw [List.reverse_reverse, List.reverse_append, hq] at this
        rw [this]; rfl
      exact ⟨z, fun h => (by cases h), fun _ => by rw [hpx]; rfl, ⟨l, h.pd, hv⟩, ho, hpo⟩
/-- Where all was the same the old root is that of the beginning. -/
theorem same_end {a f : Sum} {l lj : List (List UInt8)} {m : Nat} {T : List (Bool × Sum)} {th : List (Sum × Sum)} (h1 : a = oldT f T) (h2 : sd (l.take m) = oldH (sd lj) T th) (h3 : th = saidT f T) (h4 : sd lj = f) : a = sd (l.take m) := by
  rw [h2, h3, oldH_said, h4]; exact h1
end Go.Proofs.Ytdkcndgehgmadaa
-- Walks: clashes.Link's way down.
open Go Go.RowKit Alm
namespace Go.Proofs.Ytdkcndgehgmadaa
/-- The variable of the first sum. -/
structure LW (W0 W : World) (z : Nat) (c : Sum) : Prop where
  r : W.rangeAt z 0 (cellsOf c)
  t : W.there z 0 32
  b : Below W0.heap.size W0 W
  s : z + 1 ≤ W.heap.size
  z0 : W0.heap.size ≤ z
theorem LW.keep {W0 W W' : World} {z : Nat} {c : Sum} {Y : Nat → Prop} (h : LW W0 W z c) (hk : Keeps Y W W') (hy : ∀ k, Y k → z + 1 ≤ k) : LW W0 W' z c :=
  ⟨hk.range h.r (fun e => by have := hy _ e; omega), hk.there h.t (by omega) (fun e => by have := hy _ e; omega), h.b.trans (hk.below h.b.size (fun k e => by have := hy _ e; have := h.z0; omega)), Nat.le_trans h.s hk.size, h.z0⟩
theorem LW.below {W0 W W' : World} {z : Nat} {c : Sum} (h : LW W0 W z c) (hb : Below W.heap.size W W') : LW W0 W' z c := h.keep (Keeps.of_below (X := fun _ => False) hb) (fun _ h => h.elim)
theorem LW.store {W0 W : World} {z : Nat} {c : Sum} (h : LW W0 W z c) (s : Sum) : LW W0 (W.setCells z 0 (cellsOf s)) z s := by
  have ht := World.there_setCells h.t z 0 (cellsOf s)
  have hk := keeps_setCells_ z (cellsOf s) 0 W
  exact ⟨range_stored _ _ _ _ (by rw [length_cellsOf]; exact ht), ht, setCells_below _ h.z0 _ _ _ _ h.b, Nat.le_trans h.s hk.size, h.z0⟩
theorem exec_build_step_ {f : Operand → Value} {o : Oper} (x y : Operand) (ho : o.op = .build 135 #[(0, x), (1, y)]) (b : Bool) (s : Sum) (hx : f x = .bool b) (hy : f y = sv s) (W : World) :
    (execOp f o).run Try.prog W = .ok (.value (stv (b, s))) W := exec_build_step x y ho b s hx hy W
theorem wpList_build_st {ops : Array Oper} {rest : List Oper} {op : Oper} {a : Act} {w : World} {Q : Exit → Act → World → Prop} (hgd : op.guard = none) (x y : Operand) (ho : op.op = .build 135 #[(0, x), (1, y)]) (b : Bool) (s : Sum)
    (hx : a.eval x = .bool b) (hy : a.eval y = sv s) (h : wpList Try.prog ops Q rest (a.put op.dst (stv (b, s))) w) : wpList Try.prog ops Q (op :: rest) a w :=
  wpList_plain hgd fun _ hK => by
    unfold Oper.wp
    rw [exec_build_step x y ho b s hx hy w]
    exact hK _ _ h
set_option maxRecDepth 100000 in
set_option maxHeartbeats 4000000 in
theorem linkway_any (a l : List (List UInt8)) (p : List Sum) (va vl vp : Value) (W0 : World) (A B F K : Nat)
    (hcA : W0.cell? ⟨A, 0, none⟩ = some va) (hcB : W0.cell? ⟨B, 0, none⟩ = some vl) (hcF : W0.cell? ⟨F, 0, none⟩ = some (.int .i64 (a.length : Int))) (hcK : W0.cell? ⟨K, 0, none⟩ = some vp)
    (ha : ListsAt W0 va a) (hl : ListsAt W0 vl l) (hpa : SumsAt W0 vp p) (hbe : letBe a.length l.length (sd a) (sd l) p = true) (hne : ¬ a = l.take a.length) (hn : l.length < 1000000) (hsa : SZ a) (hs : SZ l) :
    Calls Try.prog 104 #[.pointer (some ⟨A, 0, none⟩), .pointer (some ⟨B, 0, none⟩), .pointer (some ⟨F, 0, none⟩), .pointer (some ⟨K, 0, none⟩)] W0 (ClashOf W0) := by
  have hml : 1 ≤ a.length ∧ a.length ≤ l.length := by
    unfold letBe at hbe
    rw [Bool.and_eq_true, Bool.and_eq_true] at hbe
    exact ⟨of_decide_eq_true hbe.1.1, of_decide_eq_true hbe.1.2⟩
  have HML := Lib.hid hml
  have HLA := Lib.hid ha
  have HL := Lib.hid hl
  have HPA := Lib.hid hpa
  have HST : Hid (LinkSt (sd a) l a.length p l a.length true p.reverse [] []) := Lib.hid (LinkSt.start hbe)
  have HX := Lib.hid (And.intro hne (And.intro hn (And.intro hsa hs)))
  have HC := Lib.hid (And.intro hcA (And.intro hcB (And.intro hcF hcK)))
  have hl0 : l ≠ [] := by intro h; have h1 : 1 ≤ l.length := by omega
                          rw [h] at h1; simp at h1
  have ha0 : a ≠ [] := by intro h; have h1 := hml.1; rw [h] at h1; simp at h1
  obtain ⟨bl, ol, cl, rfl, l1, l2⟩ := hl.form hl0
  obtain ⟨bA, oA, cA, rfl, a1, a2⟩ := ha.form ha0
  obtain ⟨pa, pc, rfl, hp1, hp2, hz1⟩ := hpa
  clear hz1 ha hl hbe hne hn hsa hs hl0 ha0
  have HQL : Hid (p.reverse.length = p.length) := Lib.hid (List.length_reverse)
  obtain ⟨np, hnp⟩ : ∃ n, n = p.length := ⟨_, rfl⟩
  rw [← hnp] at hp1 HQL hcK HC HPA
  have HNP := Lib.hid hnp; clear hnp
  obtain ⟨nl, hnl⟩ : ∃ n, n = l.length := ⟨_, rfl⟩
  rw [← hnl] at HL l1 hcB HC hml
  have HNL0 := Lib.hid hnl; clear hnl
  obtain ⟨m, hm⟩ : ∃ n, n = a.length := ⟨_, rfl⟩
  rw [← hm] at HLA a1 hcA hcF HC HST hml
  have HNM := Lib.hid hm; clear hm
  obtain ⟨sa, hsa⟩ : ∃ s, s = sd a := ⟨_, rfl⟩
  rw [← hsa] at HST
  have HSA := Lib.hid hsa; clear hsa
  unfold maxLen at hp2
  have hw6 : wrap64 ((np : Int) - 1) = (np : Int) - 1 := by unfold wrap64; omega
  have HCP := Lib.hid (And.intro hp1 hp2)
  have hnl6 : nl < 1000000 := by rw [HNL0.out]; exact HX.out.2.1
  go_enter Try.func104, Try.ntmps104
  go_wp2_with fail
  refine (croot_any a _ W0 HLA.out (by have := HNM.out; omega) (fun x hx => Nat.lt_trans (HX.out.2.2.1 x hx) (by decide))).mono ?_
  rw [show rt (a.map lf) = sa from HSA.out.symm]
  rintro e W1 ⟨rfl, hb⟩
  have HB1 := Lib.hid hb; clear hb
  go_wp2_with (refine wpList_var_sum (by rfl) rfl _ _ rfl sa rfl rfl ?_; intro W2 hb2 hr2 ht2 hlt2; have HW2 := Lib.hid (show LW W0 W2 W1.heap.size sa from ⟨hr2, ht2, HB1.out.trans (hb2.mono HB1.out.size), hlt2, HB1.out.size⟩); clear hb2 hr2 ht2 hlt2)
  obtain ⟨z4, hz4⟩ : ∃ z, z = W1.heap.size := ⟨_, rfl⟩
  rw [← hz4] at HW2 ⊢
  clear hz4
  refine wp_region_sched (fun V => V.cell? ⟨B, 0, none⟩ = some (.slice (some ⟨bl, ol, none⟩) nl cl) ∧ V.cell? ⟨F, 0, none⟩ = some (.int .i64 (m : Int))) [.s 0, .t 2, .e 1 true, .t 3, .t 4] (by kernel_rfl) (by kernel_rfl) (by intro c a d v w h; cases d <;> exact h) ?_
  have HW3 := Lib.hid (HW2.out.below (Below.refl W2.heap.size W2).drew)
  clear HW2
  generalize W2.drew = V at *
  have HS := Lib.hid (show V.cell? ⟨B, 0, none⟩ = some (.slice (some ⟨bl, ol, none⟩) nl cl) ∧ V.cell? ⟨F, 0, none⟩ = some (.int .i64 (m : Int)) from ⟨bc HC.out.2.1 HW3.out.b, bc HC.out.2.2.1 HW3.out.b⟩)
  refine wpS_s (by exact HS.out) rfl (v := ?_) (by rfl) (fun W hSW => ?_) ?_
  rotate_left
  · go_simp
    try rfl
  try simp only [Act.put, List.setIfInBounds_toArray, List.set_cons_zero, List.set_cons_succ]
  iterate 1
    refine wpS_t rfl (v := ?_) (by rfl) (fun W => ?_) ?_
    rotate_left
    · go_simp
      try rfl
    try simp only [Act.put, List.setIfInBounds_toArray, List.set_cons_zero, List.set_cons_succ]
  have g := HS.out.2
  refine wpS_k rfl (by rfl) (fun K hK => ?_)
  go_simp
  refine hK _ _ ⟨by exact HS.out, ?_⟩; clear hK K
  try simp only [Act.put, List.setIfInBounds_toArray, List.set_cons_zero, List.set_cons_succ]
  clear g
  iterate 2
    refine wpS_t rfl (v := ?_) (by rfl) (fun W => ?_) ?_
    rotate_left
    · go_simp
      try rfl
    try simp only [Act.put, List.setIfInBounds_toArray, List.set_cons_zero, List.set_cons_succ]
  refine wpS_done ?_
  clear HS
  have hcK3 := bc HC.out.2.2.2 HW3.out.b
  clear hcA hcB hcF hcK
  go_wp2_with fail
  clear hw6 hp1 hp2 hcK3
  go_loopw [5, 6, 7, 8, 9, 10] (fun v5 v6 v7 v8 v9 i W => ∃ (lj : List (List UInt8)) (mj : Nat) (ej : Bool) (q : List Sum) (T : List (Bool × Sum)) (th : List (Sum × Sum)), i = .int .i64 ((q.length : Int) - 1) ∧ v8 = .int .i64 (mj : Int) ∧ v9 = .bool ej ∧ ListsAt W0 v7 lj ∧ LinkSt sa l m p lj mj ej q T th ∧ LW W0 W z4 sa ∧ TR (z4 + 1) W v5 v6 T th) (fun _ _ _ _ _ i _ => (intOf i + 1).toNat)
  case atStart => exact ⟨l, m, true, p.reverse, [], [], by rw [HQL.out], rfl, rfl, HL.out, HST.out, HW3.out, ⟨World.ownsRow_nil _ _ _ _, World.ownsRow_nil _ _ _ _, fun _ => rfl, fun _ => rfl, fun k e => by cases e⟩⟩
  case round =>
    obtain ⟨lj, mj, ej, q, T, th, rfl, rfl, rfl, hlj, hst, hlw, htr⟩ := hrel
    have HST := Lib.hid hst
    have HLJ := Lib.hid hlj
    have HLW := Lib.hid hlw
    have HTR := Lib.hid htr
    obtain ⟨bj, oj, cj, rfl, hj1, hj2⟩ := hlj.form (by intro h; have := hst.pm; rw [h] at this; simp at this; omega)
    clear hlj hst hlw htr
    obtain ⟨nj, hnj⟩ : ∃ n, n = lj.length := ⟨_, rfl⟩
    rw [← hnj] at HLJ hj1 ⊢
    have HNJ := Lib.hid hnj; clear hnj
    have HNL : Hid (nj ≤ l.length ∧ l.length < 1000000) := Lib.hid ⟨by rw [HNJ.out]; exact HST.out.pn, HX.out.2.1⟩
    have hpm : 1 ≤ mj ∧ mj ≤ nj := by rw [HNJ.out]; exact HST.out.pm
    by_cases h2 : mj < nj
    · have h2' : (mj : Int) < (nj : Int) := by omega
      obtain ⟨k, hk⟩ : ∃ k, k = cut nj := ⟨_, rfl⟩
      have hk1 : 1 ≤ k := by rw [hk]; exact cut_pos nj
      have hkn : k < nj := by rw [hk]; exact cut_lt (by omega)
      have HK := Lib.hid (And.intro hk (And.intro hk1 hkn))
      clear hk hk1 hkn
      obtain ⟨x, r, hq, hpx, hrl, hL, hR⟩ := HST.out.step (by rw [← HNJ.out]; exact h2)
      rw [← HNJ.out, ← HK.out.1] at hL hR
      subst hq
      obtain ⟨nr, hnr⟩ : ∃ n, n = r.length := ⟨_, rfl⟩
      have hqi : (((x :: r).length : Nat) : Int) - 1 = (nr : Int) := by rw [List.length_cons, hnr]; omega
      rw [hqi]
      rw [← hnr] at hpx hrl
      rw [← HNP.out] at hrl
      have hfm : ∃ pb po, pa = some ⟨pb, po, none⟩ ∧ W0.rangeAt pb (po + nr * 32) (cellsOf x) := by
        obtain ⟨a, c, h1, _, _, h4⟩ := HPA.out
        have hpn : p ≠ [] := by intro h; have := HNP.out; rw [h] at this; simp at this; omega
        obtain ⟨pb, po, ha, hr⟩ := h4.resolve_left hpn
        simp only [Value.slice.injEq] at h1
        have hi : nr < p.length := by rw [← HNP.out]; exact hrl
        have h5 := range_at hr hi
        have h6 : p[nr] = x := by rw [List.getElem?_eq_getElem hi] at hpx; simpa using hpx
        rw [h6] at h5
        exact ⟨pb, po, by rw [h1.1, ha], h5⟩
      obtain ⟨pb, po, rfl, hpr⟩ := hfm
      have HPR := Lib.hid hpr
      have HLR := Lib.hid (And.intro hL hR)
      have HR := Lib.hid (And.intro hnr hrl)
      have hr0 : (0 : Int) ≤ (nr : Int) := by omega
      have hr1 : (nr : Int) < (np : Int) := by omega
      have HSM : Hid (1 ≤ k ∧ k < nj ∧ mj < nj ∧ nj < 1000000) := Lib.hid ⟨HK.out.2.1, HK.out.2.2, h2, by have := HNL.out; omega⟩
      clear hpr hL hR hpx hrl hqi hnr
      go_wp2_with fail
      refine (ccut_any nj wr (by omega) (by have := HNL.out; omega)).mono ?_
      rw [← HK.out.1]
      rintro e V1 ⟨rfl, rfl⟩
      go_wp2_with fail
      have hsd := sides_any lj k bj oj cj wr (by rw [← HNJ.out]; exact HLJ.out.below HLW.out.b) HK.out.2.1 (by rw [← HNJ.out]; exact HK.out.2.2) (by rw [← HNJ.out]; have := HNL.out; omega) (fun x hx => by have := HX.out.2.2.2 x (HST.out.pz x hx); omega)
      rw [← HNJ.out] at hsd
      refine hsd.mono ?_
      rintro e V1 ⟨rfl, hb⟩
      have HW1 := Lib.hid (And.intro (HLW.out.below hb) (HTR.out.below hb))
      have HLR2 := Lib.hid (And.intro HLR.out.1 HLR.out.2)
      obtain ⟨sl_, hsl⟩ : ∃ s, s = rt ((lj.take k).map lf) := ⟨_, rfl⟩
      obtain ⟨sr_, hsr⟩ : ∃ s, s = rt ((lj.drop k).map lf) := ⟨_, rfl⟩
      unfold sd at HLR2
      rw [← hsl, ← hsr] at HLR2 ⊢
      clear hsd hb HLW HTR HLR hsl hsr
      obtain ⟨nt, hnt⟩ : ∃ n, n = th.length := ⟨_, rfl⟩
      obtain ⟨ns, hns⟩ : ∃ n, n = T.length := ⟨_, rfl⟩
      have HNT := Lib.hid (And.intro hnt.symm hns.symm)
      have hsz : ns < 1000000 := by rw [hns, HST.out.pd.lens]; have := HST.out.pd.short; have := HNL.out; omega
      have hsz2 : nt < 1000000 := by rw [hnt]; have := HST.out.pd.short; have := HNL.out; omega
      clear hnt hns
      have HSZ := Lib.hid (And.intro hsz hsz2)
      have k0 : (0 : Int) ≤ (k : Int) := by omega
      have k1 : (k : Int) ≤ (nj : Int) := by have := HSM.out; omega
      have k2 : (k : Int) ≤ (cj : Int) := by have := HSM.out; omega
      have k3 : k ≤ cj := by have := HSM.out; omega
      have k4 : ¬ (cj = k) := by have := HSM.out; omega
      have k6 : ¬ (k = cj) := by have := HSM.out; omega
      have hw9 : wrap64 ((nr : Int) - 1) = (nr : Int) - 1 := by have := HR.out.2; have := HCP.out; unfold wrap64; omega
      by_cases hmk : mj ≤ k
      · have hmk' : (mj : Int) ≤ (k : Int) := by omega
        go_wp2_with (first
          | (refine wpList_lit_pq rfl _ rfl (sl_, sr_) rfl ?_; have hb2 := al (Below.refl V1.heap.size V1) (.cells (cellsQ (sl_, sr_)).toArray 132); have HL1 := Lib.hid (And.intro (HW1.out.1.below hb2) (And.intro (HW1.out.2.below hb2) (range_new V1 _ _ _ rfl : (V1.alloc (.cells (cellsQ (sl_, sr_)).toArray 132)).rangeAt V1.heap.size 0 (cellsQ (sl_, sr_))))); clear hb2; generalize V1.alloc (.cells (cellsQ (sl_, sr_)).toArray 132) = V2 at *; generalize V1.heap.size = z9 at *)
          | (at_builtin; refine wpList_append_pq rfl _ _ rfl (z4 + 1) _ th (sl_, sr_) nt HNT.out.1 rfl (by have := HL1.out.2.1.t; rw [HNT.out.1] at this; exact this) z9 0 1 rfl HL1.out.2.2 (by omega) (HL1.out.1.s) ?_; intro g4 c4 w4 ho4 hg4 hat4 _; have HW4 := Lib.hid (And.intro (HL1.out.1.keep (Keeps.of_grown (X := fun k => u6.ownBlock = some k) hg4 (fun k h => h)) (fun k hk => (HL1.out.2.1.t.lt k hk).1)) (HL1.out.2.1.growT HNT.out.1 hg4 hat4 ho4)); have g7 := bc HC.out.2.2.2 HW4.out.1.b; clear ho4 hg4 hat4 HL1 HW1)
          | (refine wpList_load_sum rfl _ rfl pb (po + nr * 32) rfl x (br HW4.out.1.b HPR.out) ?_)
          | (refine wpList_build_st rfl _ _ rfl true x rfl rfl ?_; refine wpList_lit_st rfl _ rfl (true, x) rfl ?_; have hb2 := al (Below.refl w4.heap.size w4) (.cells (cellsS (true, x)).toArray 135); have HL2 := Lib.hid (And.intro (HW4.out.1.below hb2) (And.intro (HW4.out.2.below hb2) (range_new w4 _ _ _ rfl : (w4.alloc (.cells (cellsS (true, x)).toArray 135)).rangeAt w4.heap.size 0 (cellsS (true, x))))); clear hb2 g7 HW4; generalize w4.alloc (.cells (cellsS (true, x)).toArray 135) = V3 at *; generalize w4.heap.size = z8 at *)
          | (at_builtin; refine wpList_append_st rfl _ _ rfl (z4 + 1) _ T (true, x) ns HNT.out.2 rfl (by have := HL2.out.2.1.s; rw [HNT.out.2] at this; exact this) z8 0 1 rfl HL2.out.2.2 (by have := HSZ.out; omega) (HL2.out.1.s) ?_; intro g5 c5 w5 ho5 hg5 hat5 _; have HW6 := Lib.hid (And.intro (HL2.out.1.keep (Keeps.of_grown (X := fun k => u5.ownBlock = some k) hg5 (fun k h => h)) (fun k hk => (HL2.out.2.1.s.lt k hk).1)) (HL2.out.2.1.growS HNT.out.2 hg5 hat5 ho5)); clear ho5 hg5 hat5 HL2))
        refine ⟨⟨lj.take k, mj, ej, r, T ++ [(true, x)], th ++ [(sl_, sr_)], by rw [← HR.out.1, hw9], rfl, rfl, HLJ.out.take k (by rw [← HNJ.out]; exact Nat.le_of_lt HSM.out.2.1), HLR2.out.1 hmk, HW6.out.1, HW6.out.2⟩, by simp [intOf]; omega⟩
      · have hmk' : ¬ (mj : Int) ≤ (k : Int) := by omega
        have k8 : (k : Int) ≤ (mj : Int) := by omega
        have hw8 : wrap64 ((mj : Int) - (k : Int)) = (((mj - k : Nat)) : Int) := by have := HSM.out; unfold wrap64; omega
        go_wp2_with (first
          | (refine wpList_lit_pq rfl _ rfl (sl_, sr_) rfl ?_; have hb2 := al (Below.refl V1.heap.size V1) (.cells (cellsQ (sl_, sr_)).toArray 132); have HL1 := Lib.hid (And.intro (HW1.out.1.below hb2) (And.intro (HW1.out.2.below hb2) (range_new V1 _ _ _ rfl : (V1.alloc (.cells (cellsQ (sl_, sr_)).toArray 132)).rangeAt V1.heap.size 0 (cellsQ (sl_, sr_))))); clear hb2; generalize V1.alloc (.cells (cellsQ (sl_, sr_)).toArray 132) = V2 at *; generalize V1.heap.size = z9 at *)
          | (at_builtin; refine wpList_append_pq rfl _ _ rfl (z4 + 1) _ th (sl_, sr_) nt HNT.out.1 rfl (by have := HL1.out.2.1.t; rw [HNT.out.1] at this; exact this) z9 0 1 rfl HL1.out.2.2 (by omega) (HL1.out.1.s) ?_; intro g4 c4 w4 ho4 hg4 hat4 _; have HW4 := Lib.hid (And.intro (HL1.out.1.keep (Keeps.of_grown (X := fun k => u6.ownBlock = some k) hg4 (fun k h => h)) (fun k hk => (HL1.out.2.1.t.lt k hk).1)) (HL1.out.2.1.growT HNT.out.1 hg4 hat4 ho4)); have g7 := bc HC.out.2.2.2 HW4.out.1.b; clear ho4 hg4 hat4 HL1 HW1)
          | (refine wpList_load_sum rfl _ rfl pb (po + nr * 32) rfl x (br HW4.out.1.b HPR.out) ?_)
          | (refine wpList_build_st rfl _ _ rfl false x rfl rfl ?_; refine wpList_lit_st rfl _ rfl (false, x) rfl ?_; have hb2 := al (Below.refl w4.heap.size w4) (.cells (cellsS (false, x)).toArray 135); have HL2 := Lib.hid (And.intro (HW4.out.1.below hb2) (And.intro (HW4.out.2.below hb2) (range_new w4 _ _ _ rfl : (w4.alloc (.cells (cellsS (false, x)).toArray 135)).rangeAt w4.heap.size 0 (cellsS (false, x))))); clear hb2 g7 HW4; generalize w4.alloc (.cells (cellsS (false, x)).toArray 135) = V3 at *; generalize w4.heap.size = z8 at *)
          | (at_builtin; refine wpList_append_st rfl _ _ rfl (z4 + 1) _ T (false, x) ns HNT.out.2 rfl (by have := HL2.out.2.1.s; rw [HNT.out.2] at this; exact this) z8 0 1 rfl HL2.out.2.2 (by have := HSZ.out; omega) (HL2.out.1.s) ?_; intro g5 c5 w5 ho5 hg5 hat5 _; have HW6 := Lib.hid (And.intro (HL2.out.1.keep (Keeps.of_grown (X := fun k => u5.ownBlock = some k) hg5 (fun k h => h)) (fun k hk => (HL2.out.2.1.s.lt k hk).1)) (HL2.out.2.1.growS HNT.out.2 hg5 hat5 ho5)); clear ho5 hg5 hat5 HL2))
        have hLd := HLJ.out.drop k (cj - k) (by rw [← HNJ.out]; exact Nat.le_of_lt HSM.out.2.1) (by rw [← HNJ.out]; omega) (by omega)
        rw [← HNJ.out] at hLd
        refine ⟨⟨lj.drop k, mj - k, false, r, T ++ [(false, x)], th ++ [(sl_, sr_)], by rw [← HR.out.1, hw9], by rw [hw8], rfl, hLd, HLR2.out.2 hmk, HW6.out.1, HW6.out.2⟩, by simp [intOf]; omega⟩
    · have h2' : ¬ (mj : Int) < (nj : Int) := by omega
      obtain ⟨f, hf1, hf2, hside, hold, hoh⟩ := HST.out.fin (by rw [← HNJ.out]; exact h2)
      cases ej with
      | true =>
        have hf := hf1 rfl
        subst hf
        clear hf1 hf2
        have hmn : mj = nj := by omega
        have HSD := Lib.hid (And.intro hside (And.intro hold hoh))
        have hsh : th.length < 1000000 ∧ T.length = th.length := ⟨by have := HST.out.pd.short; have := HNL.out; omega, HST.out.pd.lens⟩
        have HSH := Lib.hid hsh
        clear hside hold hoh hsh HST HQL
        have HLW2 := HLW
        clear HLW
        have HRT := Lib.hid (rowG_new length_cellsS HTR.out.s HTR.out.sn)
        have HTR2 := HTR
        clear HTR
        obtain ⟨WA, hWA⟩ : ∃ W, W = wr := ⟨_, rfl⟩
        rw [← hWA] at HLW2 HRT HTR2
        go_wp2_with fail
        rw [← hWA]
        clear hWA
        refine (reverse_st WA _ _ T HRT.out (by have := HSH.out; omega)).mono ?_
        rintro e w1 ⟨rfl, hrow, hk⟩
        have HW1 := Lib.hid (And.intro (HLW2.out.keep hk (fun k e => (HTR2.out.s.lt k e).1)) (And.intro (rowG_new length_cellsQ (hk.owns HTR2.out.t (fun k e y => HTR2.out.d k y e)) HTR2.out.tn) hrow))
        clear hk hrow HLW2 HTR2 HRT
        go_wp2_with (refine wpList_load_sum rfl _ rfl z4 0 rfl _ HW1.out.1.r ?_)
        refine (up_any f T.reverse _ _ w1 HW1.out.2.2 (by rw [List.length_reverse]; have := HSH.out; omega)).mono ?_
        rintro e w3 ⟨u, rfl, hu, hb⟩
        have hkb := Keeps.of_below (X := fun _ => False) hb
        rw [(upM_reverse f T).1] at hu
        have HW3 := Lib.hid (And.intro (HW1.out.1.below hb) (And.intro (HW1.out.2.1.keep (by omega) hkb (fun _ _ h => h)) (And.intro hu (show ∀ k, u6.ownBlock = some k → ¬ u.ownBlock = some k from fun k e y => by
          have h1 := hu.own k y
          have h2 : k < w1.heap.size := by
            rcases HW1.out.2.1 with ⟨rfl, _⟩ | ⟨g, cap, rfl, h0, _, _, _, h4, _⟩
            · cases e
            · simp only [Value.ownBlock, Option.some.injEq] at e
              subst e
              exact range_lt h4 (by intro h; have h6 := length_cfA length_cellsQ th; rw [h] at h6; have h7 := List.length_pos_iff.2 h0; rw [List.length_nil] at h6; omega)
          omega))))
        have HSZ3 := Lib.hid (HW1.out.1.s)
        clear hu hb hkb HW1
        go_wp2_with fail
        refine (reverse_pq w3 _ _ _ HW3.out.2.2.1 (by rw [List.length_reverse, length_saidT]; have := HSH.out; omega)).mono ?_
        rintro e w4 ⟨rfl, hrow, hk⟩
        rw [List.reverse_reverse] at hrow
        have HW4 := Lib.hid (And.intro (HW3.out.1.keep hk (fun k e => by have := HW3.out.2.2.1.own k e; have := HSZ3.out; omega)) (And.intro (HW3.out.2.1.keep (by omega) hk (fun k e y => HW3.out.2.2.2 k e y)) hrow))
        clear hk hrow HW3
        have hv5 : ∃ a c, u6 = .slice a th.length c := by
          rcases HW4.out.2.1 with ⟨h1, h2⟩ | ⟨g, cap, h1, _⟩
          · exact ⟨none, 0, by rw [h1, h2]; rfl⟩
          · exact ⟨_, cap, h1⟩
        obtain ⟨a5, c5, rfl⟩ := hv5
        have hv8 : ∃ a c, u = .slice a th.length c := by
          rcases HW4.out.2.2 with ⟨h1, h2⟩ | ⟨g, cap, h1, _⟩
          · refine ⟨none, 0, ?_⟩
            have := length_saidT f T
            rw [h2] at this
            have h9 := HSH.out.2
            rw [h1, ← h9, ← this]; rfl
          · exact ⟨_, cap, by rw [h1, length_saidT, HSH.out.2]⟩
        obtain ⟨a8, c8, rfl⟩ := hv8
        obtain ⟨nt, hnt⟩ : ∃ n, n = th.length := ⟨_, rfl⟩
        rw [← hnt] at HW4 HSH ⊢
        have HNT := Lib.hid hnt
        clear hnt
        have hnt6 : (nt : Int) < 1000000 := by have := HSH.out.1; omega
        go_wp2_with fail
        go_loopw [74] (fun i W => ∃ j : Nat, j ≤ nt ∧ i = .int .i64 (j : Int) ∧ Side f lj (T.drop j) (th.drop j) ∧ (saidT f T).drop j = saidT f (T.drop j) ∧ th.take j = (saidT f T).take j ∧ Below w4.heap.size w4 W) (fun i _ => nt - (intOf i).toNat)
        case atStart => exact ⟨0, by omega, rfl, HSD.out.1, rfl, rfl, Below.refl _ _⟩
        case round =>
          obtain ⟨j, hj, rfl, hside, hsaid, htake, hB⟩ := hrel
          have HSI := Lib.hid (And.intro hside (And.intro hsaid htake))
          have HW := Lib.hid (HW4.out.1.below hB)
          have HB := Lib.hid hB
          have HRW := Lib.hid (And.intro (HW4.out.2.1.keep (by omega) (Keeps.of_below (X := fun _ => False) hB) (fun _ _ h => h)) (HW4.out.2.2.keep (by omega) (Keeps.of_below (X := fun _ => False) hB) (fun _ _ h => h)))
          clear hside hsaid htake hB
          by_cases hlt : j < nt
          · have hlt' : (j : Int) < (nt : Int) := by omega
            have hj0 : (0 : Int) ≤ (j : Int) := by omega
            have hjt : j < th.length := by rw [← HNT.out]; exact hlt
            have hjs : j < (saidT f T).length := by rw [length_saidT, HSH.out.2]; exact hlt
            have hr1 : ∃ g, a5 = some ⟨g, 0, none⟩ ∧ wr.rangeAt g (0 + j * 64) (cellsQ th[j]) := by
              rcases HRW.out.1 with ⟨h1, h2⟩ | ⟨g, cap, h1, _, _, _, _, h4, _⟩
              · rw [h2] at hjt; simp at hjt
              · simp only [Value.slice.injEq] at h1
                exact ⟨g, h1.1, rangeG_at length_cellsQ h4 hjt⟩
            have hr2 : ∃ g, a8 = some ⟨g, 0, none⟩ ∧ wr.rangeAt g (0 + j * 64) (cellsQ (saidT f T)[j]) := by
              rcases HRW.out.2 with ⟨h1, h2⟩ | ⟨g, cap, h1, _, _, _, _, h4, _⟩
              · rw [h2] at hjs; simp at hjs
              · simp only [Value.slice.injEq] at h1
                exact ⟨g, h1.1, rangeG_at length_cellsQ h4 hjs⟩
            obtain ⟨g6, rfl, hr1⟩ := hr1
            obtain ⟨g8, rfl, hr2⟩ := hr2
            have hd1 : th.drop j = th[j] :: th.drop (j + 1) := List.drop_eq_getElem_cons hjt
            have hd2 : saidT f (T.drop j) = (saidT f T)[j] :: (saidT f T).drop (j + 1) := by rw [← HSI.out.2.1]; exact List.drop_eq_getElem_cons hjs
            have hd3 : th.take (j + 1) = th.take j ++ [th[j]] := List.take_succ_eq_append_getElem hjt
            have hd4 : (saidT f T).take (j + 1) = (saidT f T).take j ++ [(saidT f T)[j]] := List.take_succ_eq_append_getElem hjs
            rw [Nat.zero_add] at hr1 hr2
            have HD := Lib.hid (And.intro hd1 (And.intro hd2 (And.intro hd3 hd4)))
            have HRR := Lib.hid (And.intro hr1 hr2)
            clear hd1 hd2 hd3 hd4 hr1 hr2
            generalize th[j] = p1 at *
            generalize (saidT f T)[j] = p2 at *
            clear hjt hjs
            go_wp2_with (first
              | (refine wpList_load_pq rfl _ rfl g6 (j * 64) rfl p1 HRR.out.1 ?_)
              | (refine wpList_alloc_pq rfl rfl ?_)
              | (refine wpList_var_pq (by rfl) rfl _ _ rfl p1 rfl rfl ?_; intro W5 z5 hz5 hb5 hr5 _ _; have HW5 := Lib.hid (And.intro (HW.out.below hb5) (And.intro (HB.out.trans (hb5.mono HB.out.size)) (And.intro hr5 (br hb5 HRR.out.2)))); rw [← hz5]; clear hz5 hb5 hr5))
            refine wp_region_sched (fun V => V.rangeAt z5 0 (cellsQ p1) ∧ V.rangeAt g8 (j * 64) (cellsQ p2)) [.t 1, .t 2, .t 3, .s 0, .e 4 true, .e 5 false] (by kernel_rfl) (by kernel_rfl) (by intro c a d v w h; cases d <;> exact h) ?_
            have hbd := (Below.refl W5.heap.size W5).drew
            have HW6 := Lib.hid (And.intro (HW5.out.1.below hbd) (HW5.out.2.1.trans (hbd.mono HW5.out.2.1.size)))
            have HS := Lib.hid (show W5.drew.rangeAt z5 0 (cellsQ p1) ∧ W5.drew.rangeAt g8 (j * 64) (cellsQ p2) from HW5.out.2.2)
            clear hbd HW5 HRR HW
            generalize W5.drew = V9 at *
            iterate 3
              refine wpS_t rfl (v := ?_) (by rfl) (fun W => ?_) ?_
              rotate_left
              · go_simp
                try rfl
              try simp only [Act.put, List.setIfInBounds_toArray, List.set_cons_zero, List.set_cons_succ]
            refine wpS_load_pq (by exact HS.out) rfl (by rfl) _ (by rfl) z5 0 (by rfl) p1 (fun V hV => hV.1) ?_
            try simp only [Act.put, List.setIfInBounds_toArray, List.set_cons_zero, List.set_cons_succ]
            refine wpS_k rfl (by rfl) (fun K hK => ?_)
            refine wp_load_pq _ (by rfl) g8 (j * 64) (by rfl) p2 HS.out.2 ?_
            refine hK _ _ ⟨by exact HS.out, ?_⟩; clear hK K
            try simp only [Act.put, List.setIfInBounds_toArray, List.set_cons_zero, List.set_cons_succ]
            refine wpS_e rfl (by rfl) (fun K hK => ?_)
            go_simp
            by_cases hpp : p1 = p2
            · subst hpp
              obtain ⟨s', T', hT, hs2, hside⟩ := HSI.out.1.step HD.out.1 HD.out.2.1
              have hT2 : T.drop (j + 1) = T' := by
                have := congrArg (List.drop 1) hT
                rw [List.drop_drop] at this
                simpa using this
              have HSJ := Lib.hid (show Side f lj (T.drop (j + 1)) (th.drop (j + 1)) ∧ (saidT f T).drop (j + 1) = saidT f (T.drop (j + 1)) ∧ th.take (j + 1) = (saidT f T).take (j + 1) from by rw [hT2, HD.out.2.2.1, HD.out.2.2.2, HSI.out.2.2]; exact ⟨hside, hs2, rfl⟩)
              clear hT hs2 hside hT2
              refine (apart_same p1.1 p1.2 V9).mono ?_
              rintro e V1 ⟨rfl, hb⟩
              have HF := Lib.hid (HW6.out.2.trans (hb.mono HW6.out.2.size))
              clear hb
              refine hK _ _ ?_; clear hK K
              try simp only [Act.put, List.setIfInBounds_toArray, List.set_cons_zero, List.set_cons_succ]
              refine wpS_done ?_
              go_wp2_with fail
              exact ⟨⟨j + 1, by omega, by simp, HSJ.out.1, HSJ.out.2.1, HSJ.out.2.2, HF.out⟩, by simp [intOf]; omega⟩
            · refine (apart_clash p1.1 p1.2 p2.1 p2.2 V9 (fun h => hpp (Prod.ext h.1 h.2)) (HSI.out.1.clash HD.out.1 HD.out.2.1)).mono ?_
              intro e w9 h
              have hF := h.from_ HW6.out.1.b
              obtain ⟨va, vb, A, B, rfl, _⟩ := h
              exact ⟨rfl, hF⟩
          · have hjn : j = nt := by omega
            subst hjn
            have hend := HSI.out.1.end_ (List.drop_eq_nil_of_le (by rw [← HNT.out]; exact Nat.le_refl _))
            have hth : th = saidT f T := by
              have := HSI.out.2.2
              rw [List.take_of_length_le (by rw [← HNT.out]; exact Nat.le_refl _), List.take_of_length_le (by rw [length_saidT, HSH.out.2]; exact Nat.le_refl _)] at this
              exact this
            have hroot := same_end HSD.out.2.1 HSD.out.2.2 hth hend
            rw [HSA.out] at hroot
            have HE := Lib.hid hroot
            clear hend hth hroot
            have q0 : (0 : Int) ≤ (m : Int) := by omega
            have q1 : (m : Int) ≤ (nl : Int) := by omega
            have q2 : (m : Int) ≤ (cl : Int) := by omega
            have q3 : m ≤ cl := by omega
            go_wp2_with fail
            refine wp_region_sched (fun V => V.cell? ⟨A, 0, none⟩ = some (.slice (some ⟨bA, oA, none⟩) m cA) ∧ V.cell? ⟨B, 0, none⟩ = some (.slice (some ⟨bl, ol, none⟩) nl cl) ∧ V.cell? ⟨F, 0, none⟩ = some (.int .i64 (m : Int))) [.s 0, .s 1, .e 2 true, .t 3, .t 4, .e 5 false] (by kernel_rfl) (by kernel_rfl) (by intro c a d v w h; cases d <;> exact h) ?_
            have HW6 := Lib.hid ((HW.out.below (Below.refl wr.heap.size wr).drew).b)
            clear HW HRW
            generalize wr.drew = V9 at *
            have HS := Lib.hid (show V9.cell? ⟨A, 0, none⟩ = some (.slice (some ⟨bA, oA, none⟩) m cA) ∧ V9.cell? ⟨B, 0, none⟩ = some (.slice (some ⟨bl, ol, none⟩) nl cl) ∧ V9.cell? ⟨F, 0, none⟩ = some (.int .i64 (m : Int)) from ⟨bc HC.out.1 HW6.out, bc HC.out.2.1 HW6.out, bc HC.out.2.2.1 HW6.out⟩)
            refine wpS_s (by exact HS.out) rfl (v := ?_) (by rfl) (fun W hSW => ?_) ?_
            rotate_left
            · go_simp
              try rfl
            try simp only [Act.put, List.setIfInBounds_toArray, List.set_cons_zero, List.set_cons_succ]
            refine wpS_s (by exact HS.out) rfl (v := ?_) (by rfl) (fun W hSW => ?_) ?_
            rotate_left
            · go_simp
              try rfl
            try simp only [Act.put, List.setIfInBounds_toArray, List.set_cons_zero, List.set_cons_succ]
            have g := HS.out.2.2
            refine wpS_k rfl (by rfl) (fun K hK => ?_)
            go_simp
            refine hK _ _ ⟨by exact HS.out, ?_⟩; clear hK K
            try simp only [Act.put, List.setIfInBounds_toArray, List.set_cons_zero, List.set_cons_succ]
            clear g
            iterate 2
              refine wpS_t rfl (v := ?_) (by rfl) (fun W => ?_) ?_
              rotate_left
              · go_simp
                try rfl
              try simp only [Act.put, List.setIfInBounds_toArray, List.set_cons_zero, List.set_cons_succ]
            refine wpS_e rfl (by rfl) (fun K hK => ?_)
            go_simp
            have htk := (HL.out.below HW6.out).take m (by rw [← HNL0.out]; exact hml.2)
            have htl : (l.take m).length = a.length := by rw [List.length_take, ← HNL0.out, Nat.min_eq_left hml.2]; exact HNM.out
            refine (lists_any a.length a (l.take m) _ _ V9 (Nat.le_refl _) (HLA.out.below HW6.out) htk HML.out.1 htl.symm (by rw [HNM.out]; exact HX.out.1) HE.out (by have := HML.out; have := HX.out.2.1; omega) HX.out.2.2.1 (fun x hx => HX.out.2.2.2 x (List.mem_of_mem_take hx))).mono ?_
            intro e w9 h
            have hF := h.from_ HW6.out
            obtain ⟨va, vb, A, B, rfl, _⟩ := h
            exact ⟨rfl, hF⟩
      | false =>
        have hp0 := hf2 rfl
        clear hf1 hf2
        have hmn : mj = nj := by omega
        have HSD := Lib.hid (And.intro hside (And.intro hold hoh))
        have hsh : th.length < 1000000 ∧ T.length = th.length := ⟨by have := HST.out.pd.short; have := HNL.out; omega, HST.out.pd.lens⟩
        have HSH := Lib.hid hsh
        clear hside hold hoh hsh HST HQL
        have hfm : ∃ pb po, pa = some ⟨pb, po, none⟩ ∧ W0.rangeAt pb po (cellsOf f) ∧ 1 ≤ np := by
          obtain ⟨a, c, h1, _, _, h4⟩ := HPA.out
          have hpn : p ≠ [] := by intro h; rw [h] at hp0; simp at hp0
          obtain ⟨pb, po, ha, hr⟩ := h4.resolve_left hpn
          simp only [Value.slice.injEq] at h1
          have hi : 0 < p.length := List.length_pos_iff.2 hpn
          have h5 := range_at hr hi
          have h6 : p[0] = f := by rw [List.getElem?_eq_getElem hi] at hp0; simpa using hp0
          rw [h6, Nat.zero_mul, Nat.add_zero] at h5
          exact ⟨pb, po, by rw [h1.1, ha], h5, by rw [HNP.out]; exact hi⟩
        obtain ⟨pb, po, rfl, hpr, hnp1⟩ := hfm
        have HPR := Lib.hid hpr
        clear hpr hp0
        have hcK := bc HC.out.2.2.2 HLW.out.b
        have hnp2 : (0 : Int) < (np : Int) := by omega
        go_wp2_with (first
          | (refine wpList_load_sum rfl _ rfl pb po rfl f (br HLW.out.b HPR.out) ?_)
          | (refine wpList_store_sum rfl _ _ rfl z4 0 f rfl rfl HLW.out.t ?_; have HLW2 := Lib.hid (HLW.out.store f); have HTR2 := Lib.hid (HTR.out.keep (keeps_setCells_ z4 (cellsOf f) 0 wr) (fun k hk => by omega)); generalize wr.setCells z4 0 (cellsOf f) = WA at *; clear hcK HLW HTR))
        have HRT := Lib.hid (rowG_new length_cellsS HTR2.out.s HTR2.out.sn)
        refine (reverse_st WA _ _ T HRT.out (by have := HSH.out; omega)).mono ?_
        rintro e w1 ⟨rfl, hrow, hk⟩
        have HW1 := Lib.hid (And.intro (HLW2.out.keep hk (fun k e => (HTR2.out.s.lt k e).1)) (And.intro (rowG_new length_cellsQ (hk.owns HTR2.out.t (fun k e y => HTR2.out.d k y e)) HTR2.out.tn) hrow))
        clear hk hrow HLW2 HTR2 HRT
        go_wp2_with (refine wpList_load_sum rfl _ rfl z4 0 rfl _ HW1.out.1.r ?_)
        refine (up_any f T.reverse _ _ w1 HW1.out.2.2 (by rw [List.length_reverse]; have := HSH.out; omega)).mono ?_
        rintro e w3 ⟨u, rfl, hu, hb⟩
        have hkb := Keeps.of_below (X := fun _ => False) hb
        rw [(upM_reverse f T).1] at hu
        have HW3 := Lib.hid (And.intro (HW1.out.1.below hb) (And.intro (HW1.out.2.1.keep (by omega) hkb (fun _ _ h => h)) (And.intro hu (show ∀ k, u6.ownBlock = some k → ¬ u.ownBlock = some k from fun k e y => by
          have h1 := hu.own k y
          have h2 : k < w1.heap.size := by
            rcases HW1.out.2.1 with ⟨rfl, _⟩ | ⟨g, cap, rfl, h0, _, _, _, h4, _⟩
            · cases e
            · simp only [Value.ownBlock, Option.some.injEq] at e
              subst e
              exact range_lt h4 (by intro h; have h6 := length_cfA length_cellsQ th; rw [h] at h6; have h7 := List.length_pos_iff.2 h0; rw [List.length_nil] at h6; omega)
          omega))))
        have HSZ3 := Lib.hid (HW1.out.1.s)
        clear hu hb hkb HW1
        go_wp2_with fail
        refine (reverse_pq w3 _ _ _ HW3.out.2.2.1 (by rw [List.length_reverse, length_saidT]; have := HSH.out; omega)).mono ?_
        rintro e w4 ⟨rfl, hrow, hk⟩
        rw [List.reverse_reverse] at hrow
        have HW4 := Lib.hid (And.intro (HW3.out.1.keep hk (fun k e => by have := HW3.out.2.2.1.own k e; have := HSZ3.out; omega)) (And.intro (HW3.out.2.1.keep (by omega) hk (fun k e y => HW3.out.2.2.2 k e y)) hrow))
        clear hk hrow HW3
        have hv5 : ∃ a c, u6 = .slice a th.length c := by
          rcases HW4.out.2.1 with ⟨h1, h2⟩ | ⟨g, cap, h1, _⟩
          · exact ⟨none, 0, by rw [h1, h2]; rfl⟩
          · exact ⟨_, cap, h1⟩
        obtain ⟨a5, c5, rfl⟩ := hv5
        have hv8 : ∃ a c, u = .slice a th.length c := by
          rcases HW4.out.2.2 with ⟨h1, h2⟩ | ⟨g, cap, h1, _⟩
          · refine ⟨none, 0, ?_⟩
            have := length_saidT f T
            rw [h2] at this
            have h9 := HSH.out.2
            rw [h1, ← h9, ← this]; rfl
          · exact ⟨_, cap, by rw [h1, length_saidT, HSH.out.2]⟩
        obtain ⟨a8, c8, rfl⟩ := hv8
        obtain ⟨nt, hnt⟩ : ∃ n, n = th.length := ⟨_, rfl⟩
        rw [← hnt] at HW4 HSH ⊢
        have HNT := Lib.hid hnt
        clear hnt
        have hnt6 : (nt : Int) < 1000000 := by have := HSH.out.1; omega
        go_wp2_with fail
        go_loopw [74] (fun i W => ∃ j : Nat, j ≤ nt ∧ i = .int .i64 (j : Int) ∧ Side f lj (T.drop j) (th.drop j) ∧ (saidT f T).drop j = saidT f (T.drop j) ∧ th.take j = (saidT f T).take j ∧ Below w4.heap.size w4 W) (fun i _ => nt - (intOf i).toNat)
        case atStart => exact ⟨0, by omega, rfl, HSD.out.1, rfl, rfl, Below.refl _ _⟩
        case round =>
          obtain ⟨j, hj, rfl, hside, hsaid, htake, hB⟩ := hrel
          have HSI := Lib.hid (And.intro hside (And.intro hsaid htake))
          have HW := Lib.hid (HW4.out.1.below hB)
          have HB := Lib.hid hB
          have HRW := Lib.hid (And.intro (HW4.out.2.1.keep (by omega) (Keeps.of_below (X := fun _ => False) hB) (fun _ _ h => h)) (HW4.out.2.2.keep (by omega) (Keeps.of_below (X := fun _ => False) hB) (fun _ _ h => h)))
          clear hside hsaid htake hB
          by_cases hlt : j < nt
          · have hlt' : (j : Int) < (nt : Int) := by omega
            have hj0 : (0 : Int) ≤ (j : Int) := by omega
            have hjt : j < th.length := by rw [← HNT.out]; exact hlt
            have hjs : j < (saidT f T).length := by rw [length_saidT, HSH.out.2]; exact hlt
            have hr1 : ∃ g, a5 = some ⟨g, 0, none⟩ ∧ wr.rangeAt g (0 + j * 64) (cellsQ th[j]) := by
              rcases HRW.out.1 with ⟨h1, h2⟩ | ⟨g, cap, h1, _, _, _, _, h4, _⟩
              · rw [h2] at hjt; simp at hjt
              · simp only [Value.slice.injEq] at h1
                exact ⟨g, h1.1, rangeG_at length_cellsQ h4 hjt⟩
            have hr2 : ∃ g, a8 = some ⟨g, 0, none⟩ ∧ wr.rangeAt g (0 + j * 64) (cellsQ (saidT f T)[j]) := by
              rcases HRW.out.2 with ⟨h1, h2⟩ | ⟨g, cap, h1, _, _, _, _, h4, _⟩
              · rw [h2] at hjs; simp at hjs
              · simp only [Value.slice.injEq] at h1
                exact ⟨g, h1.1, rangeG_at length_cellsQ h4 hjs⟩
            obtain ⟨g6, rfl, hr1⟩ := hr1
            obtain ⟨g8, rfl, hr2⟩ := hr2
            have hd1 : th.drop j = th[j] :: th.drop (j + 1) := List.drop_eq_getElem_cons hjt
            have hd2 : saidT f (T.drop j) = (saidT f T)[j] :: (saidT f T).drop (j + 1) := by rw [← HSI.out.2.1]; exact List.drop_eq_getElem_cons hjs
            have hd3 : th.take (j + 1) = th.take j ++ [th[j]] := List.take_succ_eq_append_getElem hjt
            have hd4 : (saidT f T).take (j + 1) = (saidT f T).take j ++ [(saidT f T)[j]] := List.take_succ_eq_append_getElem hjs
            rw [Nat.zero_add] at hr1 hr2
            have HD := Lib.hid (And.intro hd1 (And.intro hd2 (And.intro hd3 hd4)))
            have HRR := Lib.hid (And.intro hr1 hr2)
            clear hd1 hd2 hd3 hd4 hr1 hr2
            generalize th[j] = p1 at *
            generalize (saidT f T)[j] = p2 at *
            clear hjt hjs
            go_wp2_with (first
              | (refine wpList_load_pq rfl _ rfl g6 (j * 64) rfl p1 HRR.out.1 ?_)
              | (refine wpList_alloc_pq rfl rfl ?_)
              | (refine wpList_var_pq (by rfl) rfl _ _ rfl p1 rfl rfl ?_; intro W5 z5 hz5 hb5 hr5 _ _; have HW5 := Lib.hid (And.intro (HW.out.below hb5) (And.intro (HB.out.trans (hb5.mono HB.out.size)) (And.intro hr5 (br hb5 HRR.out.2)))); rw [← hz5]; clear hz5 hb5 hr5))
            refine wp_region_sched (fun V => V.rangeAt z5 0 (cellsQ p1) ∧ V.rangeAt g8 (j * 64) (cellsQ p2)) [.t 1, .t 2, .t 3, .s 0, .e 4 true, .e 5 false] (by kernel_rfl) (by kernel_rfl) (by intro c a d v w h; cases d <;> exact h) ?_
            have hbd := (Below.refl W5.heap.size W5).drew
            have HW6 := Lib.hid (And.intro (HW5.out.1.below hbd) (HW5.out.2.1.trans (hbd.mono HW5.out.2.1.size)))
            have HS := Lib.hid (show W5.drew.rangeAt z5 0 (cellsQ p1) ∧ W5.drew.rangeAt g8 (j * 64) (cellsQ p2) from HW5.out.2.2)
            clear hbd HW5 HRR HW
            generalize W5.drew = V9 at *
            iterate 3
              refine wpS_t rfl (v := ?_) (by rfl) (fun W => ?_) ?_
              rotate_left
              · go_simp
                try rfl
              try simp only [Act.put, List.setIfInBounds_toArray, List.set_cons_zero, List.set_cons_succ]
            refine wpS_load_pq (by exact HS.out) rfl (by rfl) _ (by rfl) z5 0 (by rfl) p1 (fun V hV => hV.1) ?_
            try simp only [Act.put, List.setIfInBounds_toArray, List.set_cons_zero, List.set_cons_succ]
            refine wpS_k rfl (by rfl) (fun K hK => ?_)
            refine wp_load_pq _ (by rfl) g8 (j * 64) (by rfl) p2 HS.out.2 ?_
            refine hK _ _ ⟨by exact HS.out, ?_⟩; clear hK K
            try simp only [Act.put, List.setIfInBounds_toArray, List.set_cons_zero, List.set_cons_succ]
            refine wpS_e rfl (by rfl) (fun K hK => ?_)
            go_simp
            by_cases hpp : p1 = p2
            · subst hpp
              obtain ⟨s', T', hT, hs2, hside⟩ := HSI.out.1.step HD.out.1 HD.out.2.1
              have hT2 : T.drop (j + 1) = T' := by
                have := congrArg (List.drop 1) hT
                rw [List.drop_drop] at this
                simpa using this
              have HSJ := Lib.hid (show Side f lj (T.drop (j + 1)) (th.drop (j + 1)) ∧ (saidT f T).drop (j + 1) = saidT f (T.drop (j + 1)) ∧ th.take (j + 1) = (saidT f T).take (j + 1) from by rw [hT2, HD.out.2.2.1, HD.out.2.2.2, HSI.out.2.2]; exact ⟨hside, hs2, rfl⟩)
              clear hT hs2 hside hT2
              refine (apart_same p1.1 p1.2 V9).mono ?_
              rintro e V1 ⟨rfl, hb⟩
              have HF := Lib.hid (HW6.out.2.trans (hb.mono HW6.out.2.size))
              clear hb
              refine hK _ _ ?_; clear hK K
              try simp only [Act.put, List.setIfInBounds_toArray, List.set_cons_zero, List.set_cons_succ]
              refine wpS_done ?_
              go_wp2_with fail
              exact ⟨⟨j + 1, by omega, by simp, HSJ.out.1, HSJ.out.2.1, HSJ.out.2.2, HF.out⟩, by simp [intOf]; omega⟩
            · refine (apart_clash p1.1 p1.2 p2.1 p2.2 V9 (fun h => hpp (Prod.ext h.1 h.2)) (HSI.out.1.clash HD.out.1 HD.out.2.1)).mono ?_
              intro e w9 h
              have hF := h.from_ HW6.out.1.b
              obtain ⟨va, vb, A, B, rfl, _⟩ := h
              exact ⟨rfl, hF⟩
          · have hjn : j = nt := by omega
            subst hjn
            have hend := HSI.out.1.end_ (List.drop_eq_nil_of_le (by rw [← HNT.out]; exact Nat.le_refl _))
            have hth : th = saidT f T := by
              have := HSI.out.2.2
              rw [List.take_of_length_le (by rw [← HNT.out]; exact Nat.le_refl _), List.take_of_length_le (by rw [length_saidT, HSH.out.2]; exact Nat.le_refl _)] at this
              exact this
            have hroot := same_end HSD.out.2.1 HSD.out.2.2 hth hend
            rw [HSA.out] at hroot
            have HE := Lib.hid hroot
            clear hend hth hroot
            have q0 : (0 : Int) ≤ (m : Int) := by omega
            have q1 : (m : Int) ≤ (nl : Int) := by omega
            have q2 : (m : Int) ≤ (cl : Int) := by omega
            have q3 : m ≤ cl := by omega
            go_wp2_with fail
            refine wp_region_sched (fun V => V.cell? ⟨A, 0, none⟩ = some (.slice (some ⟨bA, oA, none⟩) m cA) ∧ V.cell? ⟨B, 0, none⟩ = some (.slice (some ⟨bl, ol, none⟩) nl cl) ∧ V.cell? ⟨F, 0, none⟩ = some (.int .i64 (m : Int))) [.s 0, .s 1, .e 2 true, .t 3, .t 4, .e 5 false] (by kernel_rfl) (by kernel_rfl) (by intro c a d v w h; cases d <;> exact h) ?_
            have HW6 := Lib.hid ((HW.out.below (Below.refl wr.heap.size wr).drew).b)
            clear HW HRW
            generalize wr.drew = V9 at *
            have HS := Lib.hid (show V9.cell? ⟨A, 0, none⟩ = some (.slice (some ⟨bA, oA, none⟩) m cA) ∧ V9.cell? ⟨B, 0, none⟩ = some (.slice (some ⟨bl, ol, none⟩) nl cl) ∧ V9.cell? ⟨F, 0, none⟩ = some (.int .i64 (m : Int)) from ⟨bc HC.out.1 HW6.out, bc HC.out.2.1 HW6.out, bc HC.out.2.2.1 HW6.out⟩)
            refine wpS_s (by exact HS.out) rfl (v := ?_) (by rfl) (fun W hSW => ?_) ?_
            rotate_left
            · go_simp
              try rfl
            try simp only [Act.put, List.setIfInBounds_toArray, List.set_cons_zero, List.set_cons_succ]
            refine wpS_s (by exact HS.out) rfl (v := ?_) (by rfl) (fun W hSW => ?_) ?_
            rotate_left
            · go_simp
              try rfl
            try simp only [Act.put, List.setIfInBounds_toArray, List.set_cons_zero, List.set_cons_succ]
            have g := HS.out.2.2
            refine wpS_k rfl (by rfl) (fun K hK => ?_)
            go_simp
            refine hK _ _ ⟨by exact HS.out, ?_⟩; clear hK K
            try simp only [Act.put, List.setIfInBounds_toArray, List.set_cons_zero, List.set_cons_succ]
            clear g
            iterate 2
              refine wpS_t rfl (v := ?_) (by rfl) (fun W => ?_) ?_
              rotate_left
              · go_simp
                try rfl
              try simp only [Act.put, List.setIfInBounds_toArray, List.set_cons_zero, List.set_cons_succ]
            refine wpS_e rfl (by rfl) (fun K hK => ?_)
            go_simp
            have htk := (HL.out.below HW6.out).take m (by rw [← HNL0.out]; exact hml.2)
            have htl : (l.take m).length = a.length := by rw [List.length_take, ← HNL0.out, Nat.min_eq_left hml.2]; exact HNM.out
            refine (lists_any a.length a (l.take m) _ _ V9 (Nat.le_refl _) (HLA.out.below HW6.out) htk HML.out.1 htl.symm (by rw [HNM.out]; exact HX.out.1) HE.out (by have := HML.out; have := HX.out.2.1; omega) HX.out.2.2.1 (fun x hx => HX.out.2.2.2 x (List.mem_of_mem_take hx))).mono ?_
            intro e w9 h
            have hF := h.from_ HW6.out
            obtain ⟨va, vb, A, B, rfl, _⟩ := h
            exact ⟨rfl, hF⟩
end Go.Proofs.Ytdkcndgehgmadaa
-- Walks: clashes.Link.
open Go Go.RowKit Alm
namespace Go.Proofs.Ytdkcndgehgmadaa
theorem four_row (w : World) (A B C D E : Obj) : (((((w.alloc A).alloc B).alloc C).alloc D).alloc E).heap[w.heap.size + 1 + 1 + 1]? = some D := by
  have := row_here (((w.alloc A).alloc B).alloc C) D
  simp only [World.size_alloc] at this
  exact row_old _ this
theorem enters104 (cap : Array Value) (W : World) : (callFunc 104 cap).run Try.prog W = .ok (.enter 104 cap) W :=
  enters _ cap Try.f104 Try.func104 (by intro h; cases h) (by decide +kernel) W
set_option maxRecDepth 100000 in
set_option maxHeartbeats 1000000 in
theorem link_out (a b : List (List UInt8)) (va vb vp : Value) (w : World) (ha : ListsAt w va a) (hb : ListsAt w vb b) (h : a.length < 1 ∨ b.length < a.length) (hp : ∃ a n c, vp = .slice a n c) : Calls Try.prog 58 #[va, vb, vp] w fun e w' => e = .returned (.tuple #[cv (.slice none 0 0) (.slice none 0 0), .bool false]) ∧ Below w.heap.size w w' := by
  obtain ⟨pa, pn, pc, rfl⟩ := hp
  have HBX := Lib.hid (box_four w va vb (.slice pa pn pc) (.int .i64 (a.length : Int)) 67 67 22 3 75 #[.slice none 0 0, .slice none 0 0] _ rfl)
  obtain ⟨aa, ca, rfl, a1, a2, _⟩ := ha
  obtain ⟨bb, cb, rfl, b1, b2, _⟩ := hb
  obtain ⟨n, hna⟩ : ∃ n, n = a.length := ⟨_, rfl⟩
  rw [← hna] at HBX a1 h ⊢
  clear hna
  obtain ⟨m, hmb⟩ : ∃ n, n = b.length := ⟨_, rfl⟩
  rw [← hmb] at HBX b1 h ⊢
  clear hmb
  by_cases h0 : n < 1
  · have k4 : decide ((n : Int) < 1) = true := decide_eq_true (by omega)
    have k5 : (n : Int) < 1 := by omega
    clear h
    go_enter Try.func58, Try.ntmps58
    go_wp2_with fail
    obtain ⟨z, hz⟩ : ∃ z, z = w.heap.size := ⟨_, rfl⟩
    rw [← hz] at HBX ⊢
    have HZ := Lib.hid hz; clear hz
    have HBW := Lib.hid (HZ.out ▸ HBX.out.2.2.2.2.2 : Below w.heap.size w _)
    generalize ((((w.alloc (.cells #[.slice aa n ca] 67)).alloc (.cells #[.slice bb m cb] 67)).alloc (.cells #[.slice pa pn pc] 22)).alloc (.cells #[.slice none 0 0, .slice none 0 0] 75)).alloc (.cells #[.int .i64 (n : Int)] 3) = W at *
    refine wp_region_sched (fun V => V.cell? ⟨z, 0, none⟩ = some (.slice aa n ca) ∧ V.cell? ⟨z + 1, 0, none⟩ = some (.slice bb m cb) ∧ V.cell? ⟨z + 1 + 1, 0, none⟩ = some (.slice pa pn pc) ∧ V.cell? ⟨z + 1 + 1 + 1 + 1, 0, none⟩ = some (.int .i64 (n : Int)) ∧ Below W.heap.size W V) [.e 0 true, .t 1, .t 2, .s 3, .e 4 true, .t 5, .t 6, .t 7, .t 8, .s 9, .s 10, .e 11 true, .t 12, .e 13 true, .t 14, .t 15, .s 16, .t 17, .s 18, .t 19, .t 20, .s 21, .s 23, .s 25, .e 22 true, .e 24 true, .e 26 true, .t 27, .t 28] (by kernel_rfl) (by kernel_rfl) (by intro c a d v w h; cases d <;> exact h) ?_
    have HSS : Hid (∀ V, Below W.heap.size W V → V.cell? ⟨z, 0, none⟩ = some (.slice aa n ca) ∧ V.cell? ⟨z + 1, 0, none⟩ = some (.slice bb m cb) ∧ V.cell? ⟨z + 1 + 1, 0, none⟩ = some (.slice pa pn pc) ∧ V.cell? ⟨z + 1 + 1 + 1 + 1, 0, none⟩ = some (.int .i64 (n : Int)) ∧ Below W.heap.size W V) := Lib.hid (fun V hV => ⟨bc HBX.out.1 hV, bc HBX.out.2.1 hV, bc HBX.out.2.2.1 hV, bc HBX.out.2.2.2.1 hV, hV⟩)
    have HS := Lib.hid (Below.refl W.heap.size W).drew
    generalize W.drew = V at *
    have g := (HSS.out _ HS.out).2.2.2.1
    refine wpS_k rfl (by rfl) (fun K hK => ?_)
    go_simp
    refine hK _ _ ⟨by exact HSS.out _ HS.out, ?_⟩; clear hK K
    try simp only [Act.put, List.setIfInBounds_toArray, List.set_cons_zero, List.set_cons_succ]
    clear g
    iterate 2
      refine wpS_t rfl (v := ?_) (by rfl) (fun W => ?_) ?_
      rotate_left
      · go_simp
        try rfl
      try simp only [Act.put, List.setIfInBounds_toArray, List.set_cons_zero, List.set_cons_succ]
    iterate 1
      refine wpS_s_skip (by exact HSS.out _ HS.out) rfl (by rfl) ?_
      try simp only [Act.put, List.setIfInBounds_toArray, List.set_cons_zero, List.set_cons_succ]
    refine wpS_k_skip (by exact HSS.out _ HS.out) rfl (by rfl) ?_
    try simp only [Act.put, List.setIfInBounds_toArray, List.set_cons_zero, List.set_cons_succ]
    iterate 2
      refine wpS_t_skip rfl (by rfl) ?_
      try simp only [Act.put, List.setIfInBounds_toArray, List.set_cons_zero, List.set_cons_succ]
    iterate 2
      refine wpS_t rfl (v := ?_) (by rfl) (fun W => ?_) ?_
      rotate_left
      · go_simp
        try rfl
      try simp only [Act.put, List.setIfInBounds_toArray, List.set_cons_zero, List.set_cons_succ]
    iterate 2
      refine wpS_s_skip (by exact HSS.out _ HS.out) rfl (by rfl) ?_
      try simp only [Act.put, List.setIfInBounds_toArray, List.set_cons_zero, List.set_cons_succ]
    refine wpS_k_skip (by exact HSS.out _ HS.out) rfl (by rfl) ?_
    try simp only [Act.put, List.setIfInBounds_toArray, List.set_cons_zero, List.set_cons_succ]
    iterate 1
      refine wpS_t_skip rfl (by rfl) ?_
      try simp only [Act.put, List.setIfInBounds_toArray, List.set_cons_zero, List.set_cons_succ]
    refine wpS_k_skip (by exact HSS.out _ HS.out) rfl (by rfl) ?_
    try simp only [Act.put, List.setIfInBounds_toArray, List.set_cons_zero, List.set_cons_succ]
    iterate 2
      refine wpS_t rfl (v := ?_) (by rfl) (fun W => ?_) ?_
      rotate_left
      · go_simp
        try rfl
      try simp only [Act.put, List.setIfInBounds_toArray, List.set_cons_zero, List.set_cons_succ]
    iterate 1
      refine wpS_s_skip (by exact HSS.out _ HS.out) rfl (by rfl) ?_
      try simp only [Act.put, List.setIfInBounds_toArray, List.set_cons_zero, List.set_cons_succ]
    iterate 1
      refine wpS_t_skip rfl (by rfl) ?_
      try simp only [Act.put, List.setIfInBounds_toArray, List.set_cons_zero, List.set_cons_succ]
    iterate 1
      refine wpS_s_skip (by exact HSS.out _ HS.out) rfl (by rfl) ?_
      try simp only [Act.put, List.setIfInBounds_toArray, List.set_cons_zero, List.set_cons_succ]
    iterate 2
      refine wpS_t_skip rfl (by rfl) ?_
      try simp only [Act.put, List.setIfInBounds_toArray, List.set_cons_zero, List.set_cons_succ]
    iterate 3
      refine wpS_s_skip (by exact HSS.out _ HS.out) rfl (by rfl) ?_
      try simp only [Act.put, List.setIfInBounds_toArray, List.set_cons_zero, List.set_cons_succ]
    refine wpS_k_skip (by exact HSS.out _ HS.out) rfl (by rfl) ?_
    try simp only [Act.put, List.setIfInBounds_toArray, List.set_cons_zero, List.set_cons_succ]
    refine wpS_k_skip (by exact HSS.out _ HS.out) rfl (by rfl) ?_
    try simp only [Act.put, List.setIfInBounds_toArray, List.set_cons_zero, List.set_cons_succ]
    refine wpS_k_skip (by exact HSS.out _ HS.out) rfl (by rfl) ?_
    try simp only [Act.put, List.setIfInBounds_toArray, List.set_cons_zero, List.set_cons_succ]
    iterate 1
      refine wpS_t_skip rfl (by rfl) ?_
      try simp only [Act.put, List.setIfInBounds_toArray, List.set_cons_zero, List.set_cons_succ]
    iterate 1
      refine wpS_t rfl (v := ?_) (by rfl) (fun W => ?_) ?_
      rotate_left
      · go_simp
        try rfl
      try simp only [Act.put, List.setIfInBounds_toArray, List.set_cons_zero, List.set_cons_succ]
    refine wpS_done ?_
    have HTV := Lib.hid ((Keeps.of_below (X := fun _ => False) HS.out).there HBX.out.2.2.2.2.1 (by decide) (fun h => h))
    have HBV := Lib.hid (HBW.out.trans (HS.out.mono HBW.out.size))
    go_wp2_with (refine wpList_store_clash rfl _ _ rfl (z + 1 + 1 + 1) 0 rfl rfl HTV.out ?_)
    exact bodyPost_ret (results_cell_tmp Try.results58 _ _ (z + 1 + 1 + 1) 0 cnil _ rfl (range_stored _ _ _ _ (by exact World.there_setCells HTV.out _ _ _)) Try.underlying75 rfl infoClash) rfl ⟨rfl, setCells_below _ (by have := HZ.out; omega) _ _ _ _ HBV.out⟩
  · have k1' : (m : Int) < (n : Int) := by omega
    have k2 : decide (m < n) = true := decide_eq_true (by omega)
    have k3 : m < n := by omega
    have k4 : decide ((n : Int) < 1) = false := decide_eq_false (by omega)
    have k5 : ¬ ((n : Int) < 1) := by omega
    clear h h0
    go_enter Try.func58, Try.ntmps58
    go_wp2_with fail
    obtain ⟨z, hz⟩ : ∃ z, z = w.heap.size := ⟨_, rfl⟩
    rw [← hz] at HBX ⊢
    have HZ := Lib.hid hz; clear hz
    have HBW := Lib.hid (HZ.out ▸ HBX.out.2.2.2.2.2 : Below w.heap.size w _)
    generalize ((((w.alloc (.cells #[.slice aa n ca] 67)).alloc (.cells #[.slice bb m cb] 67)).alloc (.cells #[.slice pa pn pc] 22)).alloc (.cells #[.slice none 0 0, .slice none 0 0] 75)).alloc (.cells #[.int .i64 (n : Int)] 3) = W at *
    refine wp_region_sched (fun V => V.cell? ⟨z, 0, none⟩ = some (.slice aa n ca) ∧ V.cell? ⟨z + 1, 0, none⟩ = some (.slice bb m cb) ∧ V.cell? ⟨z + 1 + 1, 0, none⟩ = some (.slice pa pn pc) ∧ V.cell? ⟨z + 1 + 1 + 1 + 1, 0, none⟩ = some (.int .i64 (n : Int)) ∧ Below W.heap.size W V) [.e 0 true, .t 1, .t 2, .s 3, .e 4 true, .t 5, .t 6, .t 7, .t 8, .s 9, .s 10, .e 11 true, .t 12, .e 13 true, .t 14, .t 15, .s 16, .t 17, .s 18, .t 19, .t 20, .s 21, .s 23, .s 25, .e 22 true, .e 24 true, .e 26 true, .t 27, .t 28] (by kernel_rfl) (by kernel_rfl) (by intro c a d v w h; cases d <;> exact h) ?_
    have HSS : Hid (∀ V, Below W.heap.size W V → V.cell? ⟨z, 0, none⟩ = some (.slice aa n ca) ∧ V.cell? ⟨z + 1, 0, none⟩ = some (.slice bb m cb) ∧ V.cell? ⟨z + 1 + 1, 0, none⟩ = some (.slice pa pn pc) ∧ V.cell? ⟨z + 1 + 1 + 1 + 1, 0, none⟩ = some (.int .i64 (n : Int)) ∧ Below W.heap.size W V) := Lib.hid (fun V hV => ⟨bc HBX.out.1 hV, bc HBX.out.2.1 hV, bc HBX.out.2.2.1 hV, bc HBX.out.2.2.2.1 hV, hV⟩)
    have HS := Lib.hid (Below.refl W.heap.size W).drew
    generalize W.drew = V at *
    have g := (HSS.out _ HS.out).2.2.2.1
    refine wpS_k rfl (by rfl) (fun K hK => ?_)
    go_simp
    refine hK _ _ ⟨by exact HSS.out _ HS.out, ?_⟩; clear hK K
    try simp only [Act.put, List.setIfInBounds_toArray, List.set_cons_zero, List.set_cons_succ]
    clear g
    iterate 2
      refine wpS_t rfl (v := ?_) (by rfl) (fun W => ?_) ?_
      rotate_left
      · go_simp
        try rfl
      try simp only [Act.put, List.setIfInBounds_toArray, List.set_cons_zero, List.set_cons_succ]
    refine wpS_s (by exact HSS.out _ HS.out) rfl (v := ?_) (by rfl) (fun W hSW => ?_) ?_
    rotate_left
    · go_simp
      try rfl
    try simp only [Act.put, List.setIfInBounds_toArray, List.set_cons_zero, List.set_cons_succ]
    have g := (HSS.out _ HS.out).2.1
    refine wpS_k rfl (by rfl) (fun K hK => ?_)
    go_simp
    refine hK _ _ ⟨by exact HSS.out _ HS.out, ?_⟩; clear hK K
    try simp only [Act.put, List.setIfInBounds_toArray, List.set_cons_zero, List.set_cons_succ]
    clear g
    iterate 4
      refine wpS_t rfl (v := ?_) (by rfl) (fun W => ?_) ?_
      rotate_left
      · go_simp
        try rfl
      try simp only [Act.put, List.setIfInBounds_toArray, List.set_cons_zero, List.set_cons_succ]
    iterate 2
      refine wpS_s_skip (by exact HSS.out _ HS.out) rfl (by rfl) ?_
      try simp only [Act.put, List.setIfInBounds_toArray, List.set_cons_zero, List.set_cons_succ]
    refine wpS_k_skip (by exact HSS.out _ HS.out) rfl (by rfl) ?_
    try simp only [Act.put, List.setIfInBounds_toArray, List.set_cons_zero, List.set_cons_succ]
    iterate 1
      refine wpS_t_skip rfl (by rfl) ?_
      try simp only [Act.put, List.setIfInBounds_toArray, List.set_cons_zero, List.set_cons_succ]
    refine wpS_k_skip (by exact HSS.out _ HS.out) rfl (by rfl) ?_
    try simp only [Act.put, List.setIfInBounds_toArray, List.set_cons_zero, List.set_cons_succ]
    iterate 2
      refine wpS_t rfl (v := ?_) (by rfl) (fun W => ?_) ?_
      rotate_left
      · go_simp
        try rfl
      try simp only [Act.put, List.setIfInBounds_toArray, List.set_cons_zero, List.set_cons_succ]
    iterate 1
      refine wpS_s_skip (by exact HSS.out _ HS.out) rfl (by rfl) ?_
      try simp only [Act.put, List.setIfInBounds_toArray, List.set_cons_zero, List.set_cons_succ]
    iterate 1
      refine wpS_t_skip rfl (by rfl) ?_
      try simp only [Act.put, List.setIfInBounds_toArray, List.set_cons_zero, List.set_cons_succ]
    iterate 1
      refine wpS_s_skip (by exact HSS.out _ HS.out) rfl (by rfl) ?_
      try simp only [Act.put, List.setIfInBounds_toArray, List.set_cons_zero, List.set_cons_succ]
    iterate 2
      refine wpS_t_skip rfl (by rfl) ?_
      try simp only [Act.put, List.setIfInBounds_toArray, List.set_cons_zero, List.set_cons_succ]
    iterate 3
      refine wpS_s_skip (by exact HSS.out _ HS.out) rfl (by rfl) ?_
      try simp only [Act.put, List.setIfInBounds_toArray, List.set_cons_zero, List.set_cons_succ]
    refine wpS_k_skip (by exact HSS.out _ HS.out) rfl (by rfl) ?_
    try simp only [Act.put, List.setIfInBounds_toArray, List.set_cons_zero, List.set_cons_succ]
    refine wpS_k_skip (by exact HSS.out _ HS.out) rfl (by rfl) ?_
    try simp only [Act.put, List.setIfInBounds_toArray, List.set_cons_zero, List.set_cons_succ]
    refine wpS_k_skip (by exact HSS.out _ HS.out) rfl (by rfl) ?_
    try simp only [Act.put, List.setIfInBounds_toArray, List.set_cons_zero, List.set_cons_succ]
    iterate 1
      refine wpS_t_skip rfl (by rfl) ?_
      try simp only [Act.put, List.setIfInBounds_toArray, List.set_cons_zero, List.set_cons_succ]
    iterate 1
      refine wpS_t rfl (v := ?_) (by rfl) (fun W => ?_) ?_
      rotate_left
      · go_simp
        try rfl
      try simp only [Act.put, List.setIfInBounds_toArray, List.set_cons_zero, List.set_cons_succ]
    refine wpS_done ?_
    have HTV := Lib.hid ((Keeps.of_below (X := fun _ => False) HS.out).there HBX.out.2.2.2.2.1 (by decide) (fun h => h))
    have HBV := Lib.hid (HBW.out.trans (HS.out.mono HBW.out.size))
    go_wp2_with (refine wpList_store_clash rfl _ _ rfl (z + 1 + 1 + 1) 0 rfl rfl HTV.out ?_)
    exact bodyPost_ret (results_cell_tmp Try.results58 _ _ (z + 1 + 1 + 1) 0 cnil _ rfl (range_stored _ _ _ _ (by exact World.there_setCells HTV.out _ _ _)) Try.underlying75 rfl infoClash) rfl ⟨rfl, setCells_below _ (by have := HZ.out; omega) _ _ _ _ HBV.out⟩
set_option maxRecDepth 100000 in
set_option maxHeartbeats 1000000 in
theorem link_not (a b : List (List UInt8)) (p : List Sum) (va vb vp : Value) (w : World) (ha : ListsAt w va a) (hb : ListsAt w vb b) (hp : SumsAt w vp p) (h1 : 1 ≤ a.length) (h2 : a.length ≤ b.length) (hab : ¬ a = b.take a.length) (hn : b.length < 1000000) (hsa : SZ a) (hsb : SZ b) (hpb : letBe a.length b.length (sd a) (sd b) p = false) : Calls Try.prog 58 #[va, vb, vp] w fun e w' => e = .returned (.tuple #[cv (.slice none 0 0) (.slice none 0 0), .bool false]) ∧ Below w.heap.size w w' := by
  have HPW := Lib.hid hp
  have HLA := Lib.hid ha
  have HLB := Lib.hid hb
  have HX := Lib.hid (And.intro hab (And.intro hn (And.intro hsa (And.intro hsb hpb))))
  obtain ⟨pa, pc, rfl, _, _, hz1⟩ := hp
  clear hz1
  have HBX := box_four w va vb (.slice pa p.length pc) (.int .i64 (a.length : Int)) 67 67 22 3 75 #[.slice none 0 0, .slice none 0 0] _ rfl
  have HR4 := Lib.hid (four_row w (.cells #[va] 67) (.cells #[vb] 67) (.cells #[.slice pa p.length pc] 22) (.cells #[.slice none 0 0, .slice none 0 0] 75) (.cells #[.int .i64 (a.length : Int)] 3))
  have hbw := HBX.2.2.2.2.2
  replace HBX := Lib.hid HBX
  have hb0 : b ≠ [] := by intro h; rw [h] at h2; simp only [List.length_nil] at h2; omega
  obtain ⟨bl, ol, cl, rfl, c1, c2⟩ := hb.form hb0
  have HT := Lib.hid (hb.take a.length h2)
  obtain ⟨aa, ca, rfl, a1, a2, a3⟩ := ha
  have HA := Lib.hid (And.intro (HLA.out.below hbw) (HT.out.below hbw))
  clear hbw hb hb0 HT hab a3 hsa hsb hpb
  obtain ⟨n, hna⟩ : ∃ n, n = a.length := ⟨_, rfl⟩
  have HN := Lib.hid hna
  rw [← hna] at HBX HR4 HA HLA h1 h2 a1 ⊢
  have hnt : n = (b.take n).length := by rw [List.length_take, Nat.min_eq_left h2]
  have HNT := Lib.hid hnt
  clear hnt
  clear hna
  obtain ⟨m, hmb⟩ : ∃ n, n = b.length := ⟨_, rfl⟩
  rw [← hmb] at HBX HR4 HA HLB c1 h2 hn ⊢
  have HM := Lib.hid hmb
  clear hmb
  obtain ⟨pn, hpn⟩ : ∃ n, n = p.length := ⟨_, rfl⟩
  rw [← hpn] at HBX HR4 HA HPW ⊢
  clear hpn
  unfold maxLen at c2 a2
  have k0 : (0 : Int) ≤ (n : Int) := by omega
  have k1 : (n : Int) ≤ (cl : Int) := by omega
  have k1' : (n : Int) ≤ (m : Int) := by omega
  have k2 : decide (m < n) = false := decide_eq_false (by omega)
  have k3 : ¬ m < n := by omega
  have k4 : decide ((n : Int) < 1) = false := decide_eq_false (by omega)
  have k5 : ¬ ((n : Int) < 1) := by omega
  have w1 : IntKind.u64.wrap (n : Int) = (n : Int) := by rw [IntKind.wrap_u64]; omega
  have w2 : IntKind.u64.wrap (m : Int) = (m : Int) := by rw [IntKind.wrap_u64]; omega
  go_enter Try.func58, Try.ntmps58
  go_wp2_with fail
  obtain ⟨z, hz⟩ : ∃ z, z = w.heap.size := ⟨_, rfl⟩
  rw [← hz] at HBX HR4 ⊢
  have HZ := Lib.hid hz; clear hz
  have HBW := Lib.hid (HZ.out ▸ HBX.out.2.2.2.2.2 : Below w.heap.size w _)
  generalize ((((w.alloc (.cells #[.slice aa n ca] 67)).alloc (.cells #[.slice (some ⟨bl, ol, none⟩) m cl] 67)).alloc (.cells #[.slice pa pn pc] 22)).alloc (.cells #[.slice none 0 0, .slice none 0 0] 75)).alloc (.cells #[.int .i64 (n : Int)] 3) = W at *
  refine wp_region_sched (fun V => V.cell? ⟨z, 0, none⟩ = some (.slice aa n ca) ∧ V.cell? ⟨z + 1, 0, none⟩ = some (.slice (some ⟨bl, ol, none⟩) m cl) ∧ V.cell? ⟨z + 1 + 1, 0, none⟩ = some (.slice pa pn pc) ∧ V.cell? ⟨z + 1 + 1 + 1 + 1, 0, none⟩ = some (.int .i64 (n : Int)) ∧ Below W.heap.size W V) [.e 0 true, .t 1, .t 2, .s 3, .e 4 true, .t 5, .t 6, .t 7, .t 8, .s 9, .s 10, .e 11 true, .t 12, .e 13 true, .t 14, .t 15, .s 16, .t 17, .s 18, .t 19, .t 20, .s 21, .s 23, .s 25, .e 22 true, .e 24 true, .e 26 true, .t 27, .t 28] (by kernel_rfl) (by kernel_rfl) (by intro c a d v w h; cases d <;> exact h) ?_
  have HSS : Hid (∀ V, Below W.heap.size W V → V.cell? ⟨z, 0, none⟩ = some (.slice aa n ca) ∧ V.cell? ⟨z + 1, 0, none⟩ = some (.slice (some ⟨bl, ol, none⟩) m cl) ∧ V.cell? ⟨z + 1 + 1, 0, none⟩ = some (.slice pa pn pc) ∧ V.cell? ⟨z + 1 + 1 + 1 + 1, 0, none⟩ = some (.int .i64 (n : Int)) ∧ Below W.heap.size W V) := Lib.hid (fun V hV => ⟨bc HBX.out.1 hV, bc HBX.out.2.1 hV, bc HBX.out.2.2.1 hV, bc HBX.out.2.2.2.1 hV, hV⟩)
  have HS := Lib.hid (Below.refl W.heap.size W).drew
  generalize W.drew = V at *
  have g := (HSS.out _ HS.out).2.2.2.1
  refine wpS_k rfl (by rfl) (fun K hK => ?_)
  go_simp
  refine hK _ _ ⟨by exact HSS.out _ HS.out, ?_⟩; clear hK K
  try simp only [Act.put, List.setIfInBounds_toArray, List.set_cons_zero, List.set_cons_succ]
  clear g
  iterate 2
    refine wpS_t rfl (v := ?_) (by rfl) (fun W => ?_) ?_
    rotate_left
    · go_simp
      try rfl
    try simp only [Act.put, List.setIfInBounds_toArray, List.set_cons_zero, List.set_cons_succ]
  refine wpS_s (by exact HSS.out _ HS.out) rfl (v := ?_) (by rfl) (fun W hSW => ?_) ?_
  rotate_left
  · go_simp
    try rfl
  try simp only [Act.put, List.setIfInBounds_toArray, List.set_cons_zero, List.set_cons_succ]
  have g := (HSS.out _ HS.out).2.1
  refine wpS_k rfl (by rfl) (fun K hK => ?_)
  go_simp
  refine hK _ _ ⟨by exact HSS.out _ HS.out, ?_⟩; clear hK K
  try simp only [Act.put, List.setIfInBounds_toArray, List.set_cons_zero, List.set_cons_succ]
  clear g
  iterate 4
    refine wpS_t rfl (v := ?_) (by rfl) (fun W => ?_) ?_
    rotate_left
    · go_simp
      try rfl
    try simp only [Act.put, List.setIfInBounds_toArray, List.set_cons_zero, List.set_cons_succ]
  refine wpS_s (by exact HSS.out _ HS.out) rfl (v := ?_) (by rfl) (fun W hSW => ?_) ?_
  rotate_left
  · go_simp
    try rfl
  try simp only [Act.put, List.setIfInBounds_toArray, List.set_cons_zero, List.set_cons_succ]
  refine wpS_s (by exact HSS.out _ HS.out) rfl (v := ?_) (by rfl) (fun W hSW => ?_) ?_
  rotate_left
  · go_simp
    try rfl
  try simp only [Act.put, List.setIfInBounds_toArray, List.set_cons_zero, List.set_cons_succ]
  have g := (HSS.out _ HS.out).2.2.2.1
  refine wpS_k rfl (by rfl) (fun K hK => ?_)
  go_simp
  refine hK _ _ ⟨by exact HSS.out _ HS.out, ?_⟩; clear hK K
  try simp only [Act.put, List.setIfInBounds_toArray, List.set_cons_zero, List.set_cons_succ]
  clear g
  iterate 1
    refine wpS_t rfl (v := ?_) (by rfl) (fun W => ?_) ?_
    rotate_left
    · go_simp
      try rfl
    try simp only [Act.put, List.setIfInBounds_toArray, List.set_cons_zero, List.set_cons_succ]
  refine wpS_k rfl (by rfl) (fun K hK => ?_)
  go_simp
  have hsame := same_any a (b.take n) _ _ V (HA.out.1.below HS.out) (HA.out.2.below HS.out) (by have := HN.out; omega)
  rw [decide_eq_false (show ¬ a = b.take n by rw [HN.out]; exact HX.out.1)] at hsame
  refine hsame.mono ?_
  rintro e V1 ⟨rfl, rfl⟩
  clear hsame
  refine hK _ _ ⟨by exact HSS.out _ HS.out, ?_⟩; clear hK K
  try simp only [Act.put, List.setIfInBounds_toArray, List.set_cons_zero, List.set_cons_succ]
  iterate 2
    refine wpS_t rfl (v := ?_) (by rfl) (fun W => ?_) ?_
    rotate_left
    · go_simp
      try rfl
    try simp only [Act.put, List.setIfInBounds_toArray, List.set_cons_zero, List.set_cons_succ]
  refine wpS_s (by exact HSS.out _ HS.out) rfl (v := ?_) (by rfl) (fun W hSW => ?_) ?_
  rotate_left
  · go_simp
    try rfl
  try simp only [Act.put, List.setIfInBounds_toArray, List.set_cons_zero, List.set_cons_succ]
  iterate 1
    refine wpS_t rfl (v := ?_) (by rfl) (fun W => ?_) ?_
    rotate_left
    · go_simp
      try rfl
    try simp only [Act.put, List.setIfInBounds_toArray, List.set_cons_zero, List.set_cons_succ]
  refine wpS_s (by exact HSS.out _ HS.out) rfl (v := ?_) (by rfl) (fun W hSW => ?_) ?_
  rotate_left
  · go_simp
    try rfl
  try simp only [Act.put, List.setIfInBounds_toArray, List.set_cons_zero, List.set_cons_succ]
  iterate 2
    refine wpS_t rfl (v := ?_) (by rfl) (fun W => ?_) ?_
    rotate_left
    · go_simp
      try rfl
    try simp only [Act.put, List.setIfInBounds_toArray, List.set_cons_zero, List.set_cons_succ]
  refine wpS_s (by exact HSS.out _ HS.out) rfl (v := ?_) (by rfl) (fun W hSW => ?_) ?_
  rotate_left
  · go_simp
    try rfl
  try simp only [Act.put, List.setIfInBounds_toArray, List.set_cons_zero, List.set_cons_succ]
  refine wpS_s (by exact HSS.out _ HS.out) rfl (v := ?_) (by rfl) (fun W hSW => ?_) ?_
  rotate_left
  · go_simp
    try rfl
  try simp only [Act.put, List.setIfInBounds_toArray, List.set_cons_zero, List.set_cons_succ]
  refine wpS_s (by exact HSS.out _ HS.out) rfl (v := ?_) (by rfl) (fun W hSW => ?_) ?_
  rotate_left
  · go_simp
    try rfl
  try simp only [Act.put, List.setIfInBounds_toArray, List.set_cons_zero, List.set_cons_succ]
  refine wpS_k rfl (by rfl) (fun K hK => ?_)
  go_simp
  refine (croot_any a _ V (HA.out.1.below HS.out) (by have := HN.out; omega) (fun x hx => Nat.lt_trans (HX.out.2.2.1 x hx) (by decide))).mono ?_
  rintro e V2 ⟨rfl, hb⟩
  replace HS := Lib.hid (HS.out.trans (hb.mono HS.out.size)); clear hb
  refine hK _ _ ⟨by exact HSS.out _ HS.out, ?_⟩; clear hK K
  try simp only [Act.put, List.setIfInBounds_toArray, List.set_cons_zero, List.set_cons_succ]
  refine wpS_k rfl (by rfl) (fun K hK => ?_)
  go_simp
  refine (croot_any b _ V2 (HLB.out.below (HBW.out.trans (HS.out.mono HBW.out.size))) HX.out.2.1 (fun x hx => Nat.lt_trans (HX.out.2.2.2.1 x hx) (by decide))).mono ?_
  rintro e V3 ⟨rfl, hb⟩
  replace HS := Lib.hid (HS.out.trans (hb.mono HS.out.size)); clear hb
  refine hK _ _ ⟨by exact HSS.out _ HS.out, ?_⟩; clear hK K
  try simp only [Act.put, List.setIfInBounds_toArray, List.set_cons_zero, List.set_cons_succ]
  refine wpS_k rfl (by rfl) (fun K hK => ?_)
  go_simp
  have hck := check_in n m (sd a) (sd b) _ p V3 (HPW.out.below (HBW.out.trans (HS.out.mono HBW.out.size)) (Nat.le_refl _)) h1 h2 (.inr (by omega))
  rw [show letBe n m (sd a) (sd b) p = false by rw [HN.out, HM.out]; exact HX.out.2.2.2.2] at hck
  refine hck.mono ?_
  rintro e V4 ⟨rfl, hb⟩
  clear hck
  replace HS := Lib.hid (HS.out.trans (hb.mono HS.out.size)); clear hb
  refine hK _ _ ⟨by exact HSS.out _ HS.out, ?_⟩; clear hK K
  try simp only [Act.put, List.setIfInBounds_toArray, List.set_cons_zero, List.set_cons_succ]
  iterate 2
    refine wpS_t rfl (v := ?_) (by rfl) (fun W => ?_) ?_
    rotate_left
    · go_simp
      try rfl
    try simp only [Act.put, List.setIfInBounds_toArray, List.set_cons_zero, List.set_cons_succ]
  clear HR4
  refine wpS_done ?_
  have HTV := Lib.hid ((Keeps.of_below (X := fun _ => False) HS.out).there HBX.out.2.2.2.2.1 (by decide) (fun h => h))
  have HBV := Lib.hid (HBW.out.trans (HS.out.mono HBW.out.size))
  go_wp2_with (refine wpList_store_clash rfl _ _ rfl (z + 1 + 1 + 1) 0 rfl rfl HTV.out ?_)
  exact bodyPost_ret (results_cell_tmp Try.results58 _ _ (z + 1 + 1 + 1) 0 cnil _ rfl (range_stored _ _ _ _ (by exact World.there_setCells HTV.out _ _ _)) Try.underlying75 rfl infoClash) rfl ⟨rfl, setCells_below _ (by have := HZ.out; omega) _ _ _ _ HBV.out⟩
set_option maxRecDepth 100000 in
set_option maxHeartbeats 1000000 in
theorem link_told (a b : List (List UInt8)) (p : List Sum) (va vb vp : Value) (w : World) (ha : ListsAt w va a) (hb : ListsAt w vb b) (hp : SumsAt w vp p) (h1 : 1 ≤ a.length) (h2 : a.length ≤ b.length) (hab : ¬ a = b.take a.length) (hn : b.length < 1000000) (hsa : SZ a) (hsb : SZ b) (hpb : letBe a.length b.length (sd a) (sd b) p = true) : Calls Try.prog 58 #[va, vb, vp] w (FoundOf w) := by
  have HPW := Lib.hid hp
  have HLA := Lib.hid ha
  have HLB := Lib.hid hb
  have HX := Lib.hid (And.intro hab (And.intro hn (And.intro hsa (And.intro hsb hpb))))
  obtain ⟨pa, pc, rfl, _, _, hz1⟩ := hp
  clear hz1
  have HBX := box_four w va vb (.slice pa p.length pc) (.int .i64 (a.length : Int)) 67 67 22 3 75 #[.slice none 0 0, .slice none 0 0] _ rfl
  have HR4 := Lib.hid (four_row w (.cells #[va] 67) (.cells #[vb] 67) (.cells #[.slice pa p.length pc] 22) (.cells #[.slice none 0 0, .slice none 0 0] 75) (.cells #[.int .i64 (a.length : Int)] 3))
  have hbw := HBX.2.2.2.2.2
  replace HBX := Lib.hid HBX
  have hb0 : b ≠ [] := by intro h; rw [h] at h2; simp only [List.length_nil] at h2; omega
  obtain ⟨bl, ol, cl, rfl, c1, c2⟩ := hb.form hb0
  have HT := Lib.hid (hb.take a.length h2)
  obtain ⟨aa, ca, rfl, a1, a2, a3⟩ := ha
  have HA := Lib.hid (And.intro (HLA.out.below hbw) (HT.out.below hbw))
  clear hbw hb hb0 HT hab a3 hsa hsb hpb
  obtain ⟨n, hna⟩ : ∃ n, n = a.length := ⟨_, rfl⟩
  have HN := Lib.hid hna
  rw [← hna] at HBX HR4 HA HLA h1 h2 a1 ⊢
  have hnt : n = (b.take n).length := by rw [List.length_take, Nat.min_eq_left h2]
  have HNT := Lib.hid hnt
  clear hnt
  clear hna
  obtain ⟨m, hmb⟩ : ∃ n, n = b.length := ⟨_, rfl⟩
  rw [← hmb] at HBX HR4 HA HLB c1 h2 hn ⊢
  have HM := Lib.hid hmb
  clear hmb
  obtain ⟨pn, hpn⟩ : ∃ n, n = p.length := ⟨_, rfl⟩
  rw [← hpn] at HBX HR4 HA HPW ⊢
  clear hpn
  unfold maxLen at c2 a2
  have k0 : (0 : Int) ≤ (n : Int) := by omega
  have k1 : (n : Int) ≤ (cl : Int) := by omega
  have k1' : (n : Int) ≤ (m : Int) := by omega
  have k2 : decide (m < n) = false := decide_eq_false (by omega)
  have k3 : ¬ m < n := by omega
  have k4 : decide ((n : Int) < 1) = false := decide_eq_false (by omega)
  have k5 : ¬ ((n : Int) < 1) := by omega
  have w1 : IntKind.u64.wrap (n : Int) = (n : Int) := by rw [IntKind.wrap_u64]; omega
  have w2 : IntKind.u64.wrap (m : Int) = (m : Int) := by rw [IntKind.wrap_u64]; omega
  go_enter Try.func58, Try.ntmps58
  go_wp2_with fail
  obtain ⟨z, hz⟩ : ∃ z, z = w.heap.size := ⟨_, rfl⟩
  rw [← hz] at HBX HR4 ⊢
  have HZ := Lib.hid hz; clear hz
  have HBW := Lib.hid (HZ.out ▸ HBX.out.2.2.2.2.2 : Below w.heap.size w _)
  generalize ((((w.alloc (.cells #[.slice aa n ca] 67)).alloc (.cells #[.slice (some ⟨bl, ol, none⟩) m cl] 67)).alloc (.cells #[.slice pa pn pc] 22)).alloc (.cells #[.slice none 0 0, .slice none 0 0] 75)).alloc (.cells #[.int .i64 (n : Int)] 3) = W at *
  refine wp_region_sched (fun V => V.cell? ⟨z, 0, none⟩ = some (.slice aa n ca) ∧ V.cell? ⟨z + 1, 0, none⟩ = some (.slice (some ⟨bl, ol, none⟩) m cl) ∧ V.cell? ⟨z + 1 + 1, 0, none⟩ = some (.slice pa pn pc) ∧ V.cell? ⟨z + 1 + 1 + 1 + 1, 0, none⟩ = some (.int .i64 (n : Int)) ∧ Below W.heap.size W V) [.e 0 true, .t 1, .t 2, .s 3, .e 4 true, .t 5, .t 6, .t 7, .t 8, .s 9, .s 10, .e 11 true, .t 12, .e 13 true, .t 14, .t 15, .s 16, .t 17, .s 18, .t 19, .t 20, .s 21, .s 23, .s 25, .e 22 true, .e 24 true, .e 26 true, .t 27, .t 28] (by kernel_rfl) (by kernel_rfl) (by intro c a d v w h; cases d <;> exact h) ?_
  have HSS : Hid (∀ V, Below W.heap.size W V → V.cell? ⟨z, 0, none⟩ = some (.slice aa n ca) ∧ V.cell? ⟨z + 1, 0, none⟩ = some (.slice (some ⟨bl, ol, none⟩) m cl) ∧ V.cell? ⟨z + 1 + 1, 0, none⟩ = some (.slice pa pn pc) ∧ V.cell? ⟨z + 1 + 1 + 1 + 1, 0, none⟩ = some (.int .i64 (n : Int)) ∧ Below W.heap.size W V) := Lib.hid (fun V hV => ⟨bc HBX.out.1 hV, bc HBX.out.2.1 hV, bc HBX.out.2.2.1 hV, bc HBX.out.2.2.2.1 hV, hV⟩)
  have HS := Lib.hid (Below.refl W.heap.size W).drew
  generalize W.drew = V at *
  have g := (HSS.out _ HS.out).2.2.2.1
  refine wpS_k rfl (by rfl) (fun K hK => ?_)
  go_simp
  refine hK _ _ ⟨by exact HSS.out _ HS.out, ?_⟩; clear hK K
  try simp only [Act.put, List.setIfInBounds_toArray, List.set_cons_zero, List.set_cons_succ]
  clear g
  iterate 2
    refine wpS_t rfl (v := ?_) (by rfl) (fun W => ?_) ?_
    rotate_left
    · go_simp
      try rfl
    try simp only [Act.put, List.setIfInBounds_toArray, List.set_cons_zero, List.set_cons_succ]
  refine wpS_s (by exact HSS.out _ HS.out) rfl (v := ?_) (by rfl) (fun W hSW => ?_) ?_
  rotate_left
  · go_simp
    try rfl
  try simp only [Act.put, List.setIfInBounds_toArray, List.set_cons_zero, List.set_cons_succ]
  have g := (HSS.out _ HS.out).2.1
  refine wpS_k rfl (by rfl) (fun K hK => ?_)
  go_simp
  refine hK _ _ ⟨by exact HSS.out _ HS.out, ?_⟩; clear hK K
  try simp only [Act.put, List.setIfInBounds_toArray, List.set_cons_zero, List.set_cons_succ]
  clear g
  iterate 4
    refine wpS_t rfl (v := ?_) (by rfl) (fun W => ?_) ?_
    rotate_left
    · go_simp
      try rfl
    try simp only [Act.put, List.setIfInBounds_toArray, List.set_cons_zero, List.set_cons_succ]
  refine wpS_s (by exact HSS.out _ HS.out) rfl (v := ?_) (by rfl) (fun W hSW => ?_) ?_
  rotate_left
  · go_simp
    try rfl
  try simp only [Act.put, List.setIfInBounds_toArray, List.set_cons_zero, List.set_cons_succ]
  refine wpS_s (by exact HSS.out _ HS.out) rfl (v := ?_) (by rfl) (fun W hSW => ?_) ?_
  rotate_left
  · go_simp
    try rfl
  try simp only [Act.put, List.setIfInBounds_toArray, List.set_cons_zero, List.set_cons_succ]
  have g := (HSS.out _ HS.out).2.2.2.1
  refine wpS_k rfl (by rfl) (fun K hK => ?_)
  go_simp
  refine hK _ _ ⟨by exact HSS.out _ HS.out, ?_⟩; clear hK K
  try simp only [Act.put, List.setIfInBounds_toArray, List.set_cons_zero, List.set_cons_succ]
  clear g
  iterate 1
    refine wpS_t rfl (v := ?_) (by rfl) (fun W => ?_) ?_
    rotate_left
    · go_simp
      try rfl
    try simp only [Act.put, List.setIfInBounds_toArray, List.set_cons_zero, List.set_cons_succ]
  refine wpS_k rfl (by rfl) (fun K hK => ?_)
  go_simp
  have hsame := same_any a (b.take n) _ _ V (HA.out.1.below HS.out) (HA.out.2.below HS.out) (by have := HN.out; omega)
  rw [decide_eq_false (show ¬ a = b.take n by rw [HN.out]; exact HX.out.1)] at hsame
  refine hsame.mono ?_
  rintro e V1 ⟨rfl, rfl⟩
  clear hsame
  refine hK _ _ ⟨by exact HSS.out _ HS.out, ?_⟩; clear hK K
  try simp only [Act.put, List.setIfInBounds_toArray, List.set_cons_zero, List.set_cons_succ]
  iterate 2
    refine wpS_t rfl (v := ?_) (by rfl) (fun W => ?_) ?_
    rotate_left
    · go_simp
      try rfl
    try simp only [Act.put, List.setIfInBounds_toArray, List.set_cons_zero, List.set_cons_succ]
  refine wpS_s (by exact HSS.out _ HS.out) rfl (v := ?_) (by rfl) (fun W hSW => ?_) ?_
  rotate_left
  · go_simp
    try rfl
  try simp only [Act.put, List.setIfInBounds_toArray, List.set_cons_zero, List.set_cons_succ]
  iterate 1
    refine wpS_t rfl (v := ?_) (by rfl) (fun W => ?_) ?_
    rotate_left
    · go_simp
      try rfl
    try simp only [Act.put, List.setIfInBounds_toArray, List.set_cons_zero, List.set_cons_succ]
  refine wpS_s (by exact HSS.out _ HS.out) rfl (v := ?_) (by rfl) (fun W hSW => ?_) ?_
  rotate_left
  · go_simp
    try rfl
  try simp only [Act.put, List.setIfInBounds_toArray, List.set_cons_zero, List.set_cons_succ]
  iterate 2
    refine wpS_t rfl (v := ?_) (by rfl) (fun W => ?_) ?_
    rotate_left
    · go_simp
      try rfl
    try simp only [Act.put, List.setIfInBounds_toArray, List.set_cons_zero, List.set_cons_succ]
  refine wpS_s (by exact HSS.out _ HS.out) rfl (v := ?_) (by rfl) (fun W hSW => ?_) ?_
  rotate_left
  · go_simp
    try rfl
  try simp only [Act.put, List.setIfInBounds_toArray, List.set_cons_zero, List.set_cons_succ]
  refine wpS_s (by exact HSS.out _ HS.out) rfl (v := ?_) (by rfl) (fun W hSW => ?_) ?_
  rotate_left
  · go_simp
    try rfl
  try simp only [Act.put, List.setIfInBounds_toArray, List.set_cons_zero, List.set_cons_succ]
  refine wpS_s (by exact HSS.out _ HS.out) rfl (v := ?_) (by rfl) (fun W hSW => ?_) ?_
  rotate_left
  · go_simp
    try rfl
  try simp only [Act.put, List.setIfInBounds_toArray, List.set_cons_zero, List.set_cons_succ]
  refine wpS_k rfl (by rfl) (fun K hK => ?_)
  go_simp
  refine (croot_any a _ V (HA.out.1.below HS.out) (by have := HN.out; omega) (fun x hx => Nat.lt_trans (HX.out.2.2.1 x hx) (by decide))).mono ?_
  rintro e V2 ⟨rfl, hb⟩
  replace HS := Lib.hid (HS.out.trans (hb.mono HS.out.size)); clear hb
  refine hK _ _ ⟨by exact HSS.out _ HS.out, ?_⟩; clear hK K
  try simp only [Act.put, List.setIfInBounds_toArray, List.set_cons_zero, List.set_cons_succ]
  refine wpS_k rfl (by rfl) (fun K hK => ?_)
  go_simp
  refine (croot_any b _ V2 (HLB.out.below (HBW.out.trans (HS.out.mono HBW.out.size))) HX.out.2.1 (fun x hx => Nat.lt_trans (HX.out.2.2.2.1 x hx) (by decide))).mono ?_
  rintro e V3 ⟨rfl, hb⟩
  replace HS := Lib.hid (HS.out.trans (hb.mono HS.out.size)); clear hb
  refine hK _ _ ⟨by exact HSS.out _ HS.out, ?_⟩; clear hK K
  try simp only [Act.put, List.setIfInBounds_toArray, List.set_cons_zero, List.set_cons_succ]
  refine wpS_k rfl (by rfl) (fun K hK => ?_)
  go_simp
  have hck := check_in n m (sd a) (sd b) _ p V3 (HPW.out.below (HBW.out.trans (HS.out.mono HBW.out.size)) (Nat.le_refl _)) h1 h2 (.inr (by omega))
  rw [show letBe n m (sd a) (sd b) p = true by rw [HN.out, HM.out]; exact HX.out.2.2.2.2] at hck
  refine hck.mono ?_
  rintro e V4 ⟨rfl, hb⟩
  clear hck
  replace HS := Lib.hid (HS.out.trans (hb.mono HS.out.size)); clear hb
  refine hK _ _ ⟨by exact HSS.out _ HS.out, ?_⟩; clear hK K
  try simp only [Act.put, List.setIfInBounds_toArray, List.set_cons_zero, List.set_cons_succ]
  iterate 2
    refine wpS_t rfl (v := ?_) (by rfl) (fun W => ?_) ?_
    rotate_left
    · go_simp
      try rfl
    try simp only [Act.put, List.setIfInBounds_toArray, List.set_cons_zero, List.set_cons_succ]
  refine wpS_done ?_
  have hmf : ∀ (fn : Fn) (first cap : Array Value) (w : World), (Instr.makeFunc fn first cap).run Try.prog w = .ok (.func fn first cap) w := fun _ _ _ _ => rfl
  have HTV := Lib.hid ((Keeps.of_below (X := fun _ => False) HS.out).there HBX.out.2.2.2.2.1 (by decide) (fun h => h))
  have HBV := Lib.hid (HBW.out.trans (HS.out.mono HBW.out.size))
  have HRV := Lib.hid ((Keeps.of_below (X := fun _ => False) HS.out).heap HR4.out (fun h => h))
  go_wp2_with fail
  refine (finds_any 104 #[.pointer (some ⟨z, 0, none⟩), .pointer (some ⟨z + 1, 0, none⟩), .pointer (some ⟨z + 1 + 1 + 1 + 1, 0, none⟩), .pointer (some ⟨z + 1 + 1, 0, none⟩)] V4 (enters104 _) (fun W2 hb2 => ?_)).mono ?_
  · have hS2 := HSS.out _ (HS.out.trans (hb2.mono HS.out.size))
    have hBW2 := HBV.out.trans (hb2.mono HBV.out.size)
    refine linkway_any a b p _ _ _ W2 z (z + 1) (z + 1 + 1 + 1 + 1) (z + 1 + 1) hS2.1 hS2.2.1 (by rw [← HN.out]; exact hS2.2.2.2.1) hS2.2.2.1 (HLA.out.below hBW2) (HLB.out.below hBW2) (HPW.out.below hBW2 (Nat.le_refl _)) HX.out.2.2.2.2 HX.out.1 HX.out.2.1 HX.out.2.2.1 HX.out.2.2.2.1
  rintro e V5 ⟨va, vb, A, B, rfl, hA, hB, hI, hla, hlb, hb⟩
  have hk := Keeps.of_below (X := fun _ => False) hb
  have HRW := Lib.hid (hk.heap HRV.out (fun h => h))
  have HTW := Lib.hid (hk.there HTV.out (by decide) (fun h => h))
  have HBW4 := Lib.hid (HBV.out.trans (hb.mono HBV.out.size))
  obtain ⟨x1, c1', rfl, _, _, g1⟩ := id hA
  obtain ⟨x2, c2', rfl, _, _, g2⟩ := id hB
  have HP := Lib.hid (And.intro hA (And.intro hB (And.intro hI (And.intro hla hlb))))
  clear hA hB hI hla hlb g1 g2 hk hb
  go_wp2_with (refine wpList_store_cv rfl _ _ rfl (z + 1 + 1 + 1) 0 _ _ _ _ _ _ rfl rfl HTW.out ?_)
  have hk := keeps_setCells_ (z + 1 + 1 + 1) [.slice x1 A.length c1', .slice x2 B.length c2'] 0 V5
  exact bodyPost_ret (results_cell_tmp Try.results58 _ _ (z + 1 + 1 + 1) 0 [.slice x1 A.length c1', .slice x2 B.length c2'] _ rfl (range_stored _ _ _ _ (by exact World.there_setCells HTW.out _ _ _)) Try.underlying75 rfl infoClash) rfl
    ⟨_, _, A, B, rfl, hk.bytes HP.out.1 (no_byte2 V5 _ HRW.out), hk.bytes HP.out.2.1 (no_byte2 V5 _ HRW.out), HP.out.2.2.1, HP.out.2.2.2.1, HP.out.2.2.2.2, setCells_below _ (by have := HZ.out; omega) _ _ _ _ HBW4.out⟩
end Go.Proofs.Ytdkcndgehgmadaa
-- Walks: the law ClashesLink.
open Go Go.RowKit Alm
namespace Go.Proofs.Ytdkcndgehgmadaa
theorem link_all (a b : List (List UInt8)) (p : List Sum) (va vb vp : Value) (w : World) (ha : ListsAt w va a) (hb : ListsAt w vb b) (hp : SumsAt w vp p) (hn : b.length < 1000000) (hsa : SZ a) (hsb : SZ b) :
    Calls Try.prog 58 #[va, vb, vp] w (ToldOf w (decide (1 ≤ a.length ∧ a.length ≤ b.length) && letBe a.length b.length (sd a) (sd b) p && !decide (a = b.take a.length))) := by
  have hvp : ∃ a n c, vp = .slice a n c := by obtain ⟨a, c, h, _⟩ := hp; exact ⟨a, _, c, h⟩
  by_cases hr : 1 ≤ a.length ∧ a.length ≤ b.length
  · rw [decide_eq_true hr]
    by_cases hx : a = b.take a.length
    · exact (link_same a b va vb vp w ha hb hr.1 hr.2 hx.symm hn hvp).mono fun e w' h => (told_none h).eq (by rw [decide_eq_true hx]; simp)
    · rcases hpb : letBe a.length b.length (sd a) (sd b) p with _ | _
      · exact (link_not a b p va vb vp w ha hb hp hr.1 hr.2 hx hn hsa hsb hpb).mono fun e w' h => (told_none h).eq (by simp)
      · exact (link_told a b p va vb vp w ha hb hp hr.1 hr.2 hx hn hsa hsb hpb).mono fun e w' h => (told_found h).eq (by rw [decide_eq_false hx]; rfl)
  · exact (link_out a b va vb vp w ha hb (by omega) hvp).mono fun e w' h => (told_none h).eq (by rw [decide_eq_false hr]; rfl)
set_option maxRecDepth 100000 in
set_option maxHeartbeats 4000000 in
theorem clashesLink_any (L M : List (List UInt8)) (at_ : Int) (B : List UInt8) (S : List Sum) (vL vM vB vS : Value) (w : World) (hL : ListsAt w vL L) (hM : ListsAt w vM M) (hB : BytesAt w vB B) (hS : SumsAt w vS S)
    (hz : (L.length ≤ LIM ∧ ∀ y ∈ L, y.length ≤ LIM) ∧ (M.length ≤ LIM ∧ ∀ y ∈ M, y.length ≤ LIM) ∧ B.length ≤ LIM ∧ S.length ≤ LIM) : Calls Try.prog 20 #[said13 vL vM at_ vB vS] w fun e w' => e = .returned (.bool true) ∧ Below w.heap.size w w' := by
  have hb0 := al (Below.refl _ w) (.cells #[vL, vM, .int .i64 at_, vB, vS] 80)
  have HB0 := Lib.hid hb0
  have HSD := Lib.hid (said5_new w vL vM at_ vB vS 80)
  have HLL := Lib.hid (hL.below hb0)
  have HMM := Lib.hid (hM.below hb0)
  have HSS := Lib.hid (hS.below hb0 (Nat.le_refl _))
  have HG := Lib.hid (great_any L M B S vL vM at_ vB vS _ (hL.below hb0) (hM.below hb0) (bytes_below hB hb0 (Nat.le_refl _)) (hS.below hb0 (Nat.le_refl _)) hz.1 hz.2.1 hz.2.2.1 hz.2.2.2)
  obtain ⟨aL, cL, rfl, l1, l2⟩ := hL.slice
  obtain ⟨aM, cM, rfl, m1, m2⟩ := hM.slice
  obtain ⟨aB, cB, rfl, _, _, _⟩ := id hB
  obtain ⟨aS, cS, rfl, _, _, _⟩ := id hS
  clear hb0 hL hM hB hS hz
  obtain ⟨n, hn⟩ : ∃ n, n = L.length := ⟨_, rfl⟩
  obtain ⟨m, hm⟩ : ∃ m, m = M.length := ⟨_, rfl⟩
  obtain ⟨nb, hnb⟩ : ∃ m, m = B.length := ⟨_, rfl⟩
  obtain ⟨ns, hns⟩ : ∃ m, m = S.length := ⟨_, rfl⟩
  rw [← hn, ← hm, ← hnb, ← hns] at HB0 HSD HLL HMM HSS HG ⊢
  rw [← hn] at l1
  rw [← hm] at m1
  have HN := Lib.hid (And.intro hn (And.intro hm (And.intro hnb hns)))
  clear hn hm hnb hns
  obtain ⟨r, hr⟩ : ∃ r, r = grB L M B S := ⟨_, rfl⟩
  rw [← hr] at HG
  have HR := Lib.hid hr; clear hr
  have h0 := HSD.out.1
  have h2 := HSD.out.2.1
  have h4 := HSD.out.2.2.2.2
  cases r with
  | true =>
    go_enter Try.func20, Try.ntmps20
    go_wp2_with (refine wpList_load_said13 rfl _ rfl w.heap.size rfl _ _ _ _ _ HSD.out.range ?_)
    refine HG.out.mono ?_
    rintro e w1 ⟨rfl, hb⟩
    have HB := Lib.hid (HB0.out.trans (hb.mono HB0.out.size)); clear hb
    clear h0 h2 h4
    go_wp2_with fail
    refine (alive_clashes w1).mono ?_
    rintro e w2 ⟨rfl, hb⟩
    have HF := Lib.hid (HB.out.trans (hb.mono HB.out.size)); clear hb
    go_wp2_with fail
    exact bodyPost_ret (results_tmp rfl _ _ _) rfl ⟨rfl, HF.out⟩
  | false =>
    have hsm : (n ≤ 20000 ∧ ∀ x ∈ L, x.length ≤ 20000) ∧ (m ≤ 20000 ∧ ∀ x ∈ M, x.length ≤ 20000) := by
      have h0 := HR.out
      unfold grB at h0
      have h2 : ¬ 20000 < bsz L + bsz M + B.length := fun h => by rw [decide_eq_true h] at h0; simp at h0
      have h3 := bsz_le 20000 (by omega) L (by omega)
      have h4 := bsz_le 20000 (by omega) M (by omega)
      rw [← HN.out.1] at h3
      rw [← HN.out.2.1] at h4
      exact ⟨h3, h4⟩
    have HM : Hid ((L.length < 1000000 ∧ M.length < 1000000) ∧ SZ L ∧ SZ M) := Lib.hid ⟨⟨by have := hsm.1.1; have := HN.out.1; omega, by have := hsm.2.1; have := HN.out.2.1; omega⟩, fun x hx => by have := hsm.1.2 x hx; omega, fun x hx => by have := hsm.2.2 x hx; omega⟩
    have n0 : (n : Int) ≤ 20000 := by have := hsm.1.1; omega
    have m0 : (m : Int) ≤ 20000 := by have := hsm.2.1; omega
    clear hsm
    have HSX : Hid (∀ x ∈ L, x.length < 1000000) := Lib.hid (fun x hx => Nat.lt_trans (HM.out.2.1 x hx) (by decide))
    have HSY : Hid (∀ x ∈ M, x.length < 1000000) := Lib.hid (fun x hx => Nat.lt_trans (HM.out.2.2 x hx) (by decide))
    have HL := Lib.hid (fun V (hV : Below (w.alloc (.cells #[.slice aL n cL, .slice aM m cM, .int .i64 at_, .slice aB nb cB, .slice aS ns cS] 80)).heap.size (w.alloc (.cells #[.slice aL n cL, .slice aM m cM, .int .i64 at_, .slice aB nb cB, .slice aS ns cS] 80)) V) => link_all L M S _ _ _ V (HLL.out.below hV) (HMM.out.below hV) (HSS.out.below hV (Nat.le_refl _)) HM.out.1.2 HM.out.2.1 HM.out.2.2)
    rw [← HN.out.1, ← HN.out.2.1] at HL
    by_cases hr : 1 ≤ n ∧ n ≤ m
    · have hn1 := hr.1
      have hnm := hr.2
      rw [decide_eq_true hr, Bool.true_and] at HL
      have k0 : (0 : Int) ≤ (n : Int) := by omega
      have k1 : (n : Int) ≤ (m : Int) := by omega
      have k1' : (n : Int) ≤ (cM : Int) := by omega
      have k2 : decide (m < n) = false := decide_eq_false (by omega)
      have k3 : ¬ m < n := by omega
      have k4 : decide ((n : Int) < 1) = false := decide_eq_false (by omega)
      have k5 : ¬ ((n : Int) < 1) := by omega
      have w1 : IntKind.u64.wrap (n : Int) = (n : Int) := by rw [IntKind.wrap_u64]; omega
      have w2 : IntKind.u64.wrap (m : Int) = (m : Int) := by rw [IntKind.wrap_u64]; omega
      obtain ⟨bL, oL, c9, he1, _, _⟩ := HLL.out.form (by intro h; have := HN.out.1; rw [h] at this; simp at this; omega)
      simp only [Value.slice.injEq] at he1
      obtain ⟨rfl, h9, rfl⟩ := he1
      clear h9
      obtain ⟨bM, oM, c9, he1, _, _⟩ := HMM.out.form (by intro h; have := HN.out.2.1; rw [h] at this; simp at this; omega)
      simp only [Value.slice.injEq] at he1
      obtain ⟨rfl, h9, rfl⟩ := he1
      clear h9 hr
      rcases hpb : letBe n m (sd L) (sd M) S with _ | _
      · have HPB := Lib.hid hpb
        rw [hpb, Bool.false_and] at HL
        clear hpb
        go_enter Try.func20, Try.ntmps20
        go_wp2_with (refine wpList_load_said13 rfl _ rfl w.heap.size rfl _ _ _ _ _ HSD.out.range ?_)
        obtain ⟨z, hz⟩ : ∃ z, z = w.heap.size := ⟨_, rfl⟩
        rw [← hz] at HSD h0 h2 h4 ⊢
        clear hz
        generalize w.alloc (.cells #[.slice (some ⟨bL, oL, none⟩) n cL, .slice (some ⟨bM, oM, none⟩) m cM, .int .i64 at_, .slice aB nb cB, .slice aS ns cS] 80) = W at *
        refine HG.out.mono ?_
        rintro e w1 ⟨rfl, hb⟩
        have HB1 := Lib.hid hb; clear hb h0 h2 h4
        have h1 := HSD.out.below HB1.out
        have h10 := h1.1
        have h12 := h1.2.1
        have h14 := h1.2.2.2.2
        clear h1
        go_wp2_with fail
        refine (HL.out w1 HB1.out).mono ?_
        rintro e w2 ⟨v1, v2, A, C, rfl, hA, hC, hI, hlA, hlB, hb⟩
        obtain ⟨x1, k1, rfl, _, _, g1⟩ := id hA
        obtain ⟨x2, k2, rfl, _, _, g2⟩ := id hC
        have HLX : Hid (LenOK A ∧ LenOK C) := Lib.hid (And.intro hlA hlB)
        have HP := Lib.hid (And.intro hA (And.intro hC (And.intro hI (HB1.out.trans (hb.mono HB1.out.size)))))
        clear hA hC hI hlA hlB g1 g2 hb HB1 HL HG h10 h12 h14
        generalize A.length = na at *
        generalize C.length = nc at *
        have HGG := Lib.hid trivial
        go_wp2_with (have _ := HGG; refine wpList_var_cv rfl _ _ rfl _ _ _ _ _ _ rfl rfl ?_; intro W1 z3 hz hb1 ht; have HW := Lib.hid (And.intro (HP.out.2.2.2.trans (hb1.mono HP.out.2.2.2.size)) (And.intro ht (And.intro (bytes_below HP.out.1 hb1 (Nat.le_refl _)) (And.intro (bytes_below HP.out.2.1 hb1 (Nat.le_refl _)) HP.out.2.2.1)))); have h1 := HSD.out.below HW.out.1; have h10 := h1.1; have h12 := h1.2.1; rw [← hz]; clear HGG hb1 ht hz h1)
        clear h10 h12 HP
        refine wp_region_sched (fun V => V.cell? ⟨z, 0, none⟩ = some (.slice (some ⟨bL, oL, none⟩) n cL) ∧ V.cell? ⟨z, 1, none⟩ = some (.slice (some ⟨bM, oM, none⟩) m cM) ∧ V.cell? ⟨z, 4, none⟩ = some (.slice aS ns cS) ∧ Below W.heap.size W V) [.t 0, .t 4, .t 8, .t 12, .t 16, .s 1, .t 2, .t 3, .s 5, .t 6, .t 7, .s 9, .s 13, .s 17, .e 10 true, .e 11 true, .e 14 true, .e 15 true, .e 18 true, .t 19] (by kernel_rfl) (by kernel_rfl) (by intro c a d v w h; cases d <;> exact h) ?_
        have HSC : Hid (∀ V, Below W.heap.size W V → V.cell? ⟨z, 0, none⟩ = some (.slice (some ⟨bL, oL, none⟩) n cL) ∧ V.cell? ⟨z, 1, none⟩ = some (.slice (some ⟨bM, oM, none⟩) m cM) ∧ V.cell? ⟨z, 4, none⟩ = some (.slice aS ns cS) ∧ Below W.heap.size W V) := Lib.hid (fun V hV => ⟨bc HSD.out.1 hV, bc HSD.out.2.1 hV, bc HSD.out.2.2.2.2 hV, hV⟩)
        have hb := (Below.refl W1.heap.size W1).drew
        replace HW := Lib.hid (And.intro (HW.out.1.trans (hb.mono HW.out.1.size)) (And.intro (HW.out.2.1.below hb) (And.intro (bytes_below HW.out.2.2.1 hb (Nat.le_refl _)) (And.intro (bytes_below HW.out.2.2.2.1 hb (Nat.le_refl _)) HW.out.2.2.2.2))))
        clear hb
        generalize W1.drew = V at *
        iterate 5
          refine wpS_t rfl (v := ?_) (by rfl) (fun W => ?_) ?_
          rotate_left
          · go_simp
            try rfl
          try simp only [Act.put, List.setIfInBounds_toArray, List.set_cons_zero, List.set_cons_succ]
        refine wpS_s (by exact HSC.out _ HW.out.1) rfl (v := ?_) (by rfl) (fun W hSW => ?_) ?_
        rotate_left
        · go_simp
          try rfl
        try simp only [Act.put, List.setIfInBounds_toArray, List.set_cons_zero, List.set_cons_succ]
        iterate 2
          refine wpS_t rfl (v := ?_) (by rfl) (fun W => ?_) ?_
          rotate_left
          · go_simp
            try rfl
          try simp only [Act.put, List.setIfInBounds_toArray, List.set_cons_zero, List.set_cons_succ]
        refine wpS_s (by exact HSC.out _ HW.out.1) rfl (v := ?_) (by rfl) (fun W hSW => ?_) ?_
        rotate_left
        · go_simp
          try rfl
        try simp only [Act.put, List.setIfInBounds_toArray, List.set_cons_zero, List.set_cons_succ]
        iterate 2
          refine wpS_t rfl (v := ?_) (by rfl) (fun W => ?_) ?_
          rotate_left
          · go_simp
            try rfl
          try simp only [Act.put, List.setIfInBounds_toArray, List.set_cons_zero, List.set_cons_succ]
        refine wpS_s (by exact HSC.out _ HW.out.1) rfl (v := ?_) (by rfl) (fun W hSW => ?_) ?_
        rotate_left
        · go_simp
          try rfl
        try simp only [Act.put, List.setIfInBounds_toArray, List.set_cons_zero, List.set_cons_succ]
        refine wpS_s (by exact HSC.out _ HW.out.1) rfl (v := ?_) (by rfl) (fun W hSW => ?_) ?_
        rotate_left
        · go_simp
          try rfl
        try simp only [Act.put, List.setIfInBounds_toArray, List.set_cons_zero, List.set_cons_succ]
        refine wpS_s (by exact HSC.out _ HW.out.1) rfl (v := ?_) (by rfl) (fun W hSW => ?_) ?_
        rotate_left
        · go_simp
          try rfl
        try simp only [Act.put, List.setIfInBounds_toArray, List.set_cons_zero, List.set_cons_succ]
        refine wpS_k rfl (by rfl) (fun K hK => ?_)
        go_simp
        refine (lsums_any L _ _ (HLL.out.below HW.out.1) HM.out.1.1 HSX.out).mono ?_
        rintro e V2L ⟨us, rfl, hu, hb⟩
        replace HW := Lib.hid (And.intro (HW.out.1.trans (hb.mono HW.out.1.size)) (And.intro (HW.out.2.1.below hb) (And.intro (bytes_below HW.out.2.2.1 hb (Nat.le_refl _)) (And.intro (bytes_below HW.out.2.2.2.1 hb (Nat.le_refl _)) HW.out.2.2.2.2))))
        have HU3 := Lib.hid hu
        clear hb hu
        refine hK _ _ ⟨by exact HSC.out _ HW.out.1, ?_⟩; clear hK K
        try simp only [Act.put, List.setIfInBounds_toArray, List.set_cons_zero, List.set_cons_succ]
        refine wpS_k rfl (by rfl) (fun K hK => ?_)
        go_simp
        refine (rt_any _ us _ HU3.out).mono ?_
        rintro e V3L ⟨rfl, hb⟩
        replace HW := Lib.hid (And.intro (HW.out.1.trans (hb.mono HW.out.1.size)) (And.intro (HW.out.2.1.below hb) (And.intro (bytes_below HW.out.2.2.1 hb (Nat.le_refl _)) (And.intro (bytes_below HW.out.2.2.2.1 hb (Nat.le_refl _)) HW.out.2.2.2.2))))
        clear hb HU3
        refine hK _ _ ⟨by exact HSC.out _ HW.out.1, ?_⟩; clear hK K
        try simp only [Act.put, List.setIfInBounds_toArray, List.set_cons_zero, List.set_cons_succ]
        refine wpS_k rfl (by rfl) (fun K hK => ?_)
        go_simp
        refine (lsums_any M _ _ (HMM.out.below HW.out.1) HM.out.1.2 HSY.out).mono ?_
        rintro e V2M ⟨us, rfl, hu, hb⟩
        replace HW := Lib.hid (And.intro (HW.out.1.trans (hb.mono HW.out.1.size)) (And.intro (HW.out.2.1.below hb) (And.intro (bytes_below HW.out.2.2.1 hb (Nat.le_refl _)) (And.intro (bytes_below HW.out.2.2.2.1 hb (Nat.le_refl _)) HW.out.2.2.2.2))))
        have HU3 := Lib.hid hu
        clear hb hu
        refine hK _ _ ⟨by exact HSC.out _ HW.out.1, ?_⟩; clear hK K
        try simp only [Act.put, List.setIfInBounds_toArray, List.set_cons_zero, List.set_cons_succ]
        refine wpS_k rfl (by rfl) (fun K hK => ?_)
        go_simp
        refine (rt_any _ us _ HU3.out).mono ?_
        rintro e V3M ⟨rfl, hb⟩
        replace HW := Lib.hid (And.intro (HW.out.1.trans (hb.mono HW.out.1.size)) (And.intro (HW.out.2.1.below hb) (And.intro (bytes_below HW.out.2.2.1 hb (Nat.le_refl _)) (And.intro (bytes_below HW.out.2.2.2.1 hb (Nat.le_refl _)) HW.out.2.2.2.2))))
        clear hb HU3
        refine hK _ _ ⟨by exact HSC.out _ HW.out.1, ?_⟩; clear hK K
        try simp only [Act.put, List.setIfInBounds_toArray, List.set_cons_zero, List.set_cons_succ]
        refine wpS_k rfl (by rfl) (fun K hK => ?_)
        go_simp
        have hck := check_in n m (sd L) (sd M) _ S V3M (HSS.out.below HW.out.1 (Nat.le_refl _)) hn1 hnm (.inr (by omega))
        rw [HPB.out] at hck
        refine hck.mono ?_
        rintro e V4 ⟨rfl, hb⟩
        clear hck
        replace HW := Lib.hid (And.intro (HW.out.1.trans (hb.mono HW.out.1.size)) (And.intro (HW.out.2.1.below hb) (And.intro (bytes_below HW.out.2.2.1 hb (Nat.le_refl _)) (And.intro (bytes_below HW.out.2.2.2.1 hb (Nat.le_refl _)) HW.out.2.2.2.2))))
        clear hb
        refine hK _ _ ⟨by exact HSC.out _ HW.out.1, ?_⟩; clear hK K
        try simp only [Act.put, List.setIfInBounds_toArray, List.set_cons_zero, List.set_cons_succ]
        iterate 1
          refine wpS_t rfl (v := ?_) (by rfl) (fun W => ?_) ?_
          rotate_left
          · go_simp
            try rfl
          try simp only [Act.put, List.setIfInBounds_toArray, List.set_cons_zero, List.set_cons_succ]
        refine wpS_done ?_
        go_wp2_with fail
        refine wp_region_sched (fun V => V.cell? ⟨z, 0, none⟩ = some (.slice (some ⟨bL, oL, none⟩) n cL) ∧ V.cell? ⟨z, 1, none⟩ = some (.slice (some ⟨bM, oM, none⟩) m cM) ∧ V.cell? ⟨z, 4, none⟩ = some (.slice aS ns cS) ∧ Below W.heap.size W V) [.e 0 true, .t 1, .t 2, .t 3, .t 4, .t 5, .t 7, .t 9, .s 6, .s 8, .e 10 true, .t 11, .t 12, .e 13 true, .t 14, .t 15, .t 16, .t 17, .t 18, .t 19, .t 20, .t 21, .e 22 true, .e 23 true, .t 24, .t 25, .t 26] (by kernel_rfl) (by kernel_rfl) (by intro c a d v w h; cases d <;> exact h) ?_
        have hb := (Below.refl V4.heap.size V4).drew
        replace HW := Lib.hid (And.intro (HW.out.1.trans (hb.mono HW.out.1.size)) (And.intro (HW.out.2.1.below hb) (And.intro (bytes_below HW.out.2.2.1 hb (Nat.le_refl _)) (And.intro (bytes_below HW.out.2.2.2.1 hb (Nat.le_refl _)) HW.out.2.2.2.2))))
        clear hb
        generalize V4.drew = V5 at *
        refine wpS_k rfl (by rfl) (fun K hK => ?_)
        go_simp
        refine (alive_clashes V5).mono ?_
        rintro e V6 ⟨rfl, hb⟩
        replace HW := Lib.hid (And.intro (HW.out.1.trans (hb.mono HW.out.1.size)) (And.intro (HW.out.2.1.below hb) (And.intro (bytes_below HW.out.2.2.1 hb (Nat.le_refl _)) (And.intro (bytes_below HW.out.2.2.2.1 hb (Nat.le_refl _)) HW.out.2.2.2.2))))
        clear hb
        refine hK _ _ ⟨by exact HSC.out _ HW.out.1, ?_⟩; clear hK K
        try simp only [Act.put, List.setIfInBounds_toArray, List.set_cons_zero, List.set_cons_succ]
        iterate 4
          refine wpS_t rfl (v := ?_) (by rfl) (fun W => ?_) ?_
          rotate_left
          · go_simp
            try rfl
          try simp only [Act.put, List.setIfInBounds_toArray, List.set_cons_zero, List.set_cons_succ]
        iterate 3
          refine wpS_t_skip rfl (by rfl) ?_
          try simp only [Act.put, List.setIfInBounds_toArray, List.set_cons_zero, List.set_cons_succ]
        iterate 2
          refine wpS_s_skip (by exact HSC.out _ HW.out.1) rfl (by rfl) ?_
          try simp only [Act.put, List.setIfInBounds_toArray, List.set_cons_zero, List.set_cons_succ]
        refine wpS_k_skip (by exact HSC.out _ HW.out.1) rfl (by rfl) ?_
        try simp only [Act.put, List.setIfInBounds_toArray, List.set_cons_zero, List.set_cons_succ]
        iterate 2
          refine wpS_t_skip rfl (by rfl) ?_
          try simp only [Act.put, List.setIfInBounds_toArray, List.set_cons_zero, List.set_cons_succ]
        refine wpS_k_skip (by exact HSC.out _ HW.out.1) rfl (by rfl) ?_
        try simp only [Act.put, List.setIfInBounds_toArray, List.set_cons_zero, List.set_cons_succ]
        iterate 1
          refine wpS_t_skip rfl (by rfl) ?_
          try simp only [Act.put, List.setIfInBounds_toArray, List.set_cons_zero, List.set_cons_succ]
        iterate 7
          refine wpS_t rfl (v := ?_) (by rfl) (fun W => ?_) ?_
          rotate_left
          · go_simp
            try rfl
          try simp only [Act.put, List.setIfInBounds_toArray, List.set_cons_zero, List.set_cons_succ]
        refine wpS_k_skip (by exact HSC.out _ HW.out.1) rfl (by rfl) ?_
        try simp only [Act.put, List.setIfInBounds_toArray, List.set_cons_zero, List.set_cons_succ]
        refine wpS_k_skip (by exact HSC.out _ HW.out.1) rfl (by rfl) ?_
        try simp only [Act.put, List.setIfInBounds_toArray, List.set_cons_zero, List.set_cons_succ]
        iterate 3
          refine wpS_t rfl (v := ?_) (by rfl) (fun W => ?_) ?_
          rotate_left
          · go_simp
            try rfl
          try simp only [Act.put, List.setIfInBounds_toArray, List.set_cons_zero, List.set_cons_succ]
        refine wpS_done ?_
        go_wp2_with fail
        exact bodyPost_ret (results_tmp rfl _ _ _) rfl ⟨rfl, HB0.out.trans (HW.out.1.mono HB0.out.size)⟩
      · have HPB := Lib.hid hpb
        rw [hpb, Bool.true_and] at HL
        clear hpb
        by_cases hxb : L = M.take n
        · have HD : Hid (decide (L = M.take n) = true) := Lib.hid (decide_eq_true hxb)
          rw [HD.out, Bool.not_true] at HL
          clear hxb
          go_enter Try.func20, Try.ntmps20
          go_wp2_with (refine wpList_load_said13 rfl _ rfl w.heap.size rfl _ _ _ _ _ HSD.out.range ?_)
          obtain ⟨z, hz⟩ : ∃ z, z = w.heap.size := ⟨_, rfl⟩
          rw [← hz] at HSD h0 h2 h4 ⊢
          clear hz
          generalize w.alloc (.cells #[.slice (some ⟨bL, oL, none⟩) n cL, .slice (some ⟨bM, oM, none⟩) m cM, .int .i64 at_, .slice aB nb cB, .slice aS ns cS] 80) = W at *
          refine HG.out.mono ?_
          rintro e w1 ⟨rfl, hb⟩
          have HB1 := Lib.hid hb; clear hb h0 h2 h4
          have h1 := HSD.out.below HB1.out
          have h10 := h1.1
          have h12 := h1.2.1
          have h14 := h1.2.2.2.2
          clear h1
          go_wp2_with fail
          refine (HL.out w1 HB1.out).mono ?_
          rintro e w2 ⟨v1, v2, A, C, rfl, hA, hC, hI, hlA, hlB, hb⟩
          obtain ⟨x1, k1, rfl, _, _, g1⟩ := id hA
          obtain ⟨x2, k2, rfl, _, _, g2⟩ := id hC
          have HLX : Hid (LenOK A ∧ LenOK C) := Lib.hid (And.intro hlA hlB)
          have HP := Lib.hid (And.intro hA (And.intro hC (And.intro hI (HB1.out.trans (hb.mono HB1.out.size)))))
          clear hA hC hI hlA hlB g1 g2 hb HB1 HL HG h10 h12 h14
          generalize A.length = na at *
          generalize C.length = nc at *
          have HGG := Lib.hid trivial
          go_wp2_with (have _ := HGG; refine wpList_var_cv rfl _ _ rfl _ _ _ _ _ _ rfl rfl ?_; intro W1 z3 hz hb1 ht; have HW := Lib.hid (And.intro (HP.out.2.2.2.trans (hb1.mono HP.out.2.2.2.size)) (And.intro ht (And.intro (bytes_below HP.out.1 hb1 (Nat.le_refl _)) (And.intro (bytes_below HP.out.2.1 hb1 (Nat.le_refl _)) HP.out.2.2.1)))); have h1 := HSD.out.below HW.out.1; have h10 := h1.1; have h12 := h1.2.1; rw [← hz]; clear HGG hb1 ht hz h1)
          clear h10 h12 HP
          refine wp_region_sched (fun V => V.cell? ⟨z, 0, none⟩ = some (.slice (some ⟨bL, oL, none⟩) n cL) ∧ V.cell? ⟨z, 1, none⟩ = some (.slice (some ⟨bM, oM, none⟩) m cM) ∧ V.cell? ⟨z, 4, none⟩ = some (.slice aS ns cS) ∧ Below W.heap.size W V) [.t 0, .t 4, .t 8, .t 12, .t 16, .s 1, .t 2, .t 3, .s 5, .t 6, .t 7, .s 9, .s 13, .s 17, .e 10 true, .e 11 true, .e 14 true, .e 15 true, .e 18 true, .t 19] (by kernel_rfl) (by kernel_rfl) (by intro c a d v w h; cases d <;> exact h) ?_
          have HSC : Hid (∀ V, Below W.heap.size W V → V.cell? ⟨z, 0, none⟩ = some (.slice (some ⟨bL, oL, none⟩) n cL) ∧ V.cell? ⟨z, 1, none⟩ = some (.slice (some ⟨bM, oM, none⟩) m cM) ∧ V.cell? ⟨z, 4, none⟩ = some (.slice aS ns cS) ∧ Below W.heap.size W V) := Lib.hid (fun V hV => ⟨bc HSD.out.1 hV, bc HSD.out.2.1 hV, bc HSD.out.2.2.2.2 hV, hV⟩)
          have hb := (Below.refl W1.heap.size W1).drew
          replace HW := Lib.hid (And.intro (HW.out.1.trans (hb.mono HW.out.1.size)) (And.intro (HW.out.2.1.below hb) (And.intro (bytes_below HW.out.2.2.1 hb (Nat.le_refl _)) (And.intro (bytes_below HW.out.2.2.2.1 hb (Nat.le_refl _)) HW.out.2.2.2.2))))
          clear hb
          generalize W1.drew = V at *
          iterate 5
            refine wpS_t rfl (v := ?_) (by rfl) (fun W => ?_) ?_
            rotate_left
            · go_simp
              try rfl
            try simp only [Act.put, List.setIfInBounds_toArray, List.set_cons_zero, List.set_cons_succ]
          refine wpS_s (by exact HSC.out _ HW.out.1) rfl (v := ?_) (by rfl) (fun W hSW => ?_) ?_
          rotate_left
          · go_simp
            try rfl
          try simp only [Act.put, List.setIfInBounds_toArray, List.set_cons_zero, List.set_cons_succ]
          iterate 2
            refine wpS_t rfl (v := ?_) (by rfl) (fun W => ?_) ?_
            rotate_left
            · go_simp
              try rfl
            try simp only [Act.put, List.setIfInBounds_toArray, List.set_cons_zero, List.set_cons_succ]
          refine wpS_s (by exact HSC.out _ HW.out.1) rfl (v := ?_) (by rfl) (fun W hSW => ?_) ?_
          rotate_left
          · go_simp
            try rfl
          try simp only [Act.put, List.setIfInBounds_toArray, List.set_cons_zero, List.set_cons_succ]
          iterate 2
            refine wpS_t rfl (v := ?_) (by rfl) (fun W => ?_) ?_
            rotate_left
            · go_simp
              try rfl
            try simp only [Act.put, List.setIfInBounds_toArray, List.set_cons_zero, List.set_cons_succ]
          refine wpS_s (by exact HSC.out _ HW.out.1) rfl (v := ?_) (by rfl) (fun W hSW => ?_) ?_
          rotate_left
          · go_simp
            try rfl
          try simp only [Act.put, List.setIfInBounds_toArray, List.set_cons_zero, List.set_cons_succ]
          refine wpS_s (by exact HSC.out _ HW.out.1) rfl (v := ?_) (by rfl) (fun W hSW => ?_) ?_
          rotate_left
          · go_simp
            try rfl
          try simp only [Act.put, List.setIfInBounds_toArray, List.set_cons_zero, List.set_cons_succ]
          refine wpS_s (by exact HSC.out _ HW.out.1) rfl (v := ?_) (by rfl) (fun W hSW => ?_) ?_
          rotate_left
          · go_simp
            try rfl
          try simp only [Act.put, List.setIfInBounds_toArray, List.set_cons_zero, List.set_cons_succ]
          refine wpS_k rfl (by rfl) (fun K hK => ?_)
          go_simp
          refine (lsums_any L _ _ (HLL.out.below HW.out.1) HM.out.1.1 HSX.out).mono ?_
          rintro e V2L ⟨us, rfl, hu, hb⟩
          replace HW := Lib.hid (And.intro (HW.out.1.trans (hb.mono HW.out.1.size)) (And.intro (HW.out.2.1.below hb) (And.intro (bytes_below HW.out.2.2.1 hb (Nat.le_refl _)) (And.intro (bytes_below HW.out.2.2.2.1 hb (Nat.le_refl _)) HW.out.2.2.2.2))))
          have HU3 := Lib.hid hu
          clear hb hu
          refine hK _ _ ⟨by exact HSC.out _ HW.out.1, ?_⟩; clear hK K
          try simp only [Act.put, List.setIfInBounds_toArray, List.set_cons_zero, List.set_cons_succ]
          refine wpS_k rfl (by rfl) (fun K hK => ?_)
          go_simp
          refine (rt_any _ us _ HU3.out).mono ?_
          rintro e V3L ⟨rfl, hb⟩
          replace HW := Lib.hid (And.intro (HW.out.1.trans (hb.mono HW.out.1.size)) (And.intro (HW.out.2.1.below hb) (And.intro (bytes_below HW.out.2.2.1 hb (Nat.le_refl _)) (And.intro (bytes_below HW.out.2.2.2.1 hb (Nat.le_refl _)) HW.out.2.2.2.2))))
          clear hb HU3
          refine hK _ _ ⟨by exact HSC.out _ HW.out.1, ?_⟩; clear hK K
          try simp only [Act.put, List.setIfInBounds_toArray, List.set_cons_zero, List.set_cons_succ]
          refine wpS_k rfl (by rfl) (fun K hK => ?_)
          go_simp
          refine (lsums_any M _ _ (HMM.out.below HW.out.1) HM.out.1.2 HSY.out).mono ?_
          rintro e V2M ⟨us, rfl, hu, hb⟩
          replace HW := Lib.hid (And.intro (HW.out.1.trans (hb.mono HW.out.1.size)) (And.intro (HW.out.2.1.below hb) (And.intro (bytes_below HW.out.2.2.1 hb (Nat.le_refl _)) (And.intro (bytes_below HW.out.2.2.2.1 hb (Nat.le_refl _)) HW.out.2.2.2.2))))
          have HU3 := Lib.hid hu
          clear hb hu
          refine hK _ _ ⟨by exact HSC.out _ HW.out.1, ?_⟩; clear hK K
          try simp only [Act.put, List.setIfInBounds_toArray, List.set_cons_zero, List.set_cons_succ]
          refine wpS_k rfl (by rfl) (fun K hK => ?_)
          go_simp
          refine (rt_any _ us _ HU3.out).mono ?_
          rintro e V3M ⟨rfl, hb⟩
          replace HW := Lib.hid (And.intro (HW.out.1.trans (hb.mono HW.out.1.size)) (And.intro (HW.out.2.1.below hb) (And.intro (bytes_below HW.out.2.2.1 hb (Nat.le_refl _)) (And.intro (bytes_below HW.out.2.2.2.1 hb (Nat.le_refl _)) HW.out.2.2.2.2))))
          clear hb HU3
          refine hK _ _ ⟨by exact HSC.out _ HW.out.1, ?_⟩; clear hK K
          try simp only [Act.put, List.setIfInBounds_toArray, List.set_cons_zero, List.set_cons_succ]
          refine wpS_k rfl (by rfl) (fun K hK => ?_)
          go_simp
          have hck := check_in n m (sd L) (sd M) _ S V3M (HSS.out.below HW.out.1 (Nat.le_refl _)) hn1 hnm (.inr (by omega))
          rw [HPB.out] at hck
          refine hck.mono ?_
          rintro e V4 ⟨rfl, hb⟩
          clear hck
          replace HW := Lib.hid (And.intro (HW.out.1.trans (hb.mono HW.out.1.size)) (And.intro (HW.out.2.1.below hb) (And.intro (bytes_below HW.out.2.2.1 hb (Nat.le_refl _)) (And.intro (bytes_below HW.out.2.2.2.1 hb (Nat.le_refl _)) HW.out.2.2.2.2))))
          clear hb
          refine hK _ _ ⟨by exact HSC.out _ HW.out.1, ?_⟩; clear hK K
          try simp only [Act.put, List.setIfInBounds_toArray, List.set_cons_zero, List.set_cons_succ]
          iterate 1
            refine wpS_t rfl (v := ?_) (by rfl) (fun W => ?_) ?_
            rotate_left
            · go_simp
              try rfl
            try simp only [Act.put, List.setIfInBounds_toArray, List.set_cons_zero, List.set_cons_succ]
          refine wpS_done ?_
          go_wp2_with fail
          refine wp_region_sched (fun V => V.cell? ⟨z, 0, none⟩ = some (.slice (some ⟨bL, oL, none⟩) n cL) ∧ V.cell? ⟨z, 1, none⟩ = some (.slice (some ⟨bM, oM, none⟩) m cM) ∧ V.cell? ⟨z, 4, none⟩ = some (.slice aS ns cS) ∧ Below W.heap.size W V) [.e 0 true, .t 1, .t 2, .t 3, .t 4, .t 5, .t 7, .t 9, .s 6, .s 8, .e 10 true, .t 11, .t 12, .e 13 true, .t 14, .t 15, .t 16, .t 17, .t 18, .t 19, .t 20, .t 21, .e 22 true, .e 23 true, .t 24, .t 25, .t 26] (by kernel_rfl) (by kernel_rfl) (by intro c a d v w h; cases d <;> exact h) ?_
          have hb := (Below.refl V4.heap.size V4).drew
          replace HW := Lib.hid (And.intro (HW.out.1.trans (hb.mono HW.out.1.size)) (And.intro (HW.out.2.1.below hb) (And.intro (bytes_below HW.out.2.2.1 hb (Nat.le_refl _)) (And.intro (bytes_below HW.out.2.2.2.1 hb (Nat.le_refl _)) HW.out.2.2.2.2))))
          clear hb
          generalize V4.drew = V5 at *
          refine wpS_k rfl (by rfl) (fun K hK => ?_)
          go_simp
          refine (alive_clashes V5).mono ?_
          rintro e V6 ⟨rfl, hb⟩
          replace HW := Lib.hid (And.intro (HW.out.1.trans (hb.mono HW.out.1.size)) (And.intro (HW.out.2.1.below hb) (And.intro (bytes_below HW.out.2.2.1 hb (Nat.le_refl _)) (And.intro (bytes_below HW.out.2.2.2.1 hb (Nat.le_refl _)) HW.out.2.2.2.2))))
          clear hb
          refine hK _ _ ⟨by exact HSC.out _ HW.out.1, ?_⟩; clear hK K
          try simp only [Act.put, List.setIfInBounds_toArray, List.set_cons_zero, List.set_cons_succ]
          iterate 4
            refine wpS_t rfl (v := ?_) (by rfl) (fun W => ?_) ?_
            rotate_left
            · go_simp
              try rfl
            try simp only [Act.put, List.setIfInBounds_toArray, List.set_cons_zero, List.set_cons_succ]
          iterate 3
            refine wpS_t rfl (v := ?_) (by rfl) (fun W => ?_) ?_
            rotate_left
            · go_simp
              try rfl
            try simp only [Act.put, List.setIfInBounds_toArray, List.set_cons_zero, List.set_cons_succ]
          refine wpS_s (by exact HSC.out _ HW.out.1) rfl (v := ?_) (by rfl) (fun W hSW => ?_) ?_
          rotate_left
          · go_simp
            try rfl
          try simp only [Act.put, List.setIfInBounds_toArray, List.set_cons_zero, List.set_cons_succ]
          refine wpS_s (by exact HSC.out _ HW.out.1) rfl (v := ?_) (by rfl) (fun W hSW => ?_) ?_
          rotate_left
          · go_simp
            try rfl
          try simp only [Act.put, List.setIfInBounds_toArray, List.set_cons_zero, List.set_cons_succ]
          have g := (HSC.out _ HW.out.1).1
          refine wpS_k rfl (by rfl) (fun K hK => ?_)
          go_simp
          refine hK _ _ ⟨by exact HSC.out _ HW.out.1, ?_⟩; clear hK K
          try simp only [Act.put, List.setIfInBounds_toArray, List.set_cons_zero, List.set_cons_succ]
          clear g
          iterate 2
            refine wpS_t rfl (v := ?_) (by rfl) (fun W => ?_) ?_
            rotate_left
            · go_simp
              try rfl
            try simp only [Act.put, List.setIfInBounds_toArray, List.set_cons_zero, List.set_cons_succ]
          refine wpS_k rfl (by rfl) (fun K hK => ?_)
          go_simp
          have htk := (HMM.out.below HW.out.1).take n (by rw [← HN.out.2.1]; exact hnm)
          refine (same_lists L (M.take n) _ _ V6 (HLL.out.below HW.out.1) htk HM.out.1.1 (by rw [List.length_take]; have := HM.out.1.2; omega)).mono ?_
          rw [HD.out]
          rintro e V7 ⟨rfl, hb⟩
          replace HW := Lib.hid (And.intro (HW.out.1.trans (hb.mono HW.out.1.size)) (And.intro (HW.out.2.1.below hb) (And.intro (bytes_below HW.out.2.2.1 hb (Nat.le_refl _)) (And.intro (bytes_below HW.out.2.2.2.1 hb (Nat.le_refl _)) HW.out.2.2.2.2))))
          clear hb htk
          refine hK _ _ ⟨by exact HSC.out _ HW.out.1, ?_⟩; clear hK K
          try simp only [Act.put, List.setIfInBounds_toArray, List.set_cons_zero, List.set_cons_succ]
          iterate 8
            refine wpS_t rfl (v := ?_) (by rfl) (fun W => ?_) ?_
            rotate_left
            · go_simp
              try rfl
            try simp only [Act.put, List.setIfInBounds_toArray, List.set_cons_zero, List.set_cons_succ]
          refine wpS_k_skip (by exact HSC.out _ HW.out.1) rfl (by rfl) ?_
          try simp only [Act.put, List.setIfInBounds_toArray, List.set_cons_zero, List.set_cons_succ]
          refine wpS_k_skip (by exact HSC.out _ HW.out.1) rfl (by rfl) ?_
          try simp only [Act.put, List.setIfInBounds_toArray, List.set_cons_zero, List.set_cons_succ]
          iterate 3
            refine wpS_t rfl (v := ?_) (by rfl) (fun W => ?_) ?_
            rotate_left
            · go_simp
              try rfl
            try simp only [Act.put, List.setIfInBounds_toArray, List.set_cons_zero, List.set_cons_succ]
          refine wpS_done ?_
          go_wp2_with fail
          exact bodyPost_ret (results_tmp rfl _ _ _) rfl ⟨rfl, HB0.out.trans (HW.out.1.mono HB0.out.size)⟩
        · have HD : Hid (decide (L = M.take n) = false) := Lib.hid (decide_eq_false hxb)
          rw [HD.out, Bool.not_false] at HL
          clear hxb
          go_enter Try.func20, Try.ntmps20
          go_wp2_with (refine wpList_load_said13 rfl _ rfl w.heap.size rfl _ _ _ _ _ HSD.out.range ?_)
          obtain ⟨z, hz⟩ : ∃ z, z = w.heap.size := ⟨_, rfl⟩
          rw [← hz] at HSD h0 h2 h4 ⊢
          clear hz
          generalize w.alloc (.cells #[.slice (some ⟨bL, oL, none⟩) n cL, .slice (some ⟨bM, oM, none⟩) m cM, .int .i64 at_, .slice aB nb cB, .slice aS ns cS] 80) = W at *
          refine HG.out.mono ?_
          rintro e w1 ⟨rfl, hb⟩
          have HB1 := Lib.hid hb; clear hb h0 h2 h4
          have h1 := HSD.out.below HB1.out
          have h10 := h1.1
          have h12 := h1.2.1
          have h14 := h1.2.2.2.2
          clear h1
          go_wp2_with fail
          refine (HL.out w1 HB1.out).mono ?_
          rintro e w2 ⟨v1, v2, A, C, rfl, hA, hC, hI, hlA, hlB, hb⟩
          obtain ⟨x1, k1, rfl, _, _, g1⟩ := id hA
          obtain ⟨x2, k2, rfl, _, _, g2⟩ := id hC
          have HLX : Hid (LenOK A ∧ LenOK C) := Lib.hid (And.intro hlA hlB)
          have HP := Lib.hid (And.intro hA (And.intro hC (And.intro hI (HB1.out.trans (hb.mono HB1.out.size)))))
          clear hA hC hI hlA hlB g1 g2 hb HB1 HL HG h10 h12 h14
          generalize A.length = na at *
          generalize C.length = nc at *
          have HGG := Lib.hid trivial
          go_wp2_with (have _ := HGG; refine wpList_var_cv rfl _ _ rfl _ _ _ _ _ _ rfl rfl ?_; intro W1 z3 hz hb1 ht; have HW := Lib.hid (And.intro (HP.out.2.2.2.trans (hb1.mono HP.out.2.2.2.size)) (And.intro ht (And.intro (bytes_below HP.out.1 hb1 (Nat.le_refl _)) (And.intro (bytes_below HP.out.2.1 hb1 (Nat.le_refl _)) HP.out.2.2.1)))); have h1 := HSD.out.below HW.out.1; have h10 := h1.1; have h12 := h1.2.1; rw [← hz]; clear HGG hb1 ht hz h1)
          clear h10 h12 HP
          refine wp_region_sched (fun V => V.cell? ⟨z, 0, none⟩ = some (.slice (some ⟨bL, oL, none⟩) n cL) ∧ V.cell? ⟨z, 1, none⟩ = some (.slice (some ⟨bM, oM, none⟩) m cM) ∧ V.cell? ⟨z, 4, none⟩ = some (.slice aS ns cS) ∧ Below W.heap.size W V) [.t 0, .t 4, .t 8, .t 12, .t 16, .s 1, .t 2, .t 3, .s 5, .t 6, .t 7, .s 9, .s 13, .s 17, .e 10 true, .e 11 true, .e 14 true, .e 15 true, .e 18 true, .t 19] (by kernel_rfl) (by kernel_rfl) (by intro c a d v w h; cases d <;> exact h) ?_
          have HSC : Hid (∀ V, Below W.heap.size W V → V.cell? ⟨z, 0, none⟩ = some (.slice (some ⟨bL, oL, none⟩) n cL) ∧ V.cell? ⟨z, 1, none⟩ = some (.slice (some ⟨bM, oM, none⟩) m cM) ∧ V.cell? ⟨z, 4, none⟩ = some (.slice aS ns cS) ∧ Below W.heap.size W V) := Lib.hid (fun V hV => ⟨bc HSD.out.1 hV, bc HSD.out.2.1 hV, bc HSD.out.2.2.2.2 hV, hV⟩)
          have hb := (Below.refl W1.heap.size W1).drew
          replace HW := Lib.hid (And.intro (HW.out.1.trans (hb.mono HW.out.1.size)) (And.intro (HW.out.2.1.below hb) (And.intro (bytes_below HW.out.2.2.1 hb (Nat.le_refl _)) (And.intro (bytes_below HW.out.2.2.2.1 hb (Nat.le_refl _)) HW.out.2.2.2.2))))
          clear hb
          generalize W1.drew = V at *
          iterate 5
            refine wpS_t rfl (v := ?_) (by rfl) (fun W => ?_) ?_
            rotate_left
            · go_simp
              try rfl
            try simp only [Act.put, List.setIfInBounds_toArray, List.set_cons_zero, List.set_cons_succ]
          refine wpS_s (by exact HSC.out _ HW.out.1) rfl (v := ?_) (by rfl) (fun W hSW => ?_) ?_
          rotate_left
          · go_simp
            try rfl
          try simp only [Act.put, List.setIfInBounds_toArray, List.set_cons_zero, List.set_cons_succ]
          iterate 2
            refine wpS_t rfl (v := ?_) (by rfl) (fun W => ?_) ?_
            rotate_left
            · go_simp
              try rfl
            try simp only [Act.put, List.setIfInBounds_toArray, List.set_cons_zero, List.set_cons_succ]
          refine wpS_s (by exact HSC.out _ HW.out.1) rfl (v := ?_) (by rfl) (fun W hSW => ?_) ?_
          rotate_left
          · go_simp
            try rfl
          try simp only [Act.put, List.setIfInBounds_toArray, List.set_cons_zero, List.set_cons_succ]
          iterate 2
            refine wpS_t rfl (v := ?_) (by rfl) (fun W => ?_) ?_
            rotate_left
            · go_simp
              try rfl
            try simp only [Act.put, List.setIfInBounds_toArray, List.set_cons_zero, List.set_cons_succ]
          refine wpS_s (by exact HSC.out _ HW.out.1) rfl (v := ?_) (by rfl) (fun W hSW => ?_) ?_
          rotate_left
          · go_simp
            try rfl
          try simp only [Act.put, List.setIfInBounds_toArray, List.set_cons_zero, List.set_cons_succ]
          refine wpS_s (by exact HSC.out _ HW.out.1) rfl (v := ?_) (by rfl) (fun W hSW => ?_) ?_
          rotate_left
          · go_simp
            try rfl
          try simp only [Act.put, List.setIfInBounds_toArray, List.set_cons_zero, List.set_cons_succ]
          refine wpS_s (by exact HSC.out _ HW.out.1) rfl (v := ?_) (by rfl) (fun W hSW => ?_) ?_
          rotate_left
          · go_simp
            try rfl
          try simp only [Act.put, List.setIfInBounds_toArray, List.set_cons_zero, List.set_cons_succ]
          refine wpS_k rfl (by rfl) (fun K hK => ?_)
          go_simp
          refine (lsums_any L _ _ (HLL.out.below HW.out.1) HM.out.1.1 HSX.out).mono ?_
          rintro e V2L ⟨us, rfl, hu, hb⟩
          replace HW := Lib.hid (And.intro (HW.out.1.trans (hb.mono HW.out.1.size)) (And.intro (HW.out.2.1.below hb) (And.intro (bytes_below HW.out.2.2.1 hb (Nat.le_refl _)) (And.intro (bytes_below HW.out.2.2.2.1 hb (Nat.le_refl _)) HW.out.2.2.2.2))))
          have HU3 := Lib.hid hu
          clear hb hu
          refine hK _ _ ⟨by exact HSC.out _ HW.out.1, ?_⟩; clear hK K
          try simp only [Act.put, List.setIfInBounds_toArray, List.set_cons_zero, List.set_cons_succ]
          refine wpS_k rfl (by rfl) (fun K hK => ?_)
          go_simp
          refine (rt_any _ us _ HU3.out).mono ?_
          rintro e V3L ⟨rfl, hb⟩
          replace HW := Lib.hid (And.intro (HW.out.1.trans (hb.mono HW.out.1.size)) (And.intro (HW.out.2.1.below hb) (And.intro (bytes_below HW.out.2.2.1 hb (Nat.le_refl _)) (And.intro (bytes_below HW.out.2.2.2.1 hb (Nat.le_refl _)) HW.out.2.2.2.2))))
          clear hb HU3
          refine hK _ _ ⟨by exact HSC.out _ HW.out.1, ?_⟩; clear hK K
          try simp only [Act.put, List.setIfInBounds_toArray, List.set_cons_zero, List.set_cons_succ]
          refine wpS_k rfl (by rfl) (fun K hK => ?_)
          go_simp
          refine (lsums_any M _ _ (HMM.out.below HW.out.1) HM.out.1.2 HSY.out).mono ?_
          rintro e V2M ⟨us, rfl, hu, hb⟩
          replace HW := Lib.hid (And.intro (HW.out.1.trans (hb.mono HW.out.1.size)) (And.intro (HW.out.2.1.below hb) (And.intro (bytes_below HW.out.2.2.1 hb (Nat.le_refl _)) (And.intro (bytes_below HW.out.2.2.2.1 hb (Nat.le_refl _)) HW.out.2.2.2.2))))
          have HU3 := Lib.hid hu
          clear hb hu
          refine hK _ _ ⟨by exact HSC.out _ HW.out.1, ?_⟩; clear hK K
          try simp only [Act.put, List.setIfInBounds_toArray, List.set_cons_zero, List.set_cons_succ]
          refine wpS_k rfl (by rfl) (fun K hK => ?_)
          go_simp
          refine (rt_any _ us _ HU3.out).mono ?_
          rintro e V3M ⟨rfl, hb⟩
          replace HW := Lib.hid (And.intro (HW.out.1.trans (hb.mono HW.out.1.size)) (And.intro (HW.out.2.1.below hb) (And.intro (bytes_below HW.out.2.2.1 hb (Nat.le_refl _)) (And.intro (bytes_below HW.out.2.2.2.1 hb (Nat.le_refl _)) HW.out.2.2.2.2))))
          clear hb HU3
          refine hK _ _ ⟨by exact HSC.out _ HW.out.1, ?_⟩; clear hK K
          try simp only [Act.put, List.setIfInBounds_toArray, List.set_cons_zero, List.set_cons_succ]
          refine wpS_k rfl (by rfl) (fun K hK => ?_)
          go_simp
          have hck := check_in n m (sd L) (sd M) _ S V3M (HSS.out.below HW.out.1 (Nat.le_refl _)) hn1 hnm (.inr (by omega))
          rw [HPB.out] at hck
          refine hck.mono ?_
          rintro e V4 ⟨rfl, hb⟩
          clear hck
          replace HW := Lib.hid (And.intro (HW.out.1.trans (hb.mono HW.out.1.size)) (And.intro (HW.out.2.1.below hb) (And.intro (bytes_below HW.out.2.2.1 hb (Nat.le_refl _)) (And.intro (bytes_below HW.out.2.2.2.1 hb (Nat.le_refl _)) HW.out.2.2.2.2))))
          clear hb
          refine hK _ _ ⟨by exact HSC.out _ HW.out.1, ?_⟩; clear hK K
          try simp only [Act.put, List.setIfInBounds_toArray, List.set_cons_zero, List.set_cons_succ]
          iterate 1
            refine wpS_t rfl (v := ?_) (by rfl) (fun W => ?_) ?_
            rotate_left
            · go_simp
              try rfl
            try simp only [Act.put, List.setIfInBounds_toArray, List.set_cons_zero, List.set_cons_succ]
          refine wpS_done ?_
          go_wp2_with fail
          refine wp_region_sched (fun V => V.cell? ⟨z, 0, none⟩ = some (.slice (some ⟨bL, oL, none⟩) n cL) ∧ V.cell? ⟨z, 1, none⟩ = some (.slice (some ⟨bM, oM, none⟩) m cM) ∧ V.cell? ⟨z, 4, none⟩ = some (.slice aS ns cS) ∧ Below W.heap.size W V) [.e 0 true, .t 1, .t 2, .t 3, .t 4, .t 5, .t 7, .t 9, .s 6, .s 8, .e 10 true, .t 11, .t 12, .e 13 true, .t 14, .t 15, .t 16, .t 17, .t 18, .t 19, .t 20, .t 21, .e 22 true, .e 23 true, .t 24, .t 25, .t 26] (by kernel_rfl) (by kernel_rfl) (by intro c a d v w h; cases d <;> exact h) ?_
          have hb := (Below.refl V4.heap.size V4).drew
          replace HW := Lib.hid (And.intro (HW.out.1.trans (hb.mono HW.out.1.size)) (And.intro (HW.out.2.1.below hb) (And.intro (bytes_below HW.out.2.2.1 hb (Nat.le_refl _)) (And.intro (bytes_below HW.out.2.2.2.1 hb (Nat.le_refl _)) HW.out.2.2.2.2))))
          clear hb
          generalize V4.drew = V5 at *
          refine wpS_k rfl (by rfl) (fun K hK => ?_)
          go_simp
          refine (alive_clashes V5).mono ?_
          rintro e V6 ⟨rfl, hb⟩
          replace HW := Lib.hid (And.intro (HW.out.1.trans (hb.mono HW.out.1.size)) (And.intro (HW.out.2.1.below hb) (And.intro (bytes_below HW.out.2.2.1 hb (Nat.le_refl _)) (And.intro (bytes_below HW.out.2.2.2.1 hb (Nat.le_refl _)) HW.out.2.2.2.2))))
          clear hb
          refine hK _ _ ⟨by exact HSC.out _ HW.out.1, ?_⟩; clear hK K
          try simp only [Act.put, List.setIfInBounds_toArray, List.set_cons_zero, List.set_cons_succ]
          iterate 4
            refine wpS_t rfl (v := ?_) (by rfl) (fun W => ?_) ?_
            rotate_left
            · go_simp
              try rfl
            try simp only [Act.put, List.setIfInBounds_toArray, List.set_cons_zero, List.set_cons_succ]
          iterate 3
            refine wpS_t rfl (v := ?_) (by rfl) (fun W => ?_) ?_
            rotate_left
            · go_simp
              try rfl
            try simp only [Act.put, List.setIfInBounds_toArray, List.set_cons_zero, List.set_cons_succ]
          refine wpS_s (by exact HSC.out _ HW.out.1) rfl (v := ?_) (by rfl) (fun W hSW => ?_) ?_
          rotate_left
          · go_simp
            try rfl
          try simp only [Act.put, List.setIfInBounds_toArray, List.set_cons_zero, List.set_cons_succ]
          refine wpS_s (by exact HSC.out _ HW.out.1) rfl (v := ?_) (by rfl) (fun W hSW => ?_) ?_
          rotate_left
          · go_simp
            try rfl
          try simp only [Act.put, List.setIfInBounds_toArray, List.set_cons_zero, List.set_cons_succ]
          have g := (HSC.out _ HW.out.1).1
          refine wpS_k rfl (by rfl) (fun K hK => ?_)
          go_simp
          refine hK _ _ ⟨by exact HSC.out _ HW.out.1, ?_⟩; clear hK K
          try simp only [Act.put, List.setIfInBounds_toArray, List.set_cons_zero, List.set_cons_succ]
          clear g
          iterate 2
            refine wpS_t rfl (v := ?_) (by rfl) (fun W => ?_) ?_
            rotate_left
            · go_simp
              try rfl
            try simp only [Act.put, List.setIfInBounds_toArray, List.set_cons_zero, List.set_cons_succ]
          refine wpS_k rfl (by rfl) (fun K hK => ?_)
          go_simp
          have htk := (HMM.out.below HW.out.1).take n (by rw [← HN.out.2.1]; exact hnm)
          refine (same_lists L (M.take n) _ _ V6 (HLL.out.below HW.out.1) htk HM.out.1.1 (by rw [List.length_take]; have := HM.out.1.2; omega)).mono ?_
          rw [HD.out]
          rintro e V7 ⟨rfl, hb⟩
          replace HW := Lib.hid (And.intro (HW.out.1.trans (hb.mono HW.out.1.size)) (And.intro (HW.out.2.1.below hb) (And.intro (bytes_below HW.out.2.2.1 hb (Nat.le_refl _)) (And.intro (bytes_below HW.out.2.2.2.1 hb (Nat.le_refl _)) HW.out.2.2.2.2))))
          clear hb htk
          refine hK _ _ ⟨by exact HSC.out _ HW.out.1, ?_⟩; clear hK K
          try simp only [Act.put, List.setIfInBounds_toArray, List.set_cons_zero, List.set_cons_succ]
          iterate 8
            refine wpS_t rfl (v := ?_) (by rfl) (fun W => ?_) ?_
            rotate_left
            · go_simp
              try rfl
            try simp only [Act.put, List.setIfInBounds_toArray, List.set_cons_zero, List.set_cons_succ]
          refine wpS_k rfl (by rfl) (fun K hK => ?_)
          refine wp_load_cv _ (by rfl) z3 (by rfl) _ _ HW.out.2.1 ?_
          refine hK _ _ ⟨by exact HSC.out _ HW.out.1, ?_⟩; clear hK K
          try simp only [Act.put, List.setIfInBounds_toArray, List.set_cons_zero, List.set_cons_succ]
          refine wpS_k rfl (by rfl) (fun K hK => ?_)
          go_simp
          refine (is_any A C _ _ V7 HW.out.2.2.1 HW.out.2.2.2.1 HLX.out.1 HLX.out.2).mono ?_
          rw [HW.out.2.2.2.2 (by trivial)]
          rintro e V8 ⟨rfl, hb⟩
          replace HW := Lib.hid (And.intro (HW.out.1.trans (hb.mono HW.out.1.size)) (And.intro (HW.out.2.1.below hb) (And.intro (bytes_below HW.out.2.2.1 hb (Nat.le_refl _)) (And.intro (bytes_below HW.out.2.2.2.1 hb (Nat.le_refl _)) HW.out.2.2.2.2))))
          clear hb
          refine hK _ _ ⟨by exact HSC.out _ HW.out.1, ?_⟩; clear hK K
          try simp only [Act.put, List.setIfInBounds_toArray, List.set_cons_zero, List.set_cons_succ]
          iterate 3
            refine wpS_t rfl (v := ?_) (by rfl) (fun W => ?_) ?_
            rotate_left
            · go_simp
              try rfl
            try simp only [Act.put, List.setIfInBounds_toArray, List.set_cons_zero, List.set_cons_succ]
          refine wpS_done ?_
          go_wp2_with fail
          exact bodyPost_ret (results_tmp rfl _ _ _) rfl ⟨rfl, HB0.out.trans (HW.out.1.mono HB0.out.size)⟩
    · rw [decide_eq_false hr, Bool.false_and, Bool.false_and] at HL
      by_cases h0' : n < 1
      · have k4 : decide ((n : Int) < 1) = true := decide_eq_true (by omega)
        have k5 : (n : Int) < 1 := by omega
        clear hr
        go_enter Try.func20, Try.ntmps20
        go_wp2_with (refine wpList_load_said13 rfl _ rfl w.heap.size rfl _ _ _ _ _ HSD.out.range ?_)
        obtain ⟨z, hz⟩ : ∃ z, z = w.heap.size := ⟨_, rfl⟩
        rw [← hz] at HSD h0 h2 h4 ⊢
        clear hz
        generalize w.alloc (.cells #[.slice aL n cL, .slice aM m cM, .int .i64 at_, .slice aB nb cB, .slice aS ns cS] 80) = W at *
        refine HG.out.mono ?_
        rintro e w1 ⟨rfl, hb⟩
        have HB1 := Lib.hid hb; clear hb h0 h2 h4
        have h1 := HSD.out.below HB1.out
        have h10 := h1.1
        have h12 := h1.2.1
        have h14 := h1.2.2.2.2
        clear h1
        go_wp2_with fail
        refine (HL.out w1 HB1.out).mono ?_
        rintro e w2 ⟨v1, v2, A, C, rfl, hA, hC, hI, hlA, hlB, hb⟩
        obtain ⟨x1, k1, rfl, _, _, g1⟩ := id hA
        obtain ⟨x2, k2, rfl, _, _, g2⟩ := id hC
        have HLX : Hid (LenOK A ∧ LenOK C) := Lib.hid (And.intro hlA hlB)
        have HP := Lib.hid (And.intro hA (And.intro hC (And.intro hI (HB1.out.trans (hb.mono HB1.out.size)))))
        clear hA hC hI hlA hlB g1 g2 hb HB1 HL HG h10 h12 h14
        generalize A.length = na at *
        generalize C.length = nc at *
        have HGG := Lib.hid trivial
        go_wp2_with (have _ := HGG; refine wpList_var_cv rfl _ _ rfl _ _ _ _ _ _ rfl rfl ?_; intro W1 z3 hz hb1 ht; have HW := Lib.hid (And.intro (HP.out.2.2.2.trans (hb1.mono HP.out.2.2.2.size)) (And.intro ht (And.intro (bytes_below HP.out.1 hb1 (Nat.le_refl _)) (And.intro (bytes_below HP.out.2.1 hb1 (Nat.le_refl _)) HP.out.2.2.1)))); have h1 := HSD.out.below HW.out.1; have h10 := h1.1; have h12 := h1.2.1; rw [← hz]; clear HGG hb1 ht hz h1)
        clear h10 h12 HP
        refine (alive_clashes W1).mono ?_
        rintro e w8 ⟨rfl, hb⟩
        replace HW := Lib.hid (And.intro (HW.out.1.trans (hb.mono HW.out.1.size)) (And.intro (HW.out.2.1.below hb) (And.intro (bytes_below HW.out.2.2.1 hb (Nat.le_refl _)) (And.intro (bytes_below HW.out.2.2.2.1 hb (Nat.le_refl _)) HW.out.2.2.2.2))))
        clear hb
        go_wp2_with fail
        exact bodyPost_ret (results_tmp rfl _ _ _) rfl ⟨rfl, HB0.out.trans (HW.out.1.mono HB0.out.size)⟩
      · have k1' : (m : Int) < (n : Int) := by omega
        have k2 : decide (m < n) = true := decide_eq_true (by omega)
        have k3 : m < n := by omega
        have k4 : decide ((n : Int) < 1) = false := decide_eq_false (by omega)
        have k5 : ¬ ((n : Int) < 1) := by omega
        clear hr h0'
        go_enter Try.func20, Try.ntmps20
        go_wp2_with (refine wpList_load_said13 rfl _ rfl w.heap.size rfl _ _ _ _ _ HSD.out.range ?_)
        obtain ⟨z, hz⟩ : ∃ z, z = w.heap.size := ⟨_, rfl⟩
        rw [← hz] at HSD h0 h2 h4 ⊢
        clear hz
        generalize w.alloc (.cells #[.slice aL n cL, .slice aM m cM, .int .i64 at_, .slice aB nb cB, .slice aS ns cS] 80) = W at *
        refine HG.out.mono ?_
        rintro e w1 ⟨rfl, hb⟩
        have HB1 := Lib.hid hb; clear hb h0 h2 h4
        have h1 := HSD.out.below HB1.out
        have h10 := h1.1
        have h12 := h1.2.1
        have h14 := h1.2.2.2.2
        clear h1
        go_wp2_with fail
        refine (HL.out w1 HB1.out).mono ?_
        rintro e w2 ⟨v1, v2, A, C, rfl, hA, hC, hI, hlA, hlB, hb⟩
        obtain ⟨x1, k1, rfl, _, _, g1⟩ := id hA
        obtain ⟨x2, k2, rfl, _, _, g2⟩ := id hC
        have HLX : Hid (LenOK A ∧ LenOK C) := Lib.hid (And.intro hlA hlB)
        have HP := Lib.hid (And.intro hA (And.intro hC (And.intro hI (HB1.out.trans (hb.mono HB1.out.size)))))
        clear hA hC hI hlA hlB g1 g2 hb HB1 HL HG h10 h12 h14
        generalize A.length = na at *
        generalize C.length = nc at *
        have HGG := Lib.hid trivial
        go_wp2_with (have _ := HGG; refine wpList_var_cv rfl _ _ rfl _ _ _ _ _ _ rfl rfl ?_; intro W1 z3 hz hb1 ht; have HW := Lib.hid (And.intro (HP.out.2.2.2.trans (hb1.mono HP.out.2.2.2.size)) (And.intro ht (And.intro (bytes_below HP.out.1 hb1 (Nat.le_refl _)) (And.intro (bytes_below HP.out.2.1 hb1 (Nat.le_refl _)) HP.out.2.2.1)))); have h1 := HSD.out.below HW.out.1; have h10 := h1.1; have h12 := h1.2.1; rw [← hz]; clear HGG hb1 ht hz h1)
        clear h10 h12 HP
        refine (alive_clashes W1).mono ?_
        rintro e w8 ⟨rfl, hb⟩
        replace HW := Lib.hid (And.intro (HW.out.1.trans (hb.mono HW.out.1.size)) (And.intro (HW.out.2.1.below hb) (And.intro (bytes_below HW.out.2.2.1 hb (Nat.le_refl _)) (And.intro (bytes_below HW.out.2.2.2.1 hb (Nat.le_refl _)) HW.out.2.2.2.2))))
        clear hb
        go_wp2_with fail
        exact bodyPost_ret (results_tmp rfl _ _ _) rfl ⟨rfl, HB0.out.trans (HW.out.1.mono HB0.out.size)⟩
end Go.Proofs.Ytdkcndgehgmadaa
