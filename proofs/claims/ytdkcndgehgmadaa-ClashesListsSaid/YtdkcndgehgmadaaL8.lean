/-
  Walks: the law ClashesLists.
-/
import Derived.Test.YtdkcndgehgmadaaL6
import Derived.Test.YtdkcndgehgmadaaL7
import Derived.Test.YtdkcndgehgmadaaB10
open Go Go.RowKit Alm
namespace Go.Proofs.Ytdkcndgehgmadaa
def LenOK (A : List UInt8) : Prop := A.length < 1000000
/-- What a search tells. -/
def ToldOf (w : World) (t : Bool) (e : Ending) (w' : World) : Prop := ∃ va vb A B, e = .returned (.tuple #[cv va vb, .bool t]) ∧ BytesAt w' va A ∧ BytesAt w' vb B ∧ (t = true → isB A B = true) ∧ A.length < 1000000 ∧ B.length < 1000000 ∧ Below w.heap.size w w'
theorem bytes_none (w : World) : BytesAt w (.slice none 0 0) [] := ⟨none, 0, rfl, Nat.le_refl _, by decide, .inl rfl⟩
theorem told_none {w w' : World} {e : Ending} (h : e = .returned (.tuple #[cv (.slice none 0 0) (.slice none 0 0), .bool false]) ∧ Below w.heap.size w w') : ToldOf w false e w' :=
  ⟨_, _, [], [], h.1, bytes_none _, bytes_none _, (fun h => by cases h), by decide, by decide, h.2⟩
theorem told_found {w w' : World} {e : Ending} (h : FoundOf w e w') : ToldOf w true e w' := by
  obtain ⟨va, vb, A, B, h1, h2, h3, h4, h5, h6, h7⟩ := h
  exact ⟨va, vb, A, B, h1, h2, h3, fun _ => h4, h5, h6, h7⟩
theorem ToldOf.eq {w w' : World} {t u : Bool} {e : Ending} (h : ToldOf w t e w') (ht : t = u) : ToldOf w u e w' := ht ▸ h
theorem lists_all (a b : List (List UInt8)) (va vb : Value) (w : World) (ha : ListsAt w va a) (hb : ListsAt w vb b) (hla : a.length < 1000000) (hlb : b.length < 1000000) (hsa : SZ a) (hsb : SZ b) :
    Calls Try.prog 54 #[va, vb] w (ToldOf w (decide (a.length = b.length) && decide (rt (a.map lf) = rt (b.map lf)) && !decide (a = b))) := by
  by_cases hl : a.length = b.length
  · by_cases he : a = b
    · subst he
      exact (lists_same a va vb w ha hb hla).mono fun e w' h => (told_none h).eq (by simp)
    · by_cases hr : rt (a.map lf) = rt (b.map lf)
      · exact (lists_told a b va vb w ha hb hla hl he hsa hsb hr).mono fun e w' h => (told_found h).eq (by simp [hl, he, hr])
      · exact (lists_root a b va vb w ha hb hla hl he (fun x hx => Nat.lt_trans (hsa x hx) (by decide)) (fun x hx => Nat.lt_trans (hsb x hx) (by decide)) hr).mono fun e w' h => (told_none h).eq (by simp [hr])
  · exact (lists_len a b va vb w ha hb hl).mono fun e w' h => (told_none h).eq (by simp [hl])
theorem wpList_load_cv {ops : Array Oper} {rest : List Oper} {op : Oper} {a : Act} {w : World} {Q : Exit → Act → World → Prop} (hw : Region.wanted op (yielded ops a.tmps) = true) (x : Operand) (ho : op.op = .load 75 x)
    (z : Nat) (hx : a.eval x = .pointer (some ⟨z, 0, none⟩)) (va vb : Value) (ht : TwoAt w z va vb) (h : wpList Try.prog ops Q rest (a.put op.dst (cv va vb)) w) : wpList Try.prog ops Q (op :: rest) a w := by
  unfold wpList
  rw [if_pos hw]
  refine .inl (wp_load_mid _ x ho z 0 hx [va, vb] _ (fun j v hv => ?_) Try.underlying75 rfl infoClash h)
  match j, hv with
  | 0, hv => simp at hv; subst hv; exact ht.1
  | 1, hv => simp at hv; subst hv; exact ht.2
theorem wpList_var_cv {ops : Array Oper} {rest : List Oper} {op : Oper} {a : Act} {w : World} {t : TypeId} {Q : Exit → Act → World → Prop} (hgd : op.guard = none) (x y : Operand) (ho : op.op = .store 75 x y)
    (a1 a2 : Option Addr) (n1 c1 n2 c2 : Nat) (hx : a.eval x = .pointer (some ⟨w.heap.size, 0, none⟩)) (hy : a.eval y = cv (.slice a1 n1 c1) (.slice a2 n2 c2))
    (h : ∀ W' z, z = w.heap.size → Below w.heap.size w W' → TwoAt W' z (.slice a1 n1 c1) (.slice a2 n2 c2) → wpList Try.prog ops Q rest (a.put op.dst undef) W') : wpList Try.prog ops Q (op :: rest) a (w.alloc (.cells #[.slice none 0 0, .slice none 0 0] t)) :=
  wpList_store_cv hgd x y ho w.heap.size 0 _ _ _ _ _ _ hx hy (there_new _ _ _) (h _ w.heap.size rfl (setCells_below _ (Nat.le_refl _) _ 0 _ _ (al (Below.refl _ _) _)) (by
    have hr := range_stored w.heap.size [.slice a1 n1 c1, .slice a2 n2 c2] 0 (w.alloc (.cells #[.slice none 0 0, .slice none 0 0] t)) (by exact World.there_setCells (there_new _ _ _) _ _ _)
    exact ⟨hr 0 _ rfl, hr 1 _ rfl⟩))
set_option maxRecDepth 100000 in
set_option maxHeartbeats 4000000 in
theorem clashesLists_any (a b : List (List UInt8)) (va vb : Value) (w : World) (ha : ListsAt w va a) (hb : ListsAt w vb b) (ha1 : a.length ≤ LIM) (ha2 : ∀ x ∈ a, x.length ≤ LIM) (hb1 : b.length ≤ LIM) (hb2 : ∀ x ∈ b, x.length ≤ LIM) : Calls Try.prog 18 #[va, vb] w fun e w' => e = .returned (.bool true) ∧ Below w.heap.size w w' := by
  have HA := Lib.hid ha
  have HB := Lib.hid hb
  have hG := great_any a b [] [] va vb 0 (.slice none 0 0) (.slice none 0 0) w ha hb ⟨none, 0, rfl, Nat.le_refl _, by decide, .inl rfl⟩ ⟨none, 0, rfl, Nat.le_refl _, by decide, .inl rfl⟩ ⟨ha1, ha2⟩ ⟨hb1, hb2⟩ (by simp) (by simp)
  have HG := Lib.hid hG
  clear hG
  obtain ⟨aa, ca, rfl, c1, c2⟩ := ha.slice
  obtain ⟨ab, cb, rfl, d1, d2⟩ := hb.slice
  obtain ⟨n, hna⟩ : ∃ n, n = a.length := ⟨_, rfl⟩
  obtain ⟨m, hma⟩ : ∃ m, m = b.length := ⟨_, rfl⟩
  rw [← hna] at HA HG c1 ⊢
  rw [← hma] at HB HG d1 ⊢
  have HN := Lib.hid (And.intro hna hma); clear hna hma
  obtain ⟨r, hr⟩ : ∃ r, r = grB a b [] [] := ⟨_, rfl⟩
  rw [← hr] at HG
  have HR := Lib.hid hr; clear hr
  clear ha hb ha1 ha2 hb1 hb2 c1 c2 d1 d2
  cases r with
  | true =>
    go_enter Try.func18, Try.ntmps18
    go_wp2_with fail
    refine HG.out.mono ?_
    rintro e w1 ⟨rfl, hb⟩
    have HB := Lib.hid hb; clear hb
    go_wp2_with fail
    refine (alive_clashes w1).mono ?_
    rintro e w2 ⟨rfl, hb⟩
    have HF := Lib.hid (HB.out.trans (hb.mono HB.out.size)); clear hb
    go_wp2_with fail
    exact bodyPost_ret (results_tmp rfl _ _ _) rfl ⟨rfl, HF.out⟩
  | false =>
    have hsm : (n ≤ 20000 ∧ ∀ x ∈ a, x.length ≤ 20000) ∧ (m ≤ 20000 ∧ ∀ x ∈ b, x.length ≤ 20000) := by
      have h0 := HR.out
      unfold grB at h0
      have h2 : ¬ 20000 < bsz a + bsz b + ([] : List UInt8).length := fun h => by rw [decide_eq_true h] at h0; simp at h0
      have h3 := bsz_le 20000 (by omega) a (by omega)
      have h4 := bsz_le 20000 (by omega) b (by omega)
      rw [← HN.out.1] at h3
      rw [← HN.out.2] at h4
      exact ⟨h3, h4⟩
    have HM : Hid ((a.length < 1000000 ∧ b.length < 1000000) ∧ SZ a ∧ SZ b) := Lib.hid ⟨⟨by have := hsm.1.1; have := HN.out.1; omega, by have := hsm.2.1; have := HN.out.2; omega⟩, fun x hx => by have := hsm.1.2 x hx; omega, fun x hx => by have := hsm.2.2 x hx; omega⟩
    have n0 : (n : Int) ≤ 20000 := by have := hsm.1.1; omega
    have m0 : (m : Int) ≤ 20000 := by have := hsm.2.1; omega
    have HS1 : Hid (∀ x ∈ a, x.length < 1000000) := Lib.hid (fun x hx => Nat.lt_trans (HM.out.2.1 x hx) (by decide))
    have HS2 : Hid (∀ x ∈ b, x.length < 1000000) := Lib.hid (fun x hx => Nat.lt_trans (HM.out.2.2 x hx) (by decide))
    clear hsm
    have HL := Lib.hid (fun V (hV : Below w.heap.size w V) => lists_all a b _ _ V (HA.out.below hV) (HB.out.below hV) HM.out.1.1 HM.out.1.2 HM.out.2.1 HM.out.2.2)
    rw [← HN.out.1, ← HN.out.2] at HL
    obtain ⟨ra, hra⟩ : ∃ r, r = rt (a.map lf) := ⟨_, rfl⟩
    obtain ⟨rb, hrb⟩ : ∃ r, r = rt (b.map lf) := ⟨_, rfl⟩
    rw [← hra, ← hrb] at HL
    have HRA := Lib.hid hra
    have HRB := Lib.hid hrb
    clear hra hrb
    by_cases hl : n = m
    · by_cases hr : ra = rb
      · by_cases he : a = b
        · have HT0 : (decide (n = m) && decide (ra = rb) && !decide (a = b)) = false := by rw [decide_eq_true he]; simp
          rw [HT0] at HL
          have hnm : ((n : Int) == (m : Int)) = true := by rw [beq_iff_eq]; omega
          have HD : Hid (decide (a = b) = true) := Lib.hid (decide_eq_true he)
          have hes : ∀ w : World, (Op.equalIn 10000 24 (.agg (cellsOf ra).toArray) (.agg (cellsOf rb).toArray)).run Try.prog w = .ok true w := fun w => by rw [eq_sums]; simp [hr]
          have HES := Lib.hid hes; clear hes
          clear HT0 hl hr he
          go_enter Try.func18, Try.ntmps18
          go_wp2_with fail
          refine HG.out.mono ?_
          rintro e w1 ⟨rfl, hb⟩
          have HB1 := Lib.hid hb; clear hb
          go_wp2_with fail
          refine (HL.out w1 HB1.out).mono ?_
          rintro e w2 ⟨v1, v2, A, B, rfl, hA, hB, hI, hlA, hlB, hb⟩
          obtain ⟨x1, k1, rfl, _, _, g1⟩ := id hA
          obtain ⟨x2, k2, rfl, _, _, g2⟩ := id hB
          have HP := Lib.hid (And.intro hA (And.intro hB (And.intro hI (And.intro hlA (And.intro hlB (HB1.out.trans (hb.mono HB1.out.size)))))))
          have HLL : Hid (LenOK A ∧ LenOK B) := Lib.hid (And.intro hlA hlB)
          clear hA hB hI hlA hlB g1 g2 hb HB1 HL HG
          generalize A.length = na at *
          generalize B.length = nb at *
          have HGG := Lib.hid trivial
          go_wp2_with (have _ := HGG; refine wpList_var_cv rfl _ _ rfl _ _ _ _ _ _ rfl rfl ?_; intro W1 z hz hb1 ht; have HW := Lib.hid (And.intro (HP.out.2.2.2.2.2.trans (hb1.mono HP.out.2.2.2.2.2.size)) (And.intro ht (And.intro (bytes_below HP.out.1 hb1 (Nat.le_refl _)) (And.intro (bytes_below HP.out.2.1 hb1 (Nat.le_refl _)) HP.out.2.2.1)))); rw [← hz]; clear HGG hb1 ht hz)
          refine (lsums_any a _ W1 (HA.out.below HW.out.1) HM.out.1.1 HS1.out).mono ?_
          rintro e w3 ⟨u3, rfl, hu, hb⟩
          have HW3 := Lib.hid (And.intro hu (HW.out.1.trans (hb.mono HW.out.1.size)))
          replace HW := Lib.hid (And.intro (HW.out.1.trans (hb.mono HW.out.1.size)) (And.intro (HW.out.2.1.below hb) (And.intro (bytes_below HW.out.2.2.1 hb (Nat.le_refl _)) (And.intro (bytes_below HW.out.2.2.2.1 hb (Nat.le_refl _)) HW.out.2.2.2.2))))
          clear hu hb
          go_wp2_with fail
          refine (rt_any _ u3 w3 HW3.out.1).mono ?_
          rw [← HRA.out]
          rintro e w4 ⟨rfl, hb⟩
          clear HW3
          replace HW := Lib.hid (And.intro (HW.out.1.trans (hb.mono HW.out.1.size)) (And.intro (HW.out.2.1.below hb) (And.intro (bytes_below HW.out.2.2.1 hb (Nat.le_refl _)) (And.intro (bytes_below HW.out.2.2.2.1 hb (Nat.le_refl _)) HW.out.2.2.2.2))))
          clear hb
          go_wp2_with fail
          refine (lsums_any b _ w4 (HB.out.below HW.out.1) HM.out.1.2 HS2.out).mono ?_
          rintro e w5 ⟨u5, rfl, hu, hb⟩
          have HW3 := Lib.hid (And.intro hu (HW.out.1.trans (hb.mono HW.out.1.size)))
          replace HW := Lib.hid (And.intro (HW.out.1.trans (hb.mono HW.out.1.size)) (And.intro (HW.out.2.1.below hb) (And.intro (bytes_below HW.out.2.2.1 hb (Nat.le_refl _)) (And.intro (bytes_below HW.out.2.2.2.1 hb (Nat.le_refl _)) HW.out.2.2.2.2))))
          clear hu hb
          go_wp2_with fail
          refine (rt_any _ u5 w5 HW3.out.1).mono ?_
          rw [← HRB.out]
          rintro e w6 ⟨rfl, hb⟩
          clear HW3
          replace HW := Lib.hid (And.intro (HW.out.1.trans (hb.mono HW.out.1.size)) (And.intro (HW.out.2.1.below hb) (And.intro (bytes_below HW.out.2.2.1 hb (Nat.le_refl _)) (And.intro (bytes_below HW.out.2.2.2.1 hb (Nat.le_refl _)) HW.out.2.2.2.2))))
          clear hb
          have hes := HES.out
          go_wp2_with fail
          clear hes
          refine (same_lists a b _ _ w6 (HA.out.below HW.out.1) (HB.out.below HW.out.1) HM.out.1.1 HM.out.1.2).mono ?_
          rw [HD.out]
          rintro e w7 ⟨rfl, hb⟩
          replace HW := Lib.hid (And.intro (HW.out.1.trans (hb.mono HW.out.1.size)) (And.intro (HW.out.2.1.below hb) (And.intro (bytes_below HW.out.2.2.1 hb (Nat.le_refl _)) (And.intro (bytes_below HW.out.2.2.2.1 hb (Nat.le_refl _)) HW.out.2.2.2.2))))
          clear hb
          go_wp2_with fail
          refine (alive_clashes w7).mono ?_
          rintro e w8 ⟨rfl, hb⟩
          replace HW := Lib.hid (And.intro (HW.out.1.trans (hb.mono HW.out.1.size)) (And.intro (HW.out.2.1.below hb) (And.intro (bytes_below HW.out.2.2.1 hb (Nat.le_refl _)) (And.intro (bytes_below HW.out.2.2.2.1 hb (Nat.le_refl _)) HW.out.2.2.2.2))))
          clear hb
          go_wp2_with fail
          exact bodyPost_ret (results_tmp rfl _ _ _) rfl ⟨rfl, HW.out.1⟩
        · have HT0 : (decide (n = m) && decide (ra = rb) && !decide (a = b)) = true := by rw [decide_eq_true hl, decide_eq_true hr, decide_eq_false he]; rfl
          rw [HT0] at HL
          have hnm : ((n : Int) == (m : Int)) = true := by rw [beq_iff_eq]; omega
          have HD : Hid (decide (a = b) = false) := Lib.hid (decide_eq_false he)
          have hes : ∀ w : World, (Op.equalIn 10000 24 (.agg (cellsOf ra).toArray) (.agg (cellsOf rb).toArray)).run Try.prog w = .ok true w := fun w => by rw [eq_sums]; simp [hr]
          have HES := Lib.hid hes; clear hes
          clear HT0 hl hr he
          go_enter Try.func18, Try.ntmps18
          go_wp2_with fail
          refine HG.out.mono ?_
          rintro e w1 ⟨rfl, hb⟩
          have HB1 := Lib.hid hb; clear hb
          go_wp2_with fail
          refine (HL.out w1 HB1.out).mono ?_
          rintro e w2 ⟨v1, v2, A, B, rfl, hA, hB, hI, hlA, hlB, hb⟩
          obtain ⟨x1, k1, rfl, _, _, g1⟩ := id hA
          obtain ⟨x2, k2, rfl, _, _, g2⟩ := id hB
          have HP := Lib.hid (And.intro hA (And.intro hB (And.intro hI (And.intro hlA (And.intro hlB (HB1.out.trans (hb.mono HB1.out.size)))))))
          have HLL : Hid (LenOK A ∧ LenOK B) := Lib.hid (And.intro hlA hlB)
          clear hA hB hI hlA hlB g1 g2 hb HB1 HL HG
          generalize A.length = na at *
          generalize B.length = nb at *
          have HGG := Lib.hid trivial
          go_wp2_with (have _ := HGG; refine wpList_var_cv rfl _ _ rfl _ _ _ _ _ _ rfl rfl ?_; intro W1 z hz hb1 ht; have HW := Lib.hid (And.intro (HP.out.2.2.2.2.2.trans (hb1.mono HP.out.2.2.2.2.2.size)) (And.intro ht (And.intro (bytes_below HP.out.1 hb1 (Nat.le_refl _)) (And.intro (bytes_below HP.out.2.1 hb1 (Nat.le_refl _)) HP.out.2.2.1)))); rw [← hz]; clear HGG hb1 ht hz)
          refine (lsums_any a _ W1 (HA.out.below HW.out.1) HM.out.1.1 HS1.out).mono ?_
          rintro e w3 ⟨u3, rfl, hu, hb⟩
          have HW3 := Lib.hid (And.intro hu (HW.out.1.trans (hb.mono HW.out.1.size)))
          replace HW := Lib.hid (And.intro (HW.out.1.trans (hb.mono HW.out.1.size)) (And.intro (HW.out.2.1.below hb) (And.intro (bytes_below HW.out.2.2.1 hb (Nat.le_refl _)) (And.intro (bytes_below HW.out.2.2.2.1 hb (Nat.le_refl _)) HW.out.2.2.2.2))))
          clear hu hb
          go_wp2_with fail
          refine (rt_any _ u3 w3 HW3.out.1).mono ?_
          rw [← HRA.out]
          rintro e w4 ⟨rfl, hb⟩
          clear HW3
          replace HW := Lib.hid (And.intro (HW.out.1.trans (hb.mono HW.out.1.size)) (And.intro (HW.out.2.1.below hb) (And.intro (bytes_below HW.out.2.2.1 hb (Nat.le_refl _)) (And.intro (bytes_below HW.out.2.2.2.1 hb (Nat.le_refl _)) HW.out.2.2.2.2))))
          clear hb
          go_wp2_with fail
          refine (lsums_any b _ w4 (HB.out.below HW.out.1) HM.out.1.2 HS2.out).mono ?_
          rintro e w5 ⟨u5, rfl, hu, hb⟩
          have HW3 := Lib.hid (And.intro hu (HW.out.1.trans (hb.mono HW.out.1.size)))
          replace HW := Lib.hid (And.intro (HW.out.1.trans (hb.mono HW.out.1.size)) (And.intro (HW.out.2.1.below hb) (And.intro (bytes_below HW.out.2.2.1 hb (Nat.le_refl _)) (And.intro (bytes_below HW.out.2.2.2.1 hb (Nat.le_refl _)) HW.out.2.2.2.2))))
          clear hu hb
          go_wp2_with fail
          refine (rt_any _ u5 w5 HW3.out.1).mono ?_
          rw [← HRB.out]
          rintro e w6 ⟨rfl, hb⟩
          clear HW3
          replace HW := Lib.hid (And.intro (HW.out.1.trans (hb.mono HW.out.1.size)) (And.intro (HW.out.2.1.below hb) (And.intro (bytes_below HW.out.2.2.1 hb (Nat.le_refl _)) (And.intro (bytes_below HW.out.2.2.2.1 hb (Nat.le_refl _)) HW.out.2.2.2.2))))
          clear hb
          have hes := HES.out
          go_wp2_with fail
          clear hes
          refine (same_lists a b _ _ w6 (HA.out.below HW.out.1) (HB.out.below HW.out.1) HM.out.1.1 HM.out.1.2).mono ?_
          rw [HD.out]
          rintro e w7 ⟨rfl, hb⟩
          replace HW := Lib.hid (And.intro (HW.out.1.trans (hb.mono HW.out.1.size)) (And.intro (HW.out.2.1.below hb) (And.intro (bytes_below HW.out.2.2.1 hb (Nat.le_refl _)) (And.intro (bytes_below HW.out.2.2.2.1 hb (Nat.le_refl _)) HW.out.2.2.2.2))))
          clear hb
          go_wp2_with fail
          refine (alive_clashes w7).mono ?_
          rintro e w8 ⟨rfl, hb⟩
          replace HW := Lib.hid (And.intro (HW.out.1.trans (hb.mono HW.out.1.size)) (And.intro (HW.out.2.1.below hb) (And.intro (bytes_below HW.out.2.2.1 hb (Nat.le_refl _)) (And.intro (bytes_below HW.out.2.2.2.1 hb (Nat.le_refl _)) HW.out.2.2.2.2))))
          clear hb
          have HGG := Lib.hid trivial
          go_wp2_with (have _ := HGG; refine wpList_load_cv (by rfl) _ rfl z rfl _ _ HW.out.2.1 ?_; clear HGG)
          refine (is_any A B _ _ w8 HW.out.2.2.1 HW.out.2.2.2.1 HLL.out.1 HLL.out.2).mono ?_
          rw [HW.out.2.2.2.2 (by trivial)]
          rintro e w9 ⟨rfl, hb⟩
          have HF := Lib.hid (HW.out.1.trans (hb.mono HW.out.1.size)); clear hb
          go_wp2_with fail
          exact bodyPost_ret (results_tmp rfl _ _ _) rfl ⟨rfl, HF.out⟩
      · have HT0 : (decide (n = m) && decide (ra = rb) && !decide (a = b)) = false := by rw [decide_eq_true hl, decide_eq_false hr]; rfl
        rw [HT0] at HL
        have hnm : ((n : Int) == (m : Int)) = true := by rw [beq_iff_eq]; omega
        have hes : ∀ w : World, (Op.equalIn 10000 24 (.agg (cellsOf ra).toArray) (.agg (cellsOf rb).toArray)).run Try.prog w = .ok false w := fun w => by rw [eq_sums]; simp [hr]
        have HES := Lib.hid hes; clear hes
        clear HT0 hl hr
        go_enter Try.func18, Try.ntmps18
        go_wp2_with fail
        refine HG.out.mono ?_
        rintro e w1 ⟨rfl, hb⟩
        have HB1 := Lib.hid hb; clear hb
        go_wp2_with fail
        refine (HL.out w1 HB1.out).mono ?_
        rintro e w2 ⟨v1, v2, A, B, rfl, hA, hB, hI, hlA, hlB, hb⟩
        obtain ⟨x1, k1, rfl, _, _, g1⟩ := id hA
        obtain ⟨x2, k2, rfl, _, _, g2⟩ := id hB
        have HP := Lib.hid (And.intro hA (And.intro hB (And.intro hI (And.intro hlA (And.intro hlB (HB1.out.trans (hb.mono HB1.out.size)))))))
        have HLL : Hid (LenOK A ∧ LenOK B) := Lib.hid (And.intro hlA hlB)
        clear hA hB hI hlA hlB g1 g2 hb HB1 HL HG
        generalize A.length = na at *
        generalize B.length = nb at *
        have HGG := Lib.hid trivial
        go_wp2_with (have _ := HGG; refine wpList_var_cv rfl _ _ rfl _ _ _ _ _ _ rfl rfl ?_; intro W1 z hz hb1 ht; have HW := Lib.hid (And.intro (HP.out.2.2.2.2.2.trans (hb1.mono HP.out.2.2.2.2.2.size)) (And.intro ht (And.intro (bytes_below HP.out.1 hb1 (Nat.le_refl _)) (And.intro (bytes_below HP.out.2.1 hb1 (Nat.le_refl _)) HP.out.2.2.1)))); rw [← hz]; clear HGG hb1 ht hz)
        refine (lsums_any a _ W1 (HA.out.below HW.out.1) HM.out.1.1 HS1.out).mono ?_
        rintro e w3 ⟨u3, rfl, hu, hb⟩
        have HW3 := Lib.hid (And.intro hu (HW.out.1.trans (hb.mono HW.out.1.size)))
        replace HW := Lib.hid (And.intro (HW.out.1.trans (hb.mono HW.out.1.size)) (And.intro (HW.out.2.1.below hb) (And.intro (bytes_below HW.out.2.2.1 hb (Nat.le_refl _)) (And.intro (bytes_below HW.out.2.2.2.1 hb (Nat.le_refl _)) HW.out.2.2.2.2))))
        clear hu hb
        go_wp2_with fail
        refine (rt_any _ u3 w3 HW3.out.1).mono ?_
        rw [← HRA.out]
        rintro e w4 ⟨rfl, hb⟩
        clear HW3
        replace HW := Lib.hid (And.intro (HW.out.1.trans (hb.mono HW.out.1.size)) (And.intro (HW.out.2.1.below hb) (And.intro (bytes_below HW.out.2.2.1 hb (Nat.le_refl _)) (And.intro (bytes_below HW.out.2.2.2.1 hb (Nat.le_refl _)) HW.out.2.2.2.2))))
        clear hb
        go_wp2_with fail
        refine (lsums_any b _ w4 (HB.out.below HW.out.1) HM.out.1.2 HS2.out).mono ?_
        rintro e w5 ⟨u5, rfl, hu, hb⟩
        have HW3 := Lib.hid (And.intro hu (HW.out.1.trans (hb.mono HW.out.1.size)))
        replace HW := Lib.hid (And.intro (HW.out.1.trans (hb.mono HW.out.1.size)) (And.intro (HW.out.2.1.below hb) (And.intro (bytes_below HW.out.2.2.1 hb (Nat.le_refl _)) (And.intro (bytes_below HW.out.2.2.2.1 hb (Nat.le_refl _)) HW.out.2.2.2.2))))
        clear hu hb
        go_wp2_with fail
        refine (rt_any _ u5 w5 HW3.out.1).mono ?_
        rw [← HRB.out]
        rintro e w6 ⟨rfl, hb⟩
        clear HW3
        replace HW := Lib.hid (And.intro (HW.out.1.trans (hb.mono HW.out.1.size)) (And.intro (HW.out.2.1.below hb) (And.intro (bytes_below HW.out.2.2.1 hb (Nat.le_refl _)) (And.intro (bytes_below HW.out.2.2.2.1 hb (Nat.le_refl _)) HW.out.2.2.2.2))))
        clear hb
        have hes := HES.out
        go_wp2_with fail
        refine (alive_clashes w6).mono ?_
        rintro e w8 ⟨rfl, hb⟩
        replace HW := Lib.hid (And.intro (HW.out.1.trans (hb.mono HW.out.1.size)) (And.intro (HW.out.2.1.below hb) (And.intro (bytes_below HW.out.2.2.1 hb (Nat.le_refl _)) (And.intro (bytes_below HW.out.2.2.2.1 hb (Nat.le_refl _)) HW.out.2.2.2.2))))
        clear hb
        go_wp2_with fail
        exact bodyPost_ret (results_tmp rfl _ _ _) rfl ⟨rfl, HW.out.1⟩
    · have HT0 : (decide (n = m) && decide (ra = rb) && !decide (a = b)) = false := by rw [decide_eq_false hl]; rfl
      rw [HT0] at HL
      have hnm : ((n : Int) == (m : Int)) = false := by rw [beq_eq_false_iff_ne]; omega
      clear HT0 hl
      go_enter Try.func18, Try.ntmps18
      go_wp2_with fail
      refine HG.out.mono ?_
      rintro e w1 ⟨rfl, hb⟩
      have HB1 := Lib.hid hb; clear hb
      go_wp2_with fail
      refine (HL.out w1 HB1.out).mono ?_
      rintro e w2 ⟨v1, v2, A, B, rfl, hA, hB, hI, hlA, hlB, hb⟩
      obtain ⟨x1, k1, rfl, _, _, g1⟩ := id hA
      obtain ⟨x2, k2, rfl, _, _, g2⟩ := id hB
      have HP := Lib.hid (And.intro hA (And.intro hB (And.intro hI (And.intro hlA (And.intro hlB (HB1.out.trans (hb.mono HB1.out.size)))))))
      have HLL : Hid (LenOK A ∧ LenOK B) := Lib.hid (And.intro hlA hlB)
      clear hA hB hI hlA hlB g1 g2 hb HB1 HL HG
      generalize A.length = na at *
      generalize B.length = nb at *
      have HGG := Lib.hid trivial
      go_wp2_with (have _ := HGG; refine wpList_var_cv rfl _ _ rfl _ _ _ _ _ _ rfl rfl ?_; intro W1 z hz hb1 ht; have HW := Lib.hid (And.intro (HP.out.2.2.2.2.2.trans (hb1.mono HP.out.2.2.2.2.2.size)) (And.intro ht (And.intro (bytes_below HP.out.1 hb1 (Nat.le_refl _)) (And.intro (bytes_below HP.out.2.1 hb1 (Nat.le_refl _)) HP.out.2.2.1)))); rw [← hz]; clear HGG hb1 ht hz)
      refine (alive_clashes W1).mono ?_
      rintro e w8 ⟨rfl, hb⟩
      replace HW := Lib.hid (And.intro (HW.out.1.trans (hb.mono HW.out.1.size)) (And.intro (HW.out.2.1.below hb) (And.intro (bytes_below HW.out.2.2.1 hb (Nat.le_refl _)) (And.intro (bytes_below HW.out.2.2.2.1 hb (Nat.le_refl _)) HW.out.2.2.2.2))))
      clear hb
      go_wp2_with fail
      exact bodyPost_ret (results_tmp rfl _ _ _) rfl ⟨rfl, HW.out.1⟩
end Go.Proofs.Ytdkcndgehgmadaa
