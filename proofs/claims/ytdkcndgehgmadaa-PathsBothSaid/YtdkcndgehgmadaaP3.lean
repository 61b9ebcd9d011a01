/-
  Walks: paths.Check's 'leads'.
-/
import Derived.Test.YtdkcndgehgmadaaP2
import Derived.Test.YtdkcndgehgmadaaE0
open Go Go.RowKit Alm
namespace Go.Proofs.Ytdkcndgehgmadaa
/-- The functions' words, in variables. -/
abbrev pnextFn (c : Nat) : Value := .func (.func 65) #[] #[.pointer (some ⟨c, 0, none⟩)]
abbrev pleadsFn (A L N : Nat) : Value := .func (.func 66) #[] #[.pointer (some ⟨A, 0, none⟩), .pointer (some ⟨L, 0, none⟩), .pointer (some ⟨N, 0, none⟩)]
/-- What leads comes to. -/
def PLeadsOf (w0 : World) (B : Nat) (c : Nat) (r : Option (Sum × List Sum)) (e : Ending) (w' : World) : Prop :=
  Keeps (· = c) w0 w' ∧ match r with
  | some (s, rest) => e = .returned (sv s) ∧ LeftAt B w' c rest
  | none => e = .panicked few
/-- What leads has before it. -/
structure PLeadsIn (w : World) (A N L c : Nat) (a : Sum) : Prop where
  sum : w.rangeAt A 0 (cellsOf a)
  next : w.cell? ⟨N, 0, none⟩ = some (pnextFn c)
  self : w.cell? ⟨L, 0, none⟩ = some (pleadsFn A L N)
  nA : A ≠ c
  nN : N ≠ c
  nL : L ≠ c
theorem PLeadsIn.keep {w w' : World} {A N L c : Nat} {a : Sum} (h : PLeadsIn w A N L c a) (k : Keeps (· = c) w w') : PLeadsIn w' A N L c a :=
  ⟨k.range h.sum h.nA, k.cell h.next h.nN, k.cell h.self h.nL, h.nA, h.nN, h.nL⟩
theorem PNextOf.keeps {B : Nat} {w w' : World} {c : Nat} {l : List Sum} {e : Ending} (h : PNextOf B w c l e w') : Keeps (· = c) w w' := by
  cases l with
  | nil => exact .of_below h.2
  | cons s r => exact h.2.2
/-- A load of a function's word, whatever its type. -/
theorem wp_load_fnp {o : Oper} {a : Act} {w : World} {K : Act → World → Prop} {Q : Exit → Act → World → Prop} (x : Operand) (ho : o.op = .load 40 x)
    (b : Nat) (v : Value) (hx : a.eval x = .pointer (some ⟨b, 0, none⟩)) (hc : w.cell? ⟨b, 0, none⟩ = some v) (h : K (a.put o.dst v) w) : o.wp Try.prog a w K Q := by
  unfold Oper.wp execOp
  simp only [ho, hx]
  go_simp
  exact h
theorem exec_load_fnp {f : Operand → Value} {o : Oper} (x : Operand) (ho : o.op = .load 40 x) (b : Nat) (v : Value) (hx : f x = .pointer (some ⟨b, 0, none⟩)) (W : World) (hc : W.cell? ⟨b, 0, none⟩ = some v) :
    (execOp f o).run Try.prog W = .ok (.value v) W := by
  unfold execOp
  simp only [ho, hx]
  go_simp
theorem wpList_load_pleads {ops : Array Oper} {rest : List Oper} {op : Oper} {a : Act} {w : World} {Q : Exit → Act → World → Prop} (hgd : op.guard = none) (x : Operand) (ho : op.op = .load 95 x)
    (b : Nat) (v : Value) (hx : a.eval x = .pointer (some ⟨b, 0, none⟩)) (hc : w.cell? ⟨b, 0, none⟩ = some v)
    (h : wpList Try.prog ops Q rest (a.put op.dst v) w) : wpList Try.prog ops Q (op :: rest) a w :=
  wpList_plain hgd fun _ hK => by
    unfold Oper.wp execOp
    simp only [ho, hx]
    go_simp
    exact hK _ _ h
/-- The arguments of leads. -/
abbrev pargs (m n : Nat) (A L N : Nat) : Array Value := #[.int .u64 (m : Int), .int .u64 (n : Int), .pointer (some ⟨A, 0, none⟩), .pointer (some ⟨L, 0, none⟩), .pointer (some ⟨N, 0, none⟩)]
set_option maxRecDepth 100000 in
set_option maxHeartbeats 1000000 in
theorem pleads_end (B A N L c : Nat) (a : Sum) (m : Nat) (p : List Sum) (w : World) (hI : PLeadsIn w A N L c a) (hp : LeftAt B w c p) : Calls Try.prog 66 (pargs m 1 A L N) w (PLeadsOf w B c (some (a, p))) := by
  have R0 : Res w 32 (w.alloc (.cells (cells8 (List.replicate 32 0)).toArray 24)) := Res.start _ _ _ _ (by rfl)
  have HA := Lib.hid (R0.range hI.sum)
  have hfin : PLeadsOf w B c (some (a, p)) (.returned (sv a)) ((w.alloc (.cells (cells8 (List.replicate 32 0)).toArray 24)).setCells w.heap.size 0 (cellsOf a)) :=
    ⟨.of_below (R0.store _).below, rfl, hp.below (R0.store _).below⟩
  have HF := Lib.hid hfin; clear hfin hI hp
  go_enter Try.func66, Try.ntmps66
  go_wp2_with (first
      | (refine wpList_load_sum rfl _ rfl A 0 rfl a HA.out ?_)
      | (refine wpList_store_sum rfl _ _ rfl w.heap.size 0 a rfl rfl R0.there ?_))
  refine bodyPost_ret (results_sum Try.results66 _ _ _ _ rfl (World.there_setCells R0.there _ _ _)) rfl ?_
  exact HF.out
/-- The last step on the left; on the right. -/
noncomputable def ponLeft (r : Option (Sum × List Sum)) : Option (Sum × List Sum) := match r with
  | some (x, s :: q) => some (nd x s, q)
  | _ => none
noncomputable def ponRight (r : Option (Sum × List Sum)) : Option (Sum × List Sum) := match r with
  | some (x, s :: q) => some (nd s x, q)
  | _ => none
set_option maxRecDepth 100000 in
set_option maxHeartbeats 1000000 in
theorem pleads_left (B A N L c : Nat) (a : Sum) (m n : Nat) (r : Option (Sum × List Sum)) (w : World) (hB : B ≤ w.heap.size) (hI : PLeadsIn w A N L c a) (hc0 : c < w.heap.size)
    (hmn : m < n) (hn1 : 1 < n) (hn9 : n < 4000000000) (hk : m < cut n)
    (ih : ∀ W, Below w.heap.size w W → Calls Try.prog 66 (pargs m (cut n) A L N) W (PLeadsOf W B c r)) :
    Calls Try.prog 66 (pargs m n A L N) w (PLeadsOf w B c (ponLeft r)) := by
  have R0 : Res w 32 (w.alloc (.cells (cells8 (List.replicate 32 0)).toArray 24)) := Res.start _ _ _ _ (by rfl)
  have HL := Lib.hid (R0.cell hI.self)
  have HW := Lib.hid (And.intro hB (And.intro hI (And.intro hc0 R0)))
  have HIH := Lib.hid ih
  clear ih hI hB R0 hc0
  obtain ⟨k, hkk⟩ : ∃ k, k = cut n := ⟨_, rfl⟩
  rw [← hkk] at hk HIH
  have HK := Lib.hid hkk; clear hkk
  have k1 : ((n : Int) == 1) = false := by rw [beq_eq_false_iff_ne]; omega
  have k2 : decide (n = 1) = false := decide_eq_false (by omega)
  have k2' : ¬ (n = 1) := by omega
  have k3 : decide (m < k) = true := decide_eq_true hk
  have k3' : (m : Int) < (k : Int) := by omega
  go_enter Try.func66, Try.ntmps66
  go_wp2_with (first
      | (go_at_call 59; refine (pathsCut_any n _ (by omega) (by omega)).mono ?_; rw [← HK.out]; rintro e1 w1 ⟨rfl, rfl⟩)
      | (refine wpList_load_pleads rfl _ rfl L (pleadsFn A L N) rfl HL.out ?_))
  have hb1 : Below w.heap.size w (w.alloc (.cells (cells8 (List.replicate 32 0)).toArray 24)) := HW.out.2.2.2.below
  refine (HIH.out (w.alloc (.cells (cells8 (List.replicate 32 0)).toArray 24)) hb1).mono ?_
  intro e1 w2 hl
  obtain ⟨hk2, ht⟩ := hl
  have hK2 := (Keeps.of_below (X := (· = c)) hb1).trans hk2
  have HK2 := Lib.hid hK2
  rcases r with _ | ⟨s, q⟩
  · cases ht
    exact ⟨rfl, HK2.out, rfl⟩
  · obtain ⟨rfl, hq⟩ := ht
    have hc0 := HW.out.2.2.1
    have n9 : w.heap.size ≠ c := Nat.ne_of_gt hc0
    have HT2 := Lib.hid (hk2.there HW.out.2.2.2.there (by decide) n9)
    have HQ2 := Lib.hid hq
    have HI2 := Lib.hid (HW.out.2.1.keep hK2)
    clear hK2 hk2 hq hc0 n9 hb1
    have HG := Lib.hid trivial
    go_wp2_with (have _ := HG; refine wpList_var_sum (by rfl) rfl _ _ rfl s rfl rfl ?_; intro W3 hb3 hr3 _ hlt3; clear HG)
    have hsz : w.heap.size < w2.heap.size := there_lt HT2.out (by decide)
    have HT3 := Lib.hid (there_block (hb3.block _ hsz) HT2.out)
    have HQ3 := Lib.hid (HQ2.out.below hb3)
    have hK3 := HK2.out.trans (.of_below hb3)
    have HI3 := Lib.hid (HW.out.2.1.keep hK3)
    have HK3 := Lib.hid hK3
    have HR3 := Lib.hid hr3
    have HSZ := Lib.hid hsz
    clear hK3 hsz hb3 hr3 hlt3 HT2 HQ2 HI2 HK2
    generalize w2.heap.size = q9 at *
    refine wp_region_sched (fun W => W.rangeAt q9 0 (cellsOf s)) [.s 0, .e 1 true, .e 2 true, .e 3 false, .e 4 false] (by kernel_rfl) (by kernel_rfl) (by intro c a d v w h; cases d <;> exact h) ?_
    have HS := Lib.hid (show W3.drew.rangeAt q9 0 (cellsOf s) from HR3.out)
    have HT := Lib.hid (show W3.drew.there w.heap.size 0 32 from HT3.out)
    have HQ := Lib.hid (HQ3.out.below (Below.refl W3.heap.size W3).drew)
    have HI := Lib.hid (HI3.out.keep (.of_below (Below.refl W3.heap.size W3).drew))
    have HKK := Lib.hid (HK3.out.trans (.of_below (Below.refl W3.heap.size W3).drew))
    clear HR3 HT3 HQ3 HI3 HK3
    have HN9 : Hid (w.heap.size ≠ c ∧ q9 ≠ c) := Lib.hid ⟨Nat.ne_of_gt HW.out.2.2.1, by have := HW.out.2.2.1; have := HSZ.out; omega⟩
    generalize W3.drew = V at *
    refine wpS_load_sum (by exact HS.out) rfl (by rfl) _ (by rfl) q9 0 (by rfl) s (fun V hV => hV) ?_
    try simp only [Act.put, List.setIfInBounds_toArray, List.set_cons_zero, List.set_cons_succ]
    refine wpS_k rfl (by rfl) (fun K hK => ?_)
    refine wp_load_fnp _ (by rfl) N (pnextFn c) (by rfl) HI.out.next ?_
    refine hK _ _ ⟨by exact HS.out, ?_⟩; clear hK K
    try simp only [Act.put, List.setIfInBounds_toArray, List.set_cons_zero, List.set_cons_succ]
    refine wpS_k rfl (by rfl) (fun K hK => ?_)
    go_simp
    refine (pnext_any B V c q HQ.out).mono ?_
    intro e4 w4 hn
    rcases q with _ | ⟨t, q⟩
    · obtain ⟨rfl, hb⟩ := hn
      exact ⟨rfl, HKK.out.trans (.of_below hb), rfl⟩
    · obtain ⟨rfl, hl, hk⟩ := hn
      have HS4 := Lib.hid (hk.range HS.out HN9.out.2)
      have HT4 := Lib.hid (hk.there HT.out (by decide) HN9.out.1)
      have HL4 := Lib.hid hl
      have HK4 := Lib.hid (HKK.out.trans hk)
      clear hl hk
      refine hK _ _ ⟨by exact HS4.out, ?_⟩; clear hK K
      try simp only [Act.put, List.setIfInBounds_toArray, List.set_cons_zero, List.set_cons_succ]
      refine wpS_e rfl (by rfl) (fun K hK => ?_)
      go_simp
      refine (nd_any s t _).mono ?_
      rintro e6 w6 ⟨rfl, hb6⟩
      have HT6 := Lib.hid ((Keeps.of_below (X := fun _ => False) hb6).there HT4.out (by decide) (fun h => h))
      have hk9 := keeps_setCells_ w.heap.size (cellsOf (nd s t)) 0 w6
      have HF : Hid (PLeadsOf w B c (some (nd s t, q)) (.returned (sv (nd s t))) (w6.setCells w.heap.size 0 (cellsOf (nd s t)))) := Lib.hid
        ⟨(HK4.out.trans (.of_below hb6)).trans' hk9 (fun i hi => .inr (Nat.le_of_eq hi.symm)), rfl, (HL4.out.below hb6).keep hk9 (fun e => HN9.out.1 e.symm) (fun k hk _ => hk ▸ HW.out.1)⟩
      clear hb6 hk9
      refine hK _ _ ?_; clear hK K
      try simp only [Act.put, List.setIfInBounds_toArray, List.set_cons_zero, List.set_cons_succ]
      refine wpS_e rfl (by rfl) (fun K hK => ?_)
      refine wp_store_sum _ _ (by rfl) w.heap.size 0 (nd s t) (by rfl) (by rfl) HT6.out ?_
      refine hK _ _ ?_; clear hK K
      try simp only [Act.put, List.setIfInBounds_toArray, List.set_cons_zero, List.set_cons_succ]
      refine wpS_done ?_
      go_wp2_with fail
      refine bodyPost_ret (results_sum Try.results66 _ _ _ _ rfl (World.there_setCells HT6.out _ _ _)) rfl ?_
      exact HF.out
set_option maxRecDepth 100000 in
set_option maxHeartbeats 1000000 in
theorem pleads_right (B A N L c : Nat) (a : Sum) (m n : Nat) (r : Option (Sum × List Sum)) (w : World) (hB : B ≤ w.heap.size) (hI : PLeadsIn w A N L c a) (hc0 : c < w.heap.size)
    (hmn : m < n) (hn1 : 1 < n) (hn9 : n < 4000000000) (hk : ¬ m < cut n) (hkn : cut n < n)
    (ih : ∀ W, Below w.heap.size w W → Calls Try.prog 66 (pargs (m - cut n) (n - cut n) A L N) W (PLeadsOf W B c r)) :
    Calls Try.prog 66 (pargs m n A L N) w (PLeadsOf w B c (ponRight r)) := by
  have R0 : Res w 32 (w.alloc (.cells (cells8 (List.replicate 32 0)).toArray 24)) := Res.start _ _ _ _ (by rfl)
  have HL := Lib.hid (R0.cell hI.self)
  have HW := Lib.hid (And.intro hB (And.intro hI (And.intro hc0 R0)))
  have HIH := Lib.hid ih
  clear ih hI hB R0 hc0
  obtain ⟨k, hkk⟩ : ∃ k, k = cut n := ⟨_, rfl⟩
  rw [← hkk] at hk HIH hkn
  have HK := Lib.hid hkk; clear hkk
  have k1 : ((n : Int) == 1) = false := by rw [beq_eq_false_iff_ne]; omega
  have k2 : decide (n = 1) = false := decide_eq_false (by omega)
  have k2' : ¬ (n = 1) := by omega
  have k3 : decide (m < k) = false := decide_eq_false hk
  have k3' : ¬ ((m : Int) < (k : Int)) := by omega
  have k4 : ((m : Int) - (k : Int)) = ((m - k : Nat) : Int) := by omega
  have k5 : ((n : Int) - (k : Int)) = ((n - k : Nat) : Int) := by omega
  have k6 : IntKind.u64.wrap ((m : Int) - (k : Int)) = ((m - k : Nat) : Int) := by
    rw [k4]; simp only [IntKind.wrap, IntKind.bits, IntKind.signed, Bool.false_and, Bool.false_eq_true, if_false]; omega
  have k7 : IntKind.u64.wrap ((n : Int) - (k : Int)) = ((n - k : Nat) : Int) := by
    rw [k5]; simp only [IntKind.wrap, IntKind.bits, IntKind.signed, Bool.false_and, Bool.false_eq_true, if_false]; omega
  clear k4 k5
  go_enter Try.func66, Try.ntmps66
  go_wp2_with (first
      | (go_at_call 59; refine (pathsCut_any n _ (by omega) (by omega)).mono ?_; rw [← HK.out]; rintro e1 w1 ⟨rfl, rfl⟩)
      | (refine wpList_load_pleads rfl _ rfl L (pleadsFn A L N) rfl HL.out ?_))
  have hb1 : Below w.heap.size w (w.alloc (.cells (cells8 (List.replicate 32 0)).toArray 24)) := HW.out.2.2.2.below
  refine (HIH.out (w.alloc (.cells (cells8 (List.replicate 32 0)).toArray 24)) hb1).mono ?_
  intro e1 w2 hl
  obtain ⟨hk2, ht⟩ := hl
  have hK2 := (Keeps.of_below (X := (· = c)) hb1).trans hk2
  have HK2 := Lib.hid hK2
  rcases r with _ | ⟨s, q⟩
  · cases ht
    exact ⟨rfl, HK2.out, rfl⟩
  · obtain ⟨rfl, hq⟩ := ht
    have hc0 := HW.out.2.2.1
    have n9 : w.heap.size ≠ c := Nat.ne_of_gt hc0
    have HT2 := Lib.hid (hk2.there HW.out.2.2.2.there (by decide) n9)
    have HQ2 := Lib.hid hq
    have HI2 := Lib.hid (HW.out.2.1.keep hK2)
    clear hK2 hk2 hq hc0 n9 hb1
    have HG := Lib.hid trivial
    go_wp2_with (have _ := HG; refine wpList_var_sum (by rfl) rfl _ _ rfl s rfl rfl ?_; intro W3 hb3 hr3 _ hlt3; clear HG)
    have hsz : w.heap.size < w2.heap.size := there_lt HT2.out (by decide)
    have HT3 := Lib.hid (there_block (hb3.block _ hsz) HT2.out)
    have HQ3 := Lib.hid (HQ2.out.below hb3)
    have hK3 := HK2.out.trans (.of_below hb3)
    have HI3 := Lib.hid (HW.out.2.1.keep hK3)
    have HK3 := Lib.hid hK3
    have HR3 := Lib.hid hr3
    have HSZ := Lib.hid hsz
    clear hK3 hsz hb3 hr3 hlt3 HT2 HQ2 HI2 HK2
    generalize w2.heap.size = q9 at *
    refine wp_region_sched (fun W => W.rangeAt q9 0 (cellsOf s) ∧ W.cell? ⟨N, 0, none⟩ = some (pnextFn c)) [.s 0, .s 2, .e 1 true, .e 3 false, .e 4 false] (by kernel_rfl) (by kernel_rfl) (by intro c a d v w h; cases d <;> exact h) ?_
    have HS := Lib.hid (show W3.drew.rangeAt q9 0 (cellsOf s) from HR3.out)
    have HT := Lib.hid (show W3.drew.there w.heap.size 0 32 from HT3.out)
    have HQ := Lib.hid (HQ3.out.below (Below.refl W3.heap.size W3).drew)
    have HI := Lib.hid (HI3.out.keep (.of_below (Below.refl W3.heap.size W3).drew))
    have HKK := Lib.hid (HK3.out.trans (.of_below (Below.refl W3.heap.size W3).drew))
    clear HR3 HT3 HQ3 HI3 HK3
    have HN9 : Hid (w.heap.size ≠ c ∧ q9 ≠ c) := Lib.hid ⟨Nat.ne_of_gt HW.out.2.2.1, by have := HW.out.2.2.1; have := HSZ.out; omega⟩
    generalize W3.drew = V at *
    refine wpS_s (by exact ⟨HS.out, HI.out.next⟩) rfl (by rfl) (v := pnextFn c) (fun W hW => exec_load_fnp _ (by rfl) N (pnextFn c) (by rfl) W hW.2) ?_
    try simp only [Act.put, List.setIfInBounds_toArray, List.set_cons_zero, List.set_cons_succ]
    refine wpS_load_sum (by exact ⟨HS.out, HI.out.next⟩) rfl (by rfl) _ (by rfl) q9 0 (by rfl) s (fun V hV => hV.1) ?_
    try simp only [Act.put, List.setIfInBounds_toArray, List.set_cons_zero, List.set_cons_succ]
    refine wpS_k rfl (by rfl) (fun K hK => ?_)
    go_simp
    refine (pnext_any B V c q HQ.out).mono ?_
    intro e4 w4 hn
    rcases q with _ | ⟨t, q⟩
    · obtain ⟨rfl, hb⟩ := hn
      exact ⟨rfl, HKK.out.trans (.of_below hb), rfl⟩
    · obtain ⟨rfl, hl, hk⟩ := hn
      have HS4 := Lib.hid (And.intro (hk.range HS.out HN9.out.2) (hk.cell HI.out.next HI.out.nN))
      have HT4 := Lib.hid (hk.there HT.out (by decide) HN9.out.1)
      have HL4 := Lib.hid hl
      have HK4 := Lib.hid (HKK.out.trans hk)
      clear hl hk
      refine hK _ _ ⟨by exact HS4.out, ?_⟩; clear hK K
      try simp only [Act.put, List.setIfInBounds_toArray, List.set_cons_zero, List.set_cons_succ]
      refine wpS_e rfl (by rfl) (fun K hK => ?_)
      go_simp
      refine (nd_any t s _).mono ?_
      rintro e6 w6 ⟨rfl, hb6⟩
      have HT6 := Lib.hid ((Keeps.of_below (X := fun _ => False) hb6).there HT4.out (by decide) (fun h => h))
      have hk9 := keeps_setCells_ w.heap.size (cellsOf (nd t s)) 0 w6
      have HF : Hid (PLeadsOf w B c (some (nd t s, q)) (.returned (sv (nd t s))) (w6.setCells w.heap.size 0 (cellsOf (nd t s)))) := Lib.hid
        ⟨(HK4.out.trans (.of_below hb6)).trans' hk9 (fun i hi => .inr (Nat.le_of_eq hi.symm)), rfl, (HL4.out.below hb6).keep hk9 (fun e => HN9.out.1 e.symm) (fun k hk _ => hk ▸ HW.out.1)⟩
      clear hb6 hk9
      refine hK _ _ ?_; clear hK K
      try simp only [Act.put, List.setIfInBounds_toArray, List.set_cons_zero, List.set_cons_succ]
      refine wpS_e rfl (by rfl) (fun K hK => ?_)
      refine wp_store_sum _ _ (by rfl) w.heap.size 0 (nd t s) (by rfl) (by rfl) HT6.out ?_
      refine hK _ _ ?_; clear hK K
      try simp only [Act.put, List.setIfInBounds_toArray, List.set_cons_zero, List.set_cons_succ]
      refine wpS_done ?_
      go_wp2_with fail
      refine bodyPost_ret (results_sum Try.results66 _ _ _ _ rfl (World.there_setCells HT6.out _ _ _)) rfl ?_
      exact HF.out
theorem pleads_step (a : Sum) (m n : Nat) (p : List Sum) (h : ¬ n ≤ 1) : leads nd a m n p = if m < cut n then ponLeft (leads nd a m (cut n) p) else ponRight (leads nd a (m - cut n) (n - cut n) p) := by
  rw [leads, dif_neg h]
  by_cases hk : m < cut n
  · rw [if_pos hk, if_pos hk]
    generalize leads nd a m (cut n) p = r
    rcases r with _ | ⟨x, _ | ⟨s, q⟩⟩ <;> rfl
  · rw [if_neg hk, if_neg hk]
    generalize leads nd a (m - cut n) (n - cut n) p = r
    rcases r with _ | ⟨x, _ | ⟨s, q⟩⟩ <;> rfl
theorem pleads_any (B A N L c : Nat) (a : Sum) : ∀ (d n m : Nat) (p : List Sum) (w : World), n ≤ d → 1 ≤ n → m < n → n < 4000000000 → B ≤ w.heap.size → PLeadsIn w A N L c a → LeftAt B w c p →
    Calls Try.prog 66 (pargs m n A L N) w (PLeadsOf w B c (leads nd a m n p)) := by
  intro d
  induction d with
  | zero => intro n m p w h0 h1; omega
  | succ d ih =>
    intro n m p w h0 h1 h2 h3 hB hI hp
    by_cases hn : n ≤ 1
    · have : n = 1 := by omega
      subst this
      rw [leads, dif_pos hn]
      exact pleads_end B A N L c a m p w hI hp
    · have hc0 := hp.lt
      have hk1 := cut_lt (n := n) (by omega)
      have hk2 := cut_pos n
      rw [pleads_step a m n p hn]
      by_cases hk : m < cut n
      · rw [if_pos hk]
        exact pleads_left B A N L c a m n _ w hB hI hc0 h2 (by omega) h3 hk (fun W hb => ih (cut n) m p W (by omega) (by omega) hk (by omega) (Nat.le_trans hB hb.size) (hI.keep (.of_below hb)) (hp.below hb))
      · rw [if_neg hk]
        exact pleads_right B A N L c a m n _ w hB hI hc0 h2 (by omega) h3 hk (by omega) (fun W hb => ih (n - cut n) (m - cut n) p W (by omega) (by omega) (by omega) (by omega) (Nat.le_trans hB hb.size) (hI.keep (.of_below hb)) (hp.below hb))
end Go.Proofs.Ytdkcndgehgmadaa
