/-
  Merged: L5, L6, L7, L8.
-/
import Derived.Test.YtdkcndgehgmadaaZL
import Derived.Recover
import Derived.Test.YtdkcndgehgmadaaZB1
import Derived.Test.YtdkcndgehgmadaaZB2
-- Walks: clashes.finds, clashes.Lists.
open Go Go.RowKit Alm
namespace Go.Proofs.Ytdkcndgehgmadaa
theorem is_clash (v : Value) (w : World) : (Instr.typeAssert (.iface 75 v) 20 75 true).run Try.prog w = .ok (.tuple #[v, .bool true]) w := by kernel_rfl
set_option maxRecDepth 100000 in
set_option maxHeartbeats 1000000 in
theorem foundF (c f : Nat) (va vb : Value) (w : World) (a1 a2 : Option Addr) (n1 c1 n2 c2 : Nat) (hva : va = .slice a1 n1 c1) (hvb : vb = .slice a2 n2 c2)
    (hc : w.heap[c]? = some (.cells #[.slice none 0 0, .slice none 0 0] 75 (0, 0))) (hf : w.heap[f]? = some (.cells #[.bool false] 4 (0, 0))) (hcf : c ≠ f) :
    CallsD Try.prog 116 #[.pointer (some ⟨c, 0, none⟩), .pointer (some ⟨f, 0, none⟩)] (.panicking (panC va vb)) w fun e u' w' =>
      e = .returned (.tuple #[]) ∧ u' = .panicking [{ v := .iface 75 (cv va vb), recovered := true }] ∧ TwoAt w' c va vb ∧ w'.cell? ⟨f, 0, none⟩ = some (.bool true) ∧ Keeps (fun k => k = c ∨ k = f) w w' := by
  subst hva hvb
  refine callsD_of_wpS Try.func116 rfl fun c₀ cs hu => ?_
  apply wpS_seq
  apply wpS_region
  simp [wpOpsS, go_sem, recoverD, hu, is_clash, Try.ntmps116, Exit.thenS]
  have hw := al (Below.refl _ w) (.cells #[.slice a1 n1 c1, .slice a2 n2 c2] 75)
  have ht := two_new w (.slice a1 n1 c1) (.slice a2 n2 c2) 75
  have hc1 := (Keeps.of_below (X := fun _ => False) hw).heap hc (fun h => h)
  have hf1 := (Keeps.of_below (X := fun _ => False) hw).heap hf (fun h => h)
  have hk1 := Keeps.of_below (X := fun k => k = c ∨ k = f) hw
  have hcz : c ≠ w.heap.size := Nat.ne_of_lt (Array.getElem?_eq_some_iff.1 hc).1
  have hfz : f ≠ w.heap.size := Nat.ne_of_lt (Array.getElem?_eq_some_iff.1 hf).1
  clear hw hc hf
  obtain ⟨z, hz⟩ : ∃ z, z = w.heap.size := ⟨_, rfl⟩
  rw [← hz] at ht hcz hfz ⊢
  clear hz
  generalize w.alloc (.cells #[.slice a1 n1 c1, .slice a2 n2 c2] 75) = W at *
  have e0 : W.cell? ⟨c, 0, none⟩ = some (.slice none 0 0) := by rw [cell_of_row W c _ _ _ (0, 0) hc1]; rfl
  have e1 : W.cell? ⟨c, 1, none⟩ = some (.slice none 0 0) := by rw [cell_of_row W c _ _ _ (0, 0) hc1]; rfl
  have e2 : W.cell? ⟨f, 0, none⟩ = some (.bool false) := by rw [cell_of_row W f _ _ _ (0, 0) hf1]; rfl
  have z0 : W.frozen? ⟨c, 0, none⟩ = false := frozen_of_row W c _ _ _ hc1
  have z1 : W.frozen? ⟨c, 1, none⟩ = false := frozen_of_row W c _ _ _ hc1
  have z2 : W.frozen? ⟨f, 0, none⟩ = false := frozen_of_row W f _ _ _ hf1
  have t0 := ht.1
  have t1 := ht.2
  apply wpS_seq
  apply wpS_region
  simp [wpOpsS, go_sem, Exit.thenS]
  refine wpS_cond (t := true) (by simp [Act.eval, Array.replicate]) ?_
  simp only [if_true]
  apply wpS_region
  simp [wpOpsS, go_sem, t0, t1, e0, e1, e2, z0, z1, z2, hcf, hcf.symm]
  have g1 := heap_setCell_same W c 0 _ _ (.slice a1 n1 c1) hc1
  have g2 := heap_setCell_same _ c 1 _ _ (.slice a2 n2 c2) g1
  have g3 : (((W.setCell ⟨c, 0, none⟩ (.slice a1 n1 c1)).setCell ⟨c, 1, none⟩ (.slice a2 n2 c2)).setCell ⟨f, 0, none⟩ (.bool true)).heap[c]? = some (.cells #[.slice a1 n1 c1, .slice a2 n2 c2] 75 (0, 0)) := (heap_setCell_other _ ⟨f, 0, none⟩ c (.bool true) hcf).trans (by simpa using g2)
  have k1 : (W.setCell ⟨c, 0, none⟩ (.slice a1 n1 c1)).heap[f]? = some (.cells #[.bool false] 4 (0, 0)) := (heap_setCell_other W ⟨c, 0, none⟩ f (.slice a1 n1 c1) (fun e => hcf e.symm)).trans hf1
  have k2 : ((W.setCell ⟨c, 0, none⟩ (.slice a1 n1 c1)).setCell ⟨c, 1, none⟩ (.slice a2 n2 c2)).heap[f]? = some (.cells #[.bool false] 4 (0, 0)) := (heap_setCell_other _ ⟨c, 1, none⟩ f (.slice a2 n2 c2) (fun e => hcf e.symm)).trans k1
  have k3 := heap_setCell_same _ f 0 _ _ (.bool true) k2
  have hK : Keeps (fun k => k = c ∨ k = f) w (((W.setCell ⟨c, 0, none⟩ (.slice a1 n1 c1)).setCell ⟨c, 1, none⟩ (.slice a2 n2 c2)).setCell ⟨f, 0, none⟩ (.bool true)) :=
    ((hk1.setCell (p := ⟨c, 0, none⟩) (.inl (.inl rfl)) _).setCell (p := ⟨c, 1, none⟩) (.inl (.inl rfl)) _).setCell (p := ⟨f, 0, none⟩) (.inl (.inr rfl)) _
  generalize ((W.setCell ⟨c, 0, none⟩ (.slice a1 n1 c1)).setCell ⟨c, 1, none⟩ (.slice a2 n2 c2)).setCell ⟨f, 0, none⟩ (.bool true) = V at *
  refine ⟨rfl, _, rfl, .tuple #[], by simp [results, Try.results116], rfl, rfl, ⟨?_, ?_⟩, ?_, hK⟩
  · rw [cell_of_row V c _ _ _ (0, 0) g3]; rfl
  · rw [cell_of_row V c _ _ _ (0, 0) g3]; rfl
  · rw [cell_of_row V f _ _ _ (0, 0) k3]; rfl
/-- What finds tells. -/
def FoundOf (w : World) (e : Ending) (w' : World) : Prop := ∃ va vb A B, e = .returned (.tuple #[cv va vb, .bool true]) ∧ BytesAt w' va A ∧ BytesAt w' vb B ∧ isB A B = true ∧ A.length < 1000000 ∧ B.length < 1000000 ∧ Below w.heap.size w w'
theorem enters (fn : FuncId) (args : Array Value) (F : Func) (hf : Try.prog.funcs[fn]? = some F) (hb : ¬ F.body = none) (hn : ¬ F.name = "runtime.NumGoroutine") (w : World) : (callFunc fn args).run Try.prog w = .ok (.enter fn args) w := by
  simp [callFunc, go_sem, hf, hn, hb]
theorem two_rows (w : World) (A B : Obj) : ((w.alloc A).alloc B).heap[w.heap.size]? = some A ∧ ((w.alloc A).alloc B).heap[w.heap.size + 1]? = some B := by
  constructor
  · unfold World.alloc; simp [Array.getElem?_push]
  · have h : ((w.alloc A).heap.push B)[(w.alloc A).heap.size]? = some B := Array.getElem?_push_size
    rw [World.size_alloc] at h
    exact h
theorem _root_.Alm.Keeps.bytes {X : Nat → Prop} {w w' : World} (h : Keeps X w w') {v : Value} {l : List UInt8} (hs : BytesAt w v l) (hx : ∀ k o (x : UInt8), X k → ¬ w.cell? ⟨k, o, none⟩ = some (u8v x)) : BytesAt w' v l := by
  obtain ⟨a, cap, hv, h1, h2, h3⟩ := hs
  refine ⟨a, cap, hv, h1, h2, ?_⟩
  by_cases hl : l = []
  · exact .inl hl
  · obtain ⟨b, o, ha, hr⟩ := h3.resolve_left hl
    refine .inr ⟨b, o, ha, h.range hr fun hb => ?_⟩
    cases l with
    | nil => exact hl rfl
    | cons x r => exact hx b (o + 0) x hb (hr 0 (u8v x) rfl)
theorem no_byte (w : World) (z : Nat) (hc : w.heap[z]? = some (.cells #[.slice none 0 0, .slice none 0 0] 75 (0, 0))) (hf : w.heap[z + 1]? = some (.cells #[.bool false] 4 (0, 0))) : ∀ k o (x : UInt8), (k = z ∨ k = z + 1) → ¬ w.cell? ⟨k, o, none⟩ = some (u8v x) := by
  rintro k o x (rfl | rfl)
  · rw [cell_of_row w _ _ _ _ (0, 0) hc]
    match o with
    | 0 => simp [u8v]
    | 1 => simp [u8v]
    | n + 2 => simp [u8v]
  · rw [cell_of_row w _ _ _ _ (0, 0) hf]
    match o with
    | 0 => simp [u8v]
    | n + 1 => simp [u8v]
set_option maxRecDepth 100000 in
set_option maxHeartbeats 1000000 in
theorem finds_any (fn : FuncId) (cap : Array Value) (w : World) (hrun : ∀ W, (callFunc fn cap).run Try.prog W = .ok (.enter fn cap) W) (hway : ∀ W, Below w.heap.size w W → Calls Try.prog fn cap W (ClashOf W)) : Calls Try.prog 93 #[.func (.func fn) #[] cap] w (FoundOf w) := by
  have hmf : ∀ (fn : Fn) (first cap : Array Value) (w : World), (Instr.makeFunc fn first cap).run Try.prog w = .ok (.func fn first cap) w := fun _ _ _ _ => rfl
  have HWAY := Lib.hid hway; clear hway
  have hbw := al (al (Below.refl _ w) (.cells #[.slice none 0 0, .slice none 0 0] 75)) (.cells #[.bool false] 4)
  have HB := Lib.hid hbw
  have HH := Lib.hid (two_rows w (.cells #[.slice none 0 0, .slice none 0 0] 75) (.cells #[.bool false] 4))
  clear hbw
  go_enter_defers Try.func93, Try.ntmps93
  go_wp2_with fail
  obtain ⟨z, hz⟩ : ∃ z, z = w.heap.size := ⟨_, rfl⟩
  have HZ := Lib.hid hz
  rw [← hz] at HH ⊢
  clear hz
  generalize (w.alloc (.cells #[.slice none 0 0, .slice none 0 0] 75)).alloc (.cells #[.bool false] 4) = W at *
  refine (HWAY.out W HB.out).mono ?_
  rintro e W1 ⟨va, vb, A, B, rfl, hA, hB, hI, hla, hlb, hb⟩
  have hk := Keeps.of_below (X := fun _ => False) hb
  have hc := hk.heap HH.out.1 (fun h => h)
  have hf := hk.heap HH.out.2 (fun h => h)
  have HP := Lib.hid (And.intro hA (And.intro hB (And.intro hI (And.intro hla (And.intro hlb (HB.out.trans (hb.mono HB.out.size)))))))
  clear hA hB hI hla hlb hb hk
  have hva : ∃ a n c, va = .slice a n c := by obtain ⟨a, c, h, _⟩ := HP.out.1; exact ⟨a, _, c, h⟩
  have hvb : ∃ a n c, vb = .slice a n c := by obtain ⟨a, c, h, _⟩ := HP.out.2.1; exact ⟨a, _, c, h⟩
  obtain ⟨a1, n1, c1, hva⟩ := hva
  obtain ⟨a2, n2, c2, hvb⟩ := hvb
  change bodyPostD _ _ _ (.panic (panC va vb)) _ W1
  refine leaves_cons (f := 116) (args := #[.pointer (some ⟨z, 0, none⟩), .pointer (some ⟨z + 1, 0, none⟩)]) (by simp) (by simp [go_sem]) ?_
  refine (foundF z (z + 1) va vb W1 a1 a2 n1 c1 n2 c2 hva hvb hc hf (by omega)).mono ?_
  rintro e u' w'' ⟨rfl, rfl, h1, h2, hk⟩
  have hK : Keeps (fun k => k = z ∨ k = z + 1) W1 w'' := hk
  have hb9 : Below w.heap.size w w'' := HP.out.2.2.2.2.2.trans (hk.below HP.out.2.2.2.2.2.size (fun k hk => by have := HZ.out; omega))
  have hFin : FoundOf w (.returned (.tuple #[cv va vb, .bool true])) w'' := ⟨va, vb, A, B, rfl, hk.bytes HP.out.1 (no_byte W1 z hc hf), hk.bytes HP.out.2.1 (no_byte W1 z hc hf), HP.out.2.2.1, HP.out.2.2.2.1, HP.out.2.2.2.2.1, hb9⟩
  have HFin := Lib.hid hFin
  clear hFin hb9 hK hk
  have h3 := h1.1
  have h4 := h1.2
  simp [Leaves, settle, results, Try.results93, go_sem, h2, h3, h4]
  exact HFin.out
set_option maxRecDepth 100000 in
set_option maxHeartbeats 1000000 in
theorem listsway_any (a b : List (List UInt8)) (va vb : Value) (p q : Nat) (w : World) (ha : ListsAt w va a) (hb : ListsAt w vb b) (h1 : 1 ≤ a.length) (hab : a.length = b.length) (hne : ¬ a = b) (hrt : rt (a.map lf) = rt (b.map lf)) (hn : a.length < 1000000) (hsa : SZ a) (hsb : SZ b)
    (hp : w.cell? ⟨p, 0, none⟩ = some va) (hq : w.cell? ⟨q, 0, none⟩ = some vb) : Calls Try.prog 94 #[.pointer (some ⟨p, 0, none⟩), .pointer (some ⟨q, 0, none⟩)] w (ClashOf w) := by
  have HC := Lib.hid (lists_any a.length a b va vb w (Nat.le_refl _) ha hb h1 hab hne hrt hn hsa hsb)
  obtain ⟨a1, c1, rfl, _, _, ha⟩ := ha
  obtain ⟨a2, c2, rfl, _, _, hb⟩ := hb
  clear ha hb hne hrt hn hsa hsb h1 hab
  go_enter Try.func94, Try.ntmps94
  go_wp2_with fail
  refine HC.out.mono ?_
  intro e w3 h
  obtain ⟨va, vb, A, B, rfl, h⟩ := h
  exact ⟨rfl, va, vb, A, B, rfl, h⟩
theorem enters94 (cap : Array Value) (W : World) : (callFunc 94 cap).run Try.prog W = .ok (.enter 94 cap) W :=
  enters _ cap Try.f94 Try.func94 (by intro h; cases h) (by decide +kernel) W
end Go.Proofs.Ytdkcndgehgmadaa
-- Walks: clashes.Lists where one is told, and of lists that are not as long.
open Go Go.RowKit Alm
namespace Go.Proofs.Ytdkcndgehgmadaa
theorem wpList_store_cv {ops : Array Oper} {rest : List Oper} {op : Oper} {a : Act} {w : World} {Q : Exit → Act → World → Prop} (hgd : op.guard = none) (x y : Operand) (ho : op.op = .store 75 x y)
    (b o : Nat) (a1 a2 : Option Addr) (n1 c1 n2 c2 : Nat) (hx : a.eval x = .pointer (some ⟨b, o, none⟩)) (hy : a.eval y = cv (.slice a1 n1 c1) (.slice a2 n2 c2)) (ht : w.there b o 2)
    (h : wpList Try.prog ops Q rest (a.put op.dst undef) (w.setCells b o [.slice a1 n1 c1, .slice a2 n2 c2])) : wpList Try.prog ops Q (op :: rest) a w :=
  wpList_store_mid hgd _ x y ho b o #[.slice a1 n1 c1, .slice a2 n2 c2] hx hy ht infoClash (by simp [Value.oneCell']) h
theorem three_row (w : World) (A B C : Obj) : (((w.alloc A).alloc B).alloc C).heap[w.heap.size + 1 + 1]? = some C := by
  have h : (((w.alloc A).alloc B).heap.push C)[((w.alloc A).alloc B).heap.size]? = some C := Array.getElem?_push_size
  rw [World.size_alloc, World.size_alloc] at h
  exact h
theorem no_byte2 (w : World) (z : Nat) (hc : w.heap[z]? = some (.cells #[.slice none 0 0, .slice none 0 0] 75 (0, 0))) : ∀ k o (x : UInt8), (k = z) → ¬ w.cell? ⟨k, o, none⟩ = some (u8v x) := by
  rintro k o x rfl
  rw [cell_of_row w _ _ _ _ (0, 0) hc]
  match o with
  | 0 => simp [u8v]
  | 1 => simp [u8v]
  | n + 2 => simp [u8v]
set_option maxRecDepth 100000 in
set_option maxHeartbeats 1000000 in
theorem lists_told (a b : List (List UInt8)) (va vb : Value) (w : World) (ha : ListsAt w va a) (hb : ListsAt w vb b) (hn : a.length < 1000000) (hab : a.length = b.length) (hne : ¬ a = b) (hsa : SZ a) (hsb : SZ b) (hr : rt (a.map lf) = rt (b.map lf)) : Calls Try.prog 54 #[va, vb] w (FoundOf w) := by
  have hbw : Below w.heap.size w (((w.alloc (.cells #[va] 67)).alloc (.cells #[vb] 67)).alloc (.cells #[.slice none 0 0, .slice none 0 0] 75)) := al (al (al (Below.refl _ _) _) _) _
  have HBW := Lib.hid hbw
  have HT := Lib.hid (box_two w va vb 67 67 75 #[.slice none 0 0, .slice none 0 0])
  have HTH : Hid ((((w.alloc (.cells #[va] 67)).alloc (.cells #[vb] 67)).alloc (.cells #[.slice none 0 0, .slice none 0 0] 75)).there (w.heap.size + 1 + 1) 0 2) := Lib.hid (by
    have := there_new ((w.alloc (.cells #[va] 67)).alloc (.cells #[vb] 67)) #[.slice none 0 0, .slice none 0 0] 75
    simp only [World.size_alloc] at this
    exact this)
  have HR3 := Lib.hid (three_row w (.cells #[va] 67) (.cells #[vb] 67) (.cells #[.slice none 0 0, .slice none 0 0] 75))
  have HA := Lib.hid (ha.below hbw)
  have HB := Lib.hid (hb.below hbw)
  obtain ⟨aa, ca, rfl, a1, a2, a3⟩ := ha
  obtain ⟨ab, cb, rfl, b1, b2, b3⟩ := hb
  rw [← hab] at b1 HB HT HBW HTH HA HR3
  rw [← hab]
  clear a3 b3 hbw
  obtain ⟨n, hna⟩ : ∃ n, n = a.length := ⟨_, rfl⟩
  rw [← hna] at HA HB HT HBW HTH HR3 a1 b1 hn ⊢
  have HN := Lib.hid (And.intro hna (hna.trans hab))
  have HX := Lib.hid (And.intro (fun x hx => (Nat.lt_trans (hsa x hx) (by decide) : x.length < 1000000)) (And.intro (fun x hx => (Nat.lt_trans (hsb x hx) (by decide) : x.length < 1000000)) (And.intro hne (And.intro hsa (And.intro hsb hr)))))
  obtain ⟨ra, hra⟩ : ∃ r, r = rt (a.map lf) := ⟨_, rfl⟩
  obtain ⟨rb, hrb⟩ : ∃ r, r = rt (b.map lf) := ⟨_, rfl⟩
  rw [← hra, ← hrb] at hr
  have HRA := Lib.hid hra
  have HRB := Lib.hid hrb
  have hes : ∀ w : World, (Op.equalIn 10000 24 (.agg (cellsOf ra).toArray) (.agg (cellsOf rb).toArray)).run Try.prog w = .ok true w := fun w => by rw [eq_sums]; simp [hr]
  have HES := Lib.hid hes
  have hmf : ∀ (fn : Fn) (first cap : Array Value) (w : World), (Instr.makeFunc fn first cap).run Try.prog w = .ok (.func fn first cap) w := fun _ _ _ _ => rfl
  clear hna hab hsa hsb hne hra hrb hr hes
  go_enter Try.func54, Try.ntmps54
  go_wp2_with fail
  obtain ⟨z, hz⟩ : ∃ z, z = w.heap.size := ⟨_, rfl⟩
  rw [← hz] at HT HTH HR3 ⊢
  have HZ := Lib.hid hz; clear hz
  generalize ((w.alloc (.cells #[.slice aa n ca] 67)).alloc (.cells #[.slice ab n cb] 67)).alloc (.cells #[.slice none 0 0, .slice none 0 0] 75) = W at *
  refine wp_region_sched (fun V => V.cell? ⟨z, 0, none⟩ = some (.slice aa n ca) ∧ V.cell? ⟨z + 1, 0, none⟩ = some (.slice ab n cb) ∧ Below W.heap.size W V) [.s 0, .t 1, .e 2 true, .t 3, .t 4, .t 5, .s 6, .e 7 true, .e 8 true, .t 9, .t 10, .s 11, .s 13, .e 12 true, .e 14 true, .t 15, .t 16] (by kernel_rfl) (by kernel_rfl) (by intro c a d v w h; cases d <;> exact h) ?_
  have HSS : Hid (∀ V, Below W.heap.size W V → V.cell? ⟨z, 0, none⟩ = some (.slice aa n ca) ∧ V.cell? ⟨z + 1, 0, none⟩ = some (.slice ab n cb) ∧ Below W.heap.size W V) := Lib.hid (fun V hV => ⟨(hV.cell (p := ⟨z, 0, none⟩) (World.block_lt_of_cell? W _ HT.out.1)).trans HT.out.1, (hV.cell (p := ⟨z + 1, 0, none⟩) (World.block_lt_of_cell? W _ HT.out.2)).trans HT.out.2, hV⟩)
  have HS := Lib.hid (Below.refl W.heap.size W).drew
  generalize W.drew = V at *
  refine wpS_s (by exact HSS.out _ HS.out) rfl (v := ?_) (by rfl) (fun W hSW => ?_) ?_
  rotate_left
  · go_simp
    try rfl
  try simp only [Act.put, List.setIfInBounds_toArray, List.set_cons_zero, List.set_cons_succ]
  iterate 1
    refine wpS_t rfl (v := ?_) (by rfl) (fun W => ?_) ?_
    rotate_left
    · go_simp
      try rfl
    try simp only [Act.put, List.setIfInBounds_toArray, List.set_cons_zero, List.set_cons_succ]
  have g := (HSS.out _ HS.out).2.1
  refine wpS_k rfl (by rfl) (fun K hK => ?_)
  go_simp
  refine hK _ _ ⟨by exact HSS.out _ HS.out, ?_⟩; clear hK K
  try simp only [Act.put, List.setIfInBounds_toArray, List.set_cons_zero, List.set_cons_succ]
  clear g
  iterate 3
    refine wpS_t rfl (v := ?_) (by rfl) (fun W => ?_) ?_
    rotate_left
    · go_simp
      try rfl
    try simp only [Act.put, List.setIfInBounds_toArray, List.set_cons_zero, List.set_cons_succ]
  refine wpS_s (by exact HSS.out _ HS.out) rfl (v := ?_) (by rfl) (fun W hSW => ?_) ?_
  rotate_left
  · go_simp
    try rfl
  try simp only [Act.put, List.setIfInBounds_toArray, List.set_cons_zero, List.set_cons_succ]
  have g := (HSS.out _ HS.out).2.1
  refine wpS_k rfl (by rfl) (fun K hK => ?_)
  go_simp
  refine hK _ _ ⟨by exact HSS.out _ HS.out, ?_⟩; clear hK K
  try simp only [Act.put, List.setIfInBounds_toArray, List.set_cons_zero, List.set_cons_succ]
  clear g
  refine wpS_k rfl (by rfl) (fun K hK => ?_)
  go_simp
  refine (same_any a b _ _ V (HA.out.below HS.out) (HB.out.below HS.out) (by have := HN.out.1; omega)).mono ?_
  rw [decide_eq_false HX.out.2.2.1]
  rintro e V1 ⟨rfl, rfl⟩
  refine hK _ _ ⟨by exact HSS.out _ HS.out, ?_⟩; clear hK K
  try simp only [Act.put, List.setIfInBounds_toArray, List.set_cons_zero, List.set_cons_succ]
  iterate 2
    refine wpS_t rfl (v := ?_) (by rfl) (fun W => ?_) ?_
    rotate_left
    · go_simp
      try rfl
    try simp only [Act.put, List.setIfInBounds_toArray, List.set_cons_zero, List.set_cons_succ]
  refine wpS_s (by exact HSS.out _ HS.out) rfl (v := ?_) (by rfl) (fun W hSW => ?_) ?_
  rotate_left
  · go_simp
    try rfl
  try simp only [Act.put, List.setIfInBounds_toArray, List.set_cons_zero, List.set_cons_succ]
  refine wpS_s (by exact HSS.out _ HS.out) rfl (v := ?_) (by rfl) (fun W hSW => ?_) ?_
  rotate_left
  · go_simp
    try rfl
  try simp only [Act.put, List.setIfInBounds_toArray, List.set_cons_zero, List.set_cons_succ]
  refine wpS_k rfl (by rfl) (fun K hK => ?_)
  go_simp
  refine (croot_any a _ V (HA.out.below HS.out) (by have := HN.out.1; omega) HX.out.1).mono ?_
  rw [← HRA.out]
  rintro e V ⟨rfl, hb⟩
  replace HS := Lib.hid (HS.out.trans (hb.mono HS.out.size)); clear hb
  refine hK _ _ ⟨by exact HSS.out _ HS.out, ?_⟩; clear hK K
  try simp only [Act.put, List.setIfInBounds_toArray, List.set_cons_zero, List.set_cons_succ]
  refine wpS_k rfl (by rfl) (fun K hK => ?_)
  go_simp
  refine (croot_any b _ V (HB.out.below HS.out) (by have := HN.out.2; omega) HX.out.2.1).mono ?_
  rw [← HRB.out]
  rintro e V ⟨rfl, hb⟩
  replace HS := Lib.hid (HS.out.trans (hb.mono HS.out.size)); clear hb
  refine hK _ _ ⟨by exact HSS.out _ HS.out, ?_⟩; clear hK K
  try simp only [Act.put, List.setIfInBounds_toArray, List.set_cons_zero, List.set_cons_succ]
  have hes := HES.out
  iterate 2
    refine wpS_t rfl (v := ?_) (by rfl) (fun W => ?_) ?_
    rotate_left
    · go_simp
      try rfl
    try simp only [Act.put, List.setIfInBounds_toArray, List.set_cons_zero, List.set_cons_succ]
  refine wpS_done ?_
  have h1 : 1 ≤ n := by
    rcases Nat.eq_zero_or_pos n with h0 | h0
    · exact absurd (by rw [List.length_eq_zero_iff.1 (HN.out.1.symm.trans h0), List.length_eq_zero_iff.1 (HN.out.2.symm.trans h0)]) HX.out.2.2.1
    · exact h0
  have H1 := Lib.hid h1; clear h1
  go_wp2_with fail
  refine (finds_any 94 #[.pointer (some ⟨z, 0, none⟩), .pointer (some ⟨z + 1, 0, none⟩)] V (enters94 _) (fun W2 hb2 => ?_)).mono ?_
  · have hS2 := HSS.out _ (HS.out.trans (hb2.mono HS.out.size))
    exact listsway_any a b _ _ z (z + 1) W2 (HA.out.below hS2.2.2) (HB.out.below hS2.2.2) (by rw [← HN.out.1]; exact H1.out) (HN.out.1.symm.trans HN.out.2) HX.out.2.2.1 HX.out.2.2.2.2.2 (by have := HN.out.1; omega) HX.out.2.2.2.1 HX.out.2.2.2.2.1 hS2.1 hS2.2.1
  rintro e V1 ⟨va, vb, A, B, rfl, hA, hB, hI, hla, hlb, hb⟩
  replace HS := Lib.hid (HS.out.trans (hb.mono HS.out.size)); clear hb
  obtain ⟨x1, c1, rfl, _, _, g1⟩ := id hA
  obtain ⟨x2, c2, rfl, _, _, g2⟩ := id hB
  have HP := Lib.hid (And.intro hA (And.intro hB (And.intro hI (And.intro hla hlb))))
  clear hA hB hI hla hlb g1 g2
  have HTV := Lib.hid ((Keeps.of_below (X := fun _ => False) HS.out).there HTH.out (by decide) (fun h => h))
  have HBV := Lib.hid (HBW.out.trans (HS.out.mono HBW.out.size))
  have HR9 := Lib.hid ((Keeps.of_below (X := fun _ => False) HS.out).heap HR3.out (fun h => h))
  go_wp2_with (refine wpList_store_cv rfl _ _ rfl (z + 1 + 1) 0 _ _ _ _ _ _ rfl rfl HTV.out ?_)
  have hk := keeps_setCells_ (z + 1 + 1) [.slice x1 A.length c1, .slice x2 B.length c2] 0 V1
  exact bodyPost_ret (results_cell_tmp Try.results54 _ _ (z + 1 + 1) 0 [.slice x1 A.length c1, .slice x2 B.length c2] _ rfl (range_stored _ _ _ _ (by exact World.there_setCells HTV.out _ _ _)) Try.underlying75 rfl infoClash) rfl
    ⟨_, _, A, B, rfl, hk.bytes HP.out.1 (no_byte2 V1 _ HR9.out), hk.bytes HP.out.2.1 (no_byte2 V1 _ HR9.out), HP.out.2.2.1, HP.out.2.2.2.1, HP.out.2.2.2.2, setCells_below _ (by have := HZ.out; omega) _ _ _ _ HBV.out⟩
set_option maxRecDepth 100000 in
set_option maxHeartbeats 1000000 in
theorem lists_len (a b : List (List UInt8)) (va vb : Value) (w : World) (ha : ListsAt w va a) (hb : ListsAt w vb b) (hn : ¬ a.length = b.length) : Calls Try.prog 54 #[va, vb] w fun e w' => e = .returned (.tuple #[cv (.slice none 0 0) (.slice none 0 0), .bool false]) ∧ Below w.heap.size w w' := by
  have hbw : Below w.heap.size w (((w.alloc (.cells #[va] 67)).alloc (.cells #[vb] 67)).alloc (.cells #[.slice none 0 0, .slice none 0 0] 75)) := al (al (al (Below.refl _ _) _) _) _
  have HBW := Lib.hid hbw
  have HT := Lib.hid (box_two w va vb 67 67 75 #[.slice none 0 0, .slice none 0 0])
  have HTH : Hid ((((w.alloc (.cells #[va] 67)).alloc (.cells #[vb] 67)).alloc (.cells #[.slice none 0 0, .slice none 0 0] 75)).there (w.heap.size + 1 + 1) 0 2) := Lib.hid (by
    have := there_new ((w.alloc (.cells #[va] 67)).alloc (.cells #[vb] 67)) #[.slice none 0 0, .slice none 0 0] 75
    simp only [World.size_alloc] at this
    exact this)
  have HA := Lib.hid (ha.below hbw)
  have HB := Lib.hid (hb.below hbw)
  obtain ⟨aa, ca, rfl, a1, a2, a3⟩ := ha
  obtain ⟨ab, cb, rfl, b1, b2, b3⟩ := hb
  clear a3 b3 hbw
  obtain ⟨n, hna⟩ : ∃ n, n = a.length := ⟨_, rfl⟩
  obtain ⟨m, hma⟩ : ∃ n, n = b.length := ⟨_, rfl⟩
  rw [← hna] at HA HB HT HBW HTH a1 hn ⊢
  rw [← hma] at HA HB HT HBW HTH b1 hn ⊢
  have hnm : ((n : Int) != (m : Int)) = true := by rw [bne_iff_ne]; omega
  clear hna hma
  go_enter Try.func54, Try.ntmps54
  go_wp2_with fail
  obtain ⟨z, hz⟩ : ∃ z, z = w.heap.size := ⟨_, rfl⟩
  rw [← hz] at HT HTH ⊢
  have HZ := Lib.hid hz; clear hz
  generalize ((w.alloc (.cells #[.slice aa n ca] 67)).alloc (.cells #[.slice ab m cb] 67)).alloc (.cells #[.slice none 0 0, .slice none 0 0] 75) = W at *
  refine wp_region_sched (fun V => V.cell? ⟨z, 0, none⟩ = some (.slice aa n ca) ∧ V.cell? ⟨z + 1, 0, none⟩ = some (.slice ab m cb) ∧ Below W.heap.size W V) [.s 0, .t 1, .e 2 true, .t 3, .t 4, .t 5, .s 6, .e 7 true, .e 8 true, .t 9, .t 10, .s 11, .s 13, .e 12 true, .e 14 true, .t 15, .t 16] (by kernel_rfl) (by kernel_rfl) (by intro c a d v w h; cases d <;> exact h) ?_
  have HSS : Hid (∀ V, Below W.heap.size W V → V.cell? ⟨z, 0, none⟩ = some (.slice aa n ca) ∧ V.cell? ⟨z + 1, 0, none⟩ = some (.slice ab m cb) ∧ Below W.heap.size W V) := Lib.hid (fun V hV => ⟨(hV.cell (p := ⟨z, 0, none⟩) (World.block_lt_of_cell? W _ HT.out.1)).trans HT.out.1, (hV.cell (p := ⟨z + 1, 0, none⟩) (World.block_lt_of_cell? W _ HT.out.2)).trans HT.out.2, hV⟩)
  have HS := Lib.hid (Below.refl W.heap.size W).drew
  generalize W.drew = V at *
  refine wpS_s (by exact HSS.out _ HS.out) rfl (v := ?_) (by rfl) (fun W hSW => ?_) ?_
  rotate_left
  · go_simp
    try rfl
  try simp only [Act.put, List.setIfInBounds_toArray, List.set_cons_zero, List.set_cons_succ]
  iterate 1
    refine wpS_t rfl (v := ?_) (by rfl) (fun W => ?_) ?_
    rotate_left
    · go_simp
      try rfl
    try simp only [Act.put, List.setIfInBounds_toArray, List.set_cons_zero, List.set_cons_succ]
  have g := (HSS.out _ HS.out).2.1
  refine wpS_k rfl (by rfl) (fun K hK => ?_)
  go_simp
  refine hK _ _ ⟨by exact HSS.out _ HS.out, ?_⟩; clear hK K
  try simp only [Act.put, List.setIfInBounds_toArray, List.set_cons_zero, List.set_cons_succ]
  clear g
  iterate 3
    refine wpS_t rfl (v := ?_) (by rfl) (fun W => ?_) ?_
    rotate_left
    · go_simp
      try rfl
    try simp only [Act.put, List.setIfInBounds_toArray, List.set_cons_zero, List.set_cons_succ]
  iterate 1
    refine wpS_s_skip (by exact HSS.out _ HS.out) rfl (by rfl) ?_
    try simp only [Act.put, List.setIfInBounds_toArray, List.set_cons_zero, List.set_cons_succ]
  refine wpS_k_skip (by exact HSS.out _ HS.out) rfl (by rfl) ?_
  try simp only [Act.put, List.setIfInBounds_toArray, List.set_cons_zero, List.set_cons_succ]
  refine wpS_k_skip (by exact HSS.out _ HS.out) rfl (by rfl) ?_
  try simp only [Act.put, List.setIfInBounds_toArray, List.set_cons_zero, List.set_cons_succ]
  iterate 2
    refine wpS_t rfl (v := ?_) (by rfl) (fun W => ?_) ?_
    rotate_left
    · go_simp
      try rfl
    try simp only [Act.put, List.setIfInBounds_toArray, List.set_cons_zero, List.set_cons_succ]
  iterate 2
    refine wpS_s_skip (by exact HSS.out _ HS.out) rfl (by rfl) ?_
    try simp only [Act.put, List.setIfInBounds_toArray, List.set_cons_zero, List.set_cons_succ]
  refine wpS_k_skip (by exact HSS.out _ HS.out) rfl (by rfl) ?_
  try simp only [Act.put, List.setIfInBounds_toArray, List.set_cons_zero, List.set_cons_succ]
  refine wpS_k_skip (by exact HSS.out _ HS.out) rfl (by rfl) ?_
  try simp only [Act.put, List.setIfInBounds_toArray, List.set_cons_zero, List.set_cons_succ]
  iterate 1
    refine wpS_t_skip rfl (by rfl) ?_
    try simp only [Act.put, List.setIfInBounds_toArray, List.set_cons_zero, List.set_cons_succ]
  iterate 1
    refine wpS_t rfl (v := ?_) (by rfl) (fun W => ?_) ?_
    rotate_left
    · go_simp
      try rfl
    try simp only [Act.put, List.setIfInBounds_toArray, List.set_cons_zero, List.set_cons_succ]
  refine wpS_done ?_
  have HTV := Lib.hid ((Keeps.of_below (X := fun _ => False) HS.out).there HTH.out (by decide) (fun h => h))
  have HBV := Lib.hid (HBW.out.trans (HS.out.mono HBW.out.size))
  go_wp2_with (refine wpList_store_clash rfl _ _ rfl (z + 1 + 1) 0 rfl rfl HTV.out ?_)
  exact bodyPost_ret (results_cell_tmp Try.results54 _ _ (z + 1 + 1) 0 cnil _ rfl (range_stored _ _ _ _ (by exact World.there_setCells HTV.out _ _ _)) Try.underlying75 rfl infoClash) rfl ⟨rfl, setCells_below _ (by have := HZ.out; omega) _ _ _ _ HBV.out⟩
end Go.Proofs.Ytdkcndgehgmadaa
-- Walks: almonerlaw01.SameByteLists.
open Go Go.RowKit Alm
namespace Go.Proofs.Ytdkcndgehgmadaa
set_option maxRecDepth 100000 in
set_option maxHeartbeats 1000000 in
theorem same_lists (a b : List (List UInt8)) (va vb : Value) (w : World) (ha : ListsAt w va a) (hb : ListsAt w vb b) (hla : a.length < 1000000) (hlb : b.length < 1000000) : Calls Try.prog 56 #[va, vb] w fun e w' => e = .returned (.bool (decide (a = b))) ∧ Below w.heap.size w w' := by
  have HLA := Lib.hid ha
  have HLB := Lib.hid hb
  obtain ⟨aa, ca, rfl, ha1, ha2, ha3⟩ := ha
  obtain ⟨ab, cb, rfl, hb1, hb2, hb3⟩ := hb
  clear ha3 hb3
  obtain ⟨n, hn⟩ : ∃ n, n = a.length := ⟨_, rfl⟩
  obtain ⟨m, hm⟩ : ∃ m, m = b.length := ⟨_, rfl⟩
  rw [← hn] at ha1 HLA hla ⊢
  rw [← hm] at hb1 HLB hlb ⊢
  have HN := Lib.hid hn; clear hn
  have HM := Lib.hid hm; clear hm
  unfold maxLen at ha2 hb2
  have hn63 : (n : Int) < 9223372036854775808 := by omega
  by_cases hnm : n = m
  · subst hnm
    have hne : ((n : Int) != (n : Int)) = false := by simp
    have hq : decide (a = b) = decide (∀ j, j < n → a[j]? = b[j]?) := by
      rw [decide_eq_decide]
      constructor
      · rintro rfl j _; rfl
      · intro h
        refine List.ext_getElem? fun j => ?_
        by_cases hj : j < n
        · exact h j hj
        · rw [List.getElem?_eq_none (by rw [← HN.out]; omega), List.getElem?_eq_none (by rw [← HM.out]; omega)]
    obtain ⟨r, hr⟩ : ∃ r, r = decide (a = b) := ⟨_, rfl⟩
    rw [← hr] at hq ⊢
    have HQ := Lib.hid hq; clear hq hr
    go_enter Try.func56, Try.ntmps56
    go_wp2_with fail
    go_loopw [5] (fun i W => ∃ j : Nat, j ≤ n ∧ i = .int .i64 (j : Int) ∧ (∀ k, k < j → a[k]? = b[k]?) ∧ Below w.heap.size w W) (fun i _ => n - (intOf i).toNat)
    case atStart => exact ⟨0, by omega, rfl, fun k hk => by omega, Below.refl _ _⟩
    case round =>
      obtain ⟨j, hj, rfl, hall, hB⟩ := hrel
      have HA := Lib.hid hall; clear hall
      by_cases hlt : j < n
      · have hlt' : (j : Int) < (n : Int) := by omega
        have hj0 : (0 : Int) ≤ (j : Int) := by omega
        have hna : a ≠ [] := by intro h; have := HN.out; rw [h] at this; simp at this; omega
        have hnb : b ≠ [] := by intro h; have := HM.out; rw [h] at this; simp at this; omega
        obtain ⟨ba, oa, ca', he1, _, _⟩ := HLA.out.form hna
        simp only [Value.slice.injEq] at he1
        obtain ⟨rfl, h9, rfl⟩ := he1
        clear h9
        obtain ⟨bb, ob, cb', he1, _, _⟩ := HLB.out.form hnb
        simp only [Value.slice.injEq] at he1
        obtain ⟨rfl, h9, rfl⟩ := he1
        clear h9
        have hja : j < a.length := by have := HN.out; omega
        have hjb : j < b.length := by have := HM.out; omega
        obtain ⟨u1, hca, hu1⟩ := (HLA.out.below (hB.drew)).cell (sp := none) (j := j) hja
        obtain ⟨u2, hcb, hu2⟩ := (HLB.out.below (hB.drew)).cell (sp := none) (j := j) hjb
        have HXA := Lib.hid hca
        have HXB := Lib.hid hcb
        have HU := Lib.hid (And.intro hu1 hu2)
        have HGA := Lib.hid (List.getElem?_eq_getElem hja)
        have HGB := Lib.hid (List.getElem?_eq_getElem hjb)
        clear hca hcb hu1 hu2
        generalize a[j] = x at *
        generalize b[j] = y at *
        clear hja hjb
        go_wp2_with fail
        refine wp_region_sched (fun W => W.cell? ⟨ba, oa + j, none⟩ = some u1 ∧ W.cell? ⟨bb, ob + j, none⟩ = some u2) [.t 0, .t 1, .t 2, .t 4, .t 5, .t 6, .s 3, .e 7 true, .e 8 false, .t 9] (by kernel_rfl) (by kernel_rfl) (by intro c a d v w h; cases d <;> exact h) ?_
        have HBD := Lib.hid hB.drew
        clear hB
        generalize wr.drew = V at *
        iterate 6
          refine wpS_t rfl (v := ?_) (by rfl) (fun W => ?_) ?_
          rotate_left
          · go_simp
            try rfl
          try simp only [Act.put, List.setIfInBounds_toArray, List.set_cons_zero, List.set_cons_succ]
        refine wpS_s (by exact ⟨HXA.out, HXB.out⟩) rfl (v := ?_) (by rfl) (fun W hSW => ?_) ?_
        rotate_left
        · go_simp
          try rfl
        try simp only [Act.put, List.setIfInBounds_toArray, List.set_cons_zero, List.set_cons_succ]
        have g := HXB.out
        refine wpS_k rfl (by rfl) (fun K hK => ?_)
        go_simp
        refine hK _ _ ⟨by exact ⟨HXA.out, HXB.out⟩, ?_⟩; clear hK K
        try simp only [Act.put, List.setIfInBounds_toArray, List.set_cons_zero, List.set_cons_succ]
        clear g
        refine wpS_e rfl (by rfl) (fun K hK => ?_)
        go_simp
        refine (same_bytes x y u1 u2 V HU.out.1 HU.out.2).mono ?_
        rintro e V1 ⟨rfl, hb⟩
        replace HBD := Lib.hid (HBD.out.trans (hb.mono HBD.out.size))
        clear hb HXA HXB HU
        by_cases hxy : x = y
        · rw [decide_eq_true hxy]
          have HE := Lib.hid hxy
          clear hxy
          refine hK _ _ ?_; clear hK K
          try simp only [Act.put, List.setIfInBounds_toArray, List.set_cons_zero, List.set_cons_succ]
          iterate 1
            refine wpS_t rfl (v := ?_) (by rfl) (fun W => ?_) ?_
            rotate_left
            · go_simp
              try rfl
            try simp only [Act.put, List.setIfInBounds_toArray, List.set_cons_zero, List.set_cons_succ]
          refine wpS_done ?_
          go_wp2_with fail
          refine ⟨⟨j + 1, by omega, by simp, fun k hk => ?_, HBD.out⟩, by simp [intOf]; omega⟩
          by_cases hkj : k < j
          · exact HA.out k hkj
          · have : k = j := by omega
            rw [this, HGA.out, HGB.out, HE.out]
        · rw [decide_eq_false hxy]
          have HNE := Lib.hid hxy
          clear hxy
          refine hK _ _ ?_; clear hK K
          try simp only [Act.put, List.setIfInBounds_toArray, List.set_cons_zero, List.set_cons_succ]
          iterate 1
            refine wpS_t rfl (v := ?_) (by rfl) (fun W => ?_) ?_
            rotate_left
            · go_simp
              try rfl
            try simp only [Act.put, List.setIfInBounds_toArray, List.set_cons_zero, List.set_cons_succ]
          refine wpS_done ?_
          have hr : r = false := by
            rw [HQ.out]
            simp only [decide_eq_false_iff_not]
            intro h
            have := h j hlt
            rw [HGA.out, HGB.out] at this
            exact HNE.out (by simpa using this)
          go_wp2_with fail
          exact bodyPost_ret (results_tmp rfl _ _ _) rfl ⟨by rw [hr]; rfl, HBD.out⟩
      · have hjn : j = n := by omega
        subst hjn
        have hr : r = true := by rw [HQ.out]; simpa using HA.out
        go_wp2_with fail
        exact bodyPost_ret (results_tmp rfl _ _ _) rfl ⟨by rw [hr]; rfl, hB⟩
  · have hne : ((n : Int) != (m : Int)) = true := by rw [bne_iff_ne]; omega
    have hne2 : ((n : Int) == (m : Int)) = false := by rw [beq_eq_false_iff_ne]; omega
    have hab : ¬ a = b := by intro h; have h1 := HN.out; rw [h, ← HM.out] at h1; exact hnm h1
    have HNE := Lib.hid hab
    clear hab
    go_enter Try.func56, Try.ntmps56
    go_wp2_with fail
    exact bodyPost_ret (results_tmp rfl _ _ _) rfl ⟨by rw [decide_eq_false HNE.out]; rfl, Below.refl _ _⟩
end Go.Proofs.Ytdkcndgehgmadaa
-- Walks: the law ClashesLists.
open Go Go.RowKit Alm
namespace Go.Proofs.Ytdkcndgehgmadaa
def LenOK (A : List UInt8) : Prop := A.length < 1000000
/-- What a search tells. -/
def ToldOf (w : World) (t : Bool) (e : Ending) (w' : World) : Prop := ∃ va vb A B, e = .returned (.tuple #[cv va vb, .bool t]) ∧ BytesAt w' va A ∧ BytesAt w' vb B ∧ (t = true → isB A B = true) ∧ A.length < 1000000 ∧ B.length < 1000000 ∧ Below w.heap.size w w'
theorem bytes_none (w : World) : BytesAt w (.slice none 0 0) [] := ⟨none, 0, rfl, Nat.le_refl _, by decide, .inl rfl⟩
theorem told_none {w w' : World} {e : Ending} (h : e = .returned (.tuple #[cv (.slice none 0 0) (.slice none 0 0), .bool false]) ∧ Below w.heap.size w w') : ToldOf w false e w' :=
  ⟨_, _, [], [], h.1, bytes_none _, bytes_none _, (fun h => by cases h), by decide, by decide, h.2⟩
theorem told_found {w w' : World} {e : Ending} (h : FoundOf w e w') : ToldOf w true e w' := by
  obtain ⟨va, vb, A, B, h1, h2, h3, h4, h5, h6, h7⟩ := h
  exact ⟨va, vb, A, B, h1, h2, h3, fun _ => h4, h5, h6, h7⟩
theorem ToldOf.eq {w w' : World} {t u : Bool} {e : Ending} (h : ToldOf w t e w') (ht : t = u) : ToldOf w u e w' := ht ▸ h
theorem lists_all (a b : List (List UInt8)) (va vb : Value) (w : World) (ha : ListsAt w va a) (hb : ListsAt w vb b) (hla : a.length < 1000000) (hlb : b.length < 1000000) (hsa : SZ a) (hsb : SZ b) :
    Calls Try.prog 54 #[va, vb] w (ToldOf w (decide (a.length = b.length) && decide (rt (a.map lf) = rt (b.map lf)) && !decide (a = b))) := by
  by_cases hl : a.length = b.length
  · by_cases he : a = b
    · subst he
      exact (lists_same a va vb w ha hb hla).mono fun e w' h => (told_none h).eq (by simp)
    · by_cases hr : rt (a.map lf) = rt (b.map lf)
      · exact (lists_told a b va vb w ha hb hla hl he hsa hsb hr).mono fun e w' h => (told_found h).eq (by simp [hl, he, hr])
      · exact (lists_root a b va vb w ha hb hla hl he (fun x hx => Nat.lt_trans (hsa x hx) (by decide)) (fun x hx => Nat.lt_trans (hsb x hx) (by decide)) hr).mono fun e w' h => (told_none h).eq (by simp [hr])
  · exact (lists_len a b va vb w ha hb hl).mono fun e w' h => (told_none h).eq (by simp [hl])
theorem wpList_load_cv {ops : Array Oper} {rest : List Oper} {op : Oper} {a : Act} {w : World} {Q : Exit → Act → World → Prop} (hw : Region.wanted op (yielded ops a.tmps) = true) (x : Operand) (ho : op.op = .load 75 x)
    (z : Nat) (hx : a.eval x = .pointer (some ⟨z, 0, none⟩)) (va vb : Value) (ht : TwoAt w z va vb) (h : wpList Try.prog ops Q rest (a.put op.dst (cv va vb)) w) : wpList Try.prog ops Q (op :: rest) a w := by
  unfold wpList
  rw [if_pos hw]
  refine .inl (wp_load_mid _ x ho z 0 hx [va, vb] _ (fun j v hv => ?_) Try.underlying75 rfl infoClash h)
  match j, hv with
  | 0, hv => simp at hv; subst hv; exact ht.1
  | 1, hv => simp at hv; subst hv; exact ht.2
theorem wpList_var_cv {ops : Array Oper} {rest : List Oper} {op : Oper} {a : Act} {w : World} {t : TypeId} {Q : Exit → Act → World → Prop} (hgd : op.guard = none) (x y : Operand) (ho : op.op = .store 75 x y)
    (a1 a2 : Option Addr) (n1 c1 n2 c2 : Nat) (hx : a.eval x = .pointer (some ⟨w.heap.size, 0, none⟩)) (hy : a.eval y = cv (.slice a1 n1 c1) (.slice a2 n2 c2))
    (h : ∀ W' z, z = w.heap.size → Below w.heap.size w W' → TwoAt W' z (.slice a1 n1 c1) (.slice a2 n2 c2) → wpList Try.prog ops Q rest (a.put op.dst undef) W') : wpList Try.prog ops Q (op :: rest) a (w.alloc (.cells #[.slice none 0 0, .slice none 0 0] t)) :=
  wpList_store_cv hgd x y ho w.heap.size 0 _ _ _ _ _ _ hx hy (there_new _ _ _) (h _ w.heap.size rfl (setCells_below _ (Nat.le_refl _) _ 0 _ _ (al (Below.refl _ _) _)) (by
    have hr := range_stored w.heap.size [.slice a1 n1 c1, .slice a2 n2 c2] 0 (w.alloc (.cells #[.slice none 0 0, .slice none 0 0] t)) (by exact World.there_setCells (there_new _ _ _) _ _ _)
    exact ⟨hr 0 _ rfl, hr 1 _ rfl⟩))
set_option maxRecDepth 100000 in
set_option maxHeartbeats 4000000 in
theorem clashesLists_any (a b : List (List UInt8)) (va vb : Value) (w : World) (ha : ListsAt w va a) (hb : ListsAt w vb b) (ha1 : a.length ≤ LIM) (ha2 : ∀ x ∈ a, x.length ≤ LIM) (hb1 : b.length ≤ LIM) (hb2 : ∀ x ∈ b, x.length ≤ LIM) : Calls Try.prog 18 #[va, vb] w fun e w' => e = .returned (.bool true) ∧ Below w.heap.size w w' := by
  have HA := Lib.hid ha
  have HB := Lib.hid hb
  have hG := great_any a b [] [] va vb 0 (.slice none 0 0) (.slice none 0 0) w ha hb ⟨none, 0, rfl, Nat.le_refl _, by decide, .inl rfl⟩ ⟨none, 0, rfl, Nat.le_refl _, by decide, .inl rfl⟩ ⟨ha1, ha2⟩ ⟨hb1, hb2⟩ (by simp) (by simp)
  have HG := Lib.hid hG
  clear hG
  obtain ⟨aa, ca, rfl, c1, c2⟩ := ha.slice
  obtain ⟨ab, cb, rfl, d1, d2⟩ := hb.slice
  obtain ⟨n, hna⟩ : ∃ n, n = a.length := ⟨_, rfl⟩
  obtain ⟨m, hma⟩ : ∃ m, m = b.length := ⟨_, rfl⟩
  rw [← hna] at HA HG c1 ⊢
  rw [← hma] at HB HG d1 ⊢
  have HN := Lib.hid (And.intro hna hma); clear hna hma
  obtain ⟨r, hr⟩ : ∃ r, r = grB a b [] [] := ⟨_, rfl⟩
  rw [← hr] at HG
  have HR := Lib.hid hr; clear hr
  clear ha hb ha1 ha2 hb1 hb2 c1 c2 d1 d2
  cases r with
  | true =>
    go_enter Try.func18, Try.ntmps18
    go_wp2_with fail
    refine HG.out.mono ?_
    rintro e w1 ⟨rfl, hb⟩
    have HB := Lib.hid hb; clear hb
    go_wp2_with fail
    refine (alive_clashes w1).mono ?_
    rintro e w2 ⟨rfl, hb⟩
    have HF := Lib.hid (HB.out.trans (hb.mono HB.out.size)); clear hb
    go_wp2_with fail
    exact bodyPost_ret (results_tmp rfl _ _ _) rfl ⟨rfl, HF.out⟩
  | false =>
    have hsm : (n ≤ 20000 ∧ ∀ x ∈ a, x.length ≤ 20000) ∧ (m ≤ 20000 ∧ ∀ x ∈ b, x.length ≤ 20000) := by
      have h0 := HR.out
      unfold grB at h0
      have h2 : ¬ 20000 < bsz a + bsz b + ([] : List UInt8).length := fun h => by rw [decide_eq_true h] at h0; simp at h0
      have h3 := bsz_le 20000 (by omega) a (by omega)
      have h4 := bsz_le 20000 (by omega) b (by omega)
      rw [← HN.out.1] at h3
      rw [← HN.out.2] at h4
      exact ⟨h3, h4⟩
    have HM : Hid ((a.length < 1000000 ∧ b.length < 1000000) ∧ SZ a ∧ SZ b) := Lib.hid ⟨⟨by have := hsm.1.1; have := HN.out.1; omega, by have := hsm.2.1; have := HN.out.2; omega⟩, fun x hx => by have := hsm.1.2 x hx; omega, fun x hx => by have := hsm.2.2 x hx; omega⟩
    have n0 : (n : Int) ≤ 20000 := by have := hsm.1.1; omega
    have m0 : (m : Int) ≤ 20000 := by have := hsm.2.1; omega
    have HS1 : Hid (∀ x ∈ a, x.length < 1000000) := Lib.hid (fun x hx => Nat.lt_trans (HM.out.2.1 x hx) (by decide))
    have HS2 : Hid (∀ x ∈ b, x.length < 1000000) := Lib.hid (fun x hx => Nat.lt_trans (HM.out.2.2 x hx) (by decide))
    clear hsm
    have HL := Lib.hid (fun V (hV : Below w.heap.size w V) => lists_all a b _ _ V (HA.out.below hV) (HB.out.below hV) HM.out.1.1 HM.out.1.2 HM.out.2.1 HM.out.2.2)
    rw [← HN.out.1, ← HN.out.2] at HL
    obtain ⟨ra, hra⟩ : ∃ r, r = rt (a.map lf) := ⟨_, rfl⟩
    obtain ⟨rb, hrb⟩ : ∃ r, r = rt (b.map lf) := ⟨_, rfl⟩
    rw [← hra, ← hrb] at HL
    have HRA := Lib.hid hra
    have HRB := Lib.hid hrb
    clear hra hrb
    by_cases hl : n = m
    · by_cases hr : ra = rb
      · by_cases he : a = b
        · have HT0 : (decide (n = m) && decide (ra = rb) && !decide (a = b)) = false := by rw [decide_eq_true he]; simp
          rw [HT0] at HL
          have hnm : ((n : Int) == (m : Int)) = true := by rw [beq_iff_eq]; omega
          have HD : Hid (decide (a = b) = true) := Lib.hid (decide_eq_true he)
          have hes : ∀ w : World, (Op.equalIn 10000 24 (.agg (cellsOf ra).toArray) (.agg (cellsOf rb).toArray)).run Try.prog w = .ok true w := fun w => by rw [eq_sums]; simp [hr]
          have HES := Lib.hid hes; clear hes
          clear HT0 hl hr he
          go_enter Try.func18, Try.ntmps18
          go_wp2_with fail
          refine HG.out.mono ?_
          rintro e w1 ⟨rfl, hb⟩
          have HB1 := Lib.hid hb; clear hb
          go_wp2_with fail
          refine (HL.out w1 HB1.out).mono ?_
          rintro e w2 ⟨v1, v2, A, B, rfl, hA, hB, hI, hlA, hlB, hb⟩
          obtain ⟨x1, k1, rfl, _, _, g1⟩ := id hA
          obtain ⟨x2, k2, rfl, _, _, g2⟩ := id hB
          have HP := Lib.hid (And.intro hA (And.intro hB (And.intro hI (And.intro hlA (And.intro hlB (HB1.out.trans (hb.mono HB1.out.size)))))))
          have HLL : Hid (LenOK A ∧ LenOK B) := Lib.hid (And.intro hlA hlB)
          clear hA hB hI hlA hlB g1 g2 hb HB1 HL HG
          generalize A.length = na at *
          generalize B.length = nb at *
          have HGG := Lib.hid trivial
          go_wp2_with (have _ := HGG; refine wpList_var_cv rfl _ _ rfl _ _ _ _ _ _ rfl rfl ?_; intro W1 z hz hb1 ht; have HW := Lib.hid (And.intro (HP.out.2.2.2.2.2.trans (hb1.mono HP.out.2.2.2.2.2.size)) (And.intro ht (And.intro (bytes_below HP.out.1 hb1 (Nat.le_refl _)) (And.intro (bytes_below HP.out.2.1 hb1 (Nat.le_refl _)) HP.out.2.2.1)))); rw [← hz]; clear HGG hb1 ht hz)
          refine (lsums_any a _ W1 (HA.out.below HW.out.1) HM.out.1.1 HS1.out).mono ?_
          rintro e w3 ⟨u3, rfl, hu, hb⟩
          have HW3 := Lib.hid (And.intro hu (HW.out.1.trans (hb.mono HW.out.1.size)))
          replace HW := Lib.hid (And.intro (HW.out.1.trans (hb.mono HW.out.1.size)) (And.intro (HW.out.2.1.below hb) (And.intro (bytes_below HW.out.2.2.1 hb (Nat.le_refl _)) (And.intro (bytes_below HW.out.2.2.2.1 hb (Nat.le_refl _)) HW.out.2.2.2.2))))
          clear hu hb
          go_wp2_with fail
          refine (rt_any _ u3 w3 HW3.out.1).mono ?_
          rw [← HRA.out]
          rintro e w4 ⟨rfl, hb⟩
          clear HW3
          replace HW := Lib.hid (And.intro (HW.out.1.trans (hb.mono HW.out.1.size)) (And.intro (HW.out.2.1.below hb) (And.intro (bytes_below HW.out.2.2.1 hb (Nat.le_refl _)) (And.intro (bytes_below HW.out.2.2.2.1 hb (Nat.le_refl _)) HW.out.2.2.2.2))))
          clear hb
          go_wp2_with fail
          refine (lsums_any b _ w4 (HB.out.below HW.out.1) HM.out.1.2 HS2.out).mono ?_
          rintro e w5 ⟨u5, rfl, hu, hb⟩
          have HW3 := Lib.hid (And.intro hu (HW.out.1.trans (hb.mono HW.out.1.size)))
          replace HW := Lib.hid (And.intro (HW.out.1.trans (hb.mono HW.out.1.size)) (And.intro (HW.out.2.1.below hb) (And.intro (bytes_below HW.out.2.2.1 hb (Nat.le_refl _)) (And.intro (bytes_below HW.out.2.2.2.1 hb (Nat.le_refl _)) HW.out.2.2.2.2))))
          clear hu hb
          go_wp2_with fail
          refine (rt_any _ u5 w5 HW3.out.1).mono ?_
          rw [← HRB.out]
          rintro e w6 ⟨rfl, hb⟩
          clear HW3
          replace HW := Lib.hid (And.intro (HW.out.1.trans (hb.mono HW.out.1.size)) (And.intro (HW.out.2.1.below hb) (And.intro (bytes_below HW.out.2.2.1 hb (Nat.le_refl _)) (And.intro (bytes_below HW.out.2.2.2.1 hb (Nat.le_refl _)) HW.out.2.2.2.2))))
          clear hb
          have hes := HES.out
          go_wp2_with fail
          clear hes
          refine (same_lists a b _ _ w6 (HA.out.below HW.out.1) (HB.out.below HW.out.1) HM.out.1.1 HM.out.1.2).mono ?_
          rw [HD.out]
          rintro e w7 ⟨rfl, hb⟩
          replace HW := Lib.hid (And.intro (HW.out.1.trans (hb.mono HW.out.1.size)) (And.intro (HW.out.2.1.below hb) (And.intro (bytes_below HW.out.2.2.1 hb (Nat.le_refl _)) (And.intro (bytes_below HW.out.2.2.2.1 hb (Nat.le_refl _)) HW.out.2.2.2.2))))
          clear hb
          go_wp2_with fail
          refine (alive_clashes w7).mono ?_
          rintro e w8 ⟨rfl, hb⟩
          replace HW := Lib.hid (And.intro (HW.out.1.trans (hb.mono HW.out.1.size)) (And.intro (HW.out.2.1.below hb) (And.intro (bytes_below HW.out.2.2.1 hb (Nat.le_refl _)) (And.intro (bytes_below HW.out.2.2.2.1 hb (Nat.le_refl _)) HW.out.2.2.2.2))))
          clear hb
          go_wp2_with fail
          exact bodyPost_ret (results_tmp rfl _ _ _) rfl ⟨rfl, HW.out.1⟩
        · have HT0 : (decide (n = m) && decide (ra = rb) && !decide (a = b)) = true := by rw [decide_eq_true hl, decide_eq_true hr, decide_eq_false he]; rfl
          rw [HT0] at HL
          have hnm : ((n : Int) == (m : Int)) = true := by rw [beq_iff_eq]; omega
          have HD : Hid (decide (a = b) = false) := Lib.hid (decide_eq_false he)
          have hes : ∀ w : World, (Op.equalIn 10000 24 (.agg (cellsOf ra).toArray) (.agg (cellsOf rb).toArray)).run Try.prog w = .ok true w := fun w => by rw [eq_sums]; simp [hr]
          have HES := Lib.hid hes; clear hes
          clear HT0 hl hr he
          go_enter Try.func18, Try.ntmps18
          go_wp2_with fail
          refine HG.out.mono ?_
          rintro e w1 ⟨rfl, hb⟩
          have HB1 := Lib.hid hb; clear hb
          go_wp2_with fail
          refine (HL.out w1 HB1.out).mono ?_
          rintro e w2 ⟨v1, v2, A, B, rfl, hA, hB, hI, hlA, hlB, hb⟩
          obtain ⟨x1, k1, rfl, _, _, g1⟩ := id hA
          obtain ⟨x2, k2, rfl, _, _, g2⟩ := id hB
          have HP := Lib.hid (And.intro hA (And.intro hB (And.intro hI (And.intro hlA (And.intro hlB (HB1.out.trans (hb.mono HB1.out.size)))))))
          have HLL : Hid (LenOK A ∧ LenOK B) := Lib.hid (And.intro hlA hlB)
          clear hA hB hI hlA hlB g1 g2 hb HB1 HL HG
          generalize A.length = na at *
          generalize B.length = nb at *
          have HGG := Lib.hid trivial
          go_wp2_with (have _ := HGG; refine wpList_var_cv rfl _ _ rfl _ _ _ _ _ _ rfl rfl ?_; intro W1 z hz hb1 ht; have HW := Lib.hid (And.intro (HP.out.2.2.2.2.2.trans (hb1.mono HP.out.2.2.2.2.2.size)) (And.intro ht (And.intro (bytes_below HP.out.1 hb1 (Nat.le_refl _)) (And.intro (bytes_below HP.out.2.1 hb1 (Nat.le_refl _)) HP.out.2.2.1)))); rw [← hz]; clear HGG hb1 ht hz)
          refine (lsums_any a _ W1 (HA.out.below HW.out.1) HM.out.1.1 HS1.out).mono ?_
          rintro e w3 ⟨u3, rfl, hu, hb⟩
          have HW3 := Lib.hid (And.intro hu (HW.out.1.trans (hb.mono HW.out.1.size)))
          replace HW := Lib.hid (And.intro (HW.out.1.trans (hb.mono HW.out.1.size)) (And.intro (HW.out.2.1.below hb) (And.intro (bytes_below HW.out.2.2.1 hb (Nat.le_refl _)) (And.intro (bytes_below HW.out.2.2.2.1 hb (Nat.le_refl _)) HW.out.2.2.2.2))))
          clear hu hb
          go_wp2_with fail
          refine (rt_any _ u3 w3 HW3.out.1).mono ?_
          rw [← HRA.out]
          rintro e w4 ⟨rfl, hb⟩
          clear HW3
          replace HW := Lib.hid (And.intro (HW.out.1.trans (hb.mono HW.out.1.size)) (And.intro (HW.out.2.1.below hb) (And.intro (bytes_below HW.out.2.2.1 hb (Nat.le_refl _)) (And.intro (bytes_below HW.out.2.2.2.1 hb (Nat.le_refl _)) HW.out.2.2.2.2))))
          clear hb
          go_wp2_with fail
          refine (lsums_any b _ w4 (HB.out.below HW.out.1) HM.out.1.2 HS2.out).mono ?_
          rintro e w5 ⟨u5, rfl, hu, hb⟩
          have HW3 := Lib.hid (And.intro hu (HW.out.1.trans (hb.mono HW.out.1.size)))
          replace HW := Lib.hid (And.intro (HW.out.1.trans (hb.mono HW.out.1.size)) (And.intro (HW.out.2.1.below hb) (And.intro (bytes_below HW.out.2.2.1 hb (Nat.le_refl _)) (And.intro (bytes_below HW.out.2.2.2.1 hb (Nat.le_refl _)) HW.out.2.2.2.2))))
          clear hu hb
          go_wp2_with fail
          refine (rt_any _ u5 w5 HW3.out.1).mono ?_
          rw [← HRB.out]
          rintro e w6 ⟨rfl, hb⟩
          clear HW3
          replace HW := Lib.hid (And.intro (HW.out.1.trans (hb.mono HW.out.1.size)) (And.intro (HW.out.2.1.below hb) (And.intro (bytes_below HW.out.2.2.1 hb (Nat.le_refl _)) (And.intro (bytes_below HW.out.2.2.2.1 hb (Nat.le_refl _)) HW.out.2.2.2.2))))
          clear hb
          have hes := HES.out
          go_wp2_with fail
          clear hes
          refine (same_lists a b _ _ w6 (HA.out.below HW.out.1) (HB.out.below HW.out.1) HM.out.1.1 HM.out.1.2).mono ?_
          rw [HD.out]
          rintro e w7 ⟨rfl, hb⟩
          replace HW := Lib.hid (And.intro (HW.out.1.trans (hb.mono HW.out.1.size)) (And.intro (HW.out.2.1.below hb) (And.intro (bytes_below HW.out.2.2.1 hb (Nat.le_refl _)) (And.intro (bytes_below HW.out.2.2.2.1 hb (Nat.le_refl _)) HW.out.2.2.2.2))))
          clear hb
          go_wp2_with fail
          refine (alive_clashes w7).mono ?_
          rintro e w8 ⟨rfl, hb⟩
          replace HW := Lib.hid (And.intro (HW.out.1.trans (hb.mono HW.out.1.size)) (And.intro (HW.out.2.1.below hb) (And.intro (bytes_below HW.out.2.2.1 hb (Nat.le_refl _)) (And.intro (bytes_below HW.out.2.2.2.1 hb (Nat.le_refl _)) HW.out.2.2.2.2))))
          clear hb
          have HGG := Lib.hid trivial
          go_wp2_with (have _ := HGG; refine wpList_load_cv (by rfl) _ rfl z rfl _ _ HW.out.2.1 ?_; clear HGG)
          refine (is_any A B _ _ w8 HW.out.2.2.1 HW.out.2.2.2.1 HLL.out.1 HLL.out.2).mono ?_
          rw [HW.out.2.2.2.2 (by trivial)]
          rintro e w9 ⟨rfl, hb⟩
          have HF := Lib.hid (HW.out.1.trans (hb.mono HW.out.1.size)); clear hb
          go_wp2_with fail
          exact bodyPost_ret (results_tmp rfl _ _ _) rfl ⟨rfl, HF.out⟩
      · have HT0 : (decide (n = m) && decide (ra = rb) && !decide (a = b)) = false := by rw [decide_eq_true hl, decide_eq_false hr]; rfl
        rw [HT0] at HL
        have hnm : ((n : Int) == (m : Int)) = true := by rw [beq_iff_eq]; omega
        have hes : ∀ w : World, (Op.equalIn 10000 24 (.agg (cellsOf ra).toArray) (.agg (cellsOf rb).toArray)).run Try.prog w = .ok false w := fun w => by rw [eq_sums]; simp [hr]
        have HES := Lib.hid hes; clear hes
        clear HT0 hl hr
        go_enter Try.func18, Try.ntmps18
        go_wp2_with fail
        refine HG.out.mono ?_
        rintro e w1 ⟨rfl, hb⟩
        have HB1 := Lib.hid hb; clear hb
        go_wp2_with fail
        refine (HL.out w1 HB1.out).mono ?_
        rintro e w2 ⟨v1, v2, A, B, rfl, hA, hB, hI, hlA, hlB, hb⟩
        obtain ⟨x1, k1, rfl, _, _, g1⟩ := id hA
        obtain ⟨x2, k2, rfl, _, _, g2⟩ := id hB
        have HP := Lib.hid (And.intro hA (And.intro hB (And.intro hI (And.intro hlA (And.intro hlB (HB1.out.trans (hb.mono HB1.out.size)))))))
        have HLL : Hid (LenOK A ∧ LenOK B) := Lib.hid (And.intro hlA hlB)
        clear hA hB hI hlA hlB g1 g2 hb HB1 HL HG
        generalize A.length = na at *
        generalize B.length = nb at *
        have HGG := Lib.hid trivial
        go_wp2_with (have _ := HGG; refine wpList_var_cv rfl _ _ rfl _ _ _ _ _ _ rfl rfl ?_; intro W1 z hz hb1 ht; have HW := Lib.hid (And.intro (HP.out.2.2.2.2.2.trans (hb1.mono HP.out.2.2.2.2.2.size)) (And.intro ht (And.intro (bytes_below HP.out.1 hb1 (Nat.le_refl _)) (And.intro (bytes_below HP.out.2.1 hb1 (Nat.le_refl _)) HP.out.2.2.1)))); rw [← hz]; clear HGG hb1 ht hz)
        refine (lsums_any a _ W1 (HA.out.below HW.out.1) HM.out.1.1 HS1.out).mono ?_
        rintro e w3 ⟨u3, rfl, hu, hb⟩
        have HW3 := Lib.hid (And.intro hu (HW.out.1.trans (hb.mono HW.out.1.size)))
        replace HW := Lib.hid (And.intro (HW.out.1.trans (hb.mono HW.out.1.size)) (And.intro (HW.out.2.1.below hb) (And.intro (bytes_below HW.out.2.2.1 hb (Nat.le_refl _)) (And.intro (bytes_below HW.out.2.2.2.1 hb (Nat.le_refl _)) HW.out.2.2.2.2))))
        clear hu hb
        go_wp2_with fail
        refine (rt_any _ u3 w3 HW3.out.1).mono ?_
        rw [← HRA.out]
        rintro e w4 ⟨rfl, hb⟩
        clear HW3
        replace HW := Lib.hid (And.intro (HW.out.1.trans (hb.mono HW.out.1.size)) (And.intro (HW.out.2.1.below hb) (And.intro (bytes_below HW.out.2.2.1 hb (Nat.le_refl _)) (And.intro (bytes_below HW.out.2.2.2.1 hb (Nat.le_refl _)) HW.out.2.2.2.2))))
        clear hb
        go_wp2_with fail
        refine (lsums_any b _ w4 (HB.out.below HW.out.1) HM.out.1.2 HS2.out).mono ?_
        rintro e w5 ⟨u5, rfl, hu, hb⟩
        have HW3 := Lib.hid (And.intro hu (HW.out.1.trans (hb.mono HW.out.1.size)))
        replace HW := Lib.hid (And.intro (HW.out.1.trans (hb.mono HW.out.1.size)) (And.intro (HW.out.2.1.below hb) (And.intro (bytes_below HW.out.2.2.1 hb (Nat.le_refl _)) (And.intro (bytes_below HW.out.2.2.2.1 hb (Nat.le_refl _)) HW.out.2.2.2.2))))
        clear hu hb
        go_wp2_with fail
        refine (rt_any _ u5 w5 HW3.out.1).mono ?_
        rw [← HRB.out]
        rintro e w6 ⟨rfl, hb⟩
        clear HW3
        replace HW := Lib.hid (And.intro (HW.out.1.trans (hb.mono HW.out.1.size)) (And.intro (HW.out.2.1.below hb) (And.intro (bytes_below HW.out.2.2.1 hb (Nat.le_refl _)) (And.intro (bytes_below HW.out.2.2.2.1 hb (Nat.le_refl _)) HW.out.2.2.2.2))))
        clear hb
        have hes := HES.out
        go_wp2_with fail
        refine (alive_clashes w6).mono ?_
        rintro e w8 ⟨rfl, hb⟩
        replace HW := Lib.hid (And.intro (HW.out.1.trans (hb.mono HW.out.1.size)) (And.intro (HW.out.2.1.below hb) (And.intro (bytes_below HW.out.2.2.1 hb (Nat.le_refl _)) (And.intro (bytes_below HW.out.2.2.2.1 hb (Nat.le_refl _)) HW.out.2.2.2.2))))
        clear hb
        go_wp2_with fail
        exact bodyPost_ret (results_tmp rfl _ _ _) rfl ⟨rfl, HW.out.1⟩
    · have HT0 : (decide (n = m) && decide (ra = rb) && !decide (a = b)) = false := by rw [decide_eq_false hl]; rfl
      rw [HT0] at HL
      have hnm : ((n : Int) == (m : Int)) = false := by rw [beq_eq_false_iff_ne]; omega
      clear HT0 hl
      go_enter Try.func18, Try.ntmps18
      go_wp2_with fail
      refine HG.out.mono ?_
      rintro e w1 ⟨rfl, hb⟩
      have HB1 := Lib.hid hb; clear hb
      go_wp2_with fail
      refine (HL.out w1 HB1.out).mono ?_
      rintro e w2 ⟨v1, v2, A, B, rfl, hA, hB, hI, hlA, hlB, hb⟩
      obtain ⟨x1, k1, rfl, _, _, g1⟩ := id hA
      obtain ⟨x2, k2, rfl, _, _, g2⟩ := id hB
      have HP := Lib.hid (And.intro hA (And.intro hB (And.intro hI (And.intro hlA (And.intro hlB (HB1.out.trans (hb.mono HB1.out.size)))))))
      have HLL : Hid (LenOK A ∧ LenOK B) := Lib.hid (And.intro hlA hlB)
      clear hA hB hI hlA hlB g1 g2 hb HB1 HL HG
      generalize A.length = na at *
      generalize B.length = nb at *
      have HGG := Lib.hid trivial
      go_wp2_with (have _ := HGG; refine wpList_var_cv rfl _ _ rfl _ _ _ _ _ _ rfl rfl ?_; intro W1 z hz hb1 ht; have HW := Lib.hid (And.intro (HP.out.2.2.2.2.2.trans (hb1.mono HP.out.2.2.2.2.2.size)) (And.intro ht (And.intro (bytes_below HP.out.1 hb1 (Nat.le_refl _)) (And.intro (bytes_below HP.out.2.1 hb1 (Nat.le_refl _)) HP.out.2.2.1)))); rw [← hz]; clear HGG hb1 ht hz)
      refine (alive_clashes W1).mono ?_
      rintro e w8 ⟨rfl, hb⟩
      replace HW := Lib.hid (And.intro (HW.out.1.trans (hb.mono HW.out.1.size)) (And.intro (HW.out.2.1.below hb) (And.intro (bytes_below HW.out.2.2.1 hb (Nat.le_refl _)) (And.intro (bytes_below HW.out.2.2.2.1 hb (Nat.le_refl _)) HW.out.2.2.2.2))))
      clear hb
      go_wp2_with fail
      exact bodyPost_ret (results_tmp rfl _ _ _) rfl ⟨rfl, HW.out.1⟩
end Go.Proofs.Ytdkcndgehgmadaa
