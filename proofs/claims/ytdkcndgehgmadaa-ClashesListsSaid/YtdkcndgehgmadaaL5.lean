/-
  Walks: clashes.finds, clashes.Lists.
-/
import Derived.Test.YtdkcndgehgmadaaL4
import Derived.Recover
open Go Go.RowKit Alm
namespace Go.Proofs.Ytdkcndgehgmadaa
theorem is_clash (v : Value) (w : World) : (Instr.typeAssert (.iface 75 v) 20 75 true).run Try.prog w = .ok (.tuple #[v, .bool true]) w := by kernel_rfl
set_option maxRecDepth 100000 in
set_option maxHeartbeats 1000000 in
theorem foundF (c f : Nat) (va vb : Value) (w : World) (a1 a2 : Option Addr) (n1 c1 n2 c2 : Nat) (hva : va = .slice a1 n1 c1) (hvb : vb = .slice a2 n2 c2)
    (hc : w.heap[c]? = some (.cells #[.slice none 0 0, .slice none 0 0] 75 (0, 0))) (hf : w.heap[f]? = some (.cells #[.bool false] 4 (0, 0))) (hcf : c ≠ f) :
    CallsD Try.prog 116 #[.pointer (some ⟨c, 0, none⟩), .pointer (some ⟨f, 0, none⟩)] (.panicking (panC va vb)) w fun e u' w' =>
      e = .returned (.tuple #[]) ∧ u' = .panicking [{ v := .iface 75 (cv va vb), recovered := true }] ∧ TwoAt w' c va vb ∧ w'.cell? ⟨f, 0, none⟩ = some (.bool true) ∧ Keeps (fun k => k = c ∨ k = f) w w' := by
  subst hva hvb
  refine callsD_of_wpS Try.func116 rfl fun c₀ cs hu => ?_
  apply wpS_seq
  apply wpS_region
  simp [wpOpsS, go_sem, recoverD, hu, is_clash, Try.ntmps116, Exit.thenS]
  have hw := al (Below.refl _ w) (.cells #[.slice a1 n1 c1, .slice a2 n2 c2] 75)
  have ht := two_new w (.slice a1 n1 c1) (.slice a2 n2 c2) 75
  have hc1 := (Keeps.of_below (X := fun _ => False) hw).heap hc (fun h => h)
  have hf1 := (Keeps.of_below (X := fun _ => False) hw).heap hf (fun h => h)
  have hk1 := Keeps.of_below (X := fun k => k = c ∨ k = f) hw
  have hcz : c ≠ w.heap.size := Nat.ne_of_lt (Array.getElem?_eq_some_iff.1 hc).1
  have hfz : f ≠ w.heap.size := Nat.ne_of_lt (Array.getElem?_eq_some_iff.1 hf).1
  clear hw hc hf
  obtain ⟨z, hz⟩ : ∃ z, z = w.heap.size := ⟨_, rfl⟩
  rw [← hz] at ht hcz hfz ⊢
  clear hz
  generalize w.alloc (.cells #[.slice a1 n1 c1, .slice a2 n2 c2] 75) = W at *
  have e0 : W.cell? ⟨c, 0, none⟩ = some (.slice none 0 0) := by rw [cell_of_row W c _ _ _ (0, 0) hc1]; rfl
  have e1 : W.cell? ⟨c, 1, none⟩ = some (.slice none 0 0) := by rw [cell_of_row W c _ _ _ (0, 0) hc1]; rfl
  have e2 : W.cell? ⟨f, 0, none⟩ = some (.bool false) := by rw [cell_of_row W f _ _ _ (0, 0) hf1]; rfl
  have z0 : W.frozen? ⟨c, 0, none⟩ = false := frozen_of_row W c _ _ _ hc1
  have z1 : W.frozen? ⟨c, 1, none⟩ = false := frozen_of_row W c _ _ _ hc1
  have z2 : W.frozen? ⟨f, 0, none⟩ = false := frozen_of_row W f _ _ _ hf1
  have t0 := ht.1
  have t1 := ht.2
  apply wpS_seq
  apply wpS_region
  simp [wpOpsS, go_sem, Exit.thenS]
  refine wpS_cond (t := true) (by simp [Act.eval, Array.replicate]) ?_
  simp only [if_true]
  apply wpS_region
  simp [wpOpsS, go_sem, t0, t1, e0, e1, e2, z0, z1, z2, hcf, hcf.symm]
  have g1 := heap_setCell_same W c 0 _ _ (.slice a1 n1 c1) hc1
  have g2 := heap_setCell_same _ c 1 _ _ (.slice a2 n2 c2) g1
  have g3 : (((W.setCell ⟨c, 0, none⟩ (.slice a1 n1 c1)).setCell ⟨c, 1, none⟩ (.slice a2 n2 c2)).setCell ⟨f, 0, none⟩ (.bool true)).heap[c]? = some (.cells #[.slice a1 n1 c1, .slice a2 n2 c2] 75 (0, 0)) := (heap_setCell_other _ ⟨f, 0, none⟩ c (.bool true) hcf).trans (by simpa using g2)
  have k1 : (W.setCell ⟨c, 0, none⟩ (.slice a1 n1 c1)).heap[f]? = some (.cells #[.bool false] 4 (0, 0)) := (heap_setCell_other W ⟨c, 0, none⟩ f (.slice a1 n1 c1) (fun e => hcf e.symm)).trans hf1
  have k2 : ((W.setCell ⟨c, 0, none⟩ (.slice a1 n1 c1)).setCell ⟨c, 1, none⟩ (.slice a2 n2 c2)).heap[f]? = some (.cells #[.bool false] 4 (0, 0)) := (heap_setCell_other _ ⟨c, 1, none⟩ f (.slice a2 n2 c2) (fun e => hcf e.symm)).trans k1
  have k3 := heap_setCell_same _ f 0 _ _ (.bool true) k2
  have hK : Keeps (fun k => k = c ∨ k = f) w (((W.setCell ⟨c, 0, none⟩ (.slice a1 n1 c1)).setCell ⟨c, 1, none⟩ (.slice a2 n2 c2)).setCell ⟨f, 0, none⟩ (.bool true)) :=
    ((hk1.setCell (p := ⟨c, 0, none⟩) (.inl (.inl rfl)) _).setCell (p := ⟨c, 1, none⟩) (.inl (.inl rfl)) _).setCell (p := ⟨f, 0, none⟩) (.inl (.inr rfl)) _
  generalize ((W.setCell ⟨c, 0, none⟩ (.slice a1 n1 c1)).setCell ⟨c, 1, none⟩ (.slice a2 n2 c2)).setCell ⟨f, 0, none⟩ (.bool true) = V at *
  refine ⟨rfl, _, rfl, .tuple #[], by simp [results, Try.results116], rfl, rfl, ⟨?_, ?_⟩, ?_, hK⟩
  · rw [cell_of_row V c _ _ _ (0, 0) g3]; rfl
  · rw [cell_of_row V c _ _ _ (0, 0) g3]; rfl
  · rw [cell_of_row V f _ _ _ (0, 0) k3]; rfl
/-- What finds tells. -/
def FoundOf (w : World) (e : Ending) (w' : World) : Prop := ∃ va vb A B, e = .returned (.tuple #[cv va vb, .bool true]) ∧ BytesAt w' va A ∧ BytesAt w' vb B ∧ isB A B = true ∧ A.length < 1000000 ∧ B.length < 1000000 ∧ Below w.heap.size w w'
theorem enters (fn : FuncId) (args : Array Value) (F : Func) (hf : Try.prog.funcs[fn]? = some F) (hb : ¬ F.body = none) (hn : ¬ F.name = "runtime.NumGoroutine") (w : World) : (callFunc fn args).run Try.prog w = .ok (.enter fn args) w := by
  simp [callFunc, go_sem, hf, hn, hb]
theorem two_rows (w : World) (A B : Obj) : ((w.alloc A).alloc B).heap[w.heap.size]? = some A ∧ ((w.alloc A).alloc B).heap[w.heap.size + 1]? = some B := by
  constructor
  · unfold World.alloc; simp [Array.getElem?_push]
  · have h : ((w.alloc A).heap.push B)[(w.alloc A).heap.size]? = some B := Array.getElem?_push_size
    rw [World.size_alloc] at h
    exact h
theorem _root_.Alm.Keeps.bytes {X : Nat → Prop} {w w' : World} (h : Keeps X w w') {v : Value} {l : List UInt8} (hs : BytesAt w v l) (hx : ∀ k o (x : UInt8), X k → ¬ w.cell? ⟨k, o, none⟩ = some (u8v x)) : BytesAt w' v l := by
  obtain ⟨a, cap, hv, h1, h2, h3⟩ := hs
  refine ⟨a, cap, hv, h1, h2, ?_⟩
  by_cases hl : l = []
  · exact .inl hl
  · obtain ⟨b, o, ha, hr⟩ := h3.resolve_left hl
    refine .inr ⟨b, o, ha, h.range hr fun hb => ?_⟩
    cases l with
    | nil => exact hl rfl
    | cons x r => exact hx b (o + 0) x hb (hr 0 (u8v x) rfl)
theorem no_byte (w : World) (z : Nat) (hc : w.heap[z]? = some (.cells #[.slice none 0 0, .slice none 0 0] 75 (0, 0))) (hf : w.heap[z + 1]? = some (.cells #[.bool false] 4 (0, 0))) : ∀ k o (x : UInt8), (k = z ∨ k = z + 1) → ¬ w.cell? ⟨k, o, none⟩ = some (u8v x) := by
  rintro k o x (rfl | rfl)
  · rw [cell_of_row w _ _ _ _ (0, 0) hc]
    match o with
    | 0 => simp [u8v]
    | 1 => simp [u8v]
    | n + 2 => simp [u8v]
  · rw [cell_of_row w _ _ _ _ (0, 0) hf]
    match o with
    | 0 => simp [u8v]
    | n + 1 => simp [u8v]
set_option maxRecDepth 100000 in
set_option maxHeartbeats 1000000 in
theorem finds_any (fn : FuncId) (cap : Array Value) (w : World) (hrun : ∀ W, (callFunc fn cap).run Try.prog W = .ok (.enter fn cap) W) (hway : ∀ W, Below w.heap.size w W → Calls Try.prog fn cap W (ClashOf W)) : Calls Try.prog 93 #[.func (.func fn) #[] cap] w (FoundOf w) := by
  have hmf : ∀ (fn : Fn) (first cap : Array Value) (w : World), (Instr.makeFunc fn first cap).run Try.prog w = .ok (.func fn first cap) w := fun _ _ _ _ => rfl
  have HWAY := Lib.hid hway; clear hway
  have hbw := al (al (Below.refl _ w) (.cells #[.slice none 0 0, .slice none 0 0] 75)) (.cells #[.bool false] 4)
  have HB := Lib.hid hbw
  have HH := Lib.hid (two_rows w (.cells #[.slice none 0 0, .slice none 0 0] 75) (.cells #[.bool false] 4))
  clear hbw
  go_enter_defers Try.func93, Try.ntmps93
  go_wp2_with fail
  obtain ⟨z, hz⟩ : ∃ z, z = w.heap.size := ⟨_, rfl⟩
  have HZ := Lib.hid hz
  rw [← hz] at HH ⊢
  clear hz
  generalize (w.alloc (.cells #[.slice none 0 0, .slice none 0 0] 75)).alloc (.cells #[.bool false] 4) = W at *
  refine (HWAY.out W HB.out).mono ?_
  rintro e W1 ⟨va, vb, A, B, rfl, hA, hB, hI, hla, hlb, hb⟩
  have hk := Keeps.of_below (X := fun _ => False) hb
  have hc := hk.heap HH.out.1 (fun h => h)
  have hf := hk.heap HH.out.2 (fun h => h)
  have HP := Lib.hid (And.intro hA (And.intro hB (And.intro hI (And.intro hla (And.intro hlb (HB.out.trans (hb.mono HB.out.size)))))))
  clear hA hB hI hla hlb hb hk
  have hva : ∃ a n c, va = .slice a n c := by obtain ⟨a, c, h, _⟩ := HP.out.1; exact ⟨a, _, c, h⟩
  have hvb : ∃ a n c, vb = .slice a n c := by obtain ⟨a, c, h, _⟩ := HP.out.2.1; exact ⟨a, _, c, h⟩
  obtain ⟨a1, n1, c1, hva⟩ := hva
  obtain ⟨a2, n2, c2, hvb⟩ := hvb
  change bodyPostD _ _ _ (.panic (panC va vb)) _ W1
  refine leaves_cons (f := 116) (args := #[.pointer (some ⟨z, 0, none⟩), .pointer (some ⟨z + 1, 0, none⟩)]) (by simp) (by simp [go_sem]) ?_
  refine (foundF z (z + 1) va vb W1 a1 a2 n1 c1 n2 c2 hva hvb hc hf (by omega)).mono ?_
  rintro e u' w'' ⟨rfl, rfl, h1, h2, hk⟩
  have hK : Keeps (fun k => k = z ∨ k = z + 1) W1 w'' := hk
  have hb9 : Below w.heap.size w w'' := HP.out.2.2.2.2.2.trans (hk.below HP.out.2.2.2.2.2.size (fun k hk => by have := HZ.out; omega))
  have hFin : FoundOf w (.returned (.tuple #[cv va vb, .bool true])) w'' := ⟨va, vb, A, B, rfl, hk.bytes HP.out.1 (no_byte W1 z hc hf), hk.bytes HP.out.2.1 (no_byte W1 z hc hf), HP.out.2.2.1, HP.out.2.2.2.1, HP.out.2.2.2.2.1, hb9⟩
  have HFin := Lib.hid hFin
  clear hFin hb9 hK hk
  have h3 := h1.1
  have h4 := h1.2
  simp [Leaves, settle, results, Try.results93, go_sem, h2, h3, h4]
  exact HFin.out
set_option maxRecDepth 100000 in
set_option maxHeartbeats 1000000 in
theorem listsway_any (a b : List (List UInt8)) (va vb : Value) (p q : Nat) (w : World) (ha : ListsAt w va a) (hb : ListsAt w vb b) (h1 : 1 ≤ a.length) (hab : a.length = b.length) (hne : ¬ a = b) (hrt : rt (a.map lf) = rt (b.map lf)) (hn : a.length < 1000000) (hsa : SZ a) (hsb : SZ b)
    (hp : w.cell? ⟨p, 0, none⟩ = some va) (hq : w.cell? ⟨q, 0, none⟩ = some vb) : Calls Try.prog 94 #[.pointer (some ⟨p, 0, none⟩), .pointer (some ⟨q, 0, none⟩)] w (ClashOf w) := by
  have HC := Lib.hid (lists_any a.length a b va vb w (Nat.le_refl _) ha hb h1 hab hne hrt hn hsa hsb)
  obtain ⟨a1, c1, rfl, _, _, ha⟩ := ha
  obtain ⟨a2, c2, rfl, _, _, hb⟩ := hb
  clear ha hb hne hrt hn hsa hsb h1 hab
  go_enter Try.func94, Try.ntmps94
  go_wp2_with fail
  refine HC.out.mono ?_
  intro e w3 h
  obtain ⟨va, vb, A, B, rfl, h⟩ := h
  exact ⟨rfl, va, vb, A, B, rfl, h⟩
theorem enters94 (cap : Array Value) (W : World) : (callFunc 94 cap).run Try.prog W = .ok (.enter 94 cap) W :=
  enters _ cap Try.f94 Try.func94 (by intro h; cases h) (by decide +kernel) W
end Go.Proofs.Ytdkcndgehgmadaa
