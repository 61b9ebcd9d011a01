/-
  Walks: links.Check's 'leads'.
-/
import Derived.Test.YtdkcndgehgmadaaG4
open Go Go.RowKit Alm
namespace Go.Proofs.Ytdkcndgehgmadaa
/-- Two sums, as a value. -/
def cells2 (x y : Sum) : List Value := cellsOf x ++ cellsOf y
abbrev bv (x y : Sum) : Value := .agg (cells2 x y).toArray
theorem length_cells2 (x y : Sum) : (cells2 x y).length = 64 := by simp [cells2, length_cellsOf]
theorem all_cells2 (x y : Sum) : (cells2 x y).toArray.all (·.oneCell') = true := all_oneCell_toArray (fun v hv => by
  rcases List.mem_append.1 hv with h | h
  · exact oneCell_cellsOf x v h
  · exact oneCell_cellsOf y v h)
theorem infoBoth : (Try.prog.info? 105).map (·.size) = some 64 := by kernel_rfl
theorem infoBothZ : (Try.prog.info? 105).map (fun i => i.zero.map fun z => z.cells.size) = some (some 64) := by kernel_rfl
theorem wpList_load_both {ops : Array Oper} {rest : List Oper} {op : Oper} {a : Act} {w : World} {Q : Exit → Act → World → Prop} (hgd : op.guard = none) (x : Operand) (ho : op.op = .load 105 x)
    (b o : Nat) (hx : a.eval x = .pointer (some ⟨b, o, none⟩)) (s t : Sum) (hc : w.rangeAt b o (cells2 s t))
    (h : wpList Try.prog ops Q rest (a.put op.dst (bv s t)) w) : wpList Try.prog ops Q (op :: rest) a w :=
  wpList_load_mid hgd _ x ho b o hx (cells2 s t) _ hc Try.underlying105 rfl (by rw [length_cells2]; exact infoBoth) h
theorem wpList_store_both {ops : Array Oper} {rest : List Oper} {op : Oper} {a : Act} {w : World} {Q : Exit → Act → World → Prop} (hgd : op.guard = none) (x y : Operand) (ho : op.op = .store 105 x y)
    (b o : Nat) (s t : Sum) (hx : a.eval x = .pointer (some ⟨b, o, none⟩)) (hy : a.eval y = bv s t) (ht : w.there b o 64)
    (h : wpList Try.prog ops Q rest (a.put op.dst undef) (w.setCells b o (cells2 s t))) : wpList Try.prog ops Q (op :: rest) a w :=
  wpList_store_mid hgd _ x y ho b o _ hx hy (by simpa [length_cells2] using ht) (by simpa [length_cells2] using infoBoth) (all_cells2 s t) h
theorem wp_store_both {op : Oper} {a : Act} {w : World} {K : Act → World → Prop} {Q : Exit → Act → World → Prop} (x y : Operand) (ho : op.op = .store 105 x y)
    (b o : Nat) (s t : Sum) (hx : a.eval x = .pointer (some ⟨b, o, none⟩)) (hy : a.eval y = bv s t) (ht : w.there b o 64) (h : K (a.put op.dst undef) (w.setCells b o (cells2 s t))) : op.wp Try.prog a w K Q :=
  wp_store_mid _ x y ho b o _ hx hy (by simpa [length_cells2] using ht) (by simpa [length_cells2] using infoBoth) (all_cells2 s t) h
set_option maxRecDepth 100000 in
theorem build_both (x y : Sum) (w : World) : (Instr.build 105 #[(0, .agg (cellsOf x).toArray), (1, .agg (cellsOf y).toArray)]).run Try.prog w = .ok (bv x y) w := by
  obtain ⟨ib, hib, hzb⟩ := Option.map_eq_some_iff.1 infoBothZ
  obtain ⟨zb, hz, hzs⟩ := Option.map_eq_some_iff.1 hzb
  obtain ⟨i, z, hi, hz1, hs, hb, hz2⟩ := info_sum
  refine run_build w _ _ _ ?_
  unfold Program.built
  simp only [hib, Try.underlying105, hz, hi, hs]
  have := Great.fill_whole (s := 32) (by omega) [sv x, sv y] zb.cells (fun v hv => by
    rcases List.mem_cons.1 hv with rfl | hv
    · exact size_cellsOf x
    · rw [List.mem_singleton.1 hv]; exact size_cellsOf y) (by rw [hzs]; rfl)
  refine this.trans ?_
  congr 1
  simp [cells2, Value.cells]
theorem wpList_build_both {ops : Array Oper} {rest : List Oper} {op : Oper} {a : Act} {w : World} {Q : Exit → Act → World → Prop} (hgd : op.guard = none) (parts : Array (Nat × Operand)) (ho : op.op = .build 105 parts)
    (x y : Sum) (hp : (parts.toList.map fun (i, x) => (i, a.eval x)) = [(0, sv x), (1, sv y)])
    (h : wpList Try.prog ops Q rest (a.put op.dst (bv x y)) w) : wpList Try.prog ops Q (op :: rest) a w :=
  wpList_build_by hgd 105 parts ho (bv x y) (fun W => by
    have : (parts.map fun (i, x) => (i, a.eval x)) = #[(0, sv x), (1, sv y)] := by
      apply Array.toList_inj.1
      rw [Array.toList_map]; exact hp
    rw [this]
    exact build_both x y W) h
theorem wpList_load_next {ops : Array Oper} {rest : List Oper} {op : Oper} {a : Act} {w : World} {Q : Exit → Act → World → Prop} (hgd : op.guard = none) (x : Operand) (ho : op.op = .load 102 x)
    (b : Nat) (v : Value) (hx : a.eval x = .pointer (some ⟨b, 0, none⟩)) (hc : w.cell? ⟨b, 0, none⟩ = some v)
    (h : wpList Try.prog ops Q rest (a.put op.dst v) w) : wpList Try.prog ops Q (op :: rest) a w :=
  wpList_plain hgd fun _ hK => by
    unfold Oper.wp execOp
    simp only [ho, hx]
    go_simp
    exact hK _ _ h
theorem wpList_load_leads {ops : Array Oper} {rest : List Oper} {op : Oper} {a : Act} {w : World} {Q : Exit → Act → World → Prop} (hgd : op.guard = none) (x : Operand) (ho : op.op = .load 103 x)
    (b : Nat) (v : Value) (hx : a.eval x = .pointer (some ⟨b, 0, none⟩)) (hc : w.cell? ⟨b, 0, none⟩ = some v)
    (h : wpList Try.prog ops Q rest (a.put op.dst v) w) : wpList Try.prog ops Q (op :: rest) a w :=
  wpList_plain hgd fun _ hK => by
    unfold Oper.wp execOp
    simp only [ho, hx]
    go_simp
    exact hK _ _ h
/-- The function's words, in variables. -/
abbrev nextFn (c : Nat) : Value := .func (.func 72) #[] #[.pointer (some ⟨c, 0, none⟩)]
abbrev leadsFn (p n s : Nat) : Value := .func (.func 73) #[] #[.pointer (some ⟨p, 0, none⟩), .pointer (some ⟨n, 0, none⟩), .pointer (some ⟨s, 0, none⟩)]
/-- What leads comes to. -/
def LeadsOf (B : Nat) (w : World) (c : Nat) (r : Option ((Sum × Sum) × List Sum)) (e : Ending) (w' : World) : Prop :=
  Keeps (· = c) w w' ∧ match r with
  | some ((x, y), rest) => e = .returned (.tuple #[bv x y, .nilIface]) ∧ LeftAt B w' c rest
  | none => ∃ x y, e = .returned (.tuple #[bv x y, .iface 26 (.int .i64 5)])
/-- What leads has before it: the first sum, next and itself, each in a variable. -/
structure LeadsIn (w : World) (A N L c : Nat) (a : Sum) : Prop where
  sum : w.rangeAt A 0 (cellsOf a)
  next : w.cell? ⟨N, 0, none⟩ = some (nextFn c)
  self : w.cell? ⟨L, 0, none⟩ = some (leadsFn A N L)
  nA : A ≠ c
  nN : N ≠ c
  nL : L ≠ c
theorem LeadsIn.keep {w w' : World} {A N L c : Nat} {a : Sum} (h : LeadsIn w A N L c a) (k : Keeps (· = c) w w') : LeadsIn w' A N L c a :=
  ⟨k.range h.sum h.nA, k.cell h.next h.nN, k.cell h.self h.nL, h.nA, h.nN, h.nL⟩
theorem zero_both : (cells8 (List.replicate 64 0)) = cells2 zeroSum zeroSum := by rfl
theorem NextOf.keeps {B : Nat} {w w' : World} {c : Nat} {l : List Sum} {e : Ending} (h : NextOf B w c l e w') : Keeps (· = c) w w' := by
  cases l with
  | nil => exact .of_below h.2
  | cons s r => exact h.2.2
/-- What next tells: the sum and the error. -/
def Told (B : Nat) (w : World) (c : Nat) (l : List Sum) (s : Sum) (ev : Value) : Prop := match l with
  | [] => ev = .iface 26 (.int .i64 5)
  | s' :: r => s' = s ∧ ev = .nilIface ∧ LeftAt B w c r
theorem NextOf.form {B : Nat} {w w' : World} {c : Nat} {l : List Sum} {e : Ending} (h : NextOf B w c l e w') : ∃ s ev, e = .returned (.tuple #[sv s, ev]) ∧ Told B w' c l s ev := by
  cases l with
  | nil => exact ⟨zeroSum, _, h.1, rfl⟩
  | cons s r => exact ⟨s, _, h.1, rfl, rfl, h.2.1⟩
theorem Told.end_ {B : Nat} {w w1 w2 : World} {c : Nat} {l : List Sum} {s : Sum} {ev : Value} (h : Told B w1 c l s ev) (hk : Keeps (· = c) w w2) (hl : ∀ r, LeftAt B w1 c r → LeftAt B w2 c r) :
    LeadsOf B w c (told l) (.returned (.tuple #[bv s s, ev])) w2 := by
  cases l with
  | nil => cases h; exact ⟨hk, s, s, rfl⟩
  | cons s' r =>
    obtain ⟨rfl, rfl, h3⟩ := h
    exact ⟨hk, rfl, hl _ h3⟩
end Go.Proofs.Ytdkcndgehgmadaa
