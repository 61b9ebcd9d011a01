/-
  The seat's words for chains: operations on entries; slices.Clone and Clip of bytes; chains' last.
-/
import Derived.Test.YtdkcndgehgmadaaK0
import Derived.WalkMore
open Go Go.RowKit Alm
namespace Go.Proofs.Ytdkcndgehgmadaa
theorem infoSums3 : (Try.prog.info? 111).map (·.size) = some 96 := by kernel_rfl
theorem infoEnt : (Try.prog.info? 113).map (·.size) = some 97 := by kernel_rfl
theorem info_ent : ∃ i z, Try.prog.info? 113 = some i ∧ i.zero = some z ∧ i.size = 97 ∧ i.bytes = 120 ∧ z.cells.size = 97 := by
  have h : (Try.prog.info? 113).map (fun i => (i.zero.map fun z => z.cells.size, i.size, i.bytes)) = some (some 97, 97, 120) := by kernel_rfl
  obtain ⟨i, hi, h2⟩ := Option.map_eq_some_iff.1 h
  simp only [Prod.mk.injEq] at h2
  obtain ⟨z, hz, hz2⟩ := Option.map_eq_some_iff.1 h2.1
  exact ⟨i, z, hi, hz, h2.2.1, h2.2.2, hz2⟩
theorem build_ent (a : Option Addr) (n cap : Nat) (w : World) : (Instr.build 113 #[(1, .slice a n cap)]).run Try.prog w = .ok (.agg (cellsEnt ⟨zeroSum, zeroSum, zeroSum, a, n, cap⟩).toArray) w := by kernel_rfl
theorem part_at (cs : List Value) (o : Nat) (s : Sum) (h : (cs.drop o).take 32 = cellsOf s) (w : World) : (part 24 cs.toArray o).run Try.prog w = .ok (sv s) w := by
  simp [part, Try.isAgg24, Try.sizeOf24, h]
theorem cells3_0 (a b c : Sum) : ((cells3 a b c).drop 0).take 32 = cellsOf a := by
  rw [List.drop_zero, cells3, List.append_assoc, List.take_append_of_le_length (by rw [length_cellsOf]; omega), List.take_of_length_le (by rw [length_cellsOf]; omega)]
theorem cells3_1 (a b c : Sum) : ((cells3 a b c).drop 32).take 32 = cellsOf b := by
  rw [cells3, List.append_assoc, List.drop_append_of_le_length (by rw [length_cellsOf]; omega), List.drop_of_length_le (by rw [length_cellsOf]; omega), List.nil_append, List.take_append_of_le_length (by rw [length_cellsOf]; omega), List.take_of_length_le (by rw [length_cellsOf]; omega)]
theorem cells3_2 (a b c : Sum) : ((cells3 a b c).drop 64).take 32 = cellsOf c := by
  rw [cells3, List.drop_append, List.drop_of_length_le (by rw [List.length_append, length_cellsOf, length_cellsOf]; omega), List.nil_append, List.length_append, length_cellsOf, length_cellsOf, List.drop_zero, List.take_of_length_le (by rw [length_cellsOf]; omega)]
theorem field_leaf (a b c : Sum) (w : World) : (Instr.field 111 (.agg (cells3 a b c).toArray) 0).run Try.prog w = .ok (sv a) w := by
  simp [Instr.field, run_underlying Try.underlying111, asAgg, part_at _ _ _ (cells3_0 a b c)]
theorem field_mark (a b c : Sum) (w : World) : (Instr.field 111 (.agg (cells3 a b c).toArray) 1).run Try.prog w = .ok (sv b) w := by
  simp [Instr.field, run_underlying Try.underlying111, asAgg, part_at _ _ _ (cells3_1 a b c)]
theorem field_root (a b c : Sum) (w : World) : (Instr.field 111 (.agg (cells3 a b c).toArray) 2).run Try.prog w = .ok (sv c) w := by
  simp [Instr.field, run_underlying Try.underlying111, asAgg, part_at _ _ _ (cells3_2 a b c)]
/-- Entries in memory, to be read. -/
def EntsAt (w : World) (v : Value) (es : List Ent) : Prop :=
  ∃ a cap, v = .slice a es.length cap ∧ es.length ≤ cap ∧ cap ≤ maxLen ∧ (es = [] ∨ ∃ b, a = some ⟨b, 0, none⟩ ∧ w.rangeAt b 0 (cellsEnts es))
theorem EntsAt.below {w w' : World} {v : Value} {es : List Ent} (h : EntsAt w v es) (hb : Below w.heap.size w w') : EntsAt w' v es := by
  obtain ⟨a, cap, h0, h1, h2, h3⟩ := h
  refine ⟨a, cap, h0, h1, h2, ?_⟩
  rcases h3 with h | ⟨b, e, hr⟩
  · exact .inl h
  · exact .inr ⟨b, e, (Keeps.of_below (X := fun _ => False) hb).range hr (fun h => h)⟩
theorem wpList_load_sums3 {ops : Array Oper} {rest : List Oper} {op : Oper} {a : Act} {w : World} {Q : Exit → Act → World → Prop} (hgd : op.guard = none) (x : Operand) (ho : op.op = .load 111 x)
    (b o : Nat) (hx : a.eval x = .pointer (some ⟨b, o, none⟩)) (p q r : Sum) (hc : w.rangeAt b o (cells3 p q r))
    (h : wpList Try.prog ops Q rest (a.put op.dst (tv p q r)) w) : wpList Try.prog ops Q (op :: rest) a w :=
  wpList_load_mid hgd _ x ho b o hx (cells3 p q r) _ hc Try.underlying111 rfl (by rw [length_cells3]; exact infoSums3) h
theorem wpList_store_sums3 {ops : Array Oper} {rest : List Oper} {op : Oper} {a : Act} {w : World} {Q : Exit → Act → World → Prop} (hgd : op.guard = none) (x y : Operand) (ho : op.op = .store 111 x y)
    (b o : Nat) (p q r : Sum) (hx : a.eval x = .pointer (some ⟨b, o, none⟩)) (hy : a.eval y = tv p q r) (ht : w.there b o 96)
    (h : wpList Try.prog ops Q rest (a.put op.dst undef) (w.setCells b o (cells3 p q r))) : wpList Try.prog ops Q (op :: rest) a w :=
  wpList_store_mid hgd _ x y ho b o _ hx hy (by simpa [length_cells3] using ht) (by simpa [length_cells3] using infoSums3) (all_cells3 p q r) h
theorem results_sums3 {fn : Func} {p : Tmp} (h : fn.results = #[.cell p 111]) (tmps : Array Value) (w : World) (b : Nat) (x y z : Sum)
    (hp : tmps.getD p undef = .pointer (some ⟨b, 0, none⟩)) (hr : w.rangeAt b 0 (cells3 x y z)) :
    (results fn tmps).run Try.prog w = .ok (tv x y z) w :=
  results_mid h tmps _ b 0 _ _ hp hr Try.underlying111 rfl (by rw [length_cells3]; exact infoSums3)
theorem last_nil (v : Value) (w : World) (h : EntsAt w v []) : Calls Try.prog 80 #[v] w fun e w' => e = .returned (tv zeroSum zeroSum zeroSum) ∧ Below w.heap.size w w' := by
  obtain ⟨a, cap, rfl, -, -, -⟩ := h
  have R0 : Res w 96 (w.alloc (.cells (cells3 zeroSum zeroSum zeroSum).toArray 111)) := Res.start _ _ _ _ (by rfl)
  have hz : (w.alloc (.cells (cells3 zeroSum zeroSum zeroSum).toArray 111)).rangeAt w.heap.size 0 (cells3 zeroSum zeroSum zeroSum) := range_new w _ _ _ rfl
  go_enter Try.func80, Try.ntmps80
  go_wp2_with (first
    | (refine wpList_load_sums3 rfl _ rfl w.heap.size 0 rfl zeroSum zeroSum zeroSum hz ?_)
    | (refine wpList_store_sums3 rfl _ _ rfl w.heap.size 0 zeroSum zeroSum zeroSum rfl rfl R0.there ?_))
  exact bodyPost_ret (results_sums3 Try.results80 _ _ w.heap.size _ _ _ rfl (range_stored _ _ _ _ (by rw [length_cells3]; exact World.there_setCells R0.there _ _ _))) rfl ⟨rfl, (R0.store _).below⟩
theorem last_snoc (es : List Ent) (e : Ent) (v : Value) (w : World) (h : EntsAt w v (es ++ [e])) : Calls Try.prog 80 #[v] w fun x w' => x = .returned (tv e.leaf e.mark e.root) ∧ Below w.heap.size w w' := by
  obtain ⟨a, cap, rfl, h1, h2, h3⟩ := h
  obtain ⟨b, rfl, hr⟩ := h3.resolve_left (by simp)
  have hx := ent_sums (ents_at hr (i := es.length) (by simp))
  rw [Nat.zero_add] at hx
  have hg : (es ++ [e])[es.length]'(by simp) = e := by simp
  rw [hg] at hx
  rw [List.length_append, List.length_singleton] at h1 ⊢
  obtain ⟨n, hn⟩ : ∃ n, n = es.length := ⟨_, rfl⟩
  rw [← hn] at h1 hx ⊢
  clear hn hg hr
  unfold maxLen at h2
  have k1 : (0 : Int) < (n : Int) + 1 := by omega
  have k2 : IntKind.i64.wrap ((n : Int) + 1 - 1) = (n : Int) := by rw [IntKind.wrap_i64]; omega
  have R0 : Res w 96 (w.alloc (.cells (cells3 zeroSum zeroSum zeroSum).toArray 111)) := Res.start _ _ _ _ (by rfl)
  have HX := Lib.hid (R0.range hx)
  clear hx
  go_enter Try.func80, Try.ntmps80
  go_wp2_with (first
    | (refine wpList_load_sums3 rfl _ rfl b (n * 97) (by rfl) e.leaf e.mark e.root HX.out ?_)
    | (refine wpList_store_sums3 rfl _ _ rfl w.heap.size 0 e.leaf e.mark e.root rfl rfl R0.there ?_))
  exact bodyPost_ret (results_sums3 Try.results80 _ _ w.heap.size _ _ _ rfl (range_stored _ _ _ _ (by rw [length_cells3]; exact World.there_setCells R0.there _ _ _))) rfl ⟨rfl, (R0.store _).below⟩
end Go.Proofs.Ytdkcndgehgmadaa
