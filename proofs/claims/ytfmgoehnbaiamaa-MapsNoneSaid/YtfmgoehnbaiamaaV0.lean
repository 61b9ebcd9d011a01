/-
  The seat's own words for sums, without the library's.
-/
import Derived.Test.YtfmgoehnbaiamaaProg
import Derived.Test.YtfmgoehnbaiamaaBase
import Derived.Test.YtfmgoehnbaiamaaSched
import Derived.Test.YtfmgoehnbaiamaaKeep
import Derived.Test.YtfmgoehnbaiamaaSha
import Derived.WalkMore
open Go Go.RowKit Alm
namespace Go.Proofs.Ytfmgoehnbaiamaa
theorem infoSum : (Try.prog.info? 29).map (·.size) = some 32 := by kernel_rfl

theorem wpList_load_sum {ops : Array Oper} {rest : List Oper} {op : Oper} {a : Act} {w : World} {Q : Exit → Act → World → Prop} (hgd : op.guard = none) (x : Operand) (ho : op.op = .load 29 x)
    (b o : Nat) (hx : a.eval x = .pointer (some ⟨b, o, none⟩)) (s : Sum) (hc : w.rangeAt b o (cellsOf s))
    (h : wpList Try.prog ops Q rest (a.put op.dst (sv s)) w) : wpList Try.prog ops Q (op :: rest) a w :=
  wpList_load_mid hgd _ x ho b o hx (cellsOf s) _ hc Try.underlying29 rfl (by rw [length_cellsOf]; exact infoSum) h

theorem wpList_store_sum {ops : Array Oper} {rest : List Oper} {op : Oper} {a : Act} {w : World} {Q : Exit → Act → World → Prop} (hgd : op.guard = none) (x y : Operand) (ho : op.op = .store 29 x y)
    (b o : Nat) (s : Sum) (hx : a.eval x = .pointer (some ⟨b, o, none⟩)) (hy : a.eval y = sv s) (ht : w.there b o 32)
    (h : wpList Try.prog ops Q rest (a.put op.dst undef) (w.setCells b o (cellsOf s))) : wpList Try.prog ops Q (op :: rest) a w :=
  wpList_store_mid hgd _ x y ho b o _ hx hy (by rw [size_cellsOf]; exact ht) (by rw [size_cellsOf]; exact infoSum) (all_cellsOf s) h

theorem results_sum {fn : Func} {p : Tmp} (h : fn.results = #[.cell p 29]) (tmps : Array Value) (w : World) (b : Nat) (s : Sum)
    (hp : tmps.getD p undef = .pointer (some ⟨b, 0, none⟩)) (ht : (w.setCells b 0 (cellsOf s)).there b 0 32) :
    (results fn tmps).run Try.prog (w.setCells b 0 (cellsOf s)) = .ok (sv s) (w.setCells b 0 (cellsOf s)) :=
  results_mid h tmps _ b 0 _ _ hp (range_stored _ _ _ _ (by rw [length_cellsOf]; exact ht)) Try.underlying29 rfl (by rw [length_cellsOf]; exact infoSum)

theorem results_sum_at {fn : Func} {p : Tmp} (h : fn.results = #[.cell p 29]) (tmps : Array Value) (w : World) (b : Nat) (s : Sum)
    (hp : tmps.getD p undef = .pointer (some ⟨b, 0, none⟩)) (hr : w.rangeAt b 0 (cellsOf s)) :
    (results fn tmps).run Try.prog w = .ok (sv s) w :=
  results_mid h tmps _ b 0 _ _ hp hr Try.underlying29 rfl (by rw [length_cellsOf]; exact infoSum)

def zeroSum : Sum := Vector.replicate 32 0
theorem cellsOf_zeroSum : cellsOf zeroSum = cells8 (List.replicate 32 0) := by rfl
theorem wp_load_sum {op : Oper} {a : Act} {w : World} {K : Act → World → Prop} {Q : Exit → Act → World → Prop} (x : Operand) (ho : op.op = .load 29 x)
    (b o : Nat) (hx : a.eval x = .pointer (some ⟨b, o, none⟩)) (s : Sum) (hc : w.rangeAt b o (cellsOf s)) (h : K (a.put op.dst (sv s)) w) : op.wp Try.prog a w K Q :=
  wp_load_mid _ x ho b o hx (cellsOf s) _ hc Try.underlying29 rfl (by rw [length_cellsOf]; exact infoSum) h
theorem wp_store_sum {op : Oper} {a : Act} {w : World} {K : Act → World → Prop} {Q : Exit → Act → World → Prop} (x y : Operand) (ho : op.op = .store 29 x y)
    (b o : Nat) (s : Sum) (hx : a.eval x = .pointer (some ⟨b, o, none⟩)) (hy : a.eval y = sv s) (ht : w.there b o 32) (h : K (a.put op.dst undef) (w.setCells b o (cellsOf s))) : op.wp Try.prog a w K Q :=
  wp_store_mid _ x y ho b o _ hx hy (by rw [size_cellsOf]; exact ht) (by rw [size_cellsOf]; exact infoSum) (all_cellsOf s) h
theorem wpS_load_sum {md : Region.Mode} {S : World → Prop} {ops : List Oper} {Q : Exit → Act → World → Prop} {r : List Mv} {a : Act} {w : World} {o : Oper} {i : Nat} (hS : S w) (ho : ops[i]? = some o) (hg : Region.wanted o (yielded ops.toArray a.tmps) = true) (x : Operand) (hop : o.op = .load 29 x) (b off : Nat) (hx : a.eval x = .pointer (some ⟨b, off, none⟩)) (s : Sum)
    (hc : ∀ W, S W → W.rangeAt b off (cellsOf s)) (h : wpS Try.prog md ops.toArray Q S r (a.put o.dst (sv s)) w) : wpS Try.prog md ops.toArray Q S (.s i :: r) a w :=
  wpS_load_mid hS ho hg _ x hop b off hx (cellsOf s) _ hc Try.underlying29 rfl (by rw [length_cellsOf]; exact infoSum) h
end Go.Proofs.Ytfmgoehnbaiamaa
