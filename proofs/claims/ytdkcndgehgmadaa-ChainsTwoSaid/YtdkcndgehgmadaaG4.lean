/-
  Walks: errors.Is of the link's own error.
-/
import Derived.Test.YtdkcndgehgmadaaG3
import Derived.LaidEql
import Derived.Stop.Asserts
import Derived.RowKitTokens
open Go Go.RowKit Alm Go.Extern.Stop Go.Stop Go.Extern
namespace Go.Proofs.Ytdkcndgehgmadaa
/-- '==' of two error values of one integer type. -/
theorem equalIn_iface_int {P : Program} (w : World) (d : Nat) {ti tn : TypeId} {ms : Array (String × TypeId)} {i : TypeInfo} {k : IntKind} (a b : Int)
    (hi : P.underlying ti = some (.interface ms)) (hn : P.underlying tn = some (.int k)) (hinfo : P.info? tn = some i) (hcomp : i.comparable = true) :
    (Op.equalIn (d + 2) ti (.iface tn (.int k a)) (.iface tn (.int k b))).run P w = .ok (a == b) w := by
  simp [Op.equalIn, run_underlying hi, run_underlying hn, typeInfo, hinfo, hcomp]
theorem eql_iface_int {P : Program} (w : World) {ti tn : TypeId} {ms : Array (String × TypeId)} {i : TypeInfo} {k : IntKind} (a b : Int)
    (hi : P.underlying ti = some (.interface ms)) (hn : P.underlying tn = some (.int k)) (hinfo : P.info? tn = some i) (hcomp : i.comparable = true) :
    (binOp .eql ti (.iface tn (.int k a)) (.iface tn (.int k b))).run P w = .ok (.bool (a == b)) w := by
  simp only [binOp]
  simp [Op.equal, Op.maxDepth, equalIn_iface_int w 9998 a b hi hn hinfo hcomp]
theorem errnoComp : (Try.prog.info? 26).map (·.comparable) = some true := by kernel_rfl
theorem isTypeOf_ (v : Value) (w : World) : (callFunc 108 #[.iface 26 v]).run Try.prog w = .ok (.value (.iface 161 (.agg #[.pointer (some ⟨0, 26, none⟩)]))) w := by kernel_rfl
theorem isComparable_ (w : World) : (callFunc 142 #[.agg #[.pointer (some ⟨0, 26, none⟩)]]).run Try.prog w = .ok (.value (.bool true)) w := by kernel_rfl
theorem isMethod_ (v : Value) (w : World) : (Go.method 309 161 v "Comparable").run Try.prog w = .ok (142, v) w := by kernel_rfl
set_option maxRecDepth 100000 in
theorem is_short (w : World) :
    Calls Try.prog 74 #[.iface 26 (.int .i64 5), .iface 26 (.int .i64 5)] w fun e w' => e = .returned (.bool true) ∧ w = w' := by
  obtain ⟨i, hi, hcmp⟩ := Option.map_eq_some_iff.1 errnoComp
  have tT := isTypeOf_
  have cT := isComparable_
  have mR := isMethod_
  have heq := eql_iface_int (P := Try.prog) w 5 5 Try.underlying101 Try.underlying26 hi hcmp
  go_enter Try.func74, Try.ntmps74
  go_wp2
  refine wp_loop_rounds 1 ?_
  rw [rounds_succ]
  go_wp2
  go_ret
  exact ⟨rfl, rfl⟩
/-- errors.Is(nil, x). -/
theorem is_nil_ (w : World) (v : Value) :
    Calls Try.prog 74 #[.nilIface, .iface 26 v] w fun e w' => e = .returned (.bool false) ∧ w = w' := by
  have hn := run_eql_iface_nil_left (P := Try.prog) w 26 v Try.underlying101
  go_enter Try.func74, Try.ntmps74
  go_wp2
  go_ret
  exact ⟨rfl, rfl⟩
end Go.Proofs.Ytdkcndgehgmadaa
