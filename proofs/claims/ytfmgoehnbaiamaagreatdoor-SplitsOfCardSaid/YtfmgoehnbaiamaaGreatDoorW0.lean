/- The seat's own words for sums: loads, stores, results of type api.Sum; calls of the library's bits. -/
import Derived.Test.YtfmgoehnbaiamaaGreatDoorShelf
import Derived.Test.YtfmgoehnbaiamaaGreatDoorBase
import Derived.Test.YtfmgoehnbaiamaaGreatDoorMerkle
open Go Go.RowKit Alm
namespace Go.Proofs.YtfmgoehnbaiamaaGreatDoor
variable {a:Act}{ops:Array Oper}{Q:Exit->Act->World->Prop}{rest:List Oper}{op:Oper}{w:World}
theorem zF8:(Tryz.prog.info? 24).map (·.size)=some 32:=by kernel_rfl
theorem zDb(hgd:op.guard=none)(x:Operand)(ho:op.op=.load 24 x)
  (b o:Nat) (hx:a.eval x=.pointer (some ⟨b,o,none⟩)) (s:Sum) (hc:w.rangeAt b o (cellsOf s))
  (h:wpList Tryz.prog ops Q rest (a.put op.dst (sv s)) w):wpList Tryz.prog ops Q (op::rest) a w :=
 wpList_load_mid hgd _ x ho b o hx (cellsOf s) _ hc Tryz.underlying24 rfl (by rw[zDa];exact zF8) h
theorem zDm(hgd:op.guard=none)(x y:Operand)(ho:op.op=.store 24 x y)
  (b o:Nat) (s:Sum) (hx:a.eval x=.pointer (some ⟨b,o,none⟩)) (hy:a.eval y=sv s) (ht:w.there b o 32)
  (h:wpList Tryz.prog ops Q rest (a.put op.dst undef) (w.setCells b o (cellsOf s))):wpList Tryz.prog ops Q (op::rest) a w :=
 wpList_store_mid hgd _ x y ho b o _ hx hy (by rw[zEt];exact ht) (by rw[zEt];exact zF8) (zLj s) h
theorem zEe{fn:Func}{p:Tmp}(h:fn.results=#[.cell p 24])(tmps:Array Value)(w:World)(b:Nat)(s:Sum)
  (hp:tmps.getD p undef=.pointer (some ⟨b,0,none⟩)) (ht:(w.setCells b 0 (cellsOf s)).there b 0 32) :
  (results fn tmps).run Tryz.prog (w.setCells b 0 (cellsOf s))=.ok (sv s) (w.setCells b 0 (cellsOf s)) :=
 zEy h tmps _ b 0 _ _ hp (zDf _ _ _ _ (by rw[zDa];exact ht)) Tryz.underlying24 rfl (by rw[zDa];exact zF8)
end Go.Proofs.YtfmgoehnbaiamaaGreatDoor
