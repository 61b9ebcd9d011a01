/-
  Plain: the translation's head is one of a cut: shown without reckoning all of its words.
-/
import Derived.Test.YtdkcndgehgmadaaGreatDoorBase
import Derived.Test.YtdkcndgehgmadaaGreatDoorProg
import GoSem.ClaimOpen
import GoSem.ClaimJoined
open Go
namespace Go.Proofs.YtdkcndgehgmadaaGreatDoor
/-- A word, and what stands behind its blank. -/
theorem words_cons : ∀ (p r : List Char), p.all (fun c => decide (c ≠ Char.ofNat 32)) = true → wordsSigns (p ++ Char.ofNat 32 :: r) = p :: wordsSigns r
  | [], r, _ => rfl
  | c :: p, r, h => by
    simp only [List.all_cons, Bool.and_eq_true, decide_eq_true_eq] at h
    have ih := words_cons p r h.2
    rw [List.cons_append, wordsSigns, ih]
    intro e; exact absurd e h.1
theorem head_cut (P : Program) (s r : List Char) (h : P.initOrder.toList = "harness".toList ++ Char.ofNat 32 :: (s ++ Char.ofNat 32 :: ("cut".toList ++ Char.ofNat 32 :: r))) (hs : s.all (fun c => decide (c ≠ Char.ofNat 32)) = true) (hs2 : isSumSigns s = true) :
    behindMainWord (wordsSigns P.initOrder.toList) = "cut".toList :: wordsSigns r := by
  rw [h, words_cons _ _ (by decide), words_cons _ _ hs, words_cons _ _ (by decide)]
  show (if (("harness".toList == "harness".toList || "harness".toList == "ownmain".toList) && isSumSigns s) = true then _ else _) = _
  rw [hs2]
  rfl
theorem strip_cut (X : List (List Char)) : stripLifts liftWords ("cut".toList :: X) = ([], "cut".toList :: X) := by kernel_rfl
theorem enter_cut (P : Program) {X : List (List Char)} (hb : behindMainWord (wordsSigns P.initOrder.toList) = "cut".toList :: X)
    (h1 : P.laysLater = false) (h2 : P.bearsReflect = false) (h3 : P.doorFits [] = true) : P.mayEnter = true := by
  unfold Program.mayEnter
  rw [hb]
  show (_ || _ || _) = true
  rw [strip_cut, h1, h2, h3]
  simp only [Bool.or_eq_true]
  right
  kernel_rfl
theorem lifts_cut (P : Program) {X : List (List Char)} (hb : behindMainWord (wordsSigns P.initOrder.toList) = "cut".toList :: X) : P.liftsFinal = false := by
  unfold Program.liftsFinal Program.headLifts
  rw [hb, strip_cut]
  kernel_rfl
theorem make_cut (P : Program) {X : List (List Char)} (hb : behindMainWord (wordsSigns P.initOrder.toList) = "cut".toList :: X) : P.make = some .cut := by
  unfold Program.make Program.headLifts
  rw [hb]
  kernel_rfl
/-- The head's sum, and what stands behind 'cut'. -/
def headSum : List Char := [100, 53, 56, 102, 102, 51, 102, 100, 55, 54, 97, 54, 101, 52, 48, 55, 49, 102, 101, 53, 50, 98, 100, 101, 52, 101, 101, 99, 51, 101, 53, 100, 51, 50, 55, 48, 49, 99, 49, 101, 100, 98, 99, 102, 54, 56, 52, 56, 100, 99, 99, 98, 49, 100, 97, 57, 53, 55, 101, 101, 54, 51, 99, 97].map Char.ofNat
def headRest : List Char := [97, 116, 32, 97, 108, 109, 111, 110, 101, 114, 47, 97, 108, 109, 111, 110, 101, 114, 108, 97, 119, 49, 48, 46, 80, 97, 116, 104, 115, 79, 102, 32, 97, 108, 109, 111, 110, 101, 114, 47, 97, 108, 109, 111, 110, 101, 114, 108, 97, 119, 48, 57, 46, 70, 114, 111, 110, 116, 115, 80, 108, 97, 121, 32, 97, 108, 109, 111, 110, 101, 114, 47, 97, 108, 109, 111, 110, 101, 114, 108, 97, 119, 49, 49, 46, 76, 105, 110, 107, 115, 79, 102, 32, 97, 108, 109, 111, 110, 101, 114, 47, 97, 108, 109, 111, 110, 101, 114, 108, 97, 119, 49, 50, 46, 67, 104, 97, 105, 110, 115, 80, 108, 97, 121, 32, 97, 108, 109, 111, 110, 101, 114, 47, 97, 108, 109, 111, 110, 101, 114, 108, 97, 119, 49, 51, 46, 67, 108, 97, 115, 104, 101, 115, 79, 102].map Char.ofNat
theorem initOrder_ : Tryz.prog.initOrder = String.ofList ([104, 97, 114, 110, 101, 115, 115].map Char.ofNat ++ Char.ofNat 32 :: (headSum ++ Char.ofNat 32 :: ([99, 117, 116].map Char.ofNat ++ Char.ofNat 32 :: headRest))) := by kernel_rfl
theorem head_ : behindMainWord (wordsSigns Tryz.prog.initOrder.toList) = "cut".toList :: wordsSigns headRest := by
  refine head_cut _ headSum headRest ?_ (by kernel_rfl) (by kernel_rfl)
  rw [initOrder_, String.toList_ofList]
  rfl
theorem mayEnter_ : Tryz.prog.mayEnter = true := enter_cut _ head_ (by kernel_rfl) (by kernel_rfl) (by kernel_rfl)
theorem liftsFinal_ : Tryz.prog.liftsFinal = false := lifts_cut _ head_
theorem make_ : Tryz.prog.make = some .cut := make_cut _ head_
end Go.Proofs.YtdkcndgehgmadaaGreatDoor
