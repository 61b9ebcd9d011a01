/-
  Plain: the translation's head is one of a cut: shown without reckoning all of its words.
-/
import Derived.Test.YtfmgoehnbaiamaaBase
import Derived.Test.YtfmgoehnbaiamaaProg
import GoSem.ClaimOpen
import GoSem.ClaimJoined
open Go
namespace Go.Proofs.Ytfmgoehnbaiamaa
/-- A word, and what stands behind its blank. -/
theorem words_cons : ∀ (p r : List Char), p.all (fun c => decide (c ≠ Char.ofNat 32)) = true → wordsSigns (p ++ Char.ofNat 32 :: r) = p :: wordsSigns r
  | [], r, _ => rfl
  | c :: p, r, h => by
    simp only [List.all_cons, Bool.and_eq_true, decide_eq_true_eq] at h
    have ih := words_cons p r h.2
    rw [List.cons_append, wordsSigns, ih]
    intro e; exact absurd e h.1
theorem head_cut (P : Program) (s r : List Char) (h : P.initOrder.toList = "harness".toList ++ Char.ofNat 32 :: (s ++ Char.ofNat 32 :: ("cut".toList ++ Char.ofNat 32 :: r))) (hs : s.all (fun c => decide (c ≠ Char.ofNat 32)) = true) (hs2 : isSumSigns s = true) :
    behindMainWord (wordsSigns P.initOrder.toList) = "cut".toList :: wordsSigns r := by
  rw [h, words_cons _ _ (by decide), words_cons _ _ hs, words_cons _ _ (by decide)]
  show (if (("harness".toList == "harness".toList || "harness".toList == "ownmain".toList) && isSumSigns s) = true then _ else _) = _
  rw [hs2]
  rfl
theorem strip_cut (X : List (List Char)) : stripLifts liftWords ("cut".toList :: X) = ([], "cut".toList :: X) := by kernel_rfl
theorem enter_cut (P : Program) {X : List (List Char)} (hb : behindMainWord (wordsSigns P.initOrder.toList) = "cut".toList :: X)
    (h1 : P.laysLater = false) (h2 : P.bearsReflect = false) (h3 : P.doorFits [] = true) : P.mayEnter = true := by
  unfold Program.mayEnter
  rw [hb]
  show (_ || _ || _) = true
  rw [strip_cut, h1, h2, h3]
  simp only [Bool.or_eq_true]
  right
  kernel_rfl
theorem lifts_cut (P : Program) {X : List (List Char)} (hb : behindMainWord (wordsSigns P.initOrder.toList) = "cut".toList :: X) : P.liftsFinal = false := by
  unfold Program.liftsFinal Program.headLifts
  rw [hb, strip_cut]
  kernel_rfl
theorem make_cut (P : Program) {X : List (List Char)} (hb : behindMainWord (wordsSigns P.initOrder.toList) = "cut".toList :: X) : P.make = some .cut := by
  unfold Program.make Program.headLifts
  rw [hb]
  kernel_rfl
/-- The head's sum, and what stands behind 'cut'. -/
def headSum : List Char := [53, 56, 53, 100, 56, 56, 53, 102, 99, 51, 102, 55, 50, 57, 51, 55, 97, 50, 48, 51, 50, 98, 99, 57, 50, 100, 99, 100, 52, 102, 101, 100, 98, 52, 56, 101, 52, 53, 101, 52, 55, 48, 51, 54, 51, 51, 56, 54, 55, 49, 53, 57, 101, 100, 49, 101, 102, 100, 98, 99, 57, 49, 98, 49].map Char.ofNat
def headRest : List Char := [97, 116, 32, 97, 108, 109, 111, 110, 101, 114, 47, 97, 108, 109, 111, 110, 101, 114, 108, 97, 119, 49, 53, 46, 77, 97, 112, 115, 79, 114, 100, 101, 114, 32, 97, 108, 109, 111, 110, 101, 114, 47, 97, 108, 109, 111, 110, 101, 114, 108, 97, 119, 49, 53, 46, 77, 97, 112, 115, 71, 101, 116, 32, 97, 108, 109, 111, 110, 101, 114, 47, 97, 108, 109, 111, 110, 101, 114, 108, 97, 119, 49, 53, 46, 77, 97, 112, 115, 79, 110, 101, 32, 97, 108, 109, 111, 110, 101, 114, 47, 97, 108, 109, 111, 110, 101, 114, 108, 97, 119, 49, 53, 46, 77, 97, 112, 115, 72, 97, 108, 118, 101, 115, 32, 97, 108, 109, 111, 110, 101, 114, 47, 97, 108, 109, 111, 110, 101, 114, 108, 97, 119, 49, 53, 46, 77, 97, 112, 115, 78, 111, 110, 101, 32, 97, 108, 109, 111, 110, 101, 114, 47, 97, 108, 109, 111, 110, 101, 114, 108, 97, 119, 49, 53, 46, 77, 97, 112, 115, 67, 111, 112, 121, 32, 97, 108, 109, 111, 110, 101, 114, 47, 97, 108, 109, 111, 110, 101, 114, 108, 97, 119, 49, 54, 46, 83, 104, 111, 119, 115, 78, 111, 110, 101, 32, 97, 108, 109, 111, 110, 101, 114, 47, 97, 108, 109, 111, 110, 101, 114, 108, 97, 119, 49, 54, 46, 83, 104, 111, 119, 115, 66, 97, 99, 107, 32, 97, 108, 109, 111, 110, 101, 114, 47, 97, 108, 109, 111, 110, 101, 114, 108, 97, 119, 49, 54, 46, 83, 104, 111, 119, 115, 67, 111, 117, 110, 116, 32, 97, 108, 109, 111, 110, 101, 114, 47, 97, 108, 109, 111, 110, 101, 114, 108, 97, 119, 49, 54, 46, 83, 104, 111, 119, 115, 70, 117, 108, 108, 32, 97, 108, 109, 111, 110, 101, 114, 47, 97, 108, 109, 111, 110, 101, 114, 108, 97, 119, 49, 54, 46, 83, 104, 111, 119, 115, 80, 117, 116, 32, 97, 108, 109, 111, 110, 101, 114, 47, 97, 108, 109, 111, 110, 101, 114, 108, 97, 119, 49, 54, 46, 83, 104, 111, 119, 115, 78, 101, 97, 114, 32, 97, 108, 109, 111, 110, 101, 114, 47, 97, 108, 109, 111, 110, 101, 114, 108, 97, 119, 49, 55, 46, 83, 112, 108, 105, 116, 115, 77, 97, 112, 115, 32, 97, 108, 109, 111, 110, 101, 114, 47, 97, 108, 109, 111, 110, 101, 114, 108, 97, 119, 49, 55, 46, 83, 112, 108, 105, 116, 115, 83, 104, 111, 119, 32, 97, 108, 109, 111, 110, 101, 114, 47, 97, 108, 109, 111, 110, 101, 114, 108, 97, 119, 49, 55, 46, 83, 112, 108, 105, 116, 115, 84, 119, 111, 32, 97, 108, 109, 111, 110, 101, 114, 47, 97, 108, 109, 111, 110, 101, 114, 108, 97, 119, 49, 55, 46, 83, 112, 108, 105, 116, 115, 79, 119, 110].map Char.ofNat
theorem initOrder_ : Try.prog.initOrder = String.ofList ([104, 97, 114, 110, 101, 115, 115].map Char.ofNat ++ Char.ofNat 32 :: (headSum ++ Char.ofNat 32 :: ([99, 117, 116].map Char.ofNat ++ Char.ofNat 32 :: headRest))) := by kernel_rfl
theorem head_ : behindMainWord (wordsSigns Try.prog.initOrder.toList) = "cut".toList :: wordsSigns headRest := by
  refine head_cut _ headSum headRest ?_ (by kernel_rfl) (by kernel_rfl)
  rw [initOrder_, String.toList_ofList]
  rfl
theorem mayEnter_ : Try.prog.mayEnter = true := enter_cut _ head_ (by kernel_rfl) (by kernel_rfl) (by kernel_rfl)
theorem liftsFinal_ : Try.prog.liftsFinal = false := lifts_cut _ head_
theorem make_ : Try.prog.make = some .cut := make_cut _ head_
end Go.Proofs.Ytfmgoehnbaiamaa
