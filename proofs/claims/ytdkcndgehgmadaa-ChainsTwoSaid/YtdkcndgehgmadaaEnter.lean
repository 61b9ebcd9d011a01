/-
  Plain: the translation's head is one of a cut: shown without reckoning all of its words.
-/
import Derived.Test.YtdkcndgehgmadaaBase
import Derived.Test.YtdkcndgehgmadaaProg
import GoSem.ClaimOpen
import GoSem.ClaimJoined
open Go
namespace Go.Proofs.Ytdkcndgehgmadaa
/-- A word, and what stands behind its blank. -/
theorem words_cons : ∀ (p r : List Char), p.all (fun c => decide (c ≠ Char.ofNat 32)) = true → wordsSigns (p ++ Char.ofNat 32 :: r) = p :: wordsSigns r
  | [], r, _ => rfl
  | c :: p, r, h => by
    simp only [List.all_cons, Bool.and_eq_true, decide_eq_true_eq] at h
    have ih := words_cons p r h.2
    rw [List.cons_append, wordsSigns, ih]
    intro e; exact absurd e h.1
theorem head_cut (P : Program) (s r : List Char) (h : P.initOrder.toList = "harness".toList ++ Char.ofNat 32 :: (s ++ Char.ofNat 32 :: ("cut".toList ++ Char.ofNat 32 :: r))) (hs : s.all (fun c => decide (c ≠ Char.ofNat 32)) = true) (hs2 : isSumSigns s = true) :
    behindMainWord (wordsSigns P.initOrder.toList) = "cut".toList :: wordsSigns r := by
  rw [h, words_cons _ _ (by decide), words_cons _ _ hs, words_cons _ _ (by decide)]
  show (if (("harness".toList == "harness".toList || "harness".toList == "ownmain".toList) && isSumSigns s) = true then _ else _) = _
  rw [hs2]
  rfl
theorem strip_cut (X : List (List Char)) : stripLifts liftWords ("cut".toList :: X) = ([], "cut".toList :: X) := by kernel_rfl
theorem enter_cut (P : Program) {X : List (List Char)} (hb : behindMainWord (wordsSigns P.initOrder.toList) = "cut".toList :: X)
    (h1 : P.laysLater = false) (h2 : P.bearsReflect = false) (h3 : P.doorFits [] = true) : P.mayEnter = true := by
  unfold Program.mayEnter
  rw [hb]
  show (_ || _ || _) = true
  rw [strip_cut, h1, h2, h3]
  simp only [Bool.or_eq_true]
  right
  kernel_rfl
theorem lifts_cut (P : Program) {X : List (List Char)} (hb : behindMainWord (wordsSigns P.initOrder.toList) = "cut".toList :: X) : P.liftsFinal = false := by
  unfold Program.liftsFinal Program.headLifts
  rw [hb, strip_cut]
  kernel_rfl
theorem make_cut (P : Program) {X : List (List Char)} (hb : behindMainWord (wordsSigns P.initOrder.toList) = "cut".toList :: X) : P.make = some .cut := by
  unfold Program.make Program.headLifts
  rw [hb]
  kernel_rfl
/-- The head's sum, and what stands behind 'cut'. -/
def headSum : List Char := [48, 101, 57, 49, 54, 102, 50, 102, 97, 55, 51, 53, 55, 97, 101, 51, 56, 50, 55, 50, 102, 102, 49, 49, 98, 49, 102, 55, 98, 102, 100, 54, 51, 50, 102, 51, 50, 52, 102, 50, 97, 57, 53, 48, 50, 57, 52, 102, 55, 53, 49, 48, 49, 49, 52, 51, 48, 102, 48, 101, 101, 52, 98, 56].map Char.ofNat
def headRest : List Char := [97, 116, 32, 97, 108, 109, 111, 110, 101, 114, 47, 97, 108, 109, 111, 110, 101, 114, 108, 97, 119, 49, 48, 46, 80, 97, 116, 104, 115, 66, 97, 99, 107, 32, 97, 108, 109, 111, 110, 101, 114, 47, 97, 108, 109, 111, 110, 101, 114, 108, 97, 119, 49, 48, 46, 80, 97, 116, 104, 115, 69, 110, 100, 115, 32, 97, 108, 109, 111, 110, 101, 114, 47, 97, 108, 109, 111, 110, 101, 114, 108, 97, 119, 49, 48, 46, 80, 97, 116, 104, 115, 66, 111, 116, 104, 32, 97, 108, 109, 111, 110, 101, 114, 47, 97, 108, 109, 111, 110, 101, 114, 108, 97, 119, 48, 57, 46, 70, 114, 111, 110, 116, 115, 82, 111, 111, 116, 32, 97, 108, 109, 111, 110, 101, 114, 47, 97, 108, 109, 111, 110, 101, 114, 108, 97, 119, 48, 57, 46, 70, 114, 111, 110, 116, 115, 66, 105, 116, 115, 32, 97, 108, 109, 111, 110, 101, 114, 47, 97, 108, 109, 111, 110, 101, 114, 108, 97, 119, 48, 57, 46, 70, 114, 111, 110, 116, 115, 84, 119, 111, 32, 97, 108, 109, 111, 110, 101, 114, 47, 97, 108, 109, 111, 110, 101, 114, 108, 97, 119, 49, 49, 46, 76, 105, 110, 107, 115, 66, 97, 99, 107, 32, 97, 108, 109, 111, 110, 101, 114, 47, 97, 108, 109, 111, 110, 101, 114, 108, 97, 119, 49, 49, 46, 76, 105, 110, 107, 115, 67, 104, 97, 105, 110, 32, 97, 108, 109, 111, 110, 101, 114, 47, 97, 108, 109, 111, 110, 101, 114, 108, 97, 119, 49, 49, 46, 76, 105, 110, 107, 115, 69, 110, 100, 115, 32, 97, 108, 109, 111, 110, 101, 114, 47, 97, 108, 109, 111, 110, 101, 114, 108, 97, 119, 49, 49, 46, 76, 105, 110, 107, 115, 80, 111, 119, 101, 114, 32, 97, 108, 109, 111, 110, 101, 114, 47, 97, 108, 109, 111, 110, 101, 114, 108, 97, 119, 49, 50, 46, 67, 104, 97, 105, 110, 115, 78, 111, 110, 101, 32, 97, 108, 109, 111, 110, 101, 114, 47, 97, 108, 109, 111, 110, 101, 114, 108, 97, 119, 49, 50, 46, 67, 104, 97, 105, 110, 115, 71, 114, 111, 119, 32, 97, 108, 109, 111, 110, 101, 114, 47, 97, 108, 109, 111, 110, 101, 114, 108, 97, 119, 49, 50, 46, 67, 104, 97, 105, 110, 115, 77, 97, 114, 107, 115, 32, 97, 108, 109, 111, 110, 101, 114, 47, 97, 108, 109, 111, 110, 101, 114, 108, 97, 119, 49, 50, 46, 67, 104, 97, 105, 110, 115, 84, 119, 111, 32, 97, 108, 109, 111, 110, 101, 114, 47, 97, 108, 109, 111, 110, 101, 114, 108, 97, 119, 49, 51, 46, 67, 108, 97, 115, 104, 101, 115, 73, 115, 32, 97, 108, 109, 111, 110, 101, 114, 47, 97, 108, 109, 111, 110, 101, 114, 108, 97, 119, 49, 51, 46, 67, 108, 97, 115, 104, 101, 115, 76, 105, 115, 116, 115, 32, 97, 108, 109, 111, 110, 101, 114, 47, 97, 108, 109, 111, 110, 101, 114, 108, 97, 119, 49, 51, 46, 67, 108, 97, 115, 104, 101, 115, 80, 97, 116, 104, 32, 97, 108, 109, 111, 110, 101, 114, 47, 97, 108, 109, 111, 110, 101, 114, 108, 97, 119, 49, 51, 46, 67, 108, 97, 115, 104, 101, 115, 76, 105, 110, 107, 32, 97, 108, 109, 111, 110, 101, 114, 47, 97, 108, 109, 111, 110, 101, 114, 108, 97, 119, 49, 50, 46, 67, 104, 97, 105, 110, 115, 80, 114, 111, 118, 101, 100, 32, 97, 108, 109, 111, 110, 101, 114, 47, 97, 108, 109, 111, 110, 101, 114, 108, 97, 119, 49, 51, 46, 67, 108, 97, 115, 104, 101, 115, 79, 119, 110].map Char.ofNat
theorem initOrder_ : Try.prog.initOrder = String.ofList ([104, 97, 114, 110, 101, 115, 115].map Char.ofNat ++ Char.ofNat 32 :: (headSum ++ Char.ofNat 32 :: ([99, 117, 116].map Char.ofNat ++ Char.ofNat 32 :: headRest))) := by kernel_rfl
theorem head_ : behindMainWord (wordsSigns Try.prog.initOrder.toList) = "cut".toList :: wordsSigns headRest := by
  refine head_cut _ headSum headRest ?_ (by kernel_rfl) (by kernel_rfl)
  rw [initOrder_, String.toList_ofList]
  rfl
theorem mayEnter_ : Try.prog.mayEnter = true := enter_cut _ head_ (by kernel_rfl) (by kernel_rfl) (by kernel_rfl)
theorem liftsFinal_ : Try.prog.liftsFinal = false := lifts_cut _ head_
theorem make_ : Try.prog.make = some .cut := make_cut _ head_
end Go.Proofs.Ytdkcndgehgmadaa
