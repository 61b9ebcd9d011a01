/-
  Joined: CP1, R1, R2.
-/
import Derived.Test.YtdkcndgehgmadaaGreatDoorZAV
import Derived.Test.YtdkcndgehgmadaaGreatDoorZBF
import Derived.Test.YtdkcndgehgmadaaGreatDoorSha
import Derived.Test.YtdkcndgehgmadaaGreatDoorZAJ
-- Plain: what stands while a chain is played: the chain, the Book, the list of all that was added.
open Go Go.RowKit Alm
namespace Go.Proofs.YtdkcndgehgmadaaGreatDoor
structure PlayS (w W : World) (c q n : Nat) (va : Value) (l1 l2 : List (List UInt8)) (cs : List Value) (C : Nat → Prop) (F : Nat → Value) (HB : List Held) (SB : Nat → List (List Value)) (HS : List Held) (SS : Nat → List (List Value)) : Prop where
  below : Below w.heap.size w W
  ch : ChainX w.heap.size W c l1 C
  bk : MBook W w.heap.size q n F HB SB HS SS
  row : W.ownsRow w.heap.size 65 1 va l2.length cs
  each : Each w cs l2
  cb : ∀ k, C k → ¬ OfM q F HB HS k
  ca : ∀ k, va.ownBlock = some k → ¬ C k ∧ ¬ OfM q F HB HS k
  hB : HB.length ≤ n
  hS : HS.length ≤ n
theorem PlayS.mem {w W W' : World} {c q n : Nat} {va : Value} {l1 l2 : List (List UInt8)} {cs : List Value} {C : Nat → Prop} {F : Nat → Value} {HB HS : List Held} {SB SS : Nat → List (List Value)} (h : PlayS w W c q n va l1 l2 cs C F HB SB HS SS) (hb : Below W.heap.size W W') : PlayS w W' c q n va l1 l2 cs C F HB SB HS SS :=
  ⟨h.below.trans (hb.mono h.below.size), h.ch.below hb, h.bk.below hb, (Keeps.of_below (X := fun _ => False) hb).owns h.row (fun _ _ h => h), h.each, h.cb, h.ca, h.hB, h.hS⟩
theorem PlayS.add {w W W' : World} {c q n : Nat} {va : Value} {l1 l1' l2 : List (List UInt8)} {cs : List Value} {C C' : Nat → Prop} {F : Nat → Value} {HB HS : List Held} {SB SS : Nat → List (List Value)} (h : PlayS w W c q n va l1 l2 cs C F HB SB HS SS) (hc : ChainX w.heap.size W' c l1' C') (hC : ∀ k, C' k → C k ∨ W.heap.size ≤ k) (hk : Keeps C W W') : PlayS w W' c q n va l1' l2 cs C' F HB SB HS SS := by
  refine ⟨h.below.trans (hk.below h.below.size (fun k hk => (h.ch.lt hk).1)), hc, h.bk.keep hk (fun k hm hc => h.cb k hc hm), hk.owns h.row (fun k e => (h.ca k e).1), h.each, fun k hc hm => ?_, fun k e => ⟨fun hc => ?_, (h.ca k e).2⟩, h.hB, h.hS⟩
  · rcases hC k hc with e | e
    · exact h.cb k e hm
    · have := (h.bk.lt hm).2; omega
  · rcases hC k hc with e2 | e2
    · exact (h.ca k e).1 e2
    · have := own_lt h.row e; omega
theorem PlayS.app {w W W' : World} {c q n : Nat} {va va' : Value} {l1 l2 l2' : List (List UInt8)} {cs cs' : List Value} {C : Nat → Prop} {F : Nat → Value} {HB HS : List Held} {SB SS : Nat → List (List Value)} (h : PlayS w W c q n va l1 l2 cs C F HB SB HS SS) (hr : W'.ownsRow w.heap.size 65 1 va' l2'.length cs') (hE : Each w cs' l2') (hg : W.grownBy W' va.ownBlock) (hv : ∀ k, va'.ownBlock = some k → va.ownBlock = some k ∨ W.heap.size ≤ k) : PlayS w W' c q n va' l1 l2' cs' C F HB SB HS SS := by
  have hk : Keeps (fun k => va.ownBlock = some k) W W' := Keeps.of_grown hg (fun k hk => hk)
  refine ⟨h.below.trans (hk.below h.below.size (fun k hk => own_base h.row k hk)), h.ch.keep hk (fun k hc e => (h.ca k e).1 hc), h.bk.keep hk (fun k hm e => (h.ca k e).2 hm), hr, hE, h.cb, fun k e => ?_, h.hB, h.hS⟩
  rcases hv k e with e2 | e2
  · exact h.ca k e2
  · exact ⟨fun hc => by have := (h.ch.lt hc).2; omega, fun hm => by have := (h.bk.lt hm).2; omega⟩
/-- A list that is nobody's yet. -/
def Loose (W : World) (q : Nat) (va : Value) (C : Nat → Prop) (F : Nat → Value) (HB HS : List Held) (x : Value) : Prop := ∀ k, x.ownBlock = some k → k < W.heap.size ∧ ¬ C k ∧ ¬ OfM q F HB HS k ∧ va.ownBlock ≠ some k
theorem PlayS.loose {w W W' : World} {c q n : Nat} {va x : Value} {l1 l2 : List (List UInt8)} {cs : List Value} {C : Nat → Prop} {F : Nat → Value} {HB HS : List Held} {SB SS : Nat → List (List Value)} (h : PlayS w W c q n va l1 l2 cs C F HB SB HS SS) (hx : ∀ k, x.ownBlock = some k → W.heap.size ≤ k ∧ k < W'.heap.size) : Loose W' q va C F HB HS x := fun k hk =>
  have h1 := hx k hk
  ⟨h1.2, fun hc => by have := (h.ch.lt hc).2; omega, fun hm => by have := (h.bk.lt hm).2; omega, fun e => by have := own_lt h.row e; omega⟩
theorem Loose.mem {W W' : World} {q : Nat} {va x : Value} {C : Nat → Prop} {F : Nat → Value} {HB HS : List Held} (h : Loose W q va C F HB HS x) (hs : W.heap.size ≤ W'.heap.size) : Loose W' q va C F HB HS x := fun k hk => ⟨Nat.lt_of_lt_of_le (h k hk).1 hs, (h k hk).2⟩
theorem Loose.add {W W' : World} {q : Nat} {va x : Value} {C C' : Nat → Prop} {F : Nat → Value} {HB HS : List Held} (h : Loose W q va C F HB HS x) (hC : ∀ k, C' k → C k ∨ W.heap.size ≤ k) (hs : W.heap.size ≤ W'.heap.size) : Loose W' q va C' F HB HS x := fun k hk => ⟨Nat.lt_of_lt_of_le (h k hk).1 hs, fun hc => by
  rcases hC k hc with e | e
  · exact (h k hk).2.1 e
  · have := (h k hk).1; omega, (h k hk).2.2⟩
theorem Loose.app {W W' : World} {q : Nat} {va va' x : Value} {C : Nat → Prop} {F : Nat → Value} {HB HS : List Held} (h : Loose W q va C F HB HS x) (hv : ∀ k, va'.ownBlock = some k → va.ownBlock = some k ∨ W.heap.size ≤ k) (hs : W.heap.size ≤ W'.heap.size) : Loose W' q va' C F HB HS x := fun k hk => ⟨Nat.lt_of_lt_of_le (h k hk).1 hs, (h k hk).2.1, (h k hk).2.2.1, fun e => by
  rcases hv k e with e | e
  · exact (h k hk).2.2.2 e
  · have := (h k hk).1; omega⟩
theorem ofM_told1 {q n N : Nat} {F : Nat → Value} {v' x : Value} {HB HS : List Held} {k : Nat} (h : OfM q (put F 1 v') (HB ++ [(x, .slice none 0 0, n)]) HS k) (hb : ∀ k, v'.ownBlock = some k → (F 1).ownBlock = some k ∨ N ≤ k) : OfM q F HB HS k ∨ N ≤ k ∨ x.ownBlock = some k := by
  rcases h with e | e | e
  · exact .inl (.inl e)
  · rw [put_self] at e
    rcases kind_told e hb with e | e | e
    · exact .inl (.inr (.inl e))
    · exact .inr (.inl e)
    · exact .inr (.inr e)
  · rw [put_other _ _ (by decide : (5 : Nat) ≠ 1)] at e
    exact .inl (.inr (.inr e))
theorem ofM_told5 {q n N : Nat} {F : Nat → Value} {v' x : Value} {HB HS : List Held} {k : Nat} (h : OfM q (put F 5 v') HB (HS ++ [(x, .slice none 0 0, n)]) k) (hb : ∀ k, v'.ownBlock = some k → (F 5).ownBlock = some k ∨ N ≤ k) : OfM q F HB HS k ∨ N ≤ k ∨ x.ownBlock = some k := by
  rcases h with e | e | e
  · exact .inl (.inl e)
  · rw [put_other _ _ (by decide : (1 : Nat) ≠ 5)] at e
    exact .inl (.inr (.inl e))
  · rw [put_self] at e
    rcases kind_told e hb with e | e | e
    · exact .inl (.inr (.inr e))
    · exact .inr (.inl e)
    · exact .inr (.inr e)
theorem PlayS.told1 {w W W' : World} {c q n : Nat} {va x v' : Value} {l1 l2 : List (List UInt8)} {cs : List Value} {C : Nat → Prop} {F : Nat → Value} {HB HS : List Held} {SB SS SB' : Nat → List (List Value)} (h : PlayS w W c q n va l1 l2 cs C F HB SB HS SS) (hx : Loose W q va C F HB HS x)
    (hm : MBook W' w.heap.size q (n + 1) (put F 1 v') (HB ++ [(x, .slice none 0 0, n + 1)]) SB' HS SS) (hv : ∀ k, v'.ownBlock = some k → (F 1).ownBlock = some k ∨ W.heap.size ≤ k) (hk : Keeps (fun i => i = q ∨ (F 1).ownBlock = some i) W W') : PlayS w W' c q (n + 1) va l1 l2 cs C (put F 1 v') (HB ++ [(x, .slice none 0 0, n + 1)]) SB' HS SS := by
  have hin : ∀ k, (k = q ∨ (F 1).ownBlock = some k) → OfM q F HB HS k := fun k e => by
    rcases e with e | e
    · exact .inl e
    · exact .inr (.inl (.inl e))
  refine ⟨h.below.trans (hk.below h.below.size (fun k hk => (h.bk.lt (hin k hk)).1)), h.ch.keep hk (fun k hc e => h.cb k hc (hin k e)), hm, hk.owns h.row (fun k e e2 => (h.ca k e).2 (hin k e2)), h.each, fun k hc hm => ?_, fun k e => ⟨(h.ca k e).1, fun hm => ?_⟩, by rw [List.length_append, List.length_singleton]; have := h.hB; omega, Nat.le_succ_of_le h.hS⟩
  · rcases ofM_told1 hm hv with e | e | e
    · exact h.cb k hc e
    · have := (h.ch.lt hc).2; omega
    · exact (hx k e).2.1 hc
  · rcases ofM_told1 hm hv with e2 | e2 | e2
    · exact (h.ca k e).2 e2
    · have := own_lt h.row e; omega
    · exact (hx k e2).2.2.2 e
theorem PlayS.told5 {w W W' : World} {c q n : Nat} {va x v' : Value} {l1 l2 : List (List UInt8)} {cs : List Value} {C : Nat → Prop} {F : Nat → Value} {HB HS : List Held} {SB SS SS' : Nat → List (List Value)} (h : PlayS w W c q n va l1 l2 cs C F HB SB HS SS) (hx : Loose W q va C F HB HS x)
    (hm : MBook W' w.heap.size q (n + 1) (put F 5 v') HB SB (HS ++ [(x, .slice none 0 0, n + 1)]) SS') (hv : ∀ k, v'.ownBlock = some k → (F 5).ownBlock = some k ∨ W.heap.size ≤ k) (hk : Keeps (fun i => i = q ∨ (F 5).ownBlock = some i) W W') : PlayS w W' c q (n + 1) va l1 l2 cs C (put F 5 v') HB SB (HS ++ [(x, .slice none 0 0, n + 1)]) SS' := by
  have hin : ∀ k, (k = q ∨ (F 5).ownBlock = some k) → OfM q F HB HS k := fun k e => by
    rcases e with e | e
    · exact .inl e
    · exact .inr (.inr (.inl e))
  refine ⟨h.below.trans (hk.below h.below.size (fun k hk => (h.bk.lt (hin k hk)).1)), h.ch.keep hk (fun k hc e => h.cb k hc (hin k e)), hm, hk.owns h.row (fun k e e2 => (h.ca k e).2 (hin k e2)), h.each, fun k hc hm => ?_, fun k e => ⟨(h.ca k e).1, fun hm => ?_⟩, Nat.le_succ_of_le h.hB, by rw [List.length_append, List.length_singleton]; have := h.hS; omega⟩
  · rcases ofM_told5 hm hv with e | e | e
    · exact h.cb k hc e
    · have := (h.ch.lt hc).2; omega
    · exact (hx k e).2.1 hc
  · rcases ofM_told5 hm hv with e2 | e2 | e2
    · exact (h.ca k e).2 e2
    · have := own_lt h.row e; omega
    · exact (hx k e2).2.2.2 e
theorem Loose.told1 {W W' : World} {q n : Nat} {va x y v' : Value} {C : Nat → Prop} {F : Nat → Value} {HB HS : List Held} (h : Loose W q va C F HB HS y) (hv : ∀ k, v'.ownBlock = some k → (F 1).ownBlock = some k ∨ W.heap.size ≤ k) (hne : ∀ k, y.ownBlock = some k → x.ownBlock ≠ some k) (hs : W.heap.size ≤ W'.heap.size) : Loose W' q va C (put F 1 v') (HB ++ [(x, .slice none 0 0, n + 1)]) HS y := fun k hk => ⟨Nat.lt_of_lt_of_le (h k hk).1 hs, (h k hk).2.1, fun hm => by
  rcases ofM_told1 hm hv with e | e | e
  · exact (h k hk).2.2.1 e
  · have := (h k hk).1; omega
  · exact hne k hk e, (h k hk).2.2.2⟩
theorem Loose.told5 {W W' : World} {q n : Nat} {va x y v' : Value} {C : Nat → Prop} {F : Nat → Value} {HB HS : List Held} (h : Loose W q va C F HB HS y) (hv : ∀ k, v'.ownBlock = some k → (F 5).ownBlock = some k ∨ W.heap.size ≤ k) (hne : ∀ k, y.ownBlock = some k → x.ownBlock ≠ some k) (hs : W.heap.size ≤ W'.heap.size) : Loose W' q va C (put F 5 v') HB (HS ++ [(x, .slice none 0 0, n + 1)]) y := fun k hk => ⟨Nat.lt_of_lt_of_le (h k hk).1 hs, (h k hk).2.1, fun hm => by
  rcases ofM_told5 hm hv with e | e | e
  · exact (h k hk).2.2.1 e
  · have := (h k hk).1; omega
  · exact hne k hk e, (h k hk).2.2.2⟩
/-- The list of all, read. -/
theorem PlayS.all {w W : World} {c q n : Nat} {va : Value} {l1 l2 : List (List UInt8)} {cs : List Value} {C : Nat → Prop} {F : Nat → Value} {HB HS : List Held} {SB SS : Nat → List (List Value)} (h : PlayS w W c q n va l1 l2 cs C F HB SB HS SS) : ListsAt W va l2 := lists_own h.row h.each h.below
/-- What is told of a chain that is played. -/
structure Play (w W : World) (c q n : Nat) (va : Value) (l1 l2 : List (List UInt8)) : Prop where
  ex : ∃ cs C F HB SB HS SS, PlayS w W c q n va l1 l2 cs C F HB SB HS SS
end Go.Proofs.YtdkcndgehgmadaaGreatDoor
-- Plain: the sum of bytes as the document defines it is the one that the program's text computes: words, times, a block. No program in sight.
open Go Go.RowKit
namespace Alm
theorem u32_ext {x y : UInt32} (h : ∀ i, i < 32 → x.toBitVec.getLsbD i = y.toBitVec.getLsbD i) : x = y := by
  apply UInt32.toBitVec_inj.1
  exact BitVec.eq_of_getLsbD_eq fun i hi => h i hi
theorem ch_eq (e f g : UInt32) : (e &&& f) ||| (~~~e &&& g) = (e &&& (f ^^^ g)) ^^^ g := by
  apply u32_ext
  intro i hi
  simp only [UInt32.toBitVec_or, UInt32.toBitVec_and, UInt32.toBitVec_xor, UInt32.toBitVec_not, BitVec.getLsbD_or, BitVec.getLsbD_and, BitVec.getLsbD_xor, BitVec.getLsbD_not, hi, decide_true, Bool.true_and]
  cases e.toBitVec.getLsbD i <;> cases f.toBitVec.getLsbD i <;> cases g.toBitVec.getLsbD i <;> rfl
theorem maj_eq (a b c : UInt32) : (a &&& b) ||| (a &&& c) ||| (b &&& c) = (a &&& (b ||| c)) ||| (b &&& c) := by
  apply u32_ext
  intro i hi
  simp only [UInt32.toBitVec_or, UInt32.toBitVec_and, BitVec.getLsbD_or, BitVec.getLsbD_and]
  cases a.toBitVec.getLsbD i <;> cases b.toBitVec.getLsbD i <;> cases c.toBitVec.getLsbD i <;> rfl
theorem or_comm32 (x y : UInt32) : x ||| y = y ||| x := by
  apply u32_ext
  intro i hi
  simp only [UInt32.toBitVec_or, BitVec.getLsbD_or]
  exact Bool.or_comm _ _
/-- A byte more at a number's end. -/
theorem shl_or (x : UInt32) (c : UInt8) : (x <<< 8) ||| c.toUInt32 = 256 * x + c.toUInt32 := by
  apply UInt32.toNat_inj.1
  have hc : c.toNat < 256 := c.toNat_lt
  rw [UInt32.toNat_or, UInt32.toNat_shiftLeft, UInt32.toNat_add, UInt32.toNat_mul]
  have e1 : c.toUInt32.toNat = c.toNat := by simp
  have e2 : x.toNat <<< ((8 : UInt32).toNat % 32) % 2 ^ 32 = (x.toNat % 2 ^ 24) <<< 8 := by
    rw [show (8 : UInt32).toNat % 32 = 8 from rfl, Nat.shiftLeft_eq, Nat.shiftLeft_eq]
    omega
  rw [e1, e2, ← Nat.shiftLeft_add_eq_or_of_lt (by omega : c.toNat < 2 ^ 8), Nat.shiftLeft_eq, show (256 : UInt32).toNat = 256 from rfl]
  omega
/-- The number of four bytes. -/
def word4 (b : List UInt8) (t : Nat) : Nat → UInt32
  | 0 => 0
  | i + 1 => 256 * word4 b t i + (b.getD (4 * t + i) 0).toUInt32
/-- The sixty-four numbers, so many of them reckoned. -/
def rws (b : List UInt8) : Nat → List UInt32
  | 0 => List.replicate 64 0
  | t + 1 => (rws b t).set t (if t < 16 then word4 b t 4 else (rws b t).getD (t - 16) 0 + (rws b t).getD (t - 7) 0 + two ((rws b t).getD (t - 15) 0) 7 18 3 + two ((rws b t).getD (t - 2) 0) 17 19 10)
theorem length_rws (b : List UInt8) (t : Nat) : (rws b t).length = 64 := by
  induction t with
  | zero => simp [rws]
  | succ t ih => rw [rws, List.length_set, ih]
theorem getD_set {l : List UInt32} {i j : Nat} {x : UInt32} (hi : i < l.length) : (l.set i x).getD j 0 = if i = j then x else l.getD j 0 := by
  by_cases h : i = j
  · subst h; simp [List.getD_eq_getElem?_getD, hi]
  · simp [List.getD_eq_getElem?_getD, h]
theorem rws_get (b : List UInt8) {t : Nat} : ∀ {n : Nat}, t < n → n ≤ 64 → (rws b n).getD t 0 = (rws b (t + 1)).getD t 0
  | 0, h, _ => by omega
  | n + 1, h, hn => by
    by_cases e : t = n
    · subst e; rfl
    · rw [rws, getD_set (by rw [length_rws]; omega), if_neg (by omega)]
      exact rws_get b (by omega) (by omega)
theorem rws_at (b : List UInt8) {t : Nat} (h : t < 64) : (rws b 64).getD t 0 = if t < 16 then word4 b t 4 else (rws b 64).getD (t - 16) 0 + (rws b 64).getD (t - 7) 0 + two ((rws b 64).getD (t - 15) 0) 7 18 3 + two ((rws b 64).getD (t - 2) 0) 17 19 10 := by
  rw [rws_get b h (Nat.le_refl _), rws, getD_set (by rw [length_rws]; omega), if_pos rfl]
  by_cases h16 : t < 16
  · rw [if_pos h16, if_pos h16]
  · rw [if_neg h16, if_neg h16]
    have e : ∀ j, 1 ≤ j → j ≤ 16 → (rws b t).getD (t - j) 0 = (rws b 64).getD (t - j) 0 := fun j h1 h2 => by
      rw [rws_get b (show t - j < t by omega) (by omega), rws_get b (show t - j < 64 by omega) (Nat.le_refl _)]
    rw [e 16 (by omega) (by omega), e 7 (by omega) (by omega), e 15 (by omega) (by omega), e 2 (by omega) (by omega)]
/-- The words of a block, by their bytes. -/
theorem words_get (b : List UInt8) : ∀ (i : Nat), i ≤ 64 → ∀ t, t < 16 → (words b i).getD t 0 = if i ≤ 4 * t then 0 else word4 b t (min (i - 4 * t) 4)
  | 0, _, t, ht => by
    rw [if_pos (by omega)]
    simp only [words]
    rw [List.getD_eq_getElem?_getD, List.getElem?_replicate, if_pos (by omega)]
    rfl
  | i + 1, hi, t, ht => by
    have ih := fun u hu => words_get b i (by omega) u hu
    rw [words, getD_set (by rw [length_words]; omega)]
    by_cases e : i / 4 = t
    · rw [if_pos e, if_neg (by omega), e, shl_or, ih t ht]
      have hmin : min (i + 1 - 4 * t) 4 = (i - 4 * t) + 1 := by omega
      rw [hmin, word4]
      have e2 : 4 * t + (i - 4 * t) = i := by omega
      rw [e2]
      by_cases h0 : i ≤ 4 * t
      · rw [if_pos h0, show i - 4 * t = 0 by omega]; rfl
      · rw [if_neg h0, show min (i - 4 * t) 4 = i - 4 * t by omega]
    · rw [if_neg e, ih t ht]
      by_cases h0 : i ≤ 4 * t
      · rw [if_pos h0, if_pos (by omega)]
      · rw [if_neg h0, if_neg (by omega), show min (i + 1 - 4 * t) 4 = min (i - 4 * t) 4 by omega]
theorem words_all (b : List UInt8) {t : Nat} (ht : t < 16) : (words b 64).getD t 0 = word4 b t 4 := by
  rw [words_get b 64 (Nat.le_refl _) t ht, if_neg (by omega), show min (64 - 4 * t) 4 = 4 by omega]
/-- One time, as it is written down. -/
def radds (k w : UInt32) (n : List UInt32) : UInt32 := n.getD 7 0 + k + w + three (n.getD 4 0) 6 11 25 + ((n.getD 4 0 &&& n.getD 5 0) ||| (~~~(n.getD 4 0) &&& n.getD 6 0))
def rmore (n : List UInt32) : UInt32 := three (n.getD 0 0) 2 13 22 + ((n.getD 0 0 &&& n.getD 1 0) ||| (n.getD 0 0 &&& n.getD 2 0) ||| (n.getD 1 0 &&& n.getD 2 0))
def rtime (k w : UInt32) (n : List UInt32) : List UInt32 := [radds k w n + rmore n, n.getD 0 0, n.getD 1 0, n.getD 2 0, n.getD 3 0 + radds k w n, n.getD 4 0, n.getD 5 0, n.getD 6 0]
def rtimes (s : List UInt32) (b : List UInt8) : Nat → List UInt32
  | 0 => s
  | t + 1 => rtime (table.getD t 0) ((rws b 64).getD t 0) (rtimes s b t)
theorem length_rtimes (s : List UInt32) (b : List UInt8) (hs : s.length = 8) (t : Nat) : (rtimes s b t).length = 8 := by
  cases t with
  | zero => exact hs
  | succ t => rfl
def rtook (s : List UInt32) (b : List UInt8) : List UInt32 := (List.range 8).map fun i => s.getD i 0 + (rtimes s b 64).getD i 0
/-- Where in the ring of sixteen a number lies. -/
def ring (t j : Nat) : Nat := if t ≤ 16 then j else t - 16 + (j + 16 - t % 16) % 16
theorem add4 (a b c d : UInt32) : c + (a + d + b) = c + d + a + b := by ac_rfl
theorem add3 (a b c : UInt32) : a + b + c = a + (b + c) := by ac_rfl
theorem ring_a (t : Nat) (h : ¬ t < 16) : ring (t + 1) (t % 16) = t := by unfold ring; split <;> omega
theorem ring_b (t : Nat) (h : ¬ t < 16) : ring t (t % 16) = t - 16 := by unfold ring; split <;> omega
theorem ring_c (t : Nat) (h : ¬ t < 16) : ring t ((t + 1) % 16) = t - 15 := by unfold ring; split <;> omega
theorem ring_d (t : Nat) (h : ¬ t < 16) : ring t ((t + 9) % 16) = t - 7 := by unfold ring; split <;> omega
theorem ring_e (t : Nat) (h : ¬ t < 16) : ring t ((t + 14) % 16) = t - 2 := by unfold ring; split <;> omega
theorem ring_f (t j : Nat) (h : ¬ t < 16) (hj : j < 16) (e : ¬ t % 16 = j) : ring t j = ring (t + 1) j := by unfold ring; split <;> split <;> omega
theorem ring_g (t : Nat) : ring (t + 1) (t % 16) = t := by unfold ring; split <;> omega
theorem ring_inv (s : List UInt32) (b : List UInt8) (hs : s.length = 8) : ∀ t, t ≤ 64 → ∀ j, j < 16 → (times s b t).2.getD j 0 = (rws b 64).getD (ring t j) 0
  | 0, _, j, hj => by
    have e0 : ring 0 j = j := if_pos (by omega)
    have e1 := rws_at b (t := j) (by omega)
    rw [if_pos hj] at e1
    simp only [times]
    rw [e0, e1, words_all b hj]
  | t + 1, ht, j, hj => by
    have ih := fun u hu => ring_inv s b hs t (by omega) u hu
    have hl := (length_times s b hs t).2
    simp only [times]
    unfold sched
    by_cases h16 : t < 16
    · rw [if_pos h16, ih j hj]
      rw [show ring t j = j from if_pos (by omega), show ring (t + 1) j = j from if_pos (by omega)]
    · rw [if_neg h16, getD_set (by rw [hl]; omega)]
      by_cases e : t % 16 = j
      · rw [if_pos e, ← e, ring_a t h16, rws_at b (by omega), if_neg h16]
        rw [ih (t % 16) (by omega), ih ((t + 1) % 16) (by omega), ih ((t + 9) % 16) (by omega), ih ((t + 14) % 16) (by omega)]
        rw [ring_b t h16, ring_c t h16, ring_d t h16, ring_e t h16]
        generalize two ((rws b 64).getD (t - 15) 0) 7 18 3 = x1
        generalize two ((rws b 64).getD (t - 2) 0) 17 19 10 = x2
        generalize (rws b 64).getD (t - 16) 0 = x3
        generalize (rws b 64).getD (t - 7) 0 = x4
        exact add4 x1 x2 x3 x4
      · rw [if_neg e, ih j hj, ring_f t j h16 hj e]
/-- What the ring holds when a time begins is that time's number. -/
theorem ring_now (s : List UInt32) (b : List UInt8) (hs : s.length = 8) (t : Nat) (ht : t < 64) : (sched t (times s b t).2).getD (t % 16) 0 = (rws b 64).getD t 0 := by
  have := ring_inv s b hs (t + 1) (by omega) (t % 16) (by omega)
  simp only [times] at this
  rw [this, ring_g]
theorem turn_inv (s : List UInt32) (b : List UInt8) (hs : s.length = 8) : ∀ t, t ≤ 64 → ∀ k, k < 8 → (times s b t).1.getD (turn8 k t) 0 = (rtimes s b t).getD k 0
  | 0, _, k, hk => by rw [show turn8 k 0 = k by unfold turn8; omega]; rfl
  | t + 1, ht, k, hk => by
    have ih := fun u hu => turn_inv s b hs t (by omega) u hu
    have hl := (length_times s b hs t).1
    have hnow := ring_now s b hs t (by omega)
    have hadds : adds t (table.getD t 0) (times s b t).1 (sched t (times s b t).2) = radds (table.getD t 0) ((rws b 64).getD t 0) (rtimes s b t) := by
      unfold adds radds
      rw [ih 7 (by omega), ih 4 (by omega), ih 5 (by omega), ih 6 (by omega), hnow, ch_eq]
    simp only [times]
    unfold time
    rw [hadds, ih 3 (by omega), ih 0 (by omega), ih 1 (by omega), ih 2 (by omega)]
    have l1 : turn8 7 t < ((times s b t).1.set (turn8 3 t) ((rtimes s b t).getD 3 0 + radds (table.getD t 0) ((rws b 64).getD t 0) (rtimes s b t))).length := by rw [List.length_set, hl]; exact turn8_lt _ _
    rw [getD_set l1, getD_set (by rw [hl]; exact turn8_lt _ _)]
    by_cases h0 : k = 0
    · subst h0
      rw [if_pos (by unfold turn8; omega)]
      show _ = radds _ _ _ + rmore _
      unfold rmore
      rw [maj_eq]
      exact add3 _ _ _
    · rw [if_neg (by unfold turn8; omega)]
      by_cases h4 : k = 4
      · subst h4
        rw [if_pos (by unfold turn8; omega)]
        rfl
      · rw [if_neg (by unfold turn8; omega), show turn8 k (t + 1) = turn8 (k - 1) t by unfold turn8; omega, ih (k - 1) (by omega)]
        match k, hk, h0, h4 with
        | 1, _, _, _ => rfl
        | 2, _, _, _ => rfl
        | 3, _, _, _ => rfl
        | 5, _, _, _ => rfl
        | 6, _, _, _ => rfl
        | 7, _, _, _ => rfl
theorem sums8_get (s v : List UInt32) : ∀ n, n ≤ s.length → ∀ i, i < s.length → (sums8 s v n).getD i 0 = if i < n then s.getD i 0 + v.getD i 0 else s.getD i 0
  | 0, _, i, _ => by rw [if_neg (by omega)]; rfl
  | n + 1, hn, i, hi => by
    have ih := fun u hu => sums8_get s v n (by omega) u hu
    rw [sums8, getD_set (by rw [length_sums8]; omega)]
    by_cases e : n = i
    · subst e; rw [if_pos rfl, if_pos (by omega), ih n hi, if_neg (by omega)]
    · rw [if_neg e, ih i hi]
      by_cases h : i < n
      · rw [if_pos h, if_pos (by omega)]
      · rw [if_neg h, if_neg (by omega)]
/-- A block, taken as it is written down. -/
theorem rtook_eq (s : List UInt32) (b : List UInt8) (hs : s.length = 8) : rtook s b = took s b := by
  apply List.ext_getElem
  · rw [length_took, hs]; simp [rtook]
  · intro i h1 h2
    have hi : i < 8 := by simpa [rtook] using h1
    have e : (took s b)[i] = (took s b).getD i 0 := by simp [List.getD_eq_getElem?_getD, h2]
    rw [e]
    unfold took
    rw [sums8_get s _ 8 (by omega) i (by omega), if_pos hi]
    have := turn_inv s b hs 64 (Nat.le_refl _) i hi
    rw [show turn8 i 64 = i by unfold turn8; omega] at this
    rw [this]
    simp [rtook]
end Alm
-- Plain: the sum of bytes as the document defines it: what stands behind the bytes, block by block. No program in sight.
open Go Go.RowKit
namespace Alm
/-- What stands behind so many bytes. -/
def rend (n : Nat) : List UInt8 := 128 :: (List.replicate ((120 - (n + 1) % 64) % 64) 0 ++ be8 (n * 8))
def rfull (l : List UInt8) : List UInt8 := l ++ rend l.length
theorem length_be8 (m : Nat) : (be8 m).length = 8 := by simp [be8]
theorem length_rend (n : Nat) : (rend n).length = (120 - (n + 1) % 64) % 64 + 9 := by simp [rend, length_be8]
theorem length_rfull (l : List UInt8) : (rfull l).length % 64 = 0 := by
  rw [rfull, List.length_append, length_rend]; omega
/-- So many blocks of bytes, taken. -/
def rblocks (s : List UInt32) (all : List UInt8) : Nat → List UInt32
  | 0 => s
  | k + 1 => rtook (rblocks s all k) ((all.drop (64 * k)).take 64)
theorem length_rblocks (s : List UInt32) (all : List UInt8) (hs : s.length = 8) (k : Nat) : (rblocks s all k).length = 8 := by
  cases k with
  | zero => exact hs
  | succ k => simp [rblocks, rtook]
theorem splice_whole {α : Type} (L c : List α) (h : L.length = c.length) : splice L 0 c = c := by
  simp [splice, ← h]
theorem run_blocks (all : List UInt8) : ∀ k, 64 * k ≤ all.length → (putAll run0 (all.take (64 * k))).s = rblocks begin8 all k ∧ (putAll run0 (all.take (64 * k))).many = 64 * k
  | 0, _ => by simp [putAll, run0, rblocks]
  | k + 1, h => by
    obtain ⟨ih1, ih2⟩ := run_blocks all k (by omega)
    have hok := putAll_ok (all.take (64 * k)) run0_ok
    have hc : ((all.drop (64 * k)).take 64).length = 64 := by rw [List.length_take, List.length_drop]; omega
    rw [show 64 * (k + 1) = 64 * k + 64 by omega, List.take_add, putAll_append]
    generalize putAll run0 (all.take (64 * k)) = r at *
    rw [putAll_chunk _ r hok (by intro h0; rw [h0] at hc; cases hc) (by rw [ih2, hc]; omega), if_pos (by rw [ih2, hc]; omega)]
    refine ⟨?_, by rw [ih2, hc]⟩
    show Alm.took r.s _ = rtook _ _
    rw [ih2, show 64 * k % 64 = 0 by omega, splice_whole _ _ (by rw [hok.2, hc]), ih1, rtook_eq _ _ (by rw [← ih1]; exact hok.1)]
/-- The sum of bytes, block by block. -/
theorem sha_blocks (l : List UInt8) (k : Nat) (hk : (rfull l).length = 64 * k) : sha l = sumBytes (told32 (rblocks begin8 (rfull l) k) 32) (length_told32 _ _) := by
  have h1 : (finish (putAll run0 l)).s = rblocks begin8 (rfull l) k := by
    have hm : (putAll run0 l).many = l.length := by rw [putAll_many]; exact Nat.zero_add _
    have e : finish (putAll run0 l) = putAll run0 (rfull l) := by
      unfold finish
      rw [hm, ← putAll_append, ← putAll_append, ← putAll_append]
      congr 1
      try simp [rfull, rend]
    rw [e, ← (run_blocks (rfull l) k (by omega)).1, ← hk, List.take_length]
  unfold sha sumOf
  simp only [h1]
end Alm
