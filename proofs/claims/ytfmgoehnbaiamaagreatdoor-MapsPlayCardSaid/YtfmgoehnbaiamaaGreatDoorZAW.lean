/-
  Joined: R3, R4.
-/
import Derived.Test.YtfmgoehnbaiamaaGreatDoorZAH
import Derived.Test.YtfmgoehnbaiamaaGreatDoorZAM
import Derived.Test.YtfmgoehnbaiamaaGreatDoorZAL
import Derived.Test.YtfmgoehnbaiamaaGreatDoorZAS
import Derived.Test.YtfmgoehnbaiamaaGreatDoorZAK
-- Walks: the document's sum: r, digit, added, Begin.
open Go Go.RowKit Alm
namespace Go.Proofs.YtfmgoehnbaiamaaGreatDoor
set_option maxHeartbeats 400000 in
theorem refr_any (x : UInt32) (n : Nat) (w : World) (h0 : 1 ≤ n) (h1 : n ≤ 31) :
    Calls Tryz.prog 178 #[.int .u32 (uv x), .int .i64 (n : Int)] w fun e w' => e = .returned (.int .u32 (uv (rotr x n))) ∧ w = w' := by
  obtain ⟨m, hm⟩ : ∃ m, m = 32 - n := ⟨_, rfl⟩
  have hr : uv (rotr x n) = uv ((x >>> UInt32.ofNat n) ||| (x <<< UInt32.ofNat m)) := by rw [hm, or_comm32]; rfl
  have hm2 : m ≤ 31 := by omega
  have s1 := uv_shl x m (by omega)
  have s2 := uv_shr x n (by omega)
  have hsub : (32 : Int) - (n : Int) = (m : Int) := by omega
  have n0 : (n : Int) ≤ 31 := by omega
  have m0 : (m : Int) ≤ 31 := by omega
  have o1 := uv_or (x >>> UInt32.ofNat n) (x <<< UInt32.ofNat m)
  rw [hr]; clear hr hm
  go_enter Tryz.func178, Tryz.ntmps178
  go_wp2_with fail
  exact bodyPost_ret (results_tmp rfl _ _ _) rfl ⟨rfl, rfl⟩
theorem uv_mul (x : UInt32) : IntKind.u32.wrap (16 * uv x) = uv (16 * x) := by
  unfold uv; rw [IntKind.wrap_u32, UInt32.toNat_mul]
  rw [show (16 : UInt32).toNat = 16 from rfl]; omega
/-- A digit to the base 16. -/
def dig (c : UInt8) : UInt32 := if 97 ≤ c.toNat then (c - 97).toUInt32 + 10 else (c - 48).toUInt32
theorem u8_sub (c d : UInt8) : IntKind.u8.wrap ((c.toNat : Int) - (d.toNat : Int)) = (((c - d).toNat : Nat) : Int) := by
  have h1 := c.toNat_lt
  have h2 := d.toNat_lt
  rw [UInt8.toNat_sub]
  simp only [IntKind.wrap, IntKind.bits, IntKind.signed]
  simp only [Bool.false_and, Bool.false_eq_true, if_false]
  omega
theorem digit_any (c : UInt8) (w : World) : Calls Tryz.prog 188 #[.int .u8 ((c.toNat : Nat) : Int)] w fun e w' => e = .returned (.int .u32 (uv (dig c))) ∧ w = w' := by
  have hc := c.toNat_lt
  have s1 := u8_sub c 97
  have s2 := u8_sub c 48
  rw [show ((97 : UInt8).toNat : Int) = 97 from rfl] at s1
  rw [show ((48 : UInt8).toNat : Int) = 48 from rfl] at s2
  have t1 := (c - 97).toNat_lt
  have t2 := (c - 48).toNat_lt
  have a1 := uv_add (c - 97).toUInt32 10
  rw [show uv 10 = 10 from rfl, ← uv_byte] at a1
  by_cases h : 97 ≤ c.toNat
  · have hd : uv (dig c) = uv ((c - 97).toUInt32 + 10) := by unfold dig; rw [if_pos h]
    rw [← hd] at a1
    have h' : (97 : Int) ≤ (c.toNat : Int) := by omega
    generalize (c - 97).toNat = p at *
    generalize uv (dig c) = q at *
    clear h hd s2 t2
    go_enter Tryz.func188, Tryz.ntmps188
    go_wp2_with fail
    exact bodyPost_ret (results_tmp rfl _ _ _) rfl ⟨rfl, rfl⟩
  · have hd : uv (dig c) = (((c - 48).toNat : Nat) : Int) := by unfold dig; rw [if_neg h, ← uv_byte]
    rw [hd]
    have h' : ¬ (97 : Int) ≤ (c.toNat : Int) := by omega
    generalize (c - 48).toNat = p at *
    clear h hd s1 t1 a1
    go_enter Tryz.func188, Tryz.ntmps188
    go_wp2_with fail
    exact bodyPost_ret (results_tmp rfl _ _ _) rfl ⟨rfl, rfl⟩
theorem infoEight : (Tryz.prog.info? 201).map (·.size) = some 8 := by kernel_rfl
set_option maxHeartbeats 400000 in
theorem refbegin_any (w : World) : Calls Tryz.prog 157 #[] w fun e w' => e = .returned (.agg (cells32 begin8).toArray) ∧ Below w.heap.size w w' := by
  go_enter Tryz.func157, Tryz.ntmps157
  go_wp2_with fail
  exact bodyPost_ret (results_mid Tryz.results157 _ _ w.heap.size 0 (cells32 begin8) _ rfl (range_new _ _ _ _ rfl) Tryz.underlying201 rfl infoEight) rfl ⟨rfl, (Below.refl _ _).alloc (Nat.le_refl _) _⟩
/-- What each time adds, to the base 16. -/
def hexs : List UInt8 := [52, 50, 56, 97, 50, 102, 57, 56, 55, 49, 51, 55, 52, 52, 57, 49, 98, 53, 99, 48, 102, 98, 99, 102, 101, 57, 98, 53, 100, 98, 97, 53, 51, 57, 53, 54, 99, 50, 53, 98, 53, 57, 102, 49, 49, 49, 102, 49, 57, 50, 51, 102, 56, 50, 97, 52, 97, 98, 49, 99, 53, 101, 100, 53, 100, 56, 48, 55, 97, 97, 57, 56, 49, 50, 56, 51, 53, 98, 48, 49, 50, 52, 51, 49, 56, 53, 98, 101, 53, 53, 48, 99, 55, 100, 99, 51, 55, 50, 98, 101, 53, 100, 55, 52, 56, 48, 100, 101, 98, 49, 102, 101, 57, 98, 100, 99, 48, 54, 97, 55, 99, 49, 57, 98, 102, 49, 55, 52, 101, 52, 57, 98, 54, 57, 99, 49, 101, 102, 98, 101, 52, 55, 56, 54, 48, 102, 99, 49, 57, 100, 99, 54, 50, 52, 48, 99, 97, 49, 99, 99, 50, 100, 101, 57, 50, 99, 54, 102, 52, 97, 55, 52, 56, 52, 97, 97, 53, 99, 98, 48, 97, 57, 100, 99, 55, 54, 102, 57, 56, 56, 100, 97, 57, 56, 51, 101, 53, 49, 53, 50, 97, 56, 51, 49, 99, 54, 54, 100, 98, 48, 48, 51, 50, 55, 99, 56, 98, 102, 53, 57, 55, 102, 99, 55, 99, 54, 101, 48, 48, 98, 102, 51, 100, 53, 97, 55, 57, 49, 52, 55, 48, 54, 99, 97, 54, 51, 53, 49, 49, 52, 50, 57, 50, 57, 54, 55, 50, 55, 98, 55, 48, 97, 56, 53, 50, 101, 49, 98, 50, 49, 51, 56, 52, 100, 50, 99, 54, 100, 102, 99, 53, 51, 51, 56, 48, 100, 49, 51, 54, 53, 48, 97, 55, 51, 53, 52, 55, 54, 54, 97, 48, 97, 98, 98, 56, 49, 99, 50, 99, 57, 50, 101, 57, 50, 55, 50, 50, 99, 56, 53, 97, 50, 98, 102, 101, 56, 97, 49, 97, 56, 49, 97, 54, 54, 52, 98, 99, 50, 52, 98, 56, 98, 55, 48, 99, 55, 54, 99, 53, 49, 97, 51, 100, 49, 57, 50, 101, 56, 49, 57, 100, 54, 57, 57, 48, 54, 50, 52, 102, 52, 48, 101, 51, 53, 56, 53, 49, 48, 54, 97, 97, 48, 55, 48, 49, 57, 97, 52, 99, 49, 49, 54, 49, 101, 51, 55, 54, 99, 48, 56, 50, 55, 52, 56, 55, 55, 52, 99, 51, 52, 98, 48, 98, 99, 98, 53, 51, 57, 49, 99, 48, 99, 98, 51, 52, 101, 100, 56, 97, 97, 52, 97, 53, 98, 57, 99, 99, 97, 52, 102, 54, 56, 50, 101, 54, 102, 102, 51, 55, 52, 56, 102, 56, 50, 101, 101, 55, 56, 97, 53, 54, 51, 54, 102, 56, 52, 99, 56, 55, 56, 49, 52, 56, 99, 99, 55, 48, 50, 48, 56, 57, 48, 98, 101, 102, 102, 102, 97, 97, 52, 53, 48, 54, 99, 101, 98, 98, 101, 102, 57, 97, 51, 102, 55, 99, 54, 55, 49, 55, 56, 102, 50]
/-- So many of a time's digits. -/
def hexN (t : Nat) : Nat → UInt32
  | 0 => 0
  | j + 1 => 16 * hexN t j + dig (hexs.getD (8 * t + j) 0)
theorem hexN_table : ∀ t : Fin 64, hexN t.val 8 = table.getD t.val 0 := by decide +kernel
theorem hexs_length : hexs.length = 512 := by decide +kernel
theorem wpList_index_str {ops : Array Oper} {rest : List Oper} {op : Oper} {a : Act} {w : World} {Q : Exit → Act → World → Prop} (hgd : op.guard = none) (x y : Operand) (ho : op.op = .index 9 x y)
    (s : ByteArray) (hx : a.eval x = .string s) (k : Nat) (hy : a.eval y = .int .i64 (k : Int)) (c : UInt8) (hk : s.data[k]? = some c) (h : wpList Tryz.prog ops Q rest (a.put op.dst (.int .u8 ((c.toNat : Nat) : Int))) w) : wpList Tryz.prog ops Q (op :: rest) a w :=
  wpList_plain hgd fun K hK => by
    have hks : k < s.size := (Array.getElem?_eq_some_iff.1 hk).1
    have hr := run_index_string (P := Tryz.prog) w 9 s .i64 (k : Int) Tryz.underlying9
    rw [dif_pos ⟨by omega, by omega⟩] at hr
    have hc : s[(k : Int).toNat]'(by omega) = c := (Array.getElem?_eq_some_iff.1 hk).2
    unfold Oper.wp execOp
    simp only [ho, hx, hy, Sem.run_bind, Sem.run_pure, Result.andThen_ok, hr, hc]
    exact hK _ _ h
def hexB : ByteArray := ⟨hexs.toArray⟩
theorem hexB_get {k : Nat} (h : k < 512) : hexB.data[k]? = some (hexs.getD k 0) := by
  show hexs.toArray[k]? = _
  rw [List.getElem?_toArray, List.getD_eq_getElem?_getD, List.getElem?_eq_getElem (by rw [hexs_length]; exact h)]
  rfl
set_option maxRecDepth 100000 in
set_option maxHeartbeats 1000000 in
theorem added_any (t : Nat) (w : World) (ht : t < 64) : Calls Tryz.prog 179 #[.int .i64 (t : Int)] w fun e w' => e = .returned (.int .u32 (uv (table.getD t 0))) ∧ w = w' := by
  have hT := hexN_table ⟨t, ht⟩
  simp only at hT
  rw [← hT]
  obtain ⟨b, hb⟩ : ∃ b, b = 8 * t := ⟨_, rfl⟩
  obtain ⟨e, he⟩ : ∃ e, e = b + 8 := ⟨_, rfl⟩
  have ht' : (t : Int) < 64 := by omega
  have hb1 : 8 * (t : Int) = (b : Int) := by omega
  have he1 : (b : Int) + 8 = (e : Int) := by omega
  have he2 : (e : Int) ≤ 512 := by omega
  have hb2 : (b : Int) ≤ 504 := by omega
  have HB := Lib.hid (And.intro hb (And.intro he ht))
  clear hT hb he ht
  go_enter Tryz.func179, Tryz.ntmps179
  go_wp2_with fail
  go_loopw [3, 4] (fun n i W => ∃ j k : Nat, j ≤ 8 ∧ k = b + j ∧ n = .int .u32 (uv (hexN t j)) ∧ i = .int .i64 (k : Int) ∧ W = w) (fun _ i _ => e - (intOf i).toNat)
  case atStart => exact ⟨0, b, by omega, by omega, rfl, rfl, rfl⟩
  case round =>
    obtain ⟨j, k, hj, hk, rfl, rfl, rfl⟩ := hrel
    by_cases hlt : k < e
    · have hlt' : (k : Int) < (e : Int) := by omega
      have k0 : (0 : Int) ≤ (k : Int) := by omega
      have k1 : (k : Int) < 512 := by omega
      have hst : hexN t (j + 1) = 16 * hexN t j + dig (hexs.getD k 0) := by rw [hexN, hk, HB.out.1]
      have HG := Lib.hid (hexB_get (k := k) (by omega))
      have HJ := Lib.hid (show j < 8 ∧ k = b + j from ⟨by have := HB.out.2.1; omega, hk⟩)
      clear hk hj
      generalize hexs.getD k 0 = c at *
      have m1 := uv_mul (hexN t j)
      have a1 := uv_add (16 * hexN t j) (dig c)
      generalize hexN t j = x at *
      have HST := Lib.hid hst; clear hst
      go_wp2_with (refine wpList_index_str rfl _ _ rfl hexB rfl k rfl c HG.out ?_)
      refine (digit_any c _).mono ?_
      rintro e w1 ⟨rfl, rfl⟩
      go_wp2_with fail
      refine ⟨⟨j + 1, k + 1, by have := HJ.out.1; omega, by have := HJ.out.2; omega, by rw [HST.out], by simp, by trivial⟩, by simp [intOf]; omega⟩
    · obtain rfl : j = 8 := by have := HB.out.2.1; omega
      have hlt' : ¬ (k : Int) < (e : Int) := by omega
      clear hlt hk hj
      go_wp2_with fail
      exact bodyPost_ret (results_tmp rfl _ _ _) rfl ⟨rfl, rfl⟩
end Go.Proofs.YtfmgoehnbaiamaaGreatDoor
-- Walks: the document's sum: what Take has in hand.
namespace Go.Proofs.YtfmgoehnbaiamaaGreatDoor
noncomputable def takeCode : Code := (Tryz.f158.body).getD .skip
theorem rws_zero (b : List UInt8) : ∀ (n k : Nat), n ≤ k → (rws b n).getD k 0 = 0
  | 0, k, _ => by
    simp only [rws]
    rw [List.getD_eq_getElem?_getD, List.getElem?_replicate]
    split <;> rfl
  | n + 1, k, h => by
    rw [rws]
    by_cases hn : n < 64
    · rw [getD_set (by rw [length_rws]; exact hn), if_neg (by omega)]; exact rws_zero b n k (by omega)
    · rw [List.set_eq_of_length_le (by rw [length_rws]; omega)]; exact rws_zero b n k (by omega)
theorem set_same {l : List UInt32} {k : Nat} (h : l.getD k 0 = 0) : l.set k 0 = l := by
  apply List.ext_getElem?
  intro i
  by_cases e : k = i
  · subst e
    by_cases hk : k < l.length
    · rw [List.getElem?_set_self hk]
      rw [List.getD_eq_getElem?_getD, List.getElem?_eq_getElem hk] at h
      rw [List.getElem?_eq_getElem hk, ← h]; rfl
    · rw [List.getElem?_eq_none (by rw [List.length_set]; omega), List.getElem?_eq_none (by omega)]
  · rw [List.getElem?_set_ne e]
theorem uv_mul256 (x : UInt32) : IntKind.u32.wrap (256 * uv x) = uv (256 * x) := by
  unfold uv; rw [IntKind.wrap_u32, UInt32.toNat_mul]
  rw [show (256 : UInt32).toNat = 256 from rfl]; omega
theorem refr_7 (x : UInt32) (w : World) : Calls Tryz.prog 178 #[.int .u32 (uv x), .int .i64 7] w fun e w' => e = .returned (.int .u32 (uv (rotr x 7))) ∧ w = w' := refr_any x 7 w (by decide) (by decide)
theorem refr_18 (x : UInt32) (w : World) : Calls Tryz.prog 178 #[.int .u32 (uv x), .int .i64 18] w fun e w' => e = .returned (.int .u32 (uv (rotr x 18))) ∧ w = w' := refr_any x 18 w (by decide) (by decide)
theorem refr_17 (x : UInt32) (w : World) : Calls Tryz.prog 178 #[.int .u32 (uv x), .int .i64 17] w fun e w' => e = .returned (.int .u32 (uv (rotr x 17))) ∧ w = w' := refr_any x 17 w (by decide) (by decide)
theorem refr_19 (x : UInt32) (w : World) : Calls Tryz.prog 178 #[.int .u32 (uv x), .int .i64 19] w fun e w' => e = .returned (.int .u32 (uv (rotr x 19))) ∧ w = w' := refr_any x 19 w (by decide) (by decide)
theorem refr_6 (x : UInt32) (w : World) : Calls Tryz.prog 178 #[.int .u32 (uv x), .int .i64 6] w fun e w' => e = .returned (.int .u32 (uv (rotr x 6))) ∧ w = w' := refr_any x 6 w (by decide) (by decide)
theorem refr_11 (x : UInt32) (w : World) : Calls Tryz.prog 178 #[.int .u32 (uv x), .int .i64 11] w fun e w' => e = .returned (.int .u32 (uv (rotr x 11))) ∧ w = w' := refr_any x 11 w (by decide) (by decide)
theorem refr_25 (x : UInt32) (w : World) : Calls Tryz.prog 178 #[.int .u32 (uv x), .int .i64 25] w fun e w' => e = .returned (.int .u32 (uv (rotr x 25))) ∧ w = w' := refr_any x 25 w (by decide) (by decide)
theorem refr_2 (x : UInt32) (w : World) : Calls Tryz.prog 178 #[.int .u32 (uv x), .int .i64 2] w fun e w' => e = .returned (.int .u32 (uv (rotr x 2))) ∧ w = w' := refr_any x 2 w (by decide) (by decide)
theorem refr_13 (x : UInt32) (w : World) : Calls Tryz.prog 178 #[.int .u32 (uv x), .int .i64 13] w fun e w' => e = .returned (.int .u32 (uv (rotr x 13))) ∧ w = w' := refr_any x 13 w (by decide) (by decide)
theorem refr_22 (x : UInt32) (w : World) : Calls Tryz.prog 178 #[.int .u32 (uv x), .int .i64 22] w fun e w' => e = .returned (.int .u32 (uv (rotr x 22))) ∧ w = w' := refr_any x 22 w (by decide) (by decide)
theorem Row32.drew {W : World} {b : Nat} {t : TypeId} {l : List UInt32} (h : Row32 W b t l) : Row32 W.drew b t l := h
theorem bytes_cell {w : World} {g o n cap : Nat} {l : List UInt8} (h : BytesAt w (.slice (some ⟨g, o, none⟩) n cap) l) {i : Nat} (hi : i < l.length) : w.cell? ⟨g, o + i, none⟩ = some (.int .u8 (((l.getD i 0).toNat : Nat) : Int)) := by
  obtain ⟨a, c, hv, _, _, h3⟩ := h
  have h0 : l ≠ [] := by intro h0; rw [h0] at hi; simp at hi
  obtain ⟨b', o', ha, hr⟩ := h3.resolve_left h0
  simp only [Value.slice.injEq] at hv
  rw [ha] at hv
  simp only [Option.some.injEq, Addr.mk.injEq, and_true] at hv
  obtain ⟨⟨rfl, rfl⟩, _⟩ := hv
  refine hr i _ ?_
  simp [cells8, u8v, hi]
/-- What Take has in hand. -/
structure TK (w W : World) (Sb Rb Wb : Nat) (s : List UInt32) (l : List UInt32) : Prop where
  below : Below w.heap.size w W
  s : Row32 W Sb 201 s
  r : Row32 W Rb 201 (List.replicate 8 0)
  l : Row32 W Wb 220 l
  o : w.heap.size ≤ Sb ∧ w.heap.size ≤ Rb ∧ w.heap.size ≤ Wb ∧ Sb ≠ Wb ∧ Rb ≠ Wb ∧ Sb ≠ Rb
theorem TK.drew {w W : World} {Sb Rb Wb : Nat} {s l : List UInt32} (h : TK w W Sb Rb Wb s l) : TK w W.drew Sb Rb Wb s l := ⟨h.below.drew, h.s, h.r, h.l, h.o⟩
theorem TK.set {w W : World} {Sb Rb Wb : Nat} {s l : List UInt32} (h : TK w W Sb Rb Wb s l) (i : Nat) (x : UInt32) : TK w (W.setCell ⟨Wb, i, none⟩ (.int .u32 (uv x))) Sb Rb Wb s (l.set i x) :=
  ⟨h.below.setCell (by simp; exact h.o.2.2.1) _, h.s.other _ _ h.o.2.2.2.1, h.r.other _ _ h.o.2.2.2.2.1, h.l.set i x, h.o⟩
end Go.Proofs.YtfmgoehnbaiamaaGreatDoor
