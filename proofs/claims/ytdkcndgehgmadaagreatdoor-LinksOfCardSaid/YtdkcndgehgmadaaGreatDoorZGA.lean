/-
  Joined: G1, G2, G3, G4, G5.
-/
import Derived.Test.YtdkcndgehgmadaaGreatDoorZFA
import Derived.LaidEql
import Derived.Stop.Asserts
import Derived.RowKitTokens
-- Walks: the two cuts; slices.Reverse of sums.
open Go Go.RowKit Alm
namespace Go.Proofs.YtdkcndgehgmadaaGreatDoor
theorem keeps_setCells_ (b : Nat) : ∀ (vs : List Value) (o : Nat) (w : World), Keeps (· = b) w (w.setCells b o vs)
  | [], _, _ => Keeps.refl _ _
  | v :: r, o, w => by
    rw [World.setCells]
    exact ((Keeps.refl (· = b) w).setCell (p := ⟨b, o, none⟩) (.inl rfl) v).trans (keeps_setCells_ b r (o + 1) _)
/-- A store into a list of sums. -/
theorem range_set {w : World} {b o : Nat} {t : List Sum} {i : Nat} (s : Sum) (hr : w.rangeAt b o (cellsAll t)) (ht : w.there b o (32 * t.length)) (hi : i < t.length) : (w.setCells b (o + i * 32) (cellsOf s)).rangeAt b o (cellsAll (t.set i s)) := by
  have hl : cellsAll (t.set i s) = cellsAll (t.take i) ++ (cellsOf s ++ cellsAll (t.drop (i + 1))) := by
    rw [List.set_eq_take_append_cons_drop, if_pos hi, cellsAll_append, cellsAll_cons]
  rw [cellsAll_split hi, range_append, range_append, length_cellsAll, List.length_take, Nat.min_eq_left (by omega), length_cellsOf] at hr
  rw [hl, range_append, range_append, length_cellsAll, List.length_take, Nat.min_eq_left (by omega), length_cellsOf]
  have e : o + 32 * i = o + i * 32 := by omega
  refine ⟨?_, ?_, ?_⟩
  · exact World.rangeAt_setCells_apart hr.1 _ _ _ (by right; left; rw [length_cellsAll, List.length_take]; omega)
  · rw [e]
    exact World.rangeAt_setCells_same w b _ _ (fun j hj => by
      rw [length_cellsOf] at hj
      have := ht (i * 32 + j) (by omega)
      rwa [show o + (i * 32 + j) = o + i * 32 + j from by omega] at this)
  · exact World.rangeAt_setCells_apart hr.2.2 _ _ _ (by right; right; rw [length_cellsOf]; omega)
theorem linksCut_any (n : Nat) (w : World) (h2 : 2 ≤ n) (hn : n < 4000000000) : Calls Tryz.prog 105 #[.int .u64 (n : Int)] w fun e w' => e = .returned (.int .u64 (cut n : Int)) ∧ w = w' := by
  obtain ⟨q, hq⟩ : ∃ q, q = (n - 1).log2 := ⟨_, rfl⟩
  have hE : (((n : Int) - 1).toNat).log2 = q := by rw [hq]; congr 1; omega
  have q62 : q < 32 := by
    rw [hq]
    exact (Nat.log2_lt (by omega)).2 (by omega)
  have q62' : (q : Int) < 32 := by omega
  have q0 : (0 : Int) ≤ (q : Int) := by omega
  have m1 : 1 ≤ (n : Int) - 1 := by omega
  have m2 : (n : Int) - 1 ≤ 18446744073709551615 := by omega
  have hk : cut n = 2 ^ q := by rw [hq]; rfl
  have hkl : cut n < n := cut_lt h2
  obtain ⟨k, hkd⟩ : ∃ k, k = cut n := ⟨_, rfl⟩
  rw [← hkd] at hk hkl ⊢
  have HE := Lib.hid hE; clear hE hq
  have M2 := Lib.hid m2; clear m2
  have HK := Lib.hid hk; clear hk hkd
  go_enter Tryz.func105, Tryz.ntmps105
  go_wp2_with (go_at_call 151; refine (len64_pos _ _ m1 M2.out).mono ?_; rw [HE.out]; rintro e w1 ⟨rfl, rfl⟩)
  have pw : IntKind.u64.wrap ((2 : Int) ^ q) = (k : Int) := by
    have h1 : (2 : Int) ^ q = (k : Int) := by rw [HK.out]; push_cast; rfl
    rw [h1]
    simp only [IntKind.wrap, IntKind.bits, IntKind.signed, Bool.false_and, Bool.false_eq_true, if_false]
    omega
  exact bodyPost_ret (results_tmp rfl _ _ _) rfl ⟨by rw [← pw]; rfl, rfl⟩
theorem pathsCut_any (n : Nat) (w : World) (h2 : 2 ≤ n) (hn : n < 18446744073709551616) : Calls Tryz.prog 61 #[.int .u64 (n : Int)] w fun e w' => e = .returned (.int .u64 (cut n : Int)) ∧ w = w' := by
  obtain ⟨q, hq⟩ : ∃ q, q = (n - 1).log2 := ⟨_, rfl⟩
  have hE : (((n : Int) - 1).toNat).log2 = q := by rw [hq]; congr 1; omega
  have q62 : q < 64 := by
    rw [hq]
    exact (Nat.log2_lt (by omega)).2 (by omega)
  have q62' : (q : Int) < 64 := by omega
  have q0 : (0 : Int) ≤ (q : Int) := by omega
  have m1 : 1 ≤ (n : Int) - 1 := by omega
  have m2 : (n : Int) - 1 ≤ 18446744073709551615 := by omega
  have hk : cut n = 2 ^ q := by rw [hq]; rfl
  have hkl : cut n < n := cut_lt h2
  obtain ⟨k, hkd⟩ : ∃ k, k = cut n := ⟨_, rfl⟩
  rw [← hkd] at hk hkl ⊢
  have HE := Lib.hid hE; clear hE hq
  have M2 := Lib.hid m2; clear m2
  have HK := Lib.hid hk; clear hk hkd
  go_enter Tryz.func61, Tryz.ntmps61
  go_wp2_with (go_at_call 151; refine (len64_pos _ _ m1 M2.out).mono ?_; rw [HE.out]; rintro e w1 ⟨rfl, rfl⟩)
  have pw : IntKind.u64.wrap ((2 : Int) ^ q) = (k : Int) := by
    have h1 : (2 : Int) ^ q = (k : Int) := by rw [HK.out]; push_cast; rfl
    rw [h1]
    simp only [IntKind.wrap, IntKind.bits, IntKind.signed, Bool.false_and, Bool.false_eq_true, if_false]
    omega
  exact bodyPost_ret (results_tmp rfl _ _ _) rfl ⟨by rw [← pw]; rfl, rfl⟩
/-- After i swaps. -/
def swapped (l : List Sum) (i : Nat) (t : List Sum) : Prop := t.length = l.length ∧ ∀ k, k < l.length → t[k]? = if k < i ∨ l.length - i ≤ k then l[l.length - 1 - k]? else l[k]?
theorem swapped_zero (l : List Sum) : swapped l 0 l := ⟨rfl, fun k hk => by rw [if_neg (by omega)]⟩
theorem swapped_step {l t : List Sum} {i j : Nat} {x y : Sum} (h : swapped l i t) (hij : i < j) (hj : j = l.length - 1 - i) (hl : j < l.length) (hx : t[i]? = some x) (hy : t[j]? = some y) : swapped l (i + 1) ((t.set i y).set j x) := by
  refine ⟨by simp [h.1], fun k hk => ?_⟩
  have h2 := h.2 k hk
  have hi2 := h.2 i (by omega)
  have hj2 := h.2 j (by omega)
  rw [if_neg (by omega), hx] at hi2
  rw [if_neg (by omega), hy] at hj2
  have ht := h.1
  by_cases hkj : k = j
  · subst hkj
    rw [if_pos (by omega), List.getElem?_set_self (by simp [ht]; omega), hi2]
    congr 1; omega
  · by_cases hki : k = i
    · subst hki
      rw [if_pos (by omega), List.getElem?_set_ne (by omega), List.getElem?_set_self (by omega), hj2]
      congr 1
    · rw [List.getElem?_set_ne (by omega), List.getElem?_set_ne (by omega), h2]
      by_cases hc : k < i ∨ l.length - i ≤ k
      · rw [if_pos hc, if_pos (by omega)]
      · rw [if_neg hc, if_neg (by omega)]
theorem swapped_end {l t : List Sum} {i : Nat} (h : swapped l i t) (hi : l.length ≤ 2 * i + 1) : t = l.reverse := by
  refine List.ext_getElem? fun k => ?_
  by_cases hk : k < l.length
  · rw [h.2 k hk, List.getElem?_reverse hk]
    by_cases hc : k < i ∨ l.length - i ≤ k
    · rw [if_pos hc]
    · rw [if_neg hc]; congr 1; omega
  · rw [List.getElem?_eq_none (by rw [h.1]; omega), List.getElem?_eq_none (by simp; omega)]
set_option maxRecDepth 100000 in
set_option maxHeartbeats 1000000 in
theorem reverse_sums (w : World) (base : Nat) (v : Value) (l : List Sum) (h : SumsNew w base v l) (hl : l.length < 4000000000) : Calls Tryz.prog 63 #[v] w fun e w' => e = .returned (.tuple #[]) ∧ SumsNew w' base v l.reverse ∧ Keeps (fun k => v.ownBlock = some k) w w' := by
  rcases h with ⟨rfl, rfl⟩ | ⟨g, cap, rfl, h0, h1, h2, h3, h4, h5⟩
  · go_enter Tryz.func63, Tryz.ntmps63
    go_wp2_with fail
    refine wp_loop_once ?_
    go_wp2_with fail
    exact bodyPost_end (results_none rfl _ _ _) rfl ⟨rfl, .inl ⟨rfl, rfl⟩, Keeps.refl _ _⟩
  · obtain ⟨n, hn⟩ : ∃ n, n = l.length := ⟨_, rfl⟩
    rw [← hn] at h1 hl ⊢
    have HCAP := Lib.hid h1
    have HN := Lib.hid hn; clear hn
    have HR := Lib.hid h4; clear h4
    have HT := Lib.hid h5; clear h5
    have hn1 : (n : Int) < 4000000000 := by omega
    go_enter Tryz.func63, Tryz.ntmps63
    go_wp2_with fail
    go_loopw [2, 3] (fun a b W => ∃ (i : Nat) (z : Int) (t : List Sum), a = .int .i64 (i : Int) ∧ b = .int .i64 z ∧ z = (n : Int) - 1 - i ∧ i ≤ n ∧ swapped l i t ∧ W.rangeAt g 0 (cellsAll t) ∧ W.there g 0 (32 * cap) ∧ Keeps (· = g) w W) (fun a _ _ => n - (intOf a).toNat)
    case atStart => exact ⟨0, _, l, rfl, rfl, by omega, by omega, swapped_zero l, HR.out, HT.out, Keeps.refl _ _⟩
    case round =>
      clear HR HT
      obtain ⟨i, z, t, rfl, rfl, hz, hi, hs, hR, hT, hK⟩ := hrel
      have HS := Lib.hid hs; clear hs
      have HR := Lib.hid hR; clear hR
      have HT := Lib.hid hT; clear hT
      have HK := Lib.hid hK; clear hK
      by_cases hlt : (i : Int) < z
      · obtain ⟨j, hj⟩ : ∃ j : Nat, z = (j : Int) := ⟨z.toNat, by omega⟩
        subst hj
        have hij : i < j := by omega
        have hjn : j = n - 1 - i := by omega
        have HJ := Lib.hid hjn; clear hjn hz
        have htl : t.length = n := by rw [HS.out.1, HN.out]
        have hx := Lib.hid (range_at HR.out (i := i) (by have := HJ.out; omega))
        have hy := Lib.hid (range_at HR.out (i := j) (by have := HJ.out; omega))
        have hgx := Lib.hid (List.getElem?_eq_getElem (l := t) (i := i) (by have := HJ.out; omega))
        have hgy := Lib.hid (List.getElem?_eq_getElem (l := t) (i := j) (by have := HJ.out; omega))
        have HTL := Lib.hid htl
        generalize t[i]'_ = x at *
        generalize t[j]'_ = y at *
        rw [Nat.zero_add] at hx hy
        have hi0 : (0 : Int) ≤ (i : Int) := by omega
        have hin : (i : Int) < (n : Int) := by have := HJ.out; omega
        have hj0 : (0 : Int) ≤ (j : Int) := by omega
        have hjn : (j : Int) < (n : Int) := by have := HJ.out; omega
        clear htl
        go_wp2_with fail
        refine wp_region_sched (fun W => W.rangeAt g (j * 32) (cellsOf y)) [.t 0, .t 1, .t 2, .t 3, .t 4, .t 5, .t 6, .t 8, .t 9, .t 10, .s 7, .e 11 true, .t 12, .e 13 false, .t 14, .e 15 false] (by kernel_rfl) (by kernel_rfl) (by intro c a d v w h; cases d <;> exact h) ?_
        iterate 10
          refine wpS_t rfl (v := ?_) (by rfl) (fun W => ?_) ?_
          rotate_left
          · go_simp
            try rfl
          try simp only [Act.put, List.setIfInBounds_toArray, List.set_cons_zero, List.set_cons_succ]
        refine wpS_load_sum (by exact hy.out) rfl (by rfl) _ (by rfl) g (j * 32) (by rfl) y (fun W hW => hW) ?_
        try simp only [Act.put, List.setIfInBounds_toArray, List.set_cons_zero, List.set_cons_succ]
        refine wpS_k rfl (by rfl) (fun K hK => ?_)
        refine wp_load_sum _ (by rfl) g (i * 32) (by rfl) x (by exact hx.out) ?_
        refine hK _ _ ⟨by exact hy.out, ?_⟩; clear hK K
        try simp only [Act.put, List.setIfInBounds_toArray, List.set_cons_zero, List.set_cons_succ]
        iterate 1
          refine wpS_t rfl (v := ?_) (by rfl) (fun W => ?_) ?_
          rotate_left
          · go_simp
            try rfl
          try simp only [Act.put, List.setIfInBounds_toArray, List.set_cons_zero, List.set_cons_succ]
        refine wpS_e rfl (by rfl) (fun K hK => ?_)
        refine wp_store_sum _ _ (by rfl) g (i * 32) y (by rfl) (by rfl) (fun k hk => by have := HT.out (i * 32 + k) (by have := HJ.out; have := HCAP.out; omega); rwa [Nat.zero_add] at this) ?_
        refine hK _ _ ?_; clear hK K
        try simp only [Act.put]
        have HR1 := Lib.hid (range_set (i := i) (t := t) y (by exact HR.out : wr.drew.rangeAt g 0 (cellsAll t)) (by rw [HTL.out]; exact fun k hk => HT.out k (by have := HCAP.out; omega)) (by rw [HTL.out]; have := HJ.out; omega))
        have HT1 := Lib.hid (World.there_setCells (by exact HT.out : wr.drew.there g 0 (32 * cap)) g (i * 32) (cellsOf y))
        have HK1 := Lib.hid ((HK.out.drew).trans (keeps_setCells_ g (cellsOf y) (i * 32) wr.drew))
        rw [Nat.zero_add] at HR1
        generalize wr.drew.setCells g (i * 32) (cellsOf y) = w1 at *
        iterate 1
          refine wpS_t rfl (v := ?_) (by rfl) (fun W => ?_) ?_
          rotate_left
          · go_simp
            try rfl
          try simp only [Act.put, List.setIfInBounds_toArray, List.set_cons_zero, List.set_cons_succ]
        refine wpS_e rfl (by rfl) (fun K hK => ?_)
        refine wp_store_sum _ _ (by rfl) g (j * 32) x (by rfl) (by rfl) (fun k hk => by have := HT1.out (j * 32 + k) (by have := HJ.out; have := HCAP.out; omega); rwa [Nat.zero_add] at this) ?_
        refine hK _ _ ?_; clear hK K
        try simp only [Act.put]
        have HR2 := Lib.hid (range_set (i := j) (t := t.set i y) x HR1.out (by rw [List.length_set, HTL.out]; exact fun k hk => HT1.out k (by have := HCAP.out; omega)) (by rw [List.length_set, HTL.out]; have := HJ.out; omega))
        have HT2 := Lib.hid (World.there_setCells HT1.out g (j * 32) (cellsOf x))
        have HK2 := Lib.hid (HK1.out.trans (keeps_setCells_ g (cellsOf x) (j * 32) w1))
        rw [Nat.zero_add] at HR2
        generalize w1.setCells g (j * 32) (cellsOf x) = w2 at *
        have HS2 := Lib.hid (swapped_step HS.out hij (by rw [← HN.out]; exact HJ.out) (by rw [← HN.out]; have := HJ.out; omega) hgx.out hgy.out)
        clear HR HT HK HR1 HT1 HK1 HS hx hy hgx hgy
        refine wpS_done ?_
        go_wp2_with fail
        refine ⟨⟨i + 1, _, _, by simp, rfl, ?_, ?_, HS2.out, HR2.out, HT2.out, HK2.out⟩, by simp [intOf]; omega⟩
        · have := HJ.out; omega
        · omega
      · have hrev : t = l.reverse := swapped_end HS.out (by rw [← HN.out]; omega)
        have HRV := Lib.hid hrev; clear hrev hz
        have hlt' : decide ((i : Int) < z) = false := decide_eq_false hlt
        go_wp2_with fail
        refine bodyPost_end (results_none rfl _ _ _) rfl ⟨rfl, .inr ⟨g, cap, ?_, ?_, ?_, h2, h3, ?_, ?_⟩, HK.out.mono (fun k hk => by rw [hk]; rfl)⟩
        · rw [List.length_reverse, ← HN.out]
        · simpa using h0
        · rw [List.length_reverse, ← HN.out]; exact h1
        · rw [← HRV.out]; exact HR.out
        · exact HT.out
end Go.Proofs.YtdkcndgehgmadaaGreatDoor
-- Walks: links.Of.
open Go Go.RowKit Alm
namespace Go.Proofs.YtdkcndgehgmadaaGreatDoor
def lenOf : Value → Nat | .slice _ n _ => n | _ => 0
theorem link_end (l : List Sum) (e : Bool) : link nd e0 l l.length e = if e then [] else [rt l] := by
  rw [link, rt_eq]; simp
theorem link_left (l : List Sum) (m : Nat) (e : Bool) (h1 : 1 ≤ m) (h : m < l.length) (hk : m ≤ cut l.length) : link nd e0 l m e = link nd e0 (l.take (cut l.length)) m e ++ [rt (l.drop (cut l.length))] := by
  conv => lhs; rw [link]
  rw [dif_neg (by omega), dif_neg (by omega), rt_eq]; simp [hk]
theorem link_right (l : List Sum) (m : Nat) (e : Bool) (h1 : 1 ≤ m) (h : m < l.length) (hk : ¬ m ≤ cut l.length) : link nd e0 l m e = link nd e0 (l.drop (cut l.length)) (m - cut l.length) false ++ [rt (l.take (cut l.length))] := by
  conv => lhs; rw [link]
  rw [dif_neg (by omega), dif_neg (by omega), rt_eq]; simp [hk]
theorem wpList_build_sums {w : World} {ops : Array Oper} {rest : List Oper} {o : Oper} {a : Act} {Q : Exit → Act → World → Prop} (hgd : o.guard = none) (len : Nat) (parts : Array (Nat × Operand)) (ho : o.op = .buildSlice 22 len parts) (l : List Sum) (hl : l.length = len) (h0 : 0 < len) (h1 : len ≤ 1000)
    (hp : (parts.toList.map fun (i, x) => (i, a.eval x)) = (((l.map fun s => sv s)).zipIdx 0).map fun x => (x.2, x.1))
    (h : wpList Tryz.prog ops Q rest (a.put o.dst (.slice (some ⟨w.heap.size, 0, none⟩) len len)) (w.alloc (.cells (cellsAll l).toArray 24))) : wpList Tryz.prog ops Q (o :: rest) a w :=
  wpList_plain hgd fun _ hK => wp_build_sums len parts ho l hl h0 h1 hp (hK _ _ h)
/-- What links.Of comes to. -/
def LinkOf (w : World) (r : List Sum) (e : Ending) (w' : World) : Prop := ∃ v', e = .returned (.tuple #[v', .int .i64 0]) ∧ SumsNew w' w.heap.size v' r ∧ Below w.heap.size w w'
theorem sums_form {w : World} {v : Value} {l : List Sum} (h : SumsAt w v l) (h0 : l ≠ []) : ∃ b o cap, v = .slice (some ⟨b, o, none⟩) l.length cap ∧ l.length ≤ cap ∧ cap ≤ maxLen ∧ w.rangeAt b o (cellsAll l) := by
  obtain ⟨a, cap, rfl, h1, h2, h3⟩ := h
  obtain ⟨b, o, rfl, hr⟩ := h3.resolve_left h0
  exact ⟨b, o, cap, rfl, h1, h2, hr⟩
theorem own_at {w w1 : World} {base : Nat} {v : Value} {l : List Sum} (h : w.ownsRow base 24 32 v l.length (cellsAll l)) (hb : Below w.heap.size w w1) : w1.ownsRow base 24 32 v l.length (cellsAll l) :=
  (Keeps.of_below (X := fun _ => False) hb).owns h (fun _ _ h => h)
set_option maxRecDepth 100000 in
set_option maxHeartbeats 2000000 in
theorem linksOf_any (l : List Sum) (m0 : Nat) (v : Value) (w : World) (hv : SumsAt w v l) (hm1 : 1 ≤ m0) (hm2 : m0 ≤ l.length) (hl : l.length < 1000000) : Calls Tryz.prog 24 #[v, .int .i64 (m0 : Int)] w (LinkOf w (link nd e0 l m0 true)) := by
  have hl0 : l ≠ [] := by intro h; rw [h] at hm2; simp at hm2; omega
  obtain ⟨b0, o0, cap0, rfl, hc1, hc2, hr0⟩ := sums_form hv hl0
  have HV := Lib.hid hv; clear hv
  obtain ⟨n0, hn0⟩ : ∃ n, n = l.length := ⟨_, rfl⟩
  rw [← hn0] at hm2 hl HV hc1 ⊢
  have HN0 := Lib.hid hn0; clear hn0
  have k1 : decide ((m0 : Int) < 1) = false := decide_eq_false (by omega)
  have k2 : decide (n0 < m0) = false := decide_eq_false (by omega)
  have k3 : (m0 : Int) ≤ 1000000 := by omega
  unfold maxLen at hc2
  go_enter Tryz.func24, Tryz.ntmps24
  go_wp2_with fail
  go_loopw [0, 1, 4, 6] (fun lv fv kv ev W => ∃ (cur acc : List Sum) (m : Nat) (e : Bool), SumsAt w lv cur ∧ fv = .int .i64 (m : Int) ∧ ev = .bool e ∧ 1 ≤ m ∧ m ≤ cur.length ∧ cur.length + acc.length ≤ n0 ∧ W.ownsRow w.heap.size 24 32 kv acc.length (cellsAll acc) ∧ (acc = [] → kv = .slice none 0 0) ∧ Below w.heap.size w W ∧ link nd e0 l m0 true = link nd e0 cur m e ++ acc.reverse) (fun lv _ _ _ _ => lenOf lv)
  case atStart => exact ⟨l, [], m0, true, HV.out, rfl, rfl, hm1, by have := HN0.out; omega, by rw [← HN0.out]; simp, World.ownsRow_nil _ _ _ _, fun _ => rfl, Below.refl _ _, by simp⟩
  case round =>
    obtain ⟨cur, acc, m, e, hS, rfl, rfl, hm, hmc, hca, ho, hnil, hB, hlk⟩ := hrel
    have hcur : cur ≠ [] := by intro h; rw [h] at hmc; simp at hmc; omega
    obtain ⟨b, o, cap, rfl, hd1, hd2, hr⟩ := sums_form hS hcur
    obtain ⟨n, hn⟩ : ∃ n, n = cur.length := ⟨_, rfl⟩
    rw [← hn] at hmc hca hd1 hS ⊢
    have HN := Lib.hid hn; clear hn
    have HS := Lib.hid hS; clear hS
    have HR := Lib.hid hr; clear hr
    have HO := Lib.hid ho; clear ho
    have HNIL := Lib.hid hnil; clear hnil
    have HB := Lib.hid hB; clear hB
    have HLK := Lib.hid hlk; clear hlk
    unfold maxLen at hd2
    have hm0' : (0 : Int) ≤ (m : Int) := by omega
    have hnn : (n : Int) ≤ 1000000 := by omega
    by_cases hlt : m < n
    · have hlt' : (m : Int) < (n : Int) := by omega
      have hk1 := cut_lt (n := n) (by omega)
      have hk2 := cut_pos n
      obtain ⟨k, hk⟩ : ∃ k, k = cut n := ⟨_, rfl⟩
      rw [← hk] at hk1 hk2
      have HK := Lib.hid hk; clear hk
      have hk1' : (k : Int) < (n : Int) := by omega
      have hk2' : (0 : Int) ≤ (k : Int) := by omega
      have hkc : (k : Int) < (cap : Int) := by omega
      have hkc2 : (k : Int) ≤ (cap : Int) := by omega
      have hkn2 : (k : Int) ≤ (n : Int) := by omega
      have kc4 : ¬ (cap = k) := by omega
      have kc5 : ¬ (k = cap) := by omega
      go_wp2_with fail
      refine (linksCut_any n _ (by omega) (by omega)).mono ?_
      rw [← HK.out]
      rintro e1 w1 ⟨rfl, rfl⟩
      have HT : Hid (SumsAt w (.slice (some ⟨b, o, none⟩) k cap) (cur.take k)) := sums_take HR.out (by have := HN.out; omega) (by omega) (by unfold maxLen; omega)
      have HD : Hid (SumsAt w (.slice (some ⟨b, o + k * 32, none⟩) (n - k) (cap - k)) (cur.drop k)) := by
        have := sums_drop (k := k) (cap := cap - k) HR.out (by have := HN.out; omega) (by have := HN.out; omega) (by unfold maxLen; omega)
        rw [← HN.out] at this; exact this
      by_cases hmk : m ≤ k
      · have hmk' : (m : Int) ≤ (k : Int) := by omega
        go_wp2_with fail
        refine wp_region_sched (fun _ => True) [.t 0, .t 1, .t 2, .t 3, .t 7, .t 8, .t 9, .e 4 false, .e 5 false, .e 6 false, .t 10, .t 11] (by kernel_rfl) (by kernel_rfl) (by intro c a d v w h; cases d <;> exact h) ?_
        iterate 7
          refine wpS_t rfl (v := ?_) (by rfl) (fun W => ?_) ?_
          rotate_left
          · go_simp
            try rfl
          try simp only [Act.put, List.setIfInBounds_toArray, List.set_cons_zero, List.set_cons_succ]
        refine wpS_e rfl (by rfl) (fun K hK => ?_)
        go_simp
        refine (rt_any (cur.drop k) _ _ (by exact HD.out.below HB.out.drew (Nat.le_refl _))).mono ?_
        rintro e2 w2 ⟨rfl, hb2⟩
        have HB2 := Lib.hid (HB.out.drew.trans (hb2.mono HB.out.drew.size))
        have HO2 := Lib.hid (own_at (w := wr.drew) HO.out hb2)
        have hlk2 : link nd e0 l m0 true = link nd e0 (cur.take k) m e ++ (acc ++ [rt (cur.drop k)]).reverse := by
          rw [HLK.out, link_left cur m e hm (by rw [← HN.out]; exact hlt) (by rw [← HN.out, ← HK.out]; exact hmk), ← HN.out, ← HK.out]; simp
        generalize rt (cur.drop k) = x at *
        have HLK2 := Lib.hid hlk2
        clear hlk2 hb2 HB HO HLK
        refine hK _ _ ?_; clear hK K
        try simp only [Act.put, List.setIfInBounds_toArray, List.set_cons_zero, List.set_cons_succ]
        refine wpS_e rfl (by rfl) (fun K hK => ?_)
        refine wp_build_sums 1 _ (by rfl) [x] rfl (by omega) (by omega) (by rfl) ?_
        refine hK _ _ ?_; clear hK K
        try simp only [Act.put, List.setIfInBounds_toArray, List.set_cons_zero, List.set_cons_succ]
        have HB3 := Lib.hid (HB2.out.alloc HB2.out.size (.cells (cellsAll [x]).toArray 24))
        have HX3 : Hid ((w2.alloc (.cells (cellsAll [x]).toArray 24)).rangeAt w2.heap.size 0 (cellsAll [x])) := range_new w2 _ _ _ rfl
        refine wpS_e rfl (by rfl) (fun K hK => ?_)
        refine wp_append_sums _ _ (by rfl) w.heap.size _ acc [x] acc.length 1 rfl rfl (by rfl) (HO2.out.alloc _) w2.heap.size 0 1 (by rfl) HX3.out (by omega) (by omega) HB3.out.size ?_
        intro g4 c4 w4 ho4 hg4 hat4 hlt4
        refine hK _ _ ?_; clear hK K
        try simp only [Act.put, List.setIfInBounds_toArray, List.set_cons_zero, List.set_cons_succ]
        have HB4 := Lib.hid (HB3.out.grown hg4 HB3.out.size (fun k hk => (HO2.out.lt k hk).1))
        have HO4 := Lib.hid ho4
        clear ho4 hg4 hat4 hlt4 HB3 HX3
        iterate 2
          refine wpS_t rfl (v := ?_) (by rfl) (fun W => ?_) ?_
          rotate_left
          · go_simp
            try rfl
          try simp only [Act.put, List.setIfInBounds_toArray, List.set_cons_zero, List.set_cons_succ]
        refine wpS_done ?_
        go_wp2_with fail
        refine ⟨⟨cur.take k, acc ++ [x], m, e, HT.out, rfl, rfl, hm, ?_, ?_, ?_, ?_, HB4.out, HLK2.out⟩, ?_⟩
        · rw [List.length_take]; have := HN.out; omega
        · rw [List.length_take, List.length_append, List.length_singleton]; have := HN.out; omega
        · rw [List.length_append, List.length_singleton]; exact HO4.out
        · intro h; cases acc <;> cases h
        · simp [lenOf]; omega
      · have hmk' : ¬ (m : Int) ≤ (k : Int) := by omega
        go_wp2_with fail
        refine wp_region_sched (fun _ => True) [.t 0, .t 1, .t 2, .t 3, .t 7, .t 8, .t 9, .t 10, .t 11, .t 12, .e 4 false, .e 5 false, .e 6 false, .t 13, .t 14, .t 15, .t 16] (by kernel_rfl) (by kernel_rfl) (by intro c a d v w h; cases d <;> exact h) ?_
        iterate 9
          refine wpS_t rfl (v := ?_) (by rfl) (fun W => ?_) ?_
          rotate_left
          · go_simp
            try rfl
          try simp only [Act.put, List.setIfInBounds_toArray, List.set_cons_zero, List.set_cons_succ]
        have wmk : IntKind.i64.wrap ((m : Int) - (k : Int)) = ((m - k : Nat) : Int) := by rw [IntKind.wrap_i64]; omega
        iterate 1
          refine wpS_t rfl (v := ?_) (by rfl) (fun W => ?_) ?_
          rotate_left
          · go_simp
            try rfl
          try simp only [Act.put, List.setIfInBounds_toArray, List.set_cons_zero, List.set_cons_succ]
        refine wpS_e rfl (by rfl) (fun K hK => ?_)
        go_simp
        refine (rt_any (cur.take k) _ _ (by exact HT.out.below HB.out.drew (Nat.le_refl _))).mono ?_
        rintro e2 w2 ⟨rfl, hb2⟩
        have HB2 := Lib.hid (HB.out.drew.trans (hb2.mono HB.out.drew.size))
        have HO2 := Lib.hid (own_at (w := wr.drew) HO.out hb2)
        have hlk2 : link nd e0 l m0 true = link nd e0 (cur.drop k) (m - k) false ++ (acc ++ [rt (cur.take k)]).reverse := by
          rw [HLK.out, link_right cur m e hm (by rw [← HN.out]; exact hlt) (by rw [← HN.out, ← HK.out]; exact hmk), ← HN.out, ← HK.out]; simp
        generalize rt (cur.take k) = x at *
        have HLK2 := Lib.hid hlk2
        clear hlk2 hb2 HB HO HLK
        refine hK _ _ ?_; clear hK K
        try simp only [Act.put, List.setIfInBounds_toArray, List.set_cons_zero, List.set_cons_succ]
        refine wpS_e rfl (by rfl) (fun K hK => ?_)
        refine wp_build_sums 1 _ (by rfl) [x] rfl (by omega) (by omega) (by rfl) ?_
        refine hK _ _ ?_; clear hK K
        try simp only [Act.put, List.setIfInBounds_toArray, List.set_cons_zero, List.set_cons_succ]
        have HB3 := Lib.hid (HB2.out.alloc HB2.out.size (.cells (cellsAll [x]).toArray 24))
        have HX3 : Hid ((w2.alloc (.cells (cellsAll [x]).toArray 24)).rangeAt w2.heap.size 0 (cellsAll [x])) := range_new w2 _ _ _ rfl
        refine wpS_e rfl (by rfl) (fun K hK => ?_)
        refine wp_append_sums _ _ (by rfl) w.heap.size _ acc [x] acc.length 1 rfl rfl (by rfl) (HO2.out.alloc _) w2.heap.size 0 1 (by rfl) HX3.out (by omega) (by omega) HB3.out.size ?_
        intro g4 c4 w4 ho4 hg4 hat4 hlt4
        refine hK _ _ ?_; clear hK K
        try simp only [Act.put, List.setIfInBounds_toArray, List.set_cons_zero, List.set_cons_succ]
        have HB4 := Lib.hid (HB3.out.grown hg4 HB3.out.size (fun k hk => (HO2.out.lt k hk).1))
        have HO4 := Lib.hid ho4
        clear ho4 hg4 hat4 hlt4 HB3 HX3
        iterate 4
          refine wpS_t rfl (v := ?_) (by rfl) (fun W => ?_) ?_
          rotate_left
          · go_simp
            try rfl
          try simp only [Act.put, List.setIfInBounds_toArray, List.set_cons_zero, List.set_cons_succ]
        refine wpS_done ?_
        go_wp2_with fail
        refine ⟨⟨cur.drop k, acc ++ [x], m - k, false, HD.out, by congr 1, rfl, by omega, ?_, ?_, ?_, ?_, HB4.out, HLK2.out⟩, ?_⟩
        · rw [List.length_drop]; have := HN.out; omega
        · rw [List.length_drop, List.length_append, List.length_singleton]; have := HN.out; omega
        · rw [List.length_append, List.length_singleton]; exact HO4.out
        · intro h; cases acc <;> cases h
        · simp [lenOf]; omega
    · have hmn : m = n := by omega
      subst hmn
      have hend : link nd e0 cur m e = if e then [] else [rt cur] := by have := link_end cur e; rw [← HN.out] at this; exact this
      rw [hend] at HLK
      clear hend
      cases e
      · have hl2 : link nd e0 l m0 true = (acc ++ [rt cur]).reverse := by rw [HLK.out]; simp
        have HL2 := Lib.hid hl2
        clear HLK hl2
        go_wp2_with fail
        refine (rt_any cur _ _ (by exact HS.out.below HB.out (Nat.le_refl _))).mono ?_
        rintro e2 w2 ⟨rfl, hb2⟩
        have HB2 := Lib.hid (HB.out.trans (hb2.mono HB.out.size))
        have HO2 := Lib.hid (own_at HO.out hb2)
        generalize rt cur = x at *
        clear hb2 HB HO
        have HB3 := Lib.hid (HB2.out.alloc HB2.out.size (.cells (cellsAll [x]).toArray 24))
        have HX3 : Hid ((w2.alloc (.cells (cellsAll [x]).toArray 24)).rangeAt w2.heap.size 0 (cellsAll [x])) := range_new w2 _ _ _ rfl
        go_wp2_with (first
          | (refine wpList_build_sums rfl 1 _ rfl [x] rfl (by omega) (by omega) rfl ?_)
          | (at_builtin; refine wpList_append_sums rfl _ _ rfl w.heap.size _ acc [x] acc.length 1 rfl rfl (by rfl) (HO2.out.alloc _) w2.heap.size 0 1 rfl HX3.out (by omega) (by omega) HB3.out.size ?_; intro g4 c4 w4 ho4 hg4 hat4 hlt4))
        have HB4 := Lib.hid (HB3.out.grown hg4 HB3.out.size (fun k hk => (HO2.out.lt k hk).1))
        have hS4 : SumsNew w4 w.heap.size (.slice (some ⟨g4, 0, none⟩) (acc.length + 1) c4) (acc ++ [x]) := own_new (by rw [List.length_append, List.length_singleton]; exact ho4) (by simp)
        have HS4 := Lib.hid hS4
        clear ho4 hg4 hat4 hlt4 HB3 HX3 hS4
        have hlt4 : (acc ++ [x]).length < 4000000000 := by rw [List.length_append, List.length_singleton]; omega
        refine (reverse_sums _ w.heap.size _ (acc ++ [x]) HS4.out hlt4).mono ?_
        rintro e5 w5 ⟨rfl, hs5, hk5⟩
        have HB5 := Lib.hid (HB4.out.trans (hk5.below HB4.out.size (fun k hk => HS4.out.own k hk)))
        rw [← HL2.out] at hs5
        clear hk5 hlt4 HS4
        go_wp2_with fail
        refine (clip_sums _ _ _ _ hs5).mono ?_
        rintro e6 w6 ⟨v6, rfl, hs6, rfl⟩
        have HS6 := Lib.hid hs6
        clear hs5 hs6
        go_wp2_with fail
        refine bodyPost_ret (results_tmp2 rfl _ _ _) rfl ?_
        exact ⟨_, rfl, HS6.out, HB5.out⟩
      · have hl2 : link nd e0 l m0 true = acc.reverse := by rw [HLK.out]; simp
        have HL2 := Lib.hid hl2
        have HB4 := HB
        have HS4 := Lib.hid (own_new' HO.out HNIL.out)
        clear HLK hl2 HB HO
        go_wp2_with fail
        have hlt4 : (acc).length < 4000000000 := by omega
        refine (reverse_sums _ w.heap.size _ (acc) HS4.out hlt4).mono ?_
        rintro e5 w5 ⟨rfl, hs5, hk5⟩
        have HB5 := Lib.hid (HB4.out.trans (hk5.below HB4.out.size (fun k hk => HS4.out.own k hk)))
        rw [← HL2.out] at hs5
        clear hk5 hlt4 HS4
        go_wp2_with fail
        refine (clip_sums _ _ _ _ hs5).mono ?_
        rintro e6 w6 ⟨v6, rfl, hs6, rfl⟩
        have HS6 := Lib.hid hs6
        clear hs5 hs6
        go_wp2_with fail
        refine bodyPost_ret (results_tmp2 rfl _ _ _) rfl ?_
        exact ⟨_, rfl, HS6.out, HB5.out⟩
end Go.Proofs.YtdkcndgehgmadaaGreatDoor
-- Walks: links.Check's 'next'.
open Go Go.RowKit Alm
namespace Go.Proofs.YtdkcndgehgmadaaGreatDoor
theorem results_cell_tmp {P : Program} {fn : Func} {p q : Tmp} {ty : TypeId} (h : fn.results = #[.cell p ty, .tmp q]) (tmps : Array Value) (w : World) (b o : Nat) (cs : List Value) (d : TypeDesc)
    (hp : tmps.getD p undef = .pointer (some ⟨b, o, none⟩)) (hc : w.rangeAt b o cs) (hu : P.underlying ty = some d) (hd : d.isRow = true) (hi : (P.info? ty).map (·.size) = some cs.length) :
    (results fn tmps).run P w = .ok (.tuple #[.agg cs.toArray, tmps.getD q undef]) w := by
  have hp' : tmps[p]?.getD undef = .pointer (some ⟨b, o, none⟩) := by simpa using hp
  simp [results, h, hp', asAddr, run_loadVar_mid w b o ty cs d hc hu hd hi]
/-- The list that is left, in a variable. -/
def LeftAt (B : Nat) (w : World) (c : Nat) (l : List Sum) : Prop := ∃ v, w.heap[c]? = some (.cells #[v] 22 (0, 0)) ∧ SumsAt w v l ∧ (l ≠ [] → ∀ k, v.ownBlock = some k → k ≠ c ∧ k < B)
theorem LeftAt.keep {X : Nat → Prop} {B : Nat} {w w' : World} {c : Nat} {l : List Sum} (h : LeftAt B w c l) (hk : Keeps X w w') (hc : ¬ X c) (hv : ∀ k, X k → k ≠ c → B ≤ k) : LeftAt B w' c l := by
  obtain ⟨v, h1, h2, h3⟩ := h
  refine ⟨v, hk.heap h1 hc, ?_, h3⟩
  by_cases hl : l = []
  · subst hl
    obtain ⟨a, cap, h4, h5, h6, _⟩ := h2
    exact ⟨a, cap, h4, h5, h6, .inl rfl⟩
  · exact hk.sums h2 (fun k hk hx => by have := hv k hx (h3 hl k hk).1; have := (h3 hl k hk).2; omega)
theorem LeftAt.below {B : Nat} {w w' : World} {c : Nat} {l : List Sum} (h : LeftAt B w c l) (hb : Below w.heap.size w w') : LeftAt B w' c l :=
  h.keep (X := fun _ => False) (.of_below hb) (fun h => h) (fun _ h => h.elim)
theorem LeftAt.lt {B : Nat} {w : World} {c : Nat} {l : List Sum} (h : LeftAt B w c l) : c < w.heap.size := by
  obtain ⟨v, h1, _⟩ := h
  exact (Array.getElem?_eq_some_iff.1 h1).1
/-- What next comes to. -/
def NextOf (B : Nat) (w : World) (c : Nat) (l : List Sum) (e : Ending) (w' : World) : Prop :=
  match l with
  | [] => e = .returned (.tuple #[sv zeroSum, .iface 29 (.int .i64 5)]) ∧ Below w.heap.size w w'
  | s :: r => e = .returned (.tuple #[sv s, .nilIface]) ∧ LeftAt B w' c r ∧ Keeps (· = c) w w'
set_option maxRecDepth 100000 in
set_option maxHeartbeats 1000000 in
theorem next_any (B : Nat) (w : World) (c : Nat) (l : List Sum) (h : LeftAt B w c l) : Calls Tryz.prog 107 #[.pointer (some ⟨c, 0, none⟩)] w (NextOf B w c l) := by
  have hc := h.lt
  obtain ⟨v, h1, h2, h3⟩ := h
  have h0 : w.cell? ⟨c, 0, none⟩ = some v := by rw [cell_of_row w c _ _ _ (0, 0) h1]; rfl
  have R0 : Res w 32 (w.alloc (.cells (cells8 (List.replicate 32 0)).toArray 24)) := Res.start _ _ _ _ (by rfl)
  cases l with
  | nil =>
    obtain ⟨a, cap, rfl, _, _, _⟩ := h2
    have hz : (w.alloc (.cells (cells8 (List.replicate 32 0)).toArray 24)).rangeAt w.heap.size 0 (cellsOf zeroSum) := range_new w _ _ _ (by rw [cellsOf_zeroSum])
    have hfin : NextOf B w c [] (.returned (.tuple #[sv zeroSum, .iface 29 (.int .i64 5)])) ((w.alloc (.cells (cells8 (List.replicate 32 0)).toArray 24)).setCells w.heap.size 0 (cellsOf zeroSum)) := ⟨rfl, (R0.store _).below⟩
    have HF := Lib.hid hfin; clear hfin
    have HZ := Lib.hid hz; clear hz
    clear h1 h3
    go_enter Tryz.func107, Tryz.ntmps107
    go_wp2_with (first
      | (refine wpList_load_sum rfl _ rfl w.heap.size 0 rfl zeroSum HZ.out ?_)
      | (refine wpList_store_sum rfl _ _ rfl w.heap.size 0 zeroSum rfl rfl R0.there ?_))
    exact bodyPost_ret (results_cell_tmp Tryz.results107 _ _ w.heap.size 0 (cellsOf zeroSum) _ rfl (range_stored _ _ _ _ (by rw [length_cellsOf]; exact World.there_setCells R0.there _ _ _)) Tryz.underlying24 rfl (by rw [length_cellsOf]; exact infoSum)) rfl HF.out
  | cons s r =>
    obtain ⟨b, o, cap, rfl, hc1, hc2, hr⟩ := sums_form h2 (by simp)
    have hbc : b ≠ c := (h3 (by simp) b rfl).1
    have HBB := Lib.hid (h3 (by simp) b rfl).2
    have hs := range_at hr (i := 0) (by simp)
    rw [Nat.zero_mul, Nat.add_zero] at hs
    have hs : w.rangeAt b o (cellsOf s) := hs
    have hrr := range_drop hr 1 (by simp)
    rw [Nat.one_mul] at hrr
    have hrr : w.rangeAt b (o + 32) (cellsAll r) := hrr
    have hb : b < w.heap.size := range_lt hs (by intro h; have := length_cellsOf s; rw [h] at this; cases this)
    simp only [List.length_cons] at hc1 h0 h1 ⊢
    obtain ⟨n, hn⟩ : ∃ n, n = r.length := ⟨_, rfl⟩
    rw [← hn] at hc1 h0 h1
    have HN := Lib.hid hn; clear hn
    have HH := Lib.hid h1; clear h1
    have HS := Lib.hid hs; clear hs hr h2 h3
    have HRR := Lib.hid hrr; clear hrr
    unfold maxLen at hc2
    have n1 : (1 : Int) ≤ (n : Int) + 1 := by omega
    have n2 : (n : Int) + 1 ≤ (cap : Int) := by omega
    have n3 : (1 : Int) ≤ (cap : Int) := by omega
    have hne : ((n : Int) + 1 == 0) = false := by rw [beq_eq_false_iff_ne]; omega
    have hpos : (0 : Int) < (n : Int) + 1 := by omega
    go_enter Tryz.func107, Tryz.ntmps107
    go_wp2_with fail
    have hb0 : Below w.heap.size w (w.alloc (.cells (cells8 (List.replicate 32 0)).toArray 24)).drew := R0.drew.below
    have ht0 : (w.alloc (.cells (cells8 (List.replicate 32 0)).toArray 24)).drew.there w.heap.size 0 32 := R0.drew.there
    refine wp_region_sched (fun W => W.cell? ⟨c, 0, none⟩ = some (.slice (some ⟨b, o, none⟩) (n + 1) cap) ∧ W.rangeAt b o (cellsOf s)) [.s 0, .t 1, .s 2, .s 3, .t 4, .e 5 true, .e 6 false] (by kernel_rfl) (by kernel_rfl) (by intro c a d v w h; cases d <;> exact h) ?_
    change wpS _ _ _ _ _ _ _ (w.alloc (.cells (cells8 (List.replicate 32 0)).toArray 24)).drew
    generalize (w.alloc (.cells (cells8 (List.replicate 32 0)).toArray 24)).drew = W0 at *
    have HB0 := Lib.hid hb0; clear hb0 R0
    have HT0 := Lib.hid ht0; clear ht0
    have HC0 := Lib.hid ((HB0.out.cell (p := ⟨c, 0, none⟩) hc).trans h0)
    have HS0 := Lib.hid (range_below HB0.out HS.out hb)
    refine wpS_s (by exact ⟨HC0.out, HS0.out⟩) rfl (v := ?_) (by rfl) (fun W hSW => ?_) ?_
    rotate_left
    · go_simp
      try rfl
    try simp only [Act.put, List.setIfInBounds_toArray, List.set_cons_zero, List.set_cons_succ]
    iterate 1
      refine wpS_t rfl (v := ?_) (by rfl) (fun W => ?_) ?_
      rotate_left
      · go_simp
        try rfl
      try simp only [Act.put, List.setIfInBounds_toArray, List.set_cons_zero, List.set_cons_succ]
    refine wpS_load_sum (by exact ⟨HC0.out, HS0.out⟩) rfl (by rfl) _ (by rfl) b o (by rfl) s (fun W hW => hW.2) ?_
    try simp only [Act.put, List.setIfInBounds_toArray, List.set_cons_zero, List.set_cons_succ]
    refine wpS_s (by exact ⟨HC0.out, HS0.out⟩) rfl (v := ?_) (by rfl) (fun W hSW => ?_) ?_
    rotate_left
    · go_simp
      try rfl
    try simp only [Act.put, List.setIfInBounds_toArray, List.set_cons_zero, List.set_cons_succ]
    clear hs hrr
    obtain ⟨o1, ho1, hS1⟩ : ∃ o1, (if cap = 1 then o else o + 32) = o1 ∧ ∀ W, W.rangeAt b (o + 32) (cellsAll r) → SumsAt W (.slice (some ⟨b, o1, none⟩) n (cap - 1)) r := by
      refine ⟨_, rfl, fun W hW => ?_⟩
      by_cases hcap : cap = 1
      · rw [if_pos hcap]
        have : r = [] := List.length_eq_zero_iff.1 (by have := HN.out; omega)
        exact ⟨_, cap - 1, by rw [HN.out], by rw [← HN.out]; omega, by unfold maxLen; omega, .inl this⟩
      · rw [if_neg hcap]
        exact ⟨_, cap - 1, by rw [HN.out], by rw [← HN.out]; omega, by unfold maxLen; omega, .inr ⟨b, o + 32, rfl, hW⟩⟩
    have HS1 := Lib.hid hS1; clear hS1
    have hsl : ∀ W : World, (Instr.slice 22 (.slice (some ⟨b, o, none⟩) (n + 1) cap) (some (.int .i64 1)) none none).run Tryz.prog W = .ok (.slice (some ⟨b, o1, none⟩) n (cap - 1)) W := by
      intro W
      by_cases hcap : cap = 1
      · have hn0 : n = 0 := by omega
        rw [if_pos hcap] at ho1
        subst hcap hn0 ho1
        go_simp
      · rw [if_neg hcap] at ho1
        subst ho1
        have kc4 : ¬ (cap = 1) := hcap
        go_simp
    clear ho1
    iterate 1
      refine wpS_t rfl (v := ?_) (by rfl) (fun W => ?_) ?_
      rotate_left
      · go_simp
        try rfl
      try simp only [Act.put, List.setIfInBounds_toArray, List.set_cons_zero, List.set_cons_succ]
    clear hsl
    have hcw : c ≠ w.heap.size := Nat.ne_of_lt hc
    have hbw : b ≠ w.heap.size := Nat.ne_of_lt hb
    refine wpS_k rfl (by rfl) (fun K hK => ?_)
    refine wp_store_sum _ _ (by rfl) w.heap.size 0 s (by rfl) (by rfl) HT0.out ?_
    have hk1 := keeps_setCells_ w.heap.size (cellsOf s) 0 W0
    have HR1 := Lib.hid (range_stored w.heap.size (cellsOf s) 0 W0 (by rw [length_cellsOf]; exact World.there_setCells HT0.out _ _ _))
    have HT1 := Lib.hid (World.there_setCells HT0.out w.heap.size 0 (cellsOf s))
    have HC1 := Lib.hid (hk1.cell HC0.out (by exact hcw))
    have HS1' := Lib.hid (hk1.range HS0.out (by exact hbw))
    have HB1 := Lib.hid (setCells_below w.heap.size (Nat.le_refl _) (cellsOf s) 0 w W0 HB0.out)
    generalize W0.setCells w.heap.size 0 (cellsOf s) = W1 at *
    refine hK _ _ ⟨by exact ⟨HC1.out, HS1'.out⟩, ?_⟩; clear hK K
    try simp only [Act.put]
    refine wpS_e rfl (by rfl) (fun K hK => ?_)
    have hh1 : W1.heap[c]? = some (.cells #[.slice (some ⟨b, o, none⟩) (n + 1) cap] 22 (0, 0)) := (HB1.out.block c hc).trans HH.out
    have HH1 := Lib.hid hh1
    have hc1' : W1.cell? ⟨c, 0, none⟩ = some (.slice (some ⟨b, o, none⟩) (n + 1) cap) := HC1.out
    have hf1 : W1.frozen? ⟨c, 0, none⟩ = false := frozen_of_row W1 c _ _ _ hh1
    clear hh1 hk1
    go_simp
    have hk2 : Keeps (· = c) W1 (W1.setCell ⟨c, 0, none⟩ (.slice (some ⟨b, o1, none⟩) n (cap - 1))) := (Keeps.refl (· = c) W1).setCell (p := ⟨c, 0, none⟩) (.inl rfl) _
    have HH2 := Lib.hid (heap_setCell_same W1 c 0 _ _ (.slice (some ⟨b, o1, none⟩) n (cap - 1)) HH1.out)
    have HR2 := Lib.hid (hk2.range HR1.out (fun h => hcw h.symm))
    have HT2 := Lib.hid (hk2.there HT1.out (by omega) (fun h => hcw h.symm))
    have HS2 := Lib.hid (hk2.range (range_below HB1.out HRR.out hb) hbc)
    have HK2 := Lib.hid ((Keeps.of_below (X := (· = c)) HB1.out).trans hk2)
    generalize W1.setCell ⟨c, 0, none⟩ (.slice (some ⟨b, o1, none⟩) n (cap - 1)) = W2 at *
    clear hc1' hf1 hk2
    refine hK _ _ ?_; clear hK K
    try simp only [Act.put, List.setIfInBounds_toArray, List.set_cons_zero, List.set_cons_succ]
    refine wpS_done ?_
    go_wp2_with (first
      | (refine wpList_load_sum rfl _ rfl w.heap.size 0 rfl s HR2.out ?_)
      | (refine wpList_store_sum rfl _ _ rfl w.heap.size 0 s rfl rfl HT2.out ?_))
    have hk3 := keeps_setCells_ w.heap.size (cellsOf s) 0 W2
    refine bodyPost_ret (results_cell_tmp Tryz.results107 _ _ w.heap.size 0 (cellsOf s) _ rfl (range_stored _ _ _ _ (by rw [length_cellsOf]; exact World.there_setCells HT2.out _ _ _)) Tryz.underlying24 rfl (by rw [length_cellsOf]; exact infoSum)) rfl ?_
    refine ⟨rfl, ⟨.slice (some ⟨b, o1, none⟩) n (cap - 1), hk3.heap (by simpa using HH2.out) (by exact hcw), HS1.out _ (hk3.range HS2.out (by exact hbw)), fun _ k hk => by
      have : b = k := by simpa [Value.ownBlock] using hk
      exact this ▸ ⟨hbc, HBB.out⟩⟩, HK2.out.trans' hk3 (fun i hi => .inr (by omega))⟩
end Go.Proofs.YtdkcndgehgmadaaGreatDoor
-- Walks: errors.Is of the link's own error.
open Go Go.RowKit Alm Go.Extern.Stop Go.Stop Go.Extern
namespace Go.Proofs.YtdkcndgehgmadaaGreatDoor
/-- '==' of two error values of one integer type. -/
theorem equalIn_iface_int {P : Program} (w : World) (d : Nat) {ti tn : TypeId} {ms : Array (String × TypeId)} {i : TypeInfo} {k : IntKind} (a b : Int)
    (hi : P.underlying ti = some (.interface ms)) (hn : P.underlying tn = some (.int k)) (hinfo : P.info? tn = some i) (hcomp : i.comparable = true) :
    (Op.equalIn (d + 2) ti (.iface tn (.int k a)) (.iface tn (.int k b))).run P w = .ok (a == b) w := by
  simp [Op.equalIn, run_underlying hi, run_underlying hn, typeInfo, hinfo, hcomp]
theorem eql_iface_int {P : Program} (w : World) {ti tn : TypeId} {ms : Array (String × TypeId)} {i : TypeInfo} {k : IntKind} (a b : Int)
    (hi : P.underlying ti = some (.interface ms)) (hn : P.underlying tn = some (.int k)) (hinfo : P.info? tn = some i) (hcomp : i.comparable = true) :
    (binOp .eql ti (.iface tn (.int k a)) (.iface tn (.int k b))).run P w = .ok (.bool (a == b)) w := by
  simp only [binOp]
  simp [Op.equal, Op.maxDepth, equalIn_iface_int w 9998 a b hi hn hinfo hcomp]
theorem errnoComp : (Tryz.prog.info? 29).map (·.comparable) = some true := by kernel_rfl
theorem isTypeOf_ (v : Value) (w : World) : (callFunc 176 #[.iface 29 v]).run Tryz.prog w = .ok (.value (.iface 238 (.agg #[.pointer (some ⟨3, 29, none⟩)]))) w := by kernel_rfl
theorem isComparable_ (w : World) : (callFunc 232 #[.agg #[.pointer (some ⟨3, 29, none⟩)]]).run Tryz.prog w = .ok (.value (.bool true)) w := by kernel_rfl
theorem isMethod_ (v : Value) (w : World) : (Go.method 401 238 v "Comparable").run Tryz.prog w = .ok (232, v) w := by kernel_rfl
set_option maxRecDepth 100000 in
theorem is_short (w : World) :
    Calls Tryz.prog 109 #[.iface 29 (.int .i64 5), .iface 29 (.int .i64 5)] w fun e w' => e = .returned (.bool true) ∧ w = w' := by
  obtain ⟨i, hi, hcmp⟩ := Option.map_eq_some_iff.1 errnoComp
  have tT := isTypeOf_
  have cT := isComparable_
  have mR := isMethod_
  have heq := eql_iface_int (P := Tryz.prog) w 5 5 Tryz.underlying110 Tryz.underlying29 hi hcmp
  go_enter Tryz.func109, Tryz.ntmps109
  go_wp2
  refine wp_loop_rounds 1 ?_
  rw [rounds_succ]
  go_wp2
  go_ret
  exact ⟨rfl, rfl⟩
/-- errors.Is(nil, x). -/
theorem is_nil_ (w : World) (v : Value) :
    Calls Tryz.prog 109 #[.nilIface, .iface 29 v] w fun e w' => e = .returned (.bool false) ∧ w = w' := by
  have hn := run_eql_iface_nil_left (P := Tryz.prog) w 29 v Tryz.underlying110
  go_enter Tryz.func109, Tryz.ntmps109
  go_wp2
  go_ret
  exact ⟨rfl, rfl⟩
end Go.Proofs.YtdkcndgehgmadaaGreatDoor
-- Walks: links.Check's 'leads'.
open Go Go.RowKit Alm
namespace Go.Proofs.YtdkcndgehgmadaaGreatDoor
/-- Two sums, as a value. -/
def cells2 (x y : Sum) : List Value := cellsOf x ++ cellsOf y
abbrev bv (x y : Sum) : Value := .agg (cells2 x y).toArray
theorem length_cells2 (x y : Sum) : (cells2 x y).length = 64 := by simp [cells2, length_cellsOf]
theorem all_cells2 (x y : Sum) : (cells2 x y).toArray.all (·.oneCell') = true := all_oneCell_toArray (fun v hv => by
  rcases List.mem_append.1 hv with h | h
  · exact oneCell_cellsOf x v h
  · exact oneCell_cellsOf y v h)
theorem infoBoth : (Tryz.prog.info? 114).map (·.size) = some 64 := by kernel_rfl
theorem infoBothZ : (Tryz.prog.info? 114).map (fun i => i.zero.map fun z => z.cells.size) = some (some 64) := by kernel_rfl
theorem wpList_load_both {ops : Array Oper} {rest : List Oper} {op : Oper} {a : Act} {w : World} {Q : Exit → Act → World → Prop} (hgd : op.guard = none) (x : Operand) (ho : op.op = .load 114 x)
    (b o : Nat) (hx : a.eval x = .pointer (some ⟨b, o, none⟩)) (s t : Sum) (hc : w.rangeAt b o (cells2 s t))
    (h : wpList Tryz.prog ops Q rest (a.put op.dst (bv s t)) w) : wpList Tryz.prog ops Q (op :: rest) a w :=
  wpList_load_mid hgd _ x ho b o hx (cells2 s t) _ hc Tryz.underlying114 rfl (by rw [length_cells2]; exact infoBoth) h
theorem wpList_store_both {ops : Array Oper} {rest : List Oper} {op : Oper} {a : Act} {w : World} {Q : Exit → Act → World → Prop} (hgd : op.guard = none) (x y : Operand) (ho : op.op = .store 114 x y)
    (b o : Nat) (s t : Sum) (hx : a.eval x = .pointer (some ⟨b, o, none⟩)) (hy : a.eval y = bv s t) (ht : w.there b o 64)
    (h : wpList Tryz.prog ops Q rest (a.put op.dst undef) (w.setCells b o (cells2 s t))) : wpList Tryz.prog ops Q (op :: rest) a w :=
  wpList_store_mid hgd _ x y ho b o _ hx hy (by simpa [length_cells2] using ht) (by simpa [length_cells2] using infoBoth) (all_cells2 s t) h
theorem wp_store_both {op : Oper} {a : Act} {w : World} {K : Act → World → Prop} {Q : Exit → Act → World → Prop} (x y : Operand) (ho : op.op = .store 114 x y)
    (b o : Nat) (s t : Sum) (hx : a.eval x = .pointer (some ⟨b, o, none⟩)) (hy : a.eval y = bv s t) (ht : w.there b o 64) (h : K (a.put op.dst undef) (w.setCells b o (cells2 s t))) : op.wp Tryz.prog a w K Q :=
  wp_store_mid _ x y ho b o _ hx hy (by simpa [length_cells2] using ht) (by simpa [length_cells2] using infoBoth) (all_cells2 s t) h
set_option maxRecDepth 100000 in
theorem build_both (x y : Sum) (w : World) : (Instr.build 114 #[(0, .agg (cellsOf x).toArray), (1, .agg (cellsOf y).toArray)]).run Tryz.prog w = .ok (bv x y) w := by
  obtain ⟨ib, hib, hzb⟩ := Option.map_eq_some_iff.1 infoBothZ
  obtain ⟨zb, hz, hzs⟩ := Option.map_eq_some_iff.1 hzb
  obtain ⟨i, z, hi, hz1, hs, hb, hz2⟩ := info_sum
  refine run_build w _ _ _ ?_
  unfold Program.built
  simp only [hib, Tryz.underlying114, hz, hi, hs]
  have := Great.fill_whole (s := 32) (by omega) [sv x, sv y] zb.cells (fun v hv => by
    rcases List.mem_cons.1 hv with rfl | hv
    · exact size_cellsOf x
    · rw [List.mem_singleton.1 hv]; exact size_cellsOf y) (by rw [hzs]; rfl)
  refine this.trans ?_
  congr 1
  simp [cells2, Value.cells]
theorem wpList_build_both {ops : Array Oper} {rest : List Oper} {op : Oper} {a : Act} {w : World} {Q : Exit → Act → World → Prop} (hgd : op.guard = none) (parts : Array (Nat × Operand)) (ho : op.op = .build 114 parts)
    (x y : Sum) (hp : (parts.toList.map fun (i, x) => (i, a.eval x)) = [(0, sv x), (1, sv y)])
    (h : wpList Tryz.prog ops Q rest (a.put op.dst (bv x y)) w) : wpList Tryz.prog ops Q (op :: rest) a w :=
  wpList_build_by hgd 114 parts ho (bv x y) (fun W => by
    have : (parts.map fun (i, x) => (i, a.eval x)) = #[(0, sv x), (1, sv y)] := by
      apply Array.toList_inj.1
      rw [Array.toList_map]; exact hp
    rw [this]
    exact build_both x y W) h
theorem wpList_load_next {ops : Array Oper} {rest : List Oper} {op : Oper} {a : Act} {w : World} {Q : Exit → Act → World → Prop} (hgd : op.guard = none) (x : Operand) (ho : op.op = .load 111 x)
    (b : Nat) (v : Value) (hx : a.eval x = .pointer (some ⟨b, 0, none⟩)) (hc : w.cell? ⟨b, 0, none⟩ = some v)
    (h : wpList Tryz.prog ops Q rest (a.put op.dst v) w) : wpList Tryz.prog ops Q (op :: rest) a w :=
  wpList_plain hgd fun _ hK => by
    unfold Oper.wp execOp
    simp only [ho, hx]
    go_simp
    exact hK _ _ h
theorem wpList_load_leads {ops : Array Oper} {rest : List Oper} {op : Oper} {a : Act} {w : World} {Q : Exit → Act → World → Prop} (hgd : op.guard = none) (x : Operand) (ho : op.op = .load 112 x)
    (b : Nat) (v : Value) (hx : a.eval x = .pointer (some ⟨b, 0, none⟩)) (hc : w.cell? ⟨b, 0, none⟩ = some v)
    (h : wpList Tryz.prog ops Q rest (a.put op.dst v) w) : wpList Tryz.prog ops Q (op :: rest) a w :=
  wpList_plain hgd fun _ hK => by
    unfold Oper.wp execOp
    simp only [ho, hx]
    go_simp
    exact hK _ _ h
/-- The function's words, in variables. -/
abbrev nextFn (c : Nat) : Value := .func (.func 107) #[] #[.pointer (some ⟨c, 0, none⟩)]
abbrev leadsFn (p n s : Nat) : Value := .func (.func 108) #[] #[.pointer (some ⟨p, 0, none⟩), .pointer (some ⟨n, 0, none⟩), .pointer (some ⟨s, 0, none⟩)]
/-- What leads comes to. -/
def LeadsOf (B : Nat) (w : World) (c : Nat) (r : Option ((Sum × Sum) × List Sum)) (e : Ending) (w' : World) : Prop :=
  Keeps (· = c) w w' ∧ match r with
  | some ((x, y), rest) => e = .returned (.tuple #[bv x y, .nilIface]) ∧ LeftAt B w' c rest
  | none => ∃ x y, e = .returned (.tuple #[bv x y, .iface 29 (.int .i64 5)])
/-- What leads has before it: the first sum, next and itself, each in a variable. -/
structure LeadsIn (w : World) (A N L c : Nat) (a : Sum) : Prop where
  sum : w.rangeAt A 0 (cellsOf a)
  next : w.cell? ⟨N, 0, none⟩ = some (nextFn c)
  self : w.cell? ⟨L, 0, none⟩ = some (leadsFn A N L)
  nA : A ≠ c
  nN : N ≠ c
  nL : L ≠ c
theorem LeadsIn.keep {w w' : World} {A N L c : Nat} {a : Sum} (h : LeadsIn w A N L c a) (k : Keeps (· = c) w w') : LeadsIn w' A N L c a :=
  ⟨k.range h.sum h.nA, k.cell h.next h.nN, k.cell h.self h.nL, h.nA, h.nN, h.nL⟩
theorem zero_both : (cells8 (List.replicate 64 0)) = cells2 zeroSum zeroSum := by rfl
theorem NextOf.keeps {B : Nat} {w w' : World} {c : Nat} {l : List Sum} {e : Ending} (h : NextOf B w c l e w') : Keeps (· = c) w w' := by
  cases l with
  | nil => exact .of_below h.2
  | cons s r => exact h.2.2
/-- What next tells: the sum and the error. -/
def Told (B : Nat) (w : World) (c : Nat) (l : List Sum) (s : Sum) (ev : Value) : Prop := match l with
  | [] => ev = .iface 29 (.int .i64 5)
  | s' :: r => s' = s ∧ ev = .nilIface ∧ LeftAt B w c r
theorem NextOf.form {B : Nat} {w w' : World} {c : Nat} {l : List Sum} {e : Ending} (h : NextOf B w c l e w') : ∃ s ev, e = .returned (.tuple #[sv s, ev]) ∧ Told B w' c l s ev := by
  cases l with
  | nil => exact ⟨zeroSum, _, h.1, rfl⟩
  | cons s r => exact ⟨s, _, h.1, rfl, rfl, h.2.1⟩
theorem Told.end_ {B : Nat} {w w1 w2 : World} {c : Nat} {l : List Sum} {s : Sum} {ev : Value} (h : Told B w1 c l s ev) (hk : Keeps (· = c) w w2) (hl : ∀ r, LeftAt B w1 c r → LeftAt B w2 c r) :
    LeadsOf B w c (told l) (.returned (.tuple #[bv s s, ev])) w2 := by
  cases l with
  | nil => cases h; exact ⟨hk, s, s, rfl⟩
  | cons s' r =>
    obtain ⟨rfl, rfl, h3⟩ := h
    exact ⟨hk, rfl, hl _ h3⟩
end Go.Proofs.YtdkcndgehgmadaaGreatDoor
