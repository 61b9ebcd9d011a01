/-
  Joined: G2, B2, F9.
-/
import Derived.Test.YtdkcndgehgmadaaGreatDoorZAP
import Derived.Test.YtdkcndgehgmadaaGreatDoorZAO
import Derived.Test.YtdkcndgehgmadaaGreatDoorZAN
-- Walks: links.Of.
open Go Go.RowKit Alm
namespace Go.Proofs.YtdkcndgehgmadaaGreatDoor
def lenOf : Value → Nat | .slice _ n _ => n | _ => 0
theorem link_end (l : List Sum) (e : Bool) : link nd e0 l l.length e = if e then [] else [rt l] := by
  rw [link, rt_eq]; simp
theorem link_left (l : List Sum) (m : Nat) (e : Bool) (h1 : 1 ≤ m) (h : m < l.length) (hk : m ≤ cut l.length) : link nd e0 l m e = link nd e0 (l.take (cut l.length)) m e ++ [rt (l.drop (cut l.length))] := by
  conv => lhs; rw [link]
  rw [dif_neg (by omega), dif_neg (by omega), rt_eq]; simp [hk]
theorem link_right (l : List Sum) (m : Nat) (e : Bool) (h1 : 1 ≤ m) (h : m < l.length) (hk : ¬ m ≤ cut l.length) : link nd e0 l m e = link nd e0 (l.drop (cut l.length)) (m - cut l.length) false ++ [rt (l.take (cut l.length))] := by
  conv => lhs; rw [link]
  rw [dif_neg (by omega), dif_neg (by omega), rt_eq]; simp [hk]
theorem wpList_build_sums {w : World} {ops : Array Oper} {rest : List Oper} {o : Oper} {a : Act} {Q : Exit → Act → World → Prop} (hgd : o.guard = none) (len : Nat) (parts : Array (Nat × Operand)) (ho : o.op = .buildSlice 22 len parts) (l : List Sum) (hl : l.length = len) (h0 : 0 < len) (h1 : len ≤ 1000)
    (hp : (parts.toList.map fun (i, x) => (i, a.eval x)) = (((l.map fun s => sv s)).zipIdx 0).map fun x => (x.2, x.1))
    (h : wpList Tryz.prog ops Q rest (a.put o.dst (.slice (some ⟨w.heap.size, 0, none⟩) len len)) (w.alloc (.cells (cellsAll l).toArray 24))) : wpList Tryz.prog ops Q (o :: rest) a w :=
  wpList_plain hgd fun _ hK => wp_build_sums len parts ho l hl h0 h1 hp (hK _ _ h)
/-- What links.Of comes to. -/
def LinkOf (w : World) (r : List Sum) (e : Ending) (w' : World) : Prop := ∃ v', e = .returned (.tuple #[v', .int .i64 0]) ∧ SumsNew w' w.heap.size v' r ∧ Below w.heap.size w w'
theorem sums_form {w : World} {v : Value} {l : List Sum} (h : SumsAt w v l) (h0 : l ≠ []) : ∃ b o cap, v = .slice (some ⟨b, o, none⟩) l.length cap ∧ l.length ≤ cap ∧ cap ≤ maxLen ∧ w.rangeAt b o (cellsAll l) := by
  obtain ⟨a, cap, rfl, h1, h2, h3⟩ := h
  obtain ⟨b, o, rfl, hr⟩ := h3.resolve_left h0
  exact ⟨b, o, cap, rfl, h1, h2, hr⟩
theorem own_at {w w1 : World} {base : Nat} {v : Value} {l : List Sum} (h : w.ownsRow base 24 32 v l.length (cellsAll l)) (hb : Below w.heap.size w w1) : w1.ownsRow base 24 32 v l.length (cellsAll l) :=
  (Keeps.of_below (X := fun _ => False) hb).owns h (fun _ _ h => h)
set_option maxRecDepth 100000 in
set_option maxHeartbeats 2000000 in
theorem linksOf_any (l : List Sum) (m0 : Nat) (v : Value) (w : World) (hv : SumsAt w v l) (hm1 : 1 ≤ m0) (hm2 : m0 ≤ l.length) (hl : l.length < 1000000) : Calls Tryz.prog 24 #[v, .int .i64 (m0 : Int)] w (LinkOf w (link nd e0 l m0 true)) := by
  have hl0 : l ≠ [] := by intro h; rw [h] at hm2; simp at hm2; omega
  obtain ⟨b0, o0, cap0, rfl, hc1, hc2, hr0⟩ := sums_form hv hl0
  have HV := Lib.hid hv; clear hv
  obtain ⟨n0, hn0⟩ : ∃ n, n = l.length := ⟨_, rfl⟩
  rw [← hn0] at hm2 hl HV hc1 ⊢
  have HN0 := Lib.hid hn0; clear hn0
  have k1 : decide ((m0 : Int) < 1) = false := decide_eq_false (by omega)
  have k2 : decide (n0 < m0) = false := decide_eq_false (by omega)
  have k3 : (m0 : Int) ≤ 1000000 := by omega
  unfold maxLen at hc2
  go_enter Tryz.func24, Tryz.ntmps24
  go_wp2_with fail
  go_loopw [0, 1, 4, 6] (fun lv fv kv ev W => ∃ (cur acc : List Sum) (m : Nat) (e : Bool), SumsAt w lv cur ∧ fv = .int .i64 (m : Int) ∧ ev = .bool e ∧ 1 ≤ m ∧ m ≤ cur.length ∧ cur.length + acc.length ≤ n0 ∧ W.ownsRow w.heap.size 24 32 kv acc.length (cellsAll acc) ∧ (acc = [] → kv = .slice none 0 0) ∧ Below w.heap.size w W ∧ link nd e0 l m0 true = link nd e0 cur m e ++ acc.reverse) (fun lv _ _ _ _ => lenOf lv)
  case atStart => exact ⟨l, [], m0, true, HV.out, rfl, rfl, hm1, by have := HN0.out; omega, by rw [← HN0.out]; simp, World.ownsRow_nil _ _ _ _, fun _ => rfl, Below.refl _ _, by simp⟩
  case round =>
    obtain ⟨cur, acc, m, e, hS, rfl, rfl, hm, hmc, hca, ho, hnil, hB, hlk⟩ := hrel
    have hcur : cur ≠ [] := by intro h; rw [h] at hmc; simp at hmc; omega
    obtain ⟨b, o, cap, rfl, hd1, hd2, hr⟩ := sums_form hS hcur
    obtain ⟨n, hn⟩ : ∃ n, n = cur.length := ⟨_, rfl⟩
    rw [← hn] at hmc hca hd1 hS ⊢
    have HN := Lib.hid hn; clear hn
    have HS := Lib.hid hS; clear hS
    have HR := Lib.hid hr; clear hr
    have HO := Lib.hid ho; clear ho
    have HNIL := Lib.hid hnil; clear hnil
    have HB := Lib.hid hB; clear hB
    have HLK := Lib.hid hlk; clear hlk
    unfold maxLen at hd2
    have hm0' : (0 : Int) ≤ (m : Int) := by omega
    have hnn : (n : Int) ≤ 1000000 := by omega
    by_cases hlt : m < n
    · have hlt' : (m : Int) < (n : Int) := by omega
      have hk1 := cut_lt (n := n) (by omega)
      have hk2 := cut_pos n
      obtain ⟨k, hk⟩ : ∃ k, k = cut n := ⟨_, rfl⟩
      rw [← hk] at hk1 hk2
      have HK := Lib.hid hk; clear hk
      have hk1' : (k : Int) < (n : Int) := by omega
      have hk2' : (0 : Int) ≤ (k : Int) := by omega
      have hkc : (k : Int) < (cap : Int) := by omega
      have hkc2 : (k : Int) ≤ (cap : Int) := by omega
      have hkn2 : (k : Int) ≤ (n : Int) := by omega
      have kc4 : ¬ (cap = k) := by omega
      have kc5 : ¬ (k = cap) := by omega
      go_wp2_with fail
      refine (linksCut_any n _ (by omega) (by omega)).mono ?_
      rw [← HK.out]
      rintro e1 w1 ⟨rfl, rfl⟩
      have HT : Hid (SumsAt w (.slice (some ⟨b, o, none⟩) k cap) (cur.take k)) := sums_take HR.out (by have := HN.out; omega) (by omega) (by unfold maxLen; omega)
      have HD : Hid (SumsAt w (.slice (some ⟨b, o + k * 32, none⟩) (n - k) (cap - k)) (cur.drop k)) := by
        have := sums_drop (k := k) (cap := cap - k) HR.out (by have := HN.out; omega) (by have := HN.out; omega) (by unfold maxLen; omega)
        rw [← HN.out] at this; exact this
      by_cases hmk : m ≤ k
      · have hmk' : (m : Int) ≤ (k : Int) := by omega
        go_wp2_with fail
        refine wp_region_sched (fun _ => True) [.t 0, .t 1, .t 2, .t 3, .t 7, .t 8, .t 9, .e 4 false, .e 5 false, .e 6 false, .t 10, .t 11] (by kernel_rfl) (by kernel_rfl) (by intro c a d v w h; cases d <;> exact h) ?_
        iterate 7
          refine wpS_t rfl (v := ?_) (by rfl) (fun W => ?_) ?_
          rotate_left
          · go_simp
            try rfl
          try simp only [Act.put, List.setIfInBounds_toArray, List.set_cons_zero, List.set_cons_succ]
        refine wpS_e rfl (by rfl) (fun K hK => ?_)
        go_simp
        refine (rt_any (cur.drop k) _ _ (by exact HD.out.below HB.out.drew (Nat.le_refl _))).mono ?_
        rintro e2 w2 ⟨rfl, hb2⟩
        have HB2 := Lib.hid (HB.out.drew.trans (hb2.mono HB.out.drew.size))
        have HO2 := Lib.hid (own_at (w := wr.drew) HO.out hb2)
        have hlk2 : link nd e0 l m0 true = link nd e0 (cur.take k) m e ++ (acc ++ [rt (cur.drop k)]).reverse := by
          rw [HLK.out, link_left cur m e hm (by rw [← HN.out]; exact hlt) (by rw [← HN.out, ← HK.out]; exact hmk), ← HN.out, ← HK.out]; simp
        generalize rt (cur.drop k) = x at *
        have HLK2 := Lib.hid hlk2
        clear hlk2 hb2 HB HO HLK
        refine hK _ _ ?_; clear hK K
        try simp only [Act.put, List.setIfInBounds_toArray, List.set_cons_zero, List.set_cons_succ]
        refine wpS_e rfl (by rfl) (fun K hK => ?_)
        refine wp_build_sums 1 _ (by rfl) [x] rfl (by omega) (by omega) (by rfl) ?_
        refine hK _ _ ?_; clear hK K
        try simp only [Act.put, List.setIfInBounds_toArray, List.set_cons_zero, List.set_cons_succ]
        have HB3 := Lib.hid (HB2.out.alloc HB2.out.size (.cells (cellsAll [x]).toArray 24))
        have HX3 : Hid ((w2.alloc (.cells (cellsAll [x]).toArray 24)).rangeAt w2.heap.size 0 (cellsAll [x])) := range_new w2 _ _ _ rfl
        refine wpS_e rfl (by rfl) (fun K hK => ?_)
        refine wp_append_sums _ _ (by rfl) w.heap.size _ acc [x] acc.length 1 rfl rfl (by rfl) (HO2.out.alloc _) w2.heap.size 0 1 (by rfl) HX3.out (by omega) (by omega) HB3.out.size ?_
        intro g4 c4 w4 ho4 hg4 hat4 hlt4
        refine hK _ _ ?_; clear hK K
        try simp only [Act.put, List.setIfInBounds_toArray, List.set_cons_zero, List.set_cons_succ]
        have HB4 := Lib.hid (HB3.out.grown hg4 HB3.out.size (fun k hk => (HO2.out.lt k hk).1))
        have HO4 := Lib.hid ho4
        clear ho4 hg4 hat4 hlt4 HB3 HX3
        iterate 2
          refine wpS_t rfl (v := ?_) (by rfl) (fun W => ?_) ?_
          rotate_left
          · go_simp
            try rfl
          try simp only [Act.put, List.setIfInBounds_toArray, List.set_cons_zero, List.set_cons_succ]
        refine wpS_done ?_
        go_wp2_with fail
        refine ⟨⟨cur.take k, acc ++ [x], m, e, HT.out, rfl, rfl, hm, ?_, ?_, ?_, ?_, HB4.out, HLK2.out⟩, ?_⟩
        · rw [List.length_take]; have := HN.out; omega
        · rw [List.length_take, List.length_append, List.length_singleton]; have := HN.out; omega
        · rw [List.length_append, List.length_singleton]; exact HO4.out
        · intro h; cases acc <;> cases h
        · simp [lenOf]; omega
      · have hmk' : ¬ (m : Int) ≤ (k : Int) := by omega
        go_wp2_with fail
        refine wp_region_sched (fun _ => True) [.t 0, .t 1, .t 2, .t 3, .t 7, .t 8, .t 9, .t 10, .t 11, .t 12, .e 4 false, .e 5 false, .e 6 false, .t 13, .t 14, .t 15, .t 16] (by kernel_rfl) (by kernel_rfl) (by intro c a d v w h; cases d <;> exact h) ?_
        iterate 9
          refine wpS_t rfl (v := ?_) (by rfl) (fun W => ?_) ?_
          rotate_left
          · go_simp
            try rfl
          try simp only [Act.put, List.setIfInBounds_toArray, List.set_cons_zero, List.set_cons_succ]
        have wmk : IntKind.i64.wrap ((m : Int) - (k : Int)) = ((m - k : Nat) : Int) := by rw [IntKind.wrap_i64]; omega
        iterate 1
          refine wpS_t rfl (v := ?_) (by rfl) (fun W => ?_) ?_
          rotate_left
          · go_simp
            try rfl
          try simp only [Act.put, List.setIfInBounds_toArray, List.set_cons_zero, List.set_cons_succ]
        refine wpS_e rfl (by rfl) (fun K hK => ?_)
        go_simp
        refine (rt_any (cur.take k) _ _ (by exact HT.out.below HB.out.drew (Nat.le_refl _))).mono ?_
        rintro e2 w2 ⟨rfl, hb2⟩
        have HB2 := Lib.hid (HB.out.drew.trans (hb2.mono HB.out.drew.size))
        have HO2 := Lib.hid (own_at (w := wr.drew) HO.out hb2)
        have hlk2 : link nd e0 l m0 true = link nd e0 (cur.drop k) (m - k) false ++ (acc ++ [rt (cur.take k)]).reverse := by
          rw [HLK.out, link_right cur m e hm (by rw [← HN.out]; exact hlt) (by rw [← HN.out, ← HK.out]; exact hmk), ← HN.out, ← HK.out]; simp
        generalize rt (cur.take k) = x at *
        have HLK2 := Lib.hid hlk2
        clear hlk2 hb2 HB HO HLK
        refine hK _ _ ?_; clear hK K
        try simp only [Act.put, List.setIfInBounds_toArray, List.set_cons_zero, List.set_cons_succ]
        refine wpS_e rfl (by rfl) (fun K hK => ?_)
        refine wp_build_sums 1 _ (by rfl) [x] rfl (by omega) (by omega) (by rfl) ?_
        refine hK _ _ ?_; clear hK K
        try simp only [Act.put, List.setIfInBounds_toArray, List.set_cons_zero, List.set_cons_succ]
        have HB3 := Lib.hid (HB2.out.alloc HB2.out.size (.cells (cellsAll [x]).toArray 24))
        have HX3 : Hid ((w2.alloc (.cells (cellsAll [x]).toArray 24)).rangeAt w2.heap.size 0 (cellsAll [x])) := range_new w2 _ _ _ rfl
        refine wpS_e rfl (by rfl) (fun K hK => ?_)
        refine wp_append_sums _ _ (by rfl) w.heap.size _ acc [x] acc.length 1 rfl rfl (by rfl) (HO2.out.alloc _) w2.heap.size 0 1 (by rfl) HX3.out (by omega) (by omega) HB3.out.size ?_
        intro g4 c4 w4 ho4 hg4 hat4 hlt4
        refine hK _ _ ?_; clear hK K
        try simp only [Act.put, List.setIfInBounds_toArray, List.set_cons_zero, List.set_cons_succ]
        have HB4 := Lib.hid (HB3.out.grown hg4 HB3.out.size (fun k hk => (HO2.out.lt k hk).1))
        have HO4 := Lib.hid ho4
        clear ho4 hg4 hat4 hlt4 HB3 HX3
        iterate 4
          refine wpS_t rfl (v := ?_) (by rfl) (fun W => ?_) ?_
          rotate_left
          · go_simp
            try rfl
          try simp only [Act.put, List.setIfInBounds_toArray, List.set_cons_zero, List.set_cons_succ]
        refine wpS_done ?_
        go_wp2_with fail
        refine ⟨⟨cur.drop k, acc ++ [x], m - k, false, HD.out, by congr 1, rfl, by omega, ?_, ?_, ?_, ?_, HB4.out, HLK2.out⟩, ?_⟩
        · rw [List.length_drop]; have := HN.out; omega
        · rw [List.length_drop, List.length_append, List.length_singleton]; have := HN.out; omega
        · rw [List.length_append, List.length_singleton]; exact HO4.out
        · intro h; cases acc <;> cases h
        · simp [lenOf]; omega
    · have hmn : m = n := by omega
      subst hmn
      have hend : link nd e0 cur m e = if e then [] else [rt cur] := by have := link_end cur e; rw [← HN.out] at this; exact this
      rw [hend] at HLK
      clear hend
      cases e
      · have hl2 : link nd e0 l m0 true = (acc ++ [rt cur]).reverse := by rw [HLK.out]; simp
        have HL2 := Lib.hid hl2
        clear HLK hl2
        go_wp2_with fail
        refine (rt_any cur _ _ (by exact HS.out.below HB.out (Nat.le_refl _))).mono ?_
        rintro e2 w2 ⟨rfl, hb2⟩
        have HB2 := Lib.hid (HB.out.trans (hb2.mono HB.out.size))
        have HO2 := Lib.hid (own_at HO.out hb2)
        generalize rt cur = x at *
        clear hb2 HB HO
        have HB3 := Lib.hid (HB2.out.alloc HB2.out.size (.cells (cellsAll [x]).toArray 24))
        have HX3 : Hid ((w2.alloc (.cells (cellsAll [x]).toArray 24)).rangeAt w2.heap.size 0 (cellsAll [x])) := range_new w2 _ _ _ rfl
        go_wp2_with (first
          | (refine wpList_build_sums rfl 1 _ rfl [x] rfl (by omega) (by omega) rfl ?_)
          | (at_builtin; refine wpList_append_sums rfl _ _ rfl w.heap.size _ acc [x] acc.length 1 rfl rfl (by rfl) (HO2.out.alloc _) w2.heap.size 0 1 rfl HX3.out (by omega) (by omega) HB3.out.size ?_; intro g4 c4 w4 ho4 hg4 hat4 hlt4))
        have HB4 := Lib.hid (HB3.out.grown hg4 HB3.out.size (fun k hk => (HO2.out.lt k hk).1))
        have hS4 : SumsNew w4 w.heap.size (.slice (some ⟨g4, 0, none⟩) (acc.length + 1) c4) (acc ++ [x]) := own_new (by rw [List.length_append, List.length_singleton]; exact ho4) (by simp)
        have HS4 := Lib.hid hS4
        clear ho4 hg4 hat4 hlt4 HB3 HX3 hS4
        have hlt4 : (acc ++ [x]).length < 4000000000 := by rw [List.length_append, List.length_singleton]; omega
        refine (reverse_sums _ w.heap.size _ (acc ++ [x]) HS4.out hlt4).mono ?_
        rintro e5 w5 ⟨rfl, hs5, hk5⟩
        have HB5 := Lib.hid (HB4.out.trans (hk5.below HB4.out.size (fun k hk => HS4.out.own k hk)))
        rw [← HL2.out] at hs5
        clear hk5 hlt4 HS4
        go_wp2_with fail
        refine (clip_sums _ _ _ _ hs5).mono ?_
        rintro e6 w6 ⟨v6, rfl, hs6, rfl⟩
        have HS6 := Lib.hid hs6
        clear hs5 hs6
        go_wp2_with fail
        refine bodyPost_ret (results_tmp2 rfl _ _ _) rfl ?_
        exact ⟨_, rfl, HS6.out, HB5.out⟩
      · have hl2 : link nd e0 l m0 true = acc.reverse := by rw [HLK.out]; simp
        have HL2 := Lib.hid hl2
        have HB4 := HB
        have HS4 := Lib.hid (own_new' HO.out HNIL.out)
        clear HLK hl2 HB HO
        go_wp2_with fail
        have hlt4 : (acc).length < 4000000000 := by omega
        refine (reverse_sums _ w.heap.size _ (acc) HS4.out hlt4).mono ?_
        rintro e5 w5 ⟨rfl, hs5, hk5⟩
        have HB5 := Lib.hid (HB4.out.trans (hk5.below HB4.out.size (fun k hk => HS4.out.own k hk)))
        rw [← HL2.out] at hs5
        clear hk5 hlt4 HS4
        go_wp2_with fail
        refine (clip_sums _ _ _ _ hs5).mono ?_
        rintro e6 w6 ⟨v6, rfl, hs6, rfl⟩
        have HS6 := Lib.hid hs6
        clear hs5 hs6
        go_wp2_with fail
        refine bodyPost_ret (results_tmp2 rfl _ _ _) rfl ?_
        exact ⟨_, rfl, HS6.out, HB5.out⟩
end Go.Proofs.YtdkcndgehgmadaaGreatDoor
-- Walks: lists of bytes: bytes.Equal, clashes.same, clashes.sums, clashes.root.
open Go Go.RowKit Alm
namespace Go.Proofs.YtdkcndgehgmadaaGreatDoor
theorem bytesOf_nums (l : List UInt8) : Lib.bytesOf (l.map fun x => ((x.toNat : Nat) : Int)) = l := by
  unfold Lib.bytesOf
  rw [List.map_map]
  conv => rhs; rw [← List.map_id l]
  apply List.map_congr_left
  intro x _
  simp
theorem bytes_in {w : World} {a : Option Addr} {c : Nat} {l : List UInt8} (h : BytesAt w (.slice a l.length c) l) : Lib.BytesIn w a l.length (l.map fun x => ((x.toNat : Nat) : Int)) := by
  obtain ⟨a', cap, he, h1, h2, h3⟩ := h
  by_cases hl : l = []
  · subst hl; exact Lib.BytesIn.nil _ _ _
  · obtain ⟨b, o, rfl, hr⟩ := h3.resolve_left hl
    simp only [Value.slice.injEq] at he
    rw [he.1]
    refine Lib.BytesIn.of_cells fun i hi => ?_
    rw [Addr.add_mid]
    refine hr i _ ?_
    simp [cells8, u8v, hi]
theorem eqb_any (a b : List UInt8) (va vb : Value) (w : World) (ha : BytesAt w va a) (hb : BytesAt w vb b) : Calls Tryz.prog 138 #[va, vb] w fun e w' => e = .returned (.bool (decide (a = b))) ∧ w = w' := by
  obtain ⟨aa, ca, rfl, a1, a2, a3⟩ := ha
  obtain ⟨ab, cb, rfl, b1, b2, b3⟩ := hb
  refine (Tryz.bytes_Equal_all aa ab a.length ca b.length cb _ _ w (by simp) (by simp) (bytes_in ⟨aa, ca, rfl, a1, a2, a3⟩) (bytes_in ⟨ab, cb, rfl, b1, b2, b3⟩)).mono ?_
  rintro e w' ⟨rfl, rfl⟩
  rw [bytesOf_nums, bytesOf_nums]
  have : (a == b) = decide (a = b) := by by_cases h : a = b <;> simp [h]
  rw [this]
  exact ⟨rfl, rfl⟩
/-- A list of lists of bytes. -/
def ListsAt (w : World) (v : Value) (ls : List (List UInt8)) : Prop :=
  ∃ a cap, v = .slice a ls.length cap ∧ ls.length ≤ cap ∧ cap ≤ maxLen ∧ (ls = [] ∨ ∃ b o, a = some ⟨b, o, none⟩ ∧ ∀ j (h : j < ls.length), ∃ u, w.cell? ⟨b, o + j, none⟩ = some u ∧ BytesAt w u ls[j])
theorem ListsAt.below {w w' : World} {v : Value} {ls : List (List UInt8)} (h : ListsAt w v ls) (hb : Below w.heap.size w w') : ListsAt w' v ls := by
  obtain ⟨a, cap, hv, h1, h2, h3⟩ := h
  refine ⟨a, cap, hv, h1, h2, ?_⟩
  rcases h3 with h3 | ⟨b, o, ha, h3⟩
  · exact .inl h3
  · refine .inr ⟨b, o, ha, fun j hj => ?_⟩
    obtain ⟨u, hc, hu⟩ := h3 j hj
    exact ⟨u, (hb.cell (p := ⟨b, o + j, none⟩) (World.block_lt_of_cell? w _ hc)).trans hc, bytes_below hu hb (Nat.le_refl _)⟩
theorem ListsAt.cell {w : World} {b o n cap : Nat} {sp : Option Nat} {ls : List (List UInt8)} (h : ListsAt w (.slice (some ⟨b, o, none⟩) n cap) ls) {j : Nat} (hj : j < ls.length) : ∃ u, w.cell? ⟨b, o + j, none⟩ = some u ∧ BytesAt w u ls[j] := by
  obtain ⟨a, c, hv, h1, h2, h3⟩ := h
  have h0 : ls ≠ [] := by intro h; rw [h] at hj; simp at hj
  obtain ⟨b', o', ha, h4⟩ := h3.resolve_left h0
  subst ha
  simp only [Value.slice.injEq, Option.some.injEq, Addr.mk.injEq, and_true] at hv
  obtain ⟨⟨rfl, rfl⟩, _, _⟩ := hv
  exact h4 j hj
theorem ListsAt.form {w : World} {v : Value} {ls : List (List UInt8)} (h : ListsAt w v ls) (h0 : ls ≠ []) : ∃ b o cap, v = .slice (some ⟨b, o, none⟩) ls.length cap ∧ ls.length ≤ cap ∧ cap ≤ maxLen := by
  obtain ⟨a, cap, hv, h1, h2, h3⟩ := h
  obtain ⟨b, o, rfl, _⟩ := h3.resolve_left h0
  exact ⟨b, o, cap, hv, h1, h2⟩
set_option maxRecDepth 100000 in
set_option maxHeartbeats 1000000 in
theorem equalFunc_any (a b : List (List UInt8)) (va vb : Value) (w : World) (ha : ListsAt w va a) (hb : ListsAt w vb b) (hn : a.length < 4000000000) : Calls Tryz.prog 183 #[va, vb, .func (.func 138) #[] #[]] w fun e w' => e = .returned (.bool (decide (a = b))) ∧ w = w' := by
  have HA := Lib.hid ha
  have HB := Lib.hid hb
  obtain ⟨aa, ca, rfl, a1, a2, a3⟩ := ha
  obtain ⟨ab, cb, rfl, b1, b2, b3⟩ := hb
  clear a3 b3
  obtain ⟨n, hna⟩ : ∃ n, n = a.length := ⟨_, rfl⟩
  obtain ⟨m, hmb⟩ : ∃ n, n = b.length := ⟨_, rfl⟩
  rw [← hna] at HA a1 hn ⊢
  rw [← hmb] at HB b1 ⊢
  have HN := Lib.hid (And.intro hna hmb)
  clear hna hmb
  by_cases hnm : n = m
  · subst hnm
    go_enter Tryz.func183, Tryz.ntmps183
    go_wp2_with fail
    go_loopw [17] (fun i W => ∃ j : Nat, j ≤ n ∧ i = .int .i64 (j : Int) ∧ a.take j = b.take j ∧ W = w) (fun i _ => n - (intOf i).toNat)
    case atStart => exact ⟨0, by omega, rfl, rfl, rfl⟩
    case round =>
      obtain ⟨j, hj, rfl, ht, hW⟩ := hrel
      have hW := hW.symm
      subst hW
      have HT := Lib.hid ht; clear ht
      by_cases hlt : j < n
      · have hlt' : (j : Int) < (n : Int) := by omega
        have ha0 : a ≠ [] := by intro h; have := HN.out.1; rw [h] at this; simp at this; omega
        have hb0 : b ≠ [] := by intro h; have := HN.out.2; rw [h] at this; simp at this; omega
        obtain ⟨b1', o1', c1', he1, _, _⟩ := HA.out.form ha0
        obtain ⟨b2', o2', c2', he2, _, _⟩ := HB.out.form hb0
        simp only [Value.slice.injEq] at he1 he2
        obtain ⟨rfl, h9, rfl⟩ := he1
        clear h9
        obtain ⟨rfl, h9, rfl⟩ := he2
        clear h9
        obtain ⟨u1, hc1, hu1⟩ := HA.out.cell (sp := none) (j := j) (by have := HN.out.1; omega)
        obtain ⟨u2, hc2, hu2⟩ := HB.out.cell (sp := none) (j := j) (by have := HN.out.2; omega)
        have HU := Lib.hid (And.intro hu1 hu2)
        have HE := Lib.hid (And.intro (List.getElem?_eq_getElem (l := a) (i := j) (by have := HN.out.1; omega)) (List.getElem?_eq_getElem (l := b) (i := j) (by have := HN.out.2; omega)))
        clear hu1 hu2 ha0 hb0
        have hj0 : (0 : Int) ≤ (j : Int) := by omega
        generalize a[j]'_ = x at *
        generalize b[j]'_ = y at *
        go_wp2_with fail
        refine (eqb_any x y u1 u2 w HU.out.1 HU.out.2).mono ?_
        rintro e w1 ⟨rfl, rfl⟩
        by_cases hxy : x = y
        · rw [decide_eq_true hxy]
          have ht2 : a.take (j + 1) = b.take (j + 1) := by rw [List.take_add_one, List.take_add_one, HT.out, HE.out.1, HE.out.2, hxy]
          have HT2 := Lib.hid ht2
          clear ht2 hxy
          go_wp2_with fail
          exact ⟨⟨j + 1, by omega, by simp, HT2.out, trivial⟩, by simp [intOf]; omega⟩
        · rw [decide_eq_false hxy]
          have hne : ¬ a = b := by
            intro h
            have h1 := HE.out.1
            rw [h, HE.out.2] at h1
            exact hxy (Option.some.inj h1).symm
          have HNE := Lib.hid hne
          clear hxy hne
          go_wp2_with fail
          exact bodyPost_ret (results_tmp rfl _ _ _) rfl ⟨by rw [decide_eq_false HNE.out]; rfl, rfl⟩
      · have hjn : j = n := by omega
        have hab : a = b := by
          have h1 := HT.out
          rw [List.take_of_length_le (by have := HN.out.1; omega), List.take_of_length_le (by have := HN.out.2; omega)] at h1
          exact h1
        have HAB := Lib.hid hab
        clear hab
        subst hjn
        go_wp2_with fail
        exact bodyPost_ret (results_tmp rfl _ _ _) rfl ⟨by rw [decide_eq_true HAB.out]; rfl, rfl⟩
  · have hnm' : ((n : Int) == (m : Int)) = false := by rw [beq_eq_false_iff_ne]; omega
    have hne : ¬ a = b := by
      intro h
      have h1 := HN.out.1
      rw [h, ← HN.out.2] at h1
      exact hnm h1
    have HNE := Lib.hid hne
    clear hne
    go_enter Tryz.func183, Tryz.ntmps183
    go_wp2_with fail
    exact bodyPost_ret (results_tmp rfl _ _ _) rfl ⟨by rw [decide_eq_false HNE.out]; rfl, rfl⟩
theorem same_any (a b : List (List UInt8)) (va vb : Value) (w : World) (ha : ListsAt w va a) (hb : ListsAt w vb b) (hn : a.length < 4000000000) : Calls Tryz.prog 129 #[va, vb] w fun e w' => e = .returned (.bool (decide (a = b))) ∧ w = w' := by
  go_enter Tryz.func129, Tryz.ntmps129
  go_wp2_with fail
  refine (equalFunc_any a b va vb w ha hb hn).mono ?_
  rintro e w1 ⟨rfl, rfl⟩
  go_wp2_with fail
  exact bodyPost_ret (results_tmp rfl _ _ _) rfl ⟨rfl, rfl⟩
set_option maxRecDepth 100000 in
set_option maxHeartbeats 1000000 in
theorem csums_any (ls : List (List UInt8)) (v : Value) (w : World) (hv : ListsAt w v ls) (hn : ls.length < 1000000) (hs : ∀ x ∈ ls, x.length < 1000000) : Calls Tryz.prog 184 #[v] w fun e w' => ∃ u, e = .returned u ∧ SumsAt w' u (ls.map lf) ∧ Below w.heap.size w w' := by
  have HV := Lib.hid hv
  obtain ⟨aa, ca, rfl, a1, a2, a3⟩ := hv
  clear a3
  obtain ⟨n, hna⟩ : ∃ n, n = ls.length := ⟨_, rfl⟩
  rw [← hna] at HV a1 hn ⊢
  have HN := Lib.hid (And.intro hna hs)
  clear hna hs
  go_enter Tryz.func184, Tryz.ntmps184
  go_wp2_with fail
  go_loopw [2, 7] (fun out i W => ∃ j : Nat, j ≤ n ∧ i = .int .i64 (j : Int) ∧ W.ownsRow w.heap.size 24 32 out j (cellsAll ((ls.take j).map lf)) ∧ (j = 0 → out = .slice none 0 0) ∧ Below w.heap.size w W) (fun _ i _ => n - (intOf i).toNat)
  case atStart => exact ⟨0, by omega, rfl, World.ownsRow_nil _ _ _ _, fun _ => rfl, Below.refl _ _⟩
  case round =>
    obtain ⟨j, hj, rfl, ho, hnil, hB⟩ := hrel
    have HO := Lib.hid ho; clear ho
    have HNIL := Lib.hid hnil; clear hnil
    have HB := Lib.hid hB; clear hB
    by_cases hlt : j < n
    · have hlt' : (j : Int) < (n : Int) := by omega
      have h0 : ls ≠ [] := by intro h; have := HN.out.1; rw [h] at this; simp at this; omega
      have HW := Lib.hid (HV.out.below HB.out)
      obtain ⟨b1', o1', c1', he1, _, _⟩ := HV.out.form h0
      simp only [Value.slice.injEq] at he1
      obtain ⟨rfl, h9, rfl⟩ := he1
      clear h9
      obtain ⟨u1, hc1, hu1⟩ := HW.out.cell (sp := none) (j := j) (by have := HN.out.1; omega)
      have hjl : j < ls.length := by have := HN.out.1; omega
      have hx9 : ls[j].length < 1000000 := HN.out.2 _ (List.getElem_mem hjl)
      have hstep : (ls.take (j + 1)).map lf = (ls.take j).map lf ++ [lf ls[j]] := by rw [List.take_succ_eq_append_getElem hjl, List.map_append]; rfl
      have HST := Lib.hid hstep
      have HU := Lib.hid (And.intro hu1 hx9)
      clear hu1 hstep hx9 h0
      generalize ls[j] = x at *
      have hj0 : (0 : Int) ≤ (j : Int) := by omega
      clear hjl
      have hml : ((ls.take j).map lf).length = j := by rw [List.length_map, List.length_take]; have := HN.out.1; omega
      have HML := Lib.hid hml; clear hml
      go_wp2_with fail
      refine (lf_any x u1 wr HU.out.1 (by have := HU.out.2; omega)).mono ?_
      rintro e2 w2 ⟨rfl, hb2⟩
      have HB2 := Lib.hid (HB.out.trans (hb2.mono HB.out.size))
      have HO2 := Lib.hid ((Keeps.of_below (X := fun _ => False) hb2).owns HO.out (fun _ _ h => h))
      generalize lf x = y at *
      clear hb2 HB HO HU HW
      generalize (ls.take j).map lf = acc at *
      have HB3 := Lib.hid (HB2.out.alloc HB2.out.size (.cells (cellsAll [y]).toArray 24))
      have HX3 : Hid ((w2.alloc (.cells (cellsAll [y]).toArray 24)).rangeAt w2.heap.size 0 (cellsAll [y])) := range_new w2 _ _ _ rfl
      go_wp2_with (first
        | (refine wpList_build_sums rfl 1 _ rfl [y] rfl (by omega) (by omega) rfl ?_)
        | (at_builtin; refine wpList_append_sums rfl _ _ rfl w.heap.size _ acc [y] j 1 HML.out rfl (by rfl) (HO2.out.alloc _) w2.heap.size 0 1 rfl HX3.out (by omega) (by omega) HB3.out.size ?_; intro g4 c4 w4 ho4 hg4 hat4 hlt4))
      have HB4 := Lib.hid (HB3.out.grown hg4 HB3.out.size (fun k hk => (HO2.out.lt k hk).1))
      exact ⟨⟨j + 1, by omega, by simp, by rw [HST.out]; exact ho4, by omega, HB4.out⟩, by simp [intOf]; omega⟩
    · have hjn : j = n := by omega
      subst hjn
      have htk : ls.take j = ls := List.take_of_length_le (by rw [HN.out.1]; exact Nat.le_refl _)
      have ho := HO.out
      rw [htk] at ho
      have hml : (ls.map lf).length = j := by rw [List.length_map, ← HN.out.1]
      rw [← hml] at ho
      have HSN := Lib.hid (own_new' ho (fun h => HNIL.out (by rw [← hml, h]; rfl)))
      clear htk ho hml HO
      go_wp2_with fail
      refine bodyPost_ret (results_tmp rfl _ _ _) rfl ?_
      exact ⟨_, rfl, HSN.out.sums, HB.out⟩
theorem croot_any (ls : List (List UInt8)) (v : Value) (w : World) (hv : ListsAt w v ls) (hn : ls.length < 1000000) (hs : ∀ x ∈ ls, x.length < 1000000) : Calls Tryz.prog 130 #[v] w fun e w' => e = .returned (sv (rt (ls.map lf))) ∧ Below w.heap.size w w' := by
  have R0 : Res w 32 (w.alloc (.cells (cells8 (List.replicate 32 0)).toArray 24)) := Res.start _ _ _ _ (by rfl)
  have HC := Lib.hid (csums_any ls v _ (hv.below R0.below) hn hs)
  obtain ⟨s, hsr⟩ : ∃ s, s = rt (ls.map lf) := ⟨_, rfl⟩
  rw [← hsr]
  have HSR := Lib.hid hsr; clear hsr
  have HR := Lib.hid R0
  clear R0 hv hn hs
  go_enter Tryz.func130, Tryz.ntmps130
  go_wp2_with fail
  refine HC.out.mono ?_
  rintro e w1 ⟨u, rfl, hu, hb⟩
  have hb1 := HR.out.below.trans (hb.mono HR.out.below.size)
  have ht1 := (Keeps.of_below (X := fun _ => False) hb).there HR.out.there (by decide) (fun h => h)
  have HH := Lib.hid (And.intro hu (And.intro hb1 ht1))
  clear hu hb hb1 ht1 HR HC
  go_wp2_with fail
  refine (rt_any _ u w1 HH.out.1).mono ?_
  rw [← HSR.out]
  rintro e w2 ⟨rfl, hb⟩
  have HT := Lib.hid ((Keeps.of_below (X := fun _ => False) hb).there HH.out.2.2 (by decide) (fun h => h))
  have HB := Lib.hid (HH.out.2.1.trans (hb.mono HH.out.2.1.size))
  clear hb HH
  go_wp2_with (refine wpList_store_sum rfl _ _ rfl w.heap.size 0 s rfl rfl HT.out ?_)
  exact bodyPost_ret (results_sum Tryz.results130 _ _ _ _ rfl (World.there_setCells HT.out _ _ _)) rfl ⟨rfl, setCells_below _ (Nat.le_refl _) _ _ _ _ HB.out⟩
end Go.Proofs.YtdkcndgehgmadaaGreatDoor
-- The seat's words: small trees' roots; what lies below.
open Go Go.RowKit Alm
namespace Go.Proofs.YtdkcndgehgmadaaGreatDoor
theorem rt_one (a : Sum) : rt [a] = a := by rw [rt_eq, root_one]
theorem cut_two : cut 2 = 1 := cut_eq (j := 0) (by simp) (by simp)
theorem cut_three : cut 3 = 2 := cut_eq (j := 1) (by simp) (by simp)
theorem rt_pair (a b : Sum) : rt [a, b] = nd a b := by
  rw [rt_eq, root_split nd e0 (by simp)]
  have : cut [a, b].length = 1 := cut_two
  rw [this]; simp [root_one]
theorem rt_triple (a b c : Sum) : rt [a, b, c] = nd (nd a b) c := by
  have h2 := rt_pair a b
  rw [rt_eq] at h2 ⊢
  rw [root_split nd e0 (by simp)]
  have : cut [a, b, c].length = 2 := cut_three
  rw [this]; simp [root_one, h2]
theorem br {w V : World} (hV : Below w.heap.size w V) {b o : Nat} {cs : List Value} (h : w.rangeAt b o cs) : V.rangeAt b o cs := (Keeps.of_below (X := fun _ => False) hV).range h (fun h => h)
end Go.Proofs.YtdkcndgehgmadaaGreatDoor
