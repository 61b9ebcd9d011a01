/-
  Joined: H3, TW1, TWB1.
-/
import Derived.Test.YtdkcndgehgmadaaGreatDoorZBL
import Derived.Test.YtdkcndgehgmadaaGreatDoorBL5
import Derived.Test.YtdkcndgehgmadaaGreatDoorZAS
import Derived.Test.YtdkcndgehgmadaaGreatDoorZBC
import Derived.Test.YtdkcndgehgmadaaGreatDoorZBD
-- Walks: the document's whole trees: Sums.
open Go Go.RowKit Alm
namespace Go.Proofs.YtdkcndgehgmadaaGreatDoor
theorem flat_cells (l : List Sum) : (l.map cellsOf).flatten = cellsAll l := by rw [cellsAll, List.flatMap_def]
theorem lie_sums {W : World} {base : Nat} {v : Value} {l : List Sum} (h : Lie W base 32 v (l.map cellsOf)) : SumsAt W v l := by
  rcases h with ⟨rfl, h0⟩ | ⟨g, cap, rfl, _, _, hnc, hcm, hr, _⟩
  · have : l = [] := by simpa using h0
    subst this
    exact ⟨none, 0, rfl, Nat.le_refl _, by unfold maxLen; omega, .inl rfl⟩
  · rw [List.length_map] at hnc ⊢
    rw [flat_cells] at hr
    exact ⟨_, cap, rfl, hnc, hcm, .inr ⟨g, 0, rfl, hr⟩⟩
theorem sums9_nums {n k : Nat} (hn : n < 4000000000) (hk : k ≤ n) : wrap64 (2 * (k : Int)) = ((2 * k : Nat) : Int) ∧ (n : Int) < 4000000000 ∧ (0 : Int) ≤ (n : Int) := by
  refine ⟨by unfold wrap64; omega, by omega, by omega⟩
theorem dec_le {k n : Nat} : (k ≤ n → decide (k ≤ n) = true ∧ decide ((k : Int) ≤ (n : Int)) = true ∧ (k : Int) ≤ (n : Int)) ∧ (¬ k ≤ n → decide (k ≤ n) = false ∧ decide ((k : Int) ≤ (n : Int)) = false ∧ ¬ (k : Int) ≤ (n : Int)) := by
  refine ⟨fun h => ⟨by simpa using h, by simpa using h, by omega⟩, fun h => ⟨by simpa using h, by simpa using h, by omega⟩⟩
def lenV : Value → Nat | .slice _ n _ => n | _ => 0
set_option maxRecDepth 100000 in
set_option maxHeartbeats 1000000 in
theorem rsums_any (l : List Sum) (v : Value) (w : World) (hv : SumsAt w v l) (hl : l.length < 1000000) : Calls Tryz.prog 22 #[v] w fun e w' => ∃ v', e = .returned v' ∧ SumsAt w' v' (stk nd e0 64 l) ∧ Below w.heap.size w w' := by
  have HV := Lib.hid hv
  have HL := Lib.hid hl
  clear hv hl
  go_enter Tryz.func22, Tryz.ntmps22
  go_wp2_with fail
  go_loopw [0, 3, 4] (fun u o _ W => ∃ (r dn : List Sum), r.length ≤ l.length ∧ SumsAt w u r ∧ Grown W w.heap.size 32 w.heap.size (.slice none 0 0) [] o (dn.map cellsOf) ∧ dn.length ≤ l.length ∧ dn.length + r.length ≤ l.length ∧ dn ++ stk nd e0 64 r = stk nd e0 64 l ∧ Below w.heap.size w W) (fun u _ _ _ => lenV u)
  case atStart => exact ⟨l, [], Nat.le_refl _, HV.out, Grown.start (.inl ⟨rfl, rfl⟩) (Nat.le_refl _), by simp, by simp, rfl, Below.refl _ _⟩
  case round =>
    obtain ⟨r, dn, hr1, hr, hG, hd1, hd2, he, hB⟩ := hrel
    by_cases h0 : r = []
    · subst h0
      obtain ⟨va, vc, rfl, _, _, _⟩ := hr
      have hs : SumsAt wr u3 (stk nd e0 64 l) := by
        rw [← he, stk_nil, List.append_nil]
        exact lie_sums hG.now
      have HS := Lib.hid (And.intro hs hB)
      clear hG hB he hs
      go_wp2_with fail
      refine bodyPost_ret (results_tmp rfl _ _ _) rfl ?_
      exact ⟨_, rfl, HS.out⟩
    · obtain ⟨b, o, cap, rfl, hc1, hc2, hrg⟩ := sums_form8 hr h0
      have hpos := List.length_pos_iff.2 h0
      obtain ⟨n, hn⟩ : ∃ n, n = r.length := ⟨_, rfl⟩
      rw [← hn] at hpos hc1 ⊢
      have hnl : n < 4000000000 := by have := HL.out; omega
      have hn1 : (0 : Int) < (n : Int) := by omega
      have hn2 : decide ((0 : Int) < (n : Int)) = true := by simpa using hpos
      have HR := Lib.hid (And.intro hn (And.intro hr (And.intro hrg (And.intro hc1 (And.intro hc2 (And.intro hpos hnl))))))
      have HG := Lib.hid (And.intro hG (And.intro hB (And.intro he (And.intro hd1 (And.intro hd2 hr1)))))
      clear hn hr hrg hc1 hc2 hpos hnl hG hB he hd1 hd2 hr1 h0
      obtain ⟨wo, hwo⟩ : ∃ wo : World, wo = wr := ⟨_, rfl⟩
      rw [← hwo] at HG ⊢
      clear hwo
      go_wp2_with fail
      go_loopw [4] (fun kv V => ∃ j : Nat, 2 ^ j ≤ n ∧ kv = .int .i64 ((2 ^ j : Nat) : Int) ∧ V = wo) (fun kv _ => n - (intOf kv).toNat)
      case atStart => exact ⟨0, HR.out.2.2.2.2.2.1, rfl, rfl⟩
      case round =>
        obtain ⟨j, hj, rfl, rfl⟩ := hrel
        obtain ⟨k, hk⟩ : ∃ k, k = 2 ^ j := ⟨_, rfl⟩
        rw [← hk] at hj ⊢
        have hk1 : 0 < k := by rw [hk]; exact Nat.two_pow_pos j
        obtain ⟨e1, e2, e3⟩ := sums9_nums HR.out.2.2.2.2.2.2 hj
        obtain ⟨k2, hk2⟩ : ∃ m, m = 2 * k := ⟨_, rfl⟩
        rw [← hk2] at e1
        have HK := Lib.hid (And.intro hk (And.intro hj (And.intro hk1 hk2)))
        clear hk hj hk1 hk2
        by_cases hle : k2 ≤ n
        · obtain ⟨c1, c2, c3⟩ := dec_le.1 hle
          go_wp2_with fail
          have h5 : 2 ^ (j + 1) = k2 := by rw [Nat.pow_succ, ← HK.out.1, HK.out.2.2.2, Nat.mul_comm]
          have hk4 := HK.out
          have hk5 : (2 : Int) * (k : Int) = (k2 : Int) := by rw [hk4.2.2.2]; rfl
          clear HK HR HG HL HV hn1 hn2
          try rw [e1]
          try rw [hk5]
          refine ⟨⟨j + 1, by rw [h5]; exact hle, by rw [h5], trivial⟩, ?_⟩
          simp only [intOf, Int.toNat_natCast]
          omega
        · obtain ⟨c1, c2, c3⟩ := dec_le.2 hle
          have hj64 : j < 64 := by
            rcases Nat.lt_or_ge j 64 with h | h
            · exact h
            · have h1 : 2 ^ 64 ≤ 2 ^ j := Nat.pow_le_pow_right (by omega) h
              have h2 := HK.out.1
              have h3 := HK.out.2.1
              have h4 := HR.out.2.2.2.2.2.2
              omega
          have hbig := stk_big nd e0 (l := r) (j := j) (by rw [← HK.out.1, ← HR.out.1]; exact HK.out.2.1) (by rw [Nat.pow_succ, ← HK.out.1, ← HR.out.1]; have := HK.out; omega) hj64
          rw [← HK.out.1, ← rt_eq] at hbig
          have hs1 : SumsAt w (.slice (some ⟨b, o, none⟩) k cap) (r.take k) := sums_take HR.out.2.2.1 (by have := HR.out; have := HK.out; omega) (by have := HR.out; have := HK.out; omega) HR.out.2.2.2.2.1
          have hs2 : SumsAt w (.slice (if cap = k then some ⟨b, o, none⟩ else some ⟨b, o + k * 32, none⟩) (n - k) (cap - k)) (r.drop k) := by
            split
            · rename_i h
              have : r.drop k = [] := List.drop_eq_nil_of_le (by have := HR.out; have := HK.out; omega)
              rw [this]
              have hnk : n - k = 0 := by have := HR.out.2.2.2.1; have := HK.out.2.1; omega
              rw [hnk]
              exact ⟨_, cap - k, rfl, by simp, by have := HR.out.2.2.2.2.1; omega, .inl rfl⟩
            · have := sums_drop (cap := cap - k) HR.out.2.2.1 (k := k) (by have := HR.out; have := HK.out; omega) (by have := HR.out; have := HK.out; omega) (by have := HR.out.2.2.2.2.1; omega)
              rwa [← HR.out.1] at this
          have HS2 := Lib.hid hs2
          clear hs2
          have HRT := Lib.hid (rroot_any _ _ wr (hs1.below HG.out.2.1 (Nat.le_refl _)))
          have HBIG := Lib.hid hbig
          have k1 : (0 : Int) ≤ (k : Int) := by omega
          have k2' : (k : Int) ≤ (cap : Int) := by have := HR.out; have := HK.out; omega
          have k3 : (k : Int) ≤ (n : Int) := by have := HK.out; omega
          clear hbig hs1 hj64 e2
          go_wp2_with (go_at_call 21; refine HRT.out.mono ?_; rintro e V2 ⟨rfl, hb2⟩; refine Hid.out ?_)
          refine Lib.hid ?_
          have HV2 := Lib.hid hb2
          clear hb2
          go_wp2_with (refine wpList_lit_sum rfl _ rfl (rt (r.take k)) rfl ?_; refine Hid.out ?_)
          refine Lib.hid ?_
          try simp only [Act.put, List.setIfInBounds_toArray, List.set_cons_zero, List.set_cons_succ]
          have hba := Alm.al (Below.refl V2.heap.size V2) (.cells (cellsOf (rt (r.take k))).toArray 24)
          refine wpList_append_sumG (base := w.heap.size) (B := w.heap.size) (v0 := .slice none 0 0) (xs := []) (ys := dn.map cellsOf) (by rfl) _ _ (by rfl) (by rfl) ((HG.out.1.below HV2.out).below hba) (Nat.le_refl _) (Nat.le_trans HG.out.2.1.size (Nat.le_trans HV2.out.size hba.size)) ⟨V2.heap.size, 0, none⟩ 1 (rt (r.take k)) (by rfl) (fun j u hj => by rw [Addr.add_mid]; exact range_new V2 (cellsOf (rt (r.take k))).toArray 24 _ rfl j u hj) (by rw [List.length_map]; have := HG.out; have := HL.out; simp; omega) ?_
          intro v4 V4 hg4 hk4 hf4
          obtain ⟨a4, c4, rfl⟩ := hf4
          have hb4 := hk4.below (B := w.heap.size) (Nat.le_trans HG.out.2.1.size (Nat.le_trans HV2.out.size hba.size)) (fun k h => by rcases h with h | h; cases h; exact h)
          have H4 := Lib.hid (And.intro hg4 ((HG.out.2.1.trans (HV2.out.mono HG.out.2.1.size)).trans ((hba.mono (Nat.le_trans HG.out.2.1.size HV2.out.size)).trans hb4)))
          clear hg4 hb4 hk4 hba HRT
          go_wp2_with fail
          have hg4 := H4.out.1
          rw [← List.map_singleton, ← List.map_append] at hg4
          have hst : (dn ++ [rt (r.take k)]) ++ stk nd e0 64 (r.drop k) = stk nd e0 64 l := by
            rw [List.append_assoc, List.singleton_append, ← HBIG.out]; exact HG.out.2.2.1
          have hln : (dn ++ [rt (r.take k)]).length + (r.drop k).length ≤ l.length := by
            rw [List.length_append, List.length_singleton, List.length_drop]; have := HG.out; have := HK.out; have := HR.out; omega
          have hk7 := HK.out
          have hb7 := H4.out.2
          have hs7 := HS2.out
          rw [List.length_nil, List.length_map, Nat.zero_add] at hg4
          have hrl : (r.drop k).length ≤ l.length := by rw [List.length_drop]; have := HG.out; omega
          refine ⟨⟨r.drop k, dn ++ [rt (r.take k)], hrl, hs7, hg4, by omega, hln, hst, hb7⟩, ?_⟩
          clear HG HR HBIG H4 HS2 hg4 hst hln hb7 hs7 hrl
          show n - k < n
          omega
end Go.Proofs.YtdkcndgehgmadaaGreatDoor
-- Walk: a copy of sums, with a mark behind it (TwinSums).
open Go Go.RowKit Alm
namespace Go.Proofs.YtdkcndgehgmadaaGreatDoor
theorem build_77 (w : World) : (Instr.build 24 #[(0, .int .u8 77)]).run Tryz.prog w = .ok (.agg (cellsOf (mkS 77)).toArray) w := by rw [mkS_eq]; kernel_rfl
set_option maxRecDepth 100000 in
theorem wpList_build_77 {ops : Array Oper} {rest : List Oper} {op : Oper} {a : Act} {w : World} {Q : Exit → Act → World → Prop} (hgd : op.guard = none) (ho : op.op = .build 24 #[(0, .const (.int .u8 77))])
    (h : wpList Tryz.prog ops Q rest (a.put op.dst (sv (mkS 77))) w) : wpList Tryz.prog ops Q (op :: rest) a w :=
  wpList_build_by hgd 24 _ ho _ (fun W => by
    have e : ((#[(0, Operand.const (.int .u8 77))] : Array (Nat × Operand)).map fun (i, x) => (i, a.eval x)) = #[(0, .int .u8 77)] := by simp [Act.eval]
    rw [e]
    exact build_77 W) h
/-- A copy of sums: they lie with a mark behind them. -/
def TwinS (W : World) (base : Nat) (v : Value) (l : List Sum) : Prop := ∃ g cap, v = .slice (some ⟨g, 0, none⟩) l.length cap ∧ Lie W base 32 (.slice (some ⟨g, 0, none⟩) (l.length + 1) cap) ((l ++ [mkS 77]).map cellsOf)
theorem TwinS.lie {W : World} {base : Nat} {v : Value} {l : List Sum} (h : TwinS W base v l) : Lie W base 32 v (l.map cellsOf) := by
  obtain ⟨g, cap, rfl, h⟩ := h
  rw [List.map_append] at h
  exact h.front (by rw [List.length_map])
theorem TwinS.sums {W : World} {base : Nat} {v : Value} {l : List Sum} (h : TwinS W base v l) : SumsAt W v l := lie_sums h.lie
theorem TwinS.keep {X : Nat → Prop} {W W' : World} {base : Nat} {v : Value} {l : List Sum} (h : TwinS W base v l) (hk : Keeps X W W') (hx : ∀ k, v.ownBlock = some k → ¬ X k) : TwinS W' base v l := by
  obtain ⟨g, cap, rfl, h⟩ := h
  exact ⟨g, cap, rfl, h.keep hk (fun k hk2 => hx k hk2)⟩
theorem TwinS.below {W W' : World} {base : Nat} {v : Value} {l : List Sum} (h : TwinS W base v l) (hb : Below W.heap.size W W') : TwinS W' base v l := h.keep (Keeps.of_below (X := fun _ => False) hb) (fun _ _ h => h)
theorem twin_nums {n : Nat} (h : n < 900000) : wrap64 ((n : Int) + 1) = ((n + 1 : Nat) : Int) := by unfold wrap64; omega
set_option maxRecDepth 100000 in
set_option maxHeartbeats 1000000 in
theorem twin_sums (l : List Sum) (v : Value) (w : World) (hv : SumsAt w v l) (hl : l.length < 900000) : Calls Tryz.prog 8 #[v] w fun e w' => ∃ v', e = .returned v' ∧ TwinS w' w.heap.size v' l ∧ Below w.heap.size w w' := by
  have hv0 := hv
  obtain ⟨va, vc, rfl, hc1, hc2, h3⟩ := hv
  obtain ⟨n, hn⟩ : ∃ n, n = l.length := ⟨_, rfl⟩
  rw [← hn] at hc1 hv0 hl ⊢
  obtain ⟨n1, hn1⟩ : ∃ m, m = n + 1 := ⟨_, rfl⟩
  have hw1 := twin_nums hl
  rw [← hn1] at hw1
  obtain ⟨i0, z0, hi0, hz0, hs0, hb0, hzs0⟩ := info_sumB
  have HI := Lib.hid (And.intro hi0 (And.intro hz0 (And.intro hs0 hb0)))
  have HV := Lib.hid (And.intro hv0 (And.intro hn (And.intro hc1 (And.intro hc2 (And.intro hl hn1)))))
  clear hv0 hn hc1 hc2 hl hn1 hi0 hz0 hs0 hb0 hzs0 h3
  go_enter Tryz.func8, Tryz.ntmps8
  go_wp2_with (at_make; refine Hid.out ?_)
  refine Lib.hid ?_
  try rw [hw1]
  refine wpList_make_own _ rfl _ _ _ rfl w.heap.size 24 i0 z0 32 Tryz.underlying22 HI.out.1 HI.out.2.1 HI.out.2.2.1 .i64 .i64 (n1 : Int) n1 rfl (by rfl) rfl (by rw [HI.out.2.2.2]; have := HV.out; omega) (by unfold maxLen; have := HV.out; omega) (Nat.le_refl _) ?_
  intro w2 ho2 hg2
  have hb2 : Below w.heap.size w w2 := Keeps.below (B := w.heap.size) (Keeps.of_grown (X := fun _ => False) hg2 (fun k hk => by cases hk)) (Nat.le_refl _) (fun _ h => h.elim)
  have hlie : Lie w2 w.heap.size 32 (.slice (some ⟨w.heap.size, 0, none⟩) 0 n1) [] := lie_own (xs := []) ho2 rfl (fun x hx => by cases hx)
  have H2 := Lib.hid (And.intro (Grown.start (B := w2.heap.size) hlie (Nat.le_refl _)) (And.intro hb2 hg2.size))
  clear ho2 hg2 hb2 hlie
  go_wp2_with fail
  go_loopw [3, 4] (fun tv iv W => ∃ i : Nat, i ≤ n ∧ iv = .int .i64 (i : Int) ∧ (∃ a c, tv = .slice a i c) ∧ Grown W w.heap.size 32 w2.heap.size (.slice (some ⟨w.heap.size, 0, none⟩) 0 n1) [] tv ((l.take i).map cellsOf) ∧ Below w.heap.size w W ∧ w2.heap.size ≤ W.heap.size) (fun _ iv _ => n - (intOf iv).toNat)
  case atStart => exact ⟨0, Nat.zero_le _, rfl, ⟨_, _, rfl⟩, H2.out.1, H2.out.2.1, Nat.le_refl _⟩
  case round =>
    obtain ⟨i, hi, rfl, ⟨ta, tc, rfl⟩, hG, hB, hS⟩ := hrel
    have HG := Lib.hid (And.intro hG (And.intro hB hS))
    clear hG hB hS
    by_cases hlt : i < n
    · obtain ⟨d1, d2, d3, d4⟩ := dec_lt hlt
      have hil : i < l.length := by rw [← HV.out.2.1]; exact hlt
      have hne : l ≠ [] := by intro h; rw [h] at hil; simp at hil
      obtain ⟨b, o, cap', hvf, _, _, hr⟩ := sums_form8 HV.out.1 hne
      simp only [Value.slice.injEq] at hvf
      obtain ⟨rfl, -, rfl⟩ := hvf
      have hx := range_below HG.out.2.1 (range_at hr hil) (range_lt (range_at hr hil) (by intro h; have := length_cellsOf l[i]; rw [h] at this; cases this))
      have htk := List.take_succ_eq_append_getElem hil
      generalize l[i] = s at *
      have HX := Lib.hid (And.intro hx htk)
      clear hx htk hr hne hil
      go_wp2_with (first
        | (refine wpList_load_sum rfl _ rfl b (o + i * 32) rfl s HX.out.1 ?_)
        | (refine wpList_lit_sum rfl _ rfl s rfl ?_; refine Hid.out ?_))
      refine Lib.hid ?_
      try simp only [Act.put, List.setIfInBounds_toArray, List.set_cons_zero, List.set_cons_succ]
      have hba := Alm.al (Below.refl wr.heap.size wr) (.cells (cellsOf s).toArray 24)
      refine wpList_append_sumG (base := w.heap.size) (B := w2.heap.size) (v0 := .slice (some ⟨w.heap.size, 0, none⟩) 0 n1) (xs := []) (ys := (l.take i).map cellsOf) rfl _ _ rfl rfl (HG.out.1.below hba) H2.out.2.1.size (Nat.le_trans HG.out.2.2 hba.size) ⟨wr.heap.size, 0, none⟩ 1 s rfl (fun j u hj => by rw [Addr.add_mid]; exact range_new wr (cellsOf s).toArray 24 _ rfl j u hj) (by rw [List.length_map, List.length_take]; have := HV.out; simp; omega) ?_
      intro v4 V4 hg4 hk4 hf4
      obtain ⟨a4, c4, rfl⟩ := hf4
      have hb4 := hk4.below (B := w.heap.size) (Nat.le_trans HG.out.2.1.size hba.size) (fun k h => by
        rcases h with h | h
        · simp only [Value.ownBlock, Option.some.injEq] at h; omega
        · exact Nat.le_trans H2.out.2.1.size h)
      rw [← List.map_singleton (f := cellsOf), ← List.map_append, ← HX.out.2] at hg4
      have hln : ([] : List (List Value)).length + ((l.take i).map cellsOf).length + 1 = i + 1 := by rw [List.length_map, List.length_take, List.length_nil]; have := HV.out; omega
      rw [hln] at hg4 ⊢
      have H4 := Lib.hid (And.intro hg4 (And.intro ((HG.out.2.1.trans (hba.mono HG.out.2.1.size)).trans hb4) (Nat.le_trans HG.out.2.2 (Nat.le_trans hba.size hk4.size))))
      clear hg4 hb4 hk4 hba hln
      go_wp2_with fail
      have h4 := H4.out
      have hwi := wrapn (k := i) (by have := HV.out; omega)
      try rw [hwi]
      clear hwi
      clear H4 HG HX HV H2 HI d1 d2 d3 d4
      refine ⟨⟨i + 1, hlt, rfl, ⟨_, _, rfl⟩, h4⟩, ?_⟩
      clear h4
      simp only [intOf, Int.toNat_natCast]
      omega
    · obtain rfl : i = n := by omega
      have htk : l.take i = l := List.take_of_length_le (by rw [← HV.out.2.1]; exact Nat.le_refl _)
      rw [htk] at HG
      clear htk
      have hne : HG = HG := rfl
      clear hne
      go_wp2_with (first
        | (refine wpList_build_77 rfl rfl ?_)
        | (refine wpList_lit_sum rfl _ rfl (mkS 77) rfl ?_; refine Hid.out ?_))
      refine Lib.hid ?_
      try simp only [Act.put, List.setIfInBounds_toArray, List.set_cons_zero, List.set_cons_succ]
      have hba := Alm.al (Below.refl wr.heap.size wr) (.cells (cellsOf (mkS 77)).toArray 24)
      refine wpList_append_sumG (base := w.heap.size) (B := w2.heap.size) (v0 := .slice (some ⟨w.heap.size, 0, none⟩) 0 n1) (xs := []) (ys := l.map cellsOf) rfl _ _ rfl rfl (HG.out.1.below hba) H2.out.2.1.size (Nat.le_trans HG.out.2.2 hba.size) ⟨wr.heap.size, 0, none⟩ 1 (mkS 77) rfl (fun j u hj => by rw [Addr.add_mid]; exact range_new wr (cellsOf (mkS 77)).toArray 24 _ rfl j u hj) (by rw [List.length_map]; have := HV.out; simp; omega) ?_
      intro v4 V4 hg4 hk4 hf4
      have hb4 := hk4.below (B := w.heap.size) (Nat.le_trans HG.out.2.1.size hba.size) (fun k h => by
        rcases h with h | h
        · simp only [Value.ownBlock, Option.some.injEq] at h; omega
        · exact Nat.le_trans H2.out.2.1.size h)
      rw [← List.map_singleton (f := cellsOf), ← List.map_append] at hg4
      have hlie := hg4.now
      rw [List.nil_append] at hlie
      have hcap : ∃ g cap, v4 = .slice (some ⟨g, 0, none⟩) (i + 1) cap ∧ i + 1 ≤ cap := by
        rcases hlie with ⟨_, h0⟩ | ⟨g, cap, hv4, _, _, hnc, _⟩
        · simp at h0
        · have e : ((l ++ [mkS 77]).map cellsOf).length = i + 1 := by rw [List.length_map, List.length_append, List.length_singleton, ← HV.out.2.1]
          rw [e] at hv4 hnc
          exact ⟨g, cap, hv4, hnc⟩
      obtain ⟨g, cap, rfl, hcp⟩ := hcap
      have hi3 : (i : Int) ≤ (cap : Int) := by omega
      have hi4 : i ≤ cap := by omega
      have HF := Lib.hid (show TwinS V4 w.heap.size (.slice (some ⟨g, 0, none⟩) i cap) l from ⟨g, cap, by rw [← HV.out.2.1], by rw [← HV.out.2.1]; exact hlie⟩)
      have HB4 := Lib.hid ((HG.out.2.1.trans (hba.mono HG.out.2.1.size)).trans hb4)
      clear hg4 hb4 hk4 hba hlie hf4
      go_wp2_with fail
      refine bodyPost_ret (results_tmp rfl _ _ _) rfl ?_
      exact ⟨_, rfl, HF.out, HB4.out⟩
end Go.Proofs.YtdkcndgehgmadaaGreatDoor
-- Walk: a copy of bytes, with a mark behind it (TwinBytes).
open Go Go.RowKit Alm
namespace Go.Proofs.YtdkcndgehgmadaaGreatDoor
/-- Bytes as elements of a list. -/
def ones (l : List UInt8) : List (List Value) := l.map fun b => [u8v b]
theorem ones_len (l : List UInt8) : (ones l).length = l.length := List.length_map _
theorem ones_append (a b : List UInt8) : ones (a ++ b) = ones a ++ ones b := List.map_append
theorem ones_flat (l : List UInt8) : (ones l).flatten = cells8 l := by
  induction l with
  | nil => rfl
  | cons b l ih =>
    have h : ones (b :: l) = [u8v b] :: ones l := rfl
    have h2 : cells8 (b :: l) = u8v b :: cells8 l := rfl
    rw [h, List.flatten_cons, ih, h2]; rfl
theorem bcl {w V : World} (hV : Below w.heap.size w V) {a : Addr} {v : Value} (h : w.cell? a = some v) : V.cell? a = some v := (Keeps.of_below (X := fun _ => False) hV).cell h (fun h => h)
/-- A copy of bytes: they lie with a mark behind them. -/
def TwinB (W : World) (base : Nat) (v : Value) (l : List UInt8) : Prop := ∃ g cap, v = .slice (some ⟨g, 0, none⟩) l.length cap ∧ Lie W base 1 (.slice (some ⟨g, 0, none⟩) (l.length + 1) cap) (ones (l ++ [77]))
theorem TwinB.lie {W : World} {base : Nat} {v : Value} {l : List UInt8} (h : TwinB W base v l) : Lie W base 1 v (ones l) := by
  obtain ⟨g, cap, rfl, h⟩ := h
  rw [ones_append] at h
  exact h.front (by rw [ones_len])
theorem lie_bytes {W : World} {base : Nat} {v : Value} {l : List UInt8} (h : Lie W base 1 v (ones l)) : BytesAt W v l := by
  rcases h with ⟨rfl, h0⟩ | ⟨g, cap, rfl, hb, hg, hnc, hcm, hr, ht, hl⟩
  · have : l = [] := List.length_eq_zero_iff.1 (by rw [← ones_len, h0]; rfl)
    subst this
    exact ⟨none, 0, rfl, Nat.le_refl _, by unfold maxLen; omega, .inl rfl⟩
  · rw [ones_len] at hnc ⊢
    rw [ones_flat] at hr
    exact ⟨_, cap, rfl, hnc, hcm, .inr ⟨g, 0, rfl, hr⟩⟩
theorem TwinB.bytes {W : World} {base : Nat} {v : Value} {l : List UInt8} (h : TwinB W base v l) : BytesAt W v l := lie_bytes h.lie
theorem TwinB.keep {X : Nat → Prop} {W W' : World} {base : Nat} {v : Value} {l : List UInt8} (h : TwinB W base v l) (hk : Keeps X W W') (hx : ∀ k, v.ownBlock = some k → ¬ X k) : TwinB W' base v l := by
  obtain ⟨g, cap, rfl, h⟩ := h
  exact ⟨g, cap, rfl, h.keep hk (fun k hk2 => hx k hk2)⟩
theorem TwinB.below {W W' : World} {base : Nat} {v : Value} {l : List UInt8} (h : TwinB W base v l) (hb : Below W.heap.size W W') : TwinB W' base v l := h.keep (Keeps.of_below (X := fun _ => False) hb) (fun _ _ h => h)
theorem bytes_form8 {w : World} {v : Value} {l : List UInt8} (h : BytesAt w v l) (h0 : l ≠ []) : ∃ b o cap, v = .slice (some ⟨b, o, none⟩) l.length cap ∧ l.length ≤ cap ∧ cap ≤ maxLen ∧ w.rangeAt b o (cells8 l) := by
  obtain ⟨a, cap, rfl, h1, h2, h3⟩ := h
  obtain ⟨b, o, rfl, hr⟩ := h3.resolve_left h0
  exact ⟨b, o, cap, rfl, h1, h2, hr⟩
theorem range_at8 {w : World} {b o : Nat} {l : List UInt8} (h : w.rangeAt b o (cells8 l)) {i : Nat} (hi : i < l.length) : w.cell? ⟨b, o + i, none⟩ = some (.int .u8 ((l[i].toNat : Nat) : Int)) := by
  have := h i (u8v l[i]) (by simp [cells8, hi])
  exact this
set_option maxRecDepth 100000 in
set_option maxHeartbeats 1000000 in
theorem twin_bytes (l : List UInt8) (v : Value) (w : World) (hv : BytesAt w v l) (hl : l.length < 900000) : Calls Tryz.prog 30 #[v] w fun e w' => ∃ v', e = .returned v' ∧ TwinB w' w.heap.size v' l ∧ Below w.heap.size w w' := by
  have hv0 := hv
  obtain ⟨va, vc, rfl, hc1, hc2, h3⟩ := hv
  obtain ⟨n, hn⟩ : ∃ n, n = l.length := ⟨_, rfl⟩
  rw [← hn] at hc1 hv0 hl ⊢
  obtain ⟨n1, hn1⟩ : ∃ m, m = n + 1 := ⟨_, rfl⟩
  have hw1 := twin_nums hl
  rw [← hn1] at hw1
  obtain ⟨i0, z0, hi0, hz0, hs0, hb0, hzs0⟩ := info_u8B
  have HI := Lib.hid (And.intro hi0 (And.intro hz0 (And.intro hs0 hb0)))
  have HV := Lib.hid (And.intro hv0 (And.intro hn (And.intro hc1 (And.intro hc2 (And.intro hl hn1)))))
  clear hv0 hn hc1 hc2 hl hn1 hi0 hz0 hs0 hb0 hzs0 h3
  go_enter Tryz.func30, Tryz.ntmps30
  go_wp2_with (at_make; refine Hid.out ?_)
  refine Lib.hid ?_
  try rw [hw1]
  refine wpList_make_own _ rfl _ _ _ rfl w.heap.size 5 i0 z0 1 Tryz.underlying65 HI.out.1 HI.out.2.1 HI.out.2.2.1 .i64 .i64 (n1 : Int) n1 rfl (by rfl) rfl (by rw [HI.out.2.2.2]; have := HV.out; omega) (by unfold maxLen; have := HV.out; omega) (Nat.le_refl _) ?_
  intro w2 ho2 hg2
  have hb2 : Below w.heap.size w w2 := Keeps.below (B := w.heap.size) (Keeps.of_grown (X := fun _ => False) hg2 (fun k hk => by cases hk)) (Nat.le_refl _) (fun _ h => h.elim)
  have hlie : Lie w2 w.heap.size 1 (.slice (some ⟨w.heap.size, 0, none⟩) 0 n1) [] := lie_own (xs := []) ho2 rfl (fun x hx => by cases hx)
  have H2 := Lib.hid (And.intro (Grown.start (B := w2.heap.size) hlie (Nat.le_refl _)) (And.intro hb2 hg2.size))
  clear ho2 hg2 hb2 hlie
  go_wp2_with fail
  go_loopw [3, 4] (fun tv iv W => ∃ i : Nat, i ≤ n ∧ iv = .int .i64 (i : Int) ∧ (∃ a c, tv = .slice a i c) ∧ Grown W w.heap.size 1 w2.heap.size (.slice (some ⟨w.heap.size, 0, none⟩) 0 n1) [] tv (ones (l.take i)) ∧ Below w.heap.size w W ∧ w2.heap.size ≤ W.heap.size) (fun _ iv _ => n - (intOf iv).toNat)
  case atStart => exact ⟨0, Nat.zero_le _, rfl, ⟨_, _, rfl⟩, H2.out.1, H2.out.2.1, Nat.le_refl _⟩
  case round =>
    obtain ⟨i, hi, rfl, ⟨ta, tc, rfl⟩, hG, hB, hS⟩ := hrel
    have HG := Lib.hid (And.intro hG (And.intro hB hS))
    clear hG hB hS
    by_cases hlt : i < n
    · obtain ⟨d1, d2, d3, d4⟩ := dec_lt hlt
      have hil : i < l.length := by rw [← HV.out.2.1]; exact hlt
      have hne : l ≠ [] := by intro h; rw [h] at hil; simp at hil
      obtain ⟨b, o, cap', hvf, _, _, hr⟩ := bytes_form8 HV.out.1 hne
      simp only [Value.slice.injEq] at hvf
      obtain ⟨rfl, -, rfl⟩ := hvf
      have hx := bcl HG.out.2.1 (range_at8 hr hil)
      have htk : True := trivial
      have hst : ones (l.take (i + 1)) = ones (l.take i) ++ [[u8v l[i]]] := by rw [List.take_succ_eq_append_getElem hil, ones_append]; rfl
      clear htk
      have htk := hst
      clear hst
      generalize l[i] = s at *
      have HX := Lib.hid (And.intro hx htk)
      clear hx htk hr hne hil
      have hxc := HX.out.1
      go_wp2_with (refine wpList_lit_u8 rfl _ rfl ((s.toNat : Nat) : Int) rfl ?_; refine Hid.out ?_)
      refine Lib.hid ?_
      try simp only [Act.put, List.setIfInBounds_toArray, List.set_cons_zero, List.set_cons_succ]
      have hba := Alm.al (Below.refl wr.heap.size wr) (.cells #[.int .u8 ((s.toNat : Nat) : Int)] 5)
      refine wpList_append_u8G (base := w.heap.size) (B := w2.heap.size) (v0 := .slice (some ⟨w.heap.size, 0, none⟩) 0 n1) (xs := []) (ys := ones (l.take i)) rfl _ _ rfl rfl (HG.out.1.below hba) H2.out.2.1.size (Nat.le_trans HG.out.2.2 hba.size) ⟨wr.heap.size, 0, none⟩ 1 ((s.toNat : Nat) : Int) rfl (fun j u hj => by rw [Addr.add_mid]; exact range_new wr #[.int .u8 ((s.toNat : Nat) : Int)] 5 _ rfl j u hj) (by rw [ones_len, List.length_take]; have := HV.out; simp; omega) ?_
      intro v4 V4 hg4 hk4 hf4
      obtain ⟨a4, c4, rfl⟩ := hf4
      have hb4 := hk4.below (B := w.heap.size) (Nat.le_trans HG.out.2.1.size hba.size) (fun k h => by
        rcases h with h | h
        · simp only [Value.ownBlock, Option.some.injEq] at h; omega
        · exact Nat.le_trans H2.out.2.1.size h)
      have hu8 : ([[Value.int .u8 ((s.toNat : Nat) : Int)]] : List (List Value)) = [[u8v s]] := rfl
      rw [hu8, ← HX.out.2] at hg4
      have hln : ([] : List (List Value)).length + (ones (l.take i)).length + 1 = i + 1 := by rw [ones_len, List.length_take, List.length_nil]; have := HV.out; omega
      rw [hln] at hg4 ⊢
      have H4 := Lib.hid (And.intro hg4 (And.intro ((HG.out.2.1.trans (hba.mono HG.out.2.1.size)).trans hb4) (Nat.le_trans HG.out.2.2 (Nat.le_trans hba.size hk4.size))))
      clear hg4 hb4 hk4 hba hln
      go_wp2_with fail
      have h4 := H4.out
      have hwi := wrapn (k := i) (by have := HV.out; omega)
      try rw [hwi]
      clear hwi
      clear H4 HG HX HV H2 HI d1 d2 d3 d4
      refine ⟨⟨i + 1, hlt, rfl, ⟨_, _, rfl⟩, h4⟩, ?_⟩
      clear h4
      simp only [intOf, Int.toNat_natCast]
      omega
    · obtain rfl : i = n := by omega
      have htk : l.take i = l := List.take_of_length_le (by rw [← HV.out.2.1]; exact Nat.le_refl _)
      rw [htk] at HG
      clear htk
      have hne : HG = HG := rfl
      clear hne
      go_wp2_with (refine wpList_lit_u8 rfl _ rfl (77 : Int) rfl ?_; refine Hid.out ?_)
      refine Lib.hid ?_
      try simp only [Act.put, List.setIfInBounds_toArray, List.set_cons_zero, List.set_cons_succ]
      have hba := Alm.al (Below.refl wr.heap.size wr) (.cells #[.int .u8 77] 5)
      refine wpList_append_u8G (base := w.heap.size) (B := w2.heap.size) (v0 := .slice (some ⟨w.heap.size, 0, none⟩) 0 n1) (xs := []) (ys := ones l) rfl _ _ rfl rfl (HG.out.1.below hba) H2.out.2.1.size (Nat.le_trans HG.out.2.2 hba.size) ⟨wr.heap.size, 0, none⟩ 1 77 rfl (fun j u hj => by rw [Addr.add_mid]; exact range_new wr #[.int .u8 77] 5 _ rfl j u hj) (by rw [ones_len]; have := HV.out; simp; omega) ?_
      intro v4 V4 hg4 hk4 hf4
      have hb4 := hk4.below (B := w.heap.size) (Nat.le_trans HG.out.2.1.size hba.size) (fun k h => by
        rcases h with h | h
        · simp only [Value.ownBlock, Option.some.injEq] at h; omega
        · exact Nat.le_trans H2.out.2.1.size h)
      have hu8 : ones l ++ [[Value.int .u8 77]] = ones (l ++ [77]) := by rw [ones_append]; rfl
      rw [hu8] at hg4
      have hlie := hg4.now
      rw [List.nil_append] at hlie
      have hcap : ∃ g cap, v4 = .slice (some ⟨g, 0, none⟩) (i + 1) cap ∧ i + 1 ≤ cap := by
        rcases hlie with ⟨_, h0⟩ | ⟨g, cap, hv4, _, _, hnc, _⟩
        · have h9 := congrArg List.length h0; rw [ones_len] at h9; simp at h9
        · have e : (ones (l ++ [77])).length = i + 1 := by rw [ones_len, List.length_append, List.length_singleton, ← HV.out.2.1]
          rw [e] at hv4 hnc
          exact ⟨g, cap, hv4, hnc⟩
      obtain ⟨g, cap, rfl, hcp⟩ := hcap
      have hi3 : (i : Int) ≤ (cap : Int) := by omega
      have hi4 : i ≤ cap := by omega
      have HF := Lib.hid (show TwinB V4 w.heap.size (.slice (some ⟨g, 0, none⟩) i cap) l from ⟨g, cap, by rw [← HV.out.2.1], by rw [← HV.out.2.1]; exact hlie⟩)
      have HB4 := Lib.hid ((HG.out.2.1.trans (hba.mono HG.out.2.1.size)).trans hb4)
      clear hg4 hb4 hk4 hba hlie hf4
      go_wp2_with fail
      refine bodyPost_ret (results_tmp rfl _ _ _) rfl ?_
      exact ⟨_, rfl, HF.out, HB4.out⟩
end Go.Proofs.YtdkcndgehgmadaaGreatDoor
