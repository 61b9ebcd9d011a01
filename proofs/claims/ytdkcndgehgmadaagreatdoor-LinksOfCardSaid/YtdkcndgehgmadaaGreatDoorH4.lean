/-
  Walk: the law FrontsPlay.
-/
import Derived.Test.YtdkcndgehgmadaaGreatDoorZFA
import Derived.Test.YtdkcndgehgmadaaGreatDoorE0
import Derived.Test.YtdkcndgehgmadaaGreatDoorBL8
import Derived.Test.YtdkcndgehgmadaaGreatDoorZHA
import Derived.BigFrame
open Go Go.RowKit Alm
namespace Go.Proofs.YtdkcndgehgmadaaGreatDoor
/-- New sums are a list that lies with its room. -/
theorem new_lie {W : World} {base : Nat} {v : Value} {l : List Sum} (h : SumsNew W base v l) : Lie W base 32 v (l.map cellsOf) := by
  rcases h with ⟨rfl, rfl⟩ | ⟨g, cap, rfl, h0, h1, h2, h3, h4, h5⟩
  · exact .inl ⟨rfl, rfl⟩
  · have hp := List.length_pos_iff.2 h0
    refine .inr ⟨g, cap, by rw [List.length_map], h3, there_lt h5 (by omega), by rw [List.length_map]; exact h1, h2, by rw [flat_cells]; exact h4, by rw [Nat.mul_comm]; exact h5, fun x hx => by
      obtain ⟨y, _, rfl⟩ := List.mem_map.1 hx
      exact length_cellsOf y⟩
theorem sums_front {w : World} {a : Option Addr} {n cap : Nat} {l : List Sum} (h : SumsAt w (.slice a n cap) l) (hn : l.length = n) {i : Nat} (hi : i ≤ n) : SumsAt w (.slice a i cap) (l.take i) := by
  obtain ⟨a', cap', he, h1, h2, h3⟩ := h
  simp only [Value.slice.injEq] at he
  obtain ⟨rfl, _, rfl⟩ := he
  refine ⟨a, cap, by rw [List.length_take, Nat.min_eq_left (by omega)], by rw [List.length_take]; omega, h2, ?_⟩
  rcases h3 with rfl | ⟨b, o, rfl, hr⟩
  · exact .inl (by simp)
  · exact .inr ⟨b, o, rfl, range_take hr i⟩
theorem wpList_load_sum_g {ops : Array Oper} {rest : List Oper} {op : Oper} {a : Act} {w : World} {Q : Exit → Act → World → Prop} (hw : Region.wanted op (yielded ops a.tmps) = true) (x : Operand) (ho : op.op = .load 24 x)
    (b o : Nat) (hx : a.eval x = .pointer (some ⟨b, o, none⟩)) (s : Sum) (hc : w.rangeAt b o (cellsOf s)) (h : wpList Tryz.prog ops Q rest (a.put op.dst (sv s)) w) : wpList Tryz.prog ops Q (op :: rest) a w :=
  Go.BigFrame.wpList_want hw fun K hK => wp_load_mid _ x ho b o hx (cellsOf s) _ hc Tryz.underlying24 rfl (by rw [length_cellsOf]; exact infoSum) (hK _ _ h)
/-- What FrontsPlay has in hand: a front, and a Book, beside one another. -/
structure FP (w W : World) (p : Nat) (vf : Value) (l : List Sum) (q : Nat) (F : Nat → Value) (H : List Held) (S : Nat → List (List Value)) : Prop where
  f : FrontAt W p vf l
  b : SBook W w.heap.size q F H S
  pp : w.heap.size ≤ p
  pv : ∀ k, vf.ownBlock = some k → w.heap.size ≤ k
  ap : ∀ k, OfBook q F H k → k ≠ p ∧ vf.ownBlock ≠ some k
  below : Below w.heap.size w W
theorem FP.move {w W W' : World} {p : Nat} {vf : Value} {l : List Sum} {q : Nat} {F : Nat → Value} {H : List Held} {S : Nat → List (List Value)} (h : FP w W p vf l q F H S) (hb : Below W.heap.size W W') : FP w W' p vf l q F H S :=
  ⟨h.f.below hb, h.b.below hb, h.pp, h.pv, h.ap, h.below.trans (hb.mono h.below.size)⟩
theorem FP.tell {w W V : World} {p : Nat} {vf x : Value} {l : List Sum} {q : Nat} {F F' : Nat → Value} {H : List Held} {S S' : Nat → List (List Value)} {n m : Nat} (h : FP w W p vf l q F H S) (hb : SBook V w.heap.size q F' (H ++ [(x, .slice none 0 0, n)]) S') (hf : ∀ k, (F' 5).ownBlock = some k → (F 5).ownBlock = some k ∨ W.heap.size ≤ k) (hk : Keeps (fun i => i = q ∨ (F 5).ownBlock = some i) W V) (hm : p < m ∧ ∀ k, vf.ownBlock = some k → k < m) (hx : ∀ k, x.ownBlock = some k → m ≤ k) : FP w V p vf l q F' (H ++ [(x, .slice none 0 0, n)]) S' := by
  have hn : ∀ k, k = q ∨ (F 5).ownBlock = some k → k ≠ p ∧ vf.ownBlock ≠ some k := fun k hk => h.ap k (by
    rcases hk with h | h
    · exact .inl h
    · exact .inr (.inl h))
  refine ⟨h.f.keep hk (fun e => (hn p e).1 rfl) (fun k hk2 e => (hn k e).2 hk2), hb, h.pp, h.pv, fun k hk2 => ?_, h.below.trans (hk.below h.below.size (fun k e => ?_))⟩
  · rcases hk2 with e | e | ⟨i, hi, e⟩
    · exact hn k (.inl e)
    · rcases hf k e with e | e
      · exact hn k (.inr e)
      · exact ⟨fun e2 => by have := h.f.lt; omega, fun e2 => by have := own_lt h.f.2.1 e2; omega⟩
    · unfold lst at e
      rw [hd_append] at e
      by_cases h1 : i < H.length
      · rw [if_pos h1] at e
        exact h.ap k (.inr (.inr ⟨i, h1, e⟩))
      · rw [if_neg h1, if_pos (by rw [List.length_append, List.length_singleton] at hi; omega)] at e
        have := hx k e
        exact ⟨fun e2 => by have := hm.1; omega, fun e2 => by have := hm.2 k e2; omega⟩
  · rcases e with e | e
    · exact (h.b.lt (.inl e)).1
    · exact (h.b.lt (.inr (.inl e))).1
theorem FP.add {w W V : World} {p : Nat} {vf vf' : Value} {l l' : List Sum} {q : Nat} {F : Nat → Value} {H : List Held} {S : Nat → List (List Value)} (h : FP w W p vf l q F H S) (hf : FrontAt V p vf' l') (hk : Keeps (fun k => k = p ∨ vf.ownBlock = some k) W V) (hv : ∀ k, vf'.ownBlock = some k → vf.ownBlock = some k ∨ W.heap.size ≤ k) : FP w V p vf' l' q F H S := by
  refine ⟨hf, h.b.keep' hk (fun k hk2 e => ?_), h.pp, fun k hk2 => ?_, fun k hk2 => ⟨(h.ap k hk2).1, fun e => ?_⟩, h.below.trans (hk.below h.below.size (fun k e => ?_))⟩
  · rcases e with e | e
    · exact (h.ap k hk2).1 e
    · exact (h.ap k hk2).2 e
  · rcases hv k hk2 with e | e
    · exact h.pv k e
    · exact Nat.le_trans h.below.size e
  · rcases hv k e with e | e
    · exact (h.ap k hk2).2 e
    · have := (h.b.lt hk2).2; omega
  · rcases e with e | e
    · rw [e]; exact h.pp
    · exact h.pv k e
theorem play_nums {i n : Nat} (hi : i ≤ n) (hn : n ≤ 70) : IntKind.u64.wrap (i : Int) = (i : Int) ∧ (i : Int) % 18446744073709551616 = (i : Int) ∧ wrap64 ((i : Int) + 1) = ((i + 1 : Nat) : Int) ∧ (0 : Int) ≤ (i : Int) ∧ (i : Int) ≤ (n : Int) ∧ decide (i ≤ n) = true ∧ decide ((i : Int) ≤ (n : Int)) = true := by
  refine ⟨by rw [IntKind.wrap_u64]; omega, by omega, by unfold wrap64; omega, by omega, by omega, by simpa using hi, by simpa using hi⟩
set_option maxRecDepth 100000 in
set_option maxHeartbeats 2000000 in
theorem frontsPlay_any (l : List Sum) (v : Value) (w : World) (hv : SumsAt w v l) : Calls Tryz.prog 4 #[v] w fun e w' => e = .returned (.bool true) ∧ Below w.heap.size w w' := by
  have hv0 := hv
  obtain ⟨a, cap, rfl, h1, h2, h3⟩ := hv
  obtain ⟨n, hn⟩ : ∃ n, n = l.length := ⟨_, rfl⟩
  rw [← hn] at h1 hv0 ⊢
  have hca : (n : Int) ≤ (cap : Int) := by omega
  have HV := Lib.hid (And.intro hv0 (And.intro hn (And.intro h1 h2)))
  clear hv0 hn h1 h2 h3
  by_cases hgt : 70 < n
  · have hgt' : (70 : Int) < (n : Int) := by omega
    go_enter Tryz.func4, Tryz.ntmps4
    go_wp2_with fail
    exact bodyPost_ret (results_tmp rfl _ _ _) rfl ⟨rfl, Below.refl _ _⟩
  · have hle : ¬ (70 : Int) < (n : Int) := by omega
    have hn70 : n ≤ 70 := by omega
    have HNF := Lib.hid (new_front w)
    have HN7 := Lib.hid hn70
    clear hgt hn70
    go_enter Tryz.func4, Tryz.ntmps4
    go_wp2_with (go_at_call 17; refine HNF.out.mono ?_; rintro e w1 ⟨rfl, hf, hb⟩; refine Hid.out ?_)
    refine Lib.hid ?_
    obtain ⟨p, hp⟩ : ∃ p, p = w.heap.size := ⟨_, rfl⟩
    have hpl : p < w1.heap.size := by rw [hp]; exact hf.lt
    have hbk := sbook_new w1 w.heap.size hb.size
    have hba := al (Below.refl w1.heap.size w1) (.cells #[.int .i64 0, .slice none 0 0, .slice none 0 0, .slice none 0 0, .slice none 0 0, .slice none 0 0, .slice none 0 0, .slice none 0 0, .slice none 0 0, .slice none 0 0] 44)
    have hfp : FP w (w1.alloc (.cells #[.int .i64 0, .slice none 0 0, .slice none 0 0, .slice none 0 0, .slice none 0 0, .slice none 0 0, .slice none 0 0, .slice none 0 0, .slice none 0 0, .slice none 0 0] 44)) p (.slice none 0 0) [] w1.heap.size (fun _ => .slice none 0 0) [] (fun _ => []) := by
      refine ⟨?_, hbk, by omega, fun k hk => (by cases hk), fun k hk => ⟨?_, by simp [Value.ownBlock]⟩, hb.trans (hba.mono hb.size)⟩
      · rw [hp]; exact hf.below hba
      · rcases hk with rfl | h | ⟨i, hi, h⟩
        · omega
        · cases h
        · simp at hi
    have HFP := Lib.hid hfp
    rw [← hp]
    clear hfp hba hbk hpl hp hf hb HNF
    go_wp2_with fail
    obtain ⟨q, hq⟩ : ∃ q, q = w1.heap.size := ⟨_, rfl⟩
    rw [← hq] at HFP ⊢
    clear hq
    go_loopw [5, 6] (fun iv _ W => ∃ i : Nat, i ≤ n + 1 ∧ iv = .int .i64 (i : Int) ∧ ∃ vf F H S, FP w W p vf (l.take i) q F H S ∧ H.length = i) (fun iv _ _ => n + 1 - (intOf iv).toNat)
    case atStart => exact ⟨0, by omega, rfl, _, _, _, _, HFP.out, rfl⟩
    case round =>
      clear HFP
      obtain ⟨i, hi, rfl, vf, F, H, S, hF, hH⟩ := hrel
      have HF := Lib.hid (And.intro hF hH)
      clear hF hH
      by_cases hin : i ≤ n
      · obtain ⟨k1, k2, k3, k4, k5, k6, k7⟩ := play_nums hin HN7.out
        have k8 : i ≤ cap := Nat.le_trans hin HV.out.2.2.1
        have k9 : (i : Int) ≤ (cap : Int) := by omega
        have hlen : (l.take i).length = i := by rw [List.length_take, Nat.min_eq_left (by rw [← HV.out.2.1]; exact hin)]
        have HLN := Lib.hid hlen
        have HS := Lib.hid (sums_live wr p vf (l.take i) HF.out.1.f)
        clear hlen
        go_wp2_with (go_at_call 18; refine HS.out.mono ?_; rintro e w2 ⟨x, rfl, hx, hb2⟩; refine Hid.out ?_)
        refine Lib.hid ?_
        have hxl := new_lie hx
        have H2 := Lib.hid (And.intro (HF.out.1.move hb2) (And.intro hxl (And.intro hx.sums hb2)))
        clear hx hb2 hxl HS
        go_wp2_with fail
        have hd := (Below.refl w2.heap.size w2).drew
        have hsl := sums_front HV.out.1 HV.out.2.1.symm hin
        have H3 := Lib.hid (And.intro (H2.out.1.move hd) (And.intro (H2.out.2.1.below hd) (And.intro (H2.out.2.2.1.below hd (Nat.le_refl _)) hsl)))
        have HWD := Lib.hid (Nat.le_trans H2.out.2.2.2.size (Nat.le_refl w2.heap.size))
        clear hd hsl
        refine wp_region_sched (fun V => Below w2.drew.heap.size w2.drew V) [.t 0, .t 2, .t 3, .e 1 false, .t 4, .t 5, .t 6, .t 8, .t 9, .t 10, .e 7 false, .e 11 false, .t 12, .t 13, .t 14, .t 15, .t 16, .t 17, .t 18, .e 19 false, .e 20 false, .t 21, .t 22] (by kernel_rfl) (by kernel_rfl) (by intro c a d v w h; cases d <;> exact h) ?_
        have hsz : w2.drew.heap.size = w2.heap.size := rfl
        rw [← hsz] at HWD
        clear hsz
        generalize w2.drew = V at *
        have hes := eq_sums_same
        iterate 3
          refine wpS_t rfl (v := ?_) (by rfl) (fun W => ?_) ?_
          rotate_left
          · go_simp
            try rfl
          try simp only [Act.put, List.setIfInBounds_toArray, List.set_cons_zero, List.set_cons_succ]
        refine wpS_e rfl (by rfl) (fun K hK => ?_)
        go_simp
        refine (size_live V p vf (l.take i) H3.out.1.f).mono ?_
        rintro e V1 ⟨rfl, rfl⟩
        rw [HLN.out]
        refine hK _ _ ?_; clear hK K
        try simp only [Act.put, List.setIfInBounds_toArray, List.set_cons_zero, List.set_cons_succ]
        iterate 6
          refine wpS_t rfl (v := ?_) (by rfl) (fun W => ?_) ?_
          rotate_left
          · go_simp
            try rfl
          try simp only [Act.put, List.setIfInBounds_toArray, List.set_cons_zero, List.set_cons_succ]
        refine wpS_e rfl (by rfl) (fun K hK => ?_)
        go_simp
        refine (root_live V p vf (l.take i) H3.out.1.f).mono ?_
        rintro e V1 ⟨rfl, hb1⟩
        have H4 := Lib.hid hb1
        clear hb1
        refine hK _ _ ?_; clear hK K
        try simp only [Act.put, List.setIfInBounds_toArray, List.set_cons_zero, List.set_cons_succ]
        refine wpS_e rfl (by rfl) (fun K hK => ?_)
        go_simp
        refine (rroot_any (l.take i) _ V1 (H3.out.2.2.2.below (H3.out.1.below.trans (H4.out.mono H3.out.1.below.size)) (Nat.le_refl _))).mono ?_
        rintro e V2 ⟨rfl, hb2⟩
        have H5 := Lib.hid (H4.out.trans (hb2.mono H4.out.size))
        clear hb2
        refine hK _ _ ?_; clear hK K
        try simp only [Act.put, List.setIfInBounds_toArray, List.set_cons_zero, List.set_cons_succ]
        iterate 7
          refine wpS_t rfl (v := ?_) (by rfl) (fun W => ?_) ?_
          rotate_left
          · go_simp
            try rfl
          try simp only [Act.put, List.setIfInBounds_toArray, List.set_cons_zero, List.set_cons_succ]
        refine wpS_e rfl (by rfl) (fun K hK => ?_)
        go_simp
        refine (rsums_any (l.take i) _ V2 (H3.out.2.2.2.below (H3.out.1.below.trans (H5.out.mono H3.out.1.below.size)) (Nat.le_refl _)) (by rw [HLN.out]; have := HN7.out; omega)).mono ?_
        rintro e V3 ⟨y, rfl, hy, hb3⟩
        have H6 := Lib.hid (And.intro hy (H5.out.trans (hb3.mono H5.out.size)))
        clear hb3 hy
        refine hK _ _ ?_; clear hK K
        try simp only [Act.put, List.setIfInBounds_toArray, List.set_cons_zero, List.set_cons_succ]
        refine wpS_e rfl (by rfl) (fun K hK => ?_)
        go_simp
        refine (same_sums _ _ _ _ V3 (H3.out.2.2.1.below H6.out.2 (Nat.le_refl _)) H6.out.1).mono ?_
        rintro e V4 ⟨rfl, hb4⟩
        have H7 := Lib.hid (H6.out.2.trans (hb4.mono H6.out.2.size))
        clear hb4
        rw [show decide (stk nd e0 64 (l.take i) = stk nd e0 64 (l.take i)) = true by simp]
        refine hK _ _ ?_; clear hK K
        try simp only [Act.put, List.setIfInBounds_toArray, List.set_cons_zero, List.set_cons_succ]
        iterate 2
          refine wpS_t rfl (v := ?_) (by rfl) (fun W => ?_) ?_
          rotate_left
          · go_simp
            try rfl
          try simp only [Act.put, List.setIfInBounds_toArray, List.set_cons_zero, List.set_cons_succ]
        refine wpS_done ?_
        clear hes
        have HX := Lib.hid (And.intro (H3.out.1.move H7.out) (H3.out.2.1.below H7.out))
        have HW4 := Lib.hid (Nat.le_trans HWD.out H7.out.size)
        obtain ⟨xa, xc, hxf⟩ := HX.out.2.form
        have hxl : ((stk nd e0 64 (l.take i)).map cellsOf).length < 900000 := by
          rw [List.length_map, HF.out.1.f.len, HLN.out]
          have := bits_le i
          have := HN7.out
          omega
        obtain ⟨xn, hxn⟩ : ∃ m, m = ((stk nd e0 64 (l.take i)).map cellsOf).length := ⟨_, rfl⟩
        rw [← hxn] at hxf
        have hnot : ∀ k, x.ownBlock = some k → ¬ OfBook q F H k := fun k hk e => by
          have h1 := (H2.out.2.1.lt k hk).1
          have h2 := (HF.out.1.b.lt e).2
          omega
        have hlx := HX.out.2.mono (base' := w.heap.size) HF.out.1.below.size
        rw [hxf] at hlx hnot
        have HTL := Lib.hid (sums_tell xa xn xc _ w.heap.size q F H S V4 HX.out.1.b hlx hnot (by rw [HF.out.2]; have := HN7.out; omega) hxl)
        have hxm : ∀ k, (Value.slice xa xn xc).ownBlock = some k → wr.heap.size ≤ k := fun k hk => (H2.out.2.1.lt k (by rw [hxf]; exact hk)).1
        have hpm : p < wr.heap.size ∧ ∀ k, vf.ownBlock = some k → k < wr.heap.size := ⟨HF.out.1.f.lt, fun k hk => own_lt HF.out.1.f.2.1 hk⟩
        have HXM := Lib.hid (And.intro hxm hpm)
        subst hxf
        clear hxl hxn hnot hlx hxm hpm
        go_wp2_with (go_at_call 15; refine HTL.out.mono ?_; rintro e w5 ⟨rfl, F5, hb5, hf5, hk5⟩; refine Hid.out ?_)
        refine Lib.hid ?_
        have hfp5 := HX.out.1.tell hb5 hf5 hk5 HXM.out.2 HXM.out.1
        have H8 := Lib.hid (And.intro hfp5 (show (H ++ [((.slice xa xn xc : Value), (.slice none 0 0 : Value), H.length + 1)]).length = i + 1 by rw [List.length_append, List.length_singleton, HF.out.2]))
        clear hb5 hf5 hk5 hfp5 HTL HX H2 H3 H4 H5 H6 H7
        by_cases hlt : i < n
        · obtain ⟨d1, d2, _, d3⟩ := dec_lt hlt
          have hil : i < l.length := by rw [← HV.out.2.1]; exact hlt
          have hne : l ≠ [] := by intro h; rw [h] at hil; simp at hil
          obtain ⟨b, o, cap', hvf, _, _, hr⟩ := sums_form8 HV.out.1 hne
          simp only [Value.slice.injEq] at hvf
          obtain ⟨rfl, -, rfl⟩ := hvf
          have hx := range_below H8.out.1.below (range_at hr hil) (range_lt (range_at hr hil) (by intro h; have := length_cellsOf l[i]; rw [h] at this; cases this))
          have htk := List.take_succ_eq_append_getElem hil
          have hadd := add_live w5 p vf (l.take i) l[i] H8.out.1.f (by rw [HLN.out]; have := HN7.out; omega)
          rw [← htk] at hadd
          generalize l[i] = s at *
          have HL2 := Lib.hid (And.intro hx hadd)
          clear hx htk hadd hr hne hil
          go_wp2_with (first
            | (refine wpList_load_sum_g (by rfl) _ rfl b (o + i * 32) rfl s HL2.out.1 ?_)
            | (go_at_call 23; refine HL2.out.2.mono ?_; rintro e w6 ⟨vf', rfl, hf6, hk6, hv6⟩; refine Hid.out ?_))
          refine Lib.hid ?_
          have H9 := Lib.hid (H8.out.1.add hf6 hk6 hv6)
          clear hf6 hk6 hv6
          go_wp2_with fail
          have h9 := H9.out
          have h10 := H8.out.2
          clear H9 H8 HXM HLN HF HV HL2 k1 k2 k3 k6 k7 d1 d2
          refine ⟨⟨i + 1, by omega, rfl, _, _, _, _, h9, h10⟩, ?_⟩
          clear h9 h10
          simp only [intOf]
          omega
        · obtain ⟨d1, d2, d3⟩ : decide (i < n) = false ∧ decide ((i : Int) < (n : Int)) = false ∧ ¬ (i : Int) < (n : Int) := ⟨by simpa using hlt, by simpa using hlt, by omega⟩
          go_wp2_with fail
          have h9 := H8.out.1
          have hi2 : l.take (i + 1) = l.take i := by rw [List.take_of_length_le (by rw [← HV.out.2.1]; omega), List.take_of_length_le (by rw [← HV.out.2.1]; omega)]
          rw [← hi2] at h9
          have h10 := H8.out.2
          clear H8 HXM HLN HF HV k1 k2 k3 k6 k7 d1 d2 hi2
          refine ⟨⟨i + 1, by omega, rfl, _, _, _, _, h9, h10⟩, ?_⟩
          clear h9 h10
          simp only [intOf]
          omega
      · have hin2 : i = n + 1 := by omega
        obtain ⟨d1, d2, d3⟩ : decide (i ≤ n) = false ∧ decide ((i : Int) ≤ (n : Int)) = false ∧ ¬ (i : Int) ≤ (n : Int) := ⟨by simpa using hin, by simpa using hin, by omega⟩
        have HAP := Lib.hid (apart_sums w.heap.size q F H S wr HF.out.1.b (by rw [HF.out.2, hin2]; have := HN7.out; omega))
        clear hin2
        go_wp2_with (go_at_call 16; refine HAP.out.mono ?_; rintro e w7 ⟨rfl, hk7⟩; refine Hid.out ?_)
        refine Lib.hid ?_
        have hfin := HF.out.1.below.trans (hk7.below HF.out.1.below.size (fun k h => (HF.out.1.b.lt h).1))
        have HFIN := Lib.hid hfin
        clear hk7 hfin
        go_wp2_with fail
        exact bodyPost_ret (results_tmp rfl _ _ _) rfl ⟨rfl, HFIN.out⟩
end Go.Proofs.YtdkcndgehgmadaaGreatDoor
