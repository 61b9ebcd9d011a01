/-
  Walk: almonerlaw15.MapsGet.
-/
import Derived.Test.YtfmgoehnbaiamaaV1
import Derived.Test.YtfmgoehnbaiamaaV2
open Go Go.RowKit Alm
namespace Go.Proofs.Ytfmgoehnbaiamaa
theorem less_before : ∀ x y : List UInt8, Op.bytesLess x y = Go.bytesBefore x y
  | [], [] => rfl
  | _ :: _, [] => rfl
  | [], _ :: _ => rfl
  | a :: x, b :: y => by rw [Op.bytesLess, Go.bytesBefore, less_before x y]
/-- A key's bytes, as a string. -/
def skey (k : Sum) : ByteArray := ⟨k.toList.toArray⟩
theorem size_skey (k : Sum) : (skey k).size = 32 := by show k.toList.toArray.size = 32; simp
theorem key_string {w : World} {b o : Nat} {k : Sum} (h : w.rangeAt b o (cellsOf k)) : (convert 34 9 (.slice (some ⟨b, o, none⟩) 32 32)).run Try.prog w = .ok (.string (skey k)) w := by
  have h2 := Lib.run_convert_whole (P := Try.prog) w 34 5 9 Try.underlying34 Try.underlying5 Try.underlying9 b o (skey k) (fun i hi => by
    have hi' : i < 32 := by rw [size_skey] at hi; exact hi
    have := h i _ (cell_key k hi')
    rw [this]
    congr 2
    show k.toList.getD i 0 = (k.toList.toArray)[i]'_
    simp [List.getD_eq_getElem?_getD, hi']
    rfl) 32
  rw [size_skey] at h2
  exact h2
theorem geq_keys {a b : Sum} (h : Keys.kn a < Keys.kn b) (w : World) : (binOp .geq 9 (.string (skey a)) (.string (skey b))).run Try.prog w = .ok (.bool false) w := by
  have e : ∀ k : Sum, (skey k).toList = k.toList := fun k => by rw [Lib.toList_data]; show k.toList.toArray.toList = _; simp
  have hb : Op.bytesLess (skey a).toList (skey b).toList = true := by
    rw [e, e, less_before, Keys.before_kn]; simpa using h
  simp [binOp, Op.stringOp, hb]
theorem same_self (a : List UInt8) (va vb : Value) (w : World) (ha : BytesAt w va a) (hb : BytesAt w vb a) : Calls Try.prog 28 #[va, vb] w fun e w' => e = .returned (.bool true) ∧ Below w.heap.size w w' :=
  (same_bytes a a va vb w ha hb).mono fun e w' ⟨h1, h2⟩ => ⟨by rw [h1, decide_eq_true rfl], h2⟩
/-- What MapsGet has in hand. -/
structure GW (w W : World) (z2 : Nat) (k : Sum) (v : Value) (P : List Keys.Pr) (p b n : Nat) (l : List Ent) : Prop where
  bw : Below w.heap.size w W
  key : W.rangeAt z2 0 (cellsOf k)
  prs : PairsAt W v P
  map : MapIn W p b n l
theorem GW.below {w W W' : World} {z2 : Nat} {k : Sum} {v : Value} {P : List Keys.Pr} {p b n : Nat} {l : List Ent} (h : GW w W z2 k v P p b n l) (hb : Below W.heap.size W W') : GW w W' z2 k v P p b n l :=
  ⟨h.bw.trans (hb.mono h.bw.size), (Keeps.of_below (X := fun _ => False) hb).range h.key (fun h => h), h.prs.below hb, h.map.below hb⟩
theorem vals_full {W : World} {p b n : Nat} {l : List Ent} (h : MapIn W p b n l) : Full (prs l) := fun q hq => by
  obtain ⟨e, he, rfl⟩ := List.mem_map.1 hq
  exact ⟨(h.vals e he).2.1, (h.vals e he).2.2⟩
set_option maxRecDepth 100000 in
set_option maxHeartbeats 2000000 in
theorem mapsGet_any (P : List Keys.Pr) (v : Value) (k : Sum) (w : World) (hv : PairsAt w v P) : Calls Try.prog 4 #[v, sv k] w fun e w' => e = .returned (.bool true) ∧ Below w.heap.size w w' := by
  obtain ⟨z2, hz2⟩ : ∃ z, z = w.heap.size := ⟨_, rfl⟩
  have hb0 := al (Below.refl _ w) (.cells (cellsOf k).toArray 29)
  have hr0 : (w.alloc (.cells (cellsOf k).toArray 29)).rangeAt z2 0 (cellsOf k) := by rw [hz2]; exact range_new w (cellsOf k).toArray 29 _ rfl
  have hv0 := hv.below hb0
  have H0 := Lib.hid (And.intro hb0 (And.intro hr0 hv0))
  obtain ⟨a, cap, rfl, h1, h2⟩ := pairs_form hv
  obtain ⟨N, hN⟩ : ∃ N, N = P.length := ⟨_, rfl⟩
  rw [← hN] at H0 h1 ⊢
  have HN := Lib.hid (And.intro hN trivial)
  have HZ2 := Lib.hid hz2
  clear hN hb0 hr0 hv0 h2 hv
  have k1 : (N : Int) ≤ (cap : Int) := by omega
  go_enter Try.func4, Try.ntmps4
  go_wp2_with fail
  rw [← hz2]
  clear hz2
  generalize w.alloc (.cells (cellsOf k).toArray 29) = w1 at *
  refine (great15_any P _ w1 H0.out.2.2).mono ?_
  rintro e w2 ⟨r, rfl, hg, hb⟩
  have H2 := Lib.hid (And.intro (H0.out.1.trans (hb.mono H0.out.1.size)) (And.intro (show w2.rangeAt z2 0 (cellsOf k) from (Keeps.of_below (X := fun _ => False) hb).range H0.out.2.1 (fun h => h)) (H0.out.2.2.below hb)))
  have HG := Lib.hid hg
  clear hb H0 hg
  cases r with
  | true =>
    go_wp2_with fail
    refine (alive15_any w2).mono ?_
    rintro e w4 ⟨rfl, hb⟩
    have HB := Lib.hid (H2.out.1.trans (hb.mono H2.out.1.size))
    clear hb H2
    go_wp2_with fail
    exact bodyPost_ret (results_tmp rfl _ _ _) rfl ⟨rfl, HB.out⟩
  | false =>
    have hn24 : P.length ≤ 24 := HG.out rfl
    have H24 := Lib.hid (show N ≤ 24 by rw [HN.out.1]; exact hn24)
    clear HG hn24
    have HO := Lib.hid (mof_any P _ w2 H2.out.2.2 (by have := H24.out; rw [HN.out.1] at this; omega))
    go_wp2_with fail
    refine HO.out.mono ?_
    rintro e w3 ⟨p, b, l, rfl, hm, hp, g1, g2, g3, hb⟩
    have H3 := Lib.hid (show GW w w3 z2 k (.slice a N cap) P p b P.length l from ⟨H2.out.1.trans (hb.mono H2.out.1.size), (Keeps.of_below (X := fun _ => False) hb).range H2.out.2.1 (fun h => h), H2.out.2.2.below hb, hm⟩)
    have HP := Lib.hid hp
    clear hm hp g1 g2 g3 hb H2 HO
    go_wp2_with fail
    go_loopw [6, 7] (fun sv iv W => ∃ j : Nat, j ≤ N ∧ iv = .int .i64 (j : Int) ∧ BytesAt W sv (lastOf (P.take j) k []) ∧ GW w W z2 k (.slice a N cap) P p b P.length l) (fun _ iv _ => N - (intOf iv).toNat)
    case atStart => exact ⟨0, by omega, rfl, ⟨none, 0, rfl, Nat.le_refl _, by unfold maxLen; omega, .inl rfl⟩, H3.out⟩
    case round =>
      clear H3
      obtain ⟨j, hj, rfl, hW, hO⟩ := hrel
      obtain ⟨wa, wc, hwf, hw1, hw2, hw3⟩ := id hW
      obtain ⟨L, hL⟩ : ∃ L, L = (lastOf (P.take j) k []).length := ⟨_, rfl⟩
      rw [← hL] at hwf
      have HW := Lib.hid hW
      have HS := Lib.hid hO
      clear hW hO hw1 hw2 hw3 hL
      subst hwf
      by_cases hlt : j < N
      · have c1 : decide (j < N) = true := by simpa using hlt
        have c1' : decide ((j : Int) < (N : Int)) = true := by simp; omega
        have hj0 : (0 : Int) ≤ (j : Int) := by omega
        have hlt' : (j : Int) < (N : Int) := by omega
        obtain ⟨ba, oa, ca', y, xs, he1, hr1, hy1, hg1⟩ := pairs_one (HS.out.below (Below.refl _ _).drew).prs (i := j) (by rw [← HN.out.1]; exact hlt)
        simp only [Value.slice.injEq] at he1
        obtain ⟨rfl, -, rfl⟩ := he1
        have hcell : wr.drew.cell? ⟨ba, oa + j * 33 + 32, none⟩ = some (peV y) := hr1 32 (peV y) (by rw [encP, List.getElem?_append_right (by rw [length_cellsOf]; omega), length_cellsOf]; rfl)
        obtain ⟨xa, xc, hxf, hx1, hx2, hx3⟩ := id hy1
        obtain ⟨M, hM⟩ : ∃ M, M = xs.length := ⟨_, rfl⟩
        rw [← hM] at hxf
        rw [hxf] at hcell hy1
        have HC := Lib.hid (And.intro (encP_key hr1) hcell)
        have HY := Lib.hid (And.intro hy1 (And.intro hg1 hM))
        have HJ := Lib.hid (And.intro hj hlt)
        clear hr1 hy1 hg1 hcell hxf hx1 hx2 hx3 hM
        have heq := eq_sums y.1 k
        go_wp2_with fail
        refine wp_region_sched (fun W => W.rangeAt ba (oa + j * 33) (cellsOf y.1) ∧ W.rangeAt z2 0 (cellsOf k)) [.t 0, .t 1, .t 2, .t 3, .s 4, .e 5 true, .t 6, .t 7, .t 8, .t 9, .t 10, .t 11, .e 12 false, .t 13, .t 14, .t 15] (by kernel_rfl) (by kernel_rfl) (by intro c a d v w h; cases d <;> exact h) ?_
        have HS1 := Lib.hid (HS.out.below (Below.refl wr.heap.size wr).drew)
        have HW1 := Lib.hid (bytes_below HW.out (Below.refl wr.heap.size wr).drew (Nat.le_refl _))
        clear HS HW
        generalize wr.drew = V at *
        iterate 4
          refine wpS_t rfl (v := ?_) (by rfl) (fun W => ?_) ?_
          rotate_left
          · go_simp
            try rfl
          try simp only [Act.put, List.setIfInBounds_toArray, List.set_cons_zero, List.set_cons_succ]
        refine wpS_load_sum (by exact ⟨HC.out.1, HS1.out.key⟩) rfl (by rfl) _ (by rfl) ba (oa + j * 33) (by rfl) y.1 (fun V hV => hV.1) ?_
        try simp only [Act.put, List.setIfInBounds_toArray, List.set_cons_zero, List.set_cons_succ]
        refine wpS_k rfl (by rfl) (fun K hK => ?_)
        refine wp_load_sum _ (by rfl) z2 0 (by rfl) k HS1.out.key ?_
        refine hK _ _ ⟨by exact ⟨HC.out.1, HS1.out.key⟩, ?_⟩; clear hK K
        try simp only [Act.put, List.setIfInBounds_toArray, List.set_cons_zero, List.set_cons_succ]
        by_cases hk : y.1 = k
        · have hd : decide (y.1 = k) = true := by simpa using hk
          rw [hd] at heq
          have HK := Lib.hid hk
          clear hd hk
          iterate 6
            refine wpS_t rfl (v := ?_) (by rfl) (fun W => ?_) ?_
            rotate_left
            · go_simp
              try rfl
            try simp only [Act.put, List.setIfInBounds_toArray, List.set_cons_zero, List.set_cons_succ]
          refine wpS_e rfl (by rfl) (fun K hK => ?_)
          have g := HC.out.2
          go_simp
          refine hK _ _ ?_; clear hK K
          try simp only [Act.put, List.setIfInBounds_toArray, List.set_cons_zero, List.set_cons_succ]
          clear g
          by_cases hM : M ≤ 256
          · have d1 : decide (M ≤ 256) = true := by simpa using hM
            have d1' : decide ((M : Int) ≤ 256) = true := by simp; omega
            iterate 3
              refine wpS_t rfl (v := ?_) (by rfl) (fun W => ?_) ?_
              rotate_left
              · go_simp
                try rfl
              try simp only [Act.put, List.setIfInBounds_toArray, List.set_cons_zero, List.set_cons_succ]
            refine wpS_done ?_
            have g := HC.out.2
            go_wp2_with fail
            clear g
            have hwj : wrap64 ((j : Int) + 1) = ((j + 1 : Nat) : Int) := by have := H24.out; unfold wrap64; omega
            rw [hwj]
            clear hwj
            refine ⟨⟨j + 1, by omega, rfl, ?_, HS1.out⟩, by simp only [intOf]; omega⟩
            rw [lastOf_take P k [] HY.out.2.1, if_pos ⟨HK.out, by rw [← HY.out.2.2]; exact hM⟩]
            exact HY.out.1
          · have d1 : decide (M ≤ 256) = false := by simpa using hM
            have d1' : decide ((M : Int) ≤ 256) = false := by simp; omega
            iterate 3
              refine wpS_t rfl (v := ?_) (by rfl) (fun W => ?_) ?_
              rotate_left
              · go_simp
                try rfl
              try simp only [Act.put, List.setIfInBounds_toArray, List.set_cons_zero, List.set_cons_succ]
            refine wpS_done ?_
            go_wp2_with fail
            have hwj : wrap64 ((j : Int) + 1) = ((j + 1 : Nat) : Int) := by have := H24.out; unfold wrap64; omega
            rw [hwj]
            clear hwj
            refine ⟨⟨j + 1, by omega, rfl, ?_, HS1.out⟩, by simp only [intOf]; omega⟩
            rw [lastOf_take P k [] HY.out.2.1, if_neg (fun h => hM (by rw [HY.out.2.2]; exact h.2))]
            exact HW1.out
        · have hd : decide (y.1 = k) = false := by simpa using hk
          rw [hd] at heq
          have HK := Lib.hid hk
          clear hd hk
          iterate 2
            refine wpS_t rfl (v := ?_) (by rfl) (fun W => ?_) ?_
            rotate_left
            · go_simp
              try rfl
            try simp only [Act.put, List.setIfInBounds_toArray, List.set_cons_zero, List.set_cons_succ]
          iterate 4
            refine wpS_t_skip rfl (by rfl) ?_
            try simp only [Act.put, List.setIfInBounds_toArray, List.set_cons_zero, List.set_cons_succ]
          refine wpS_e_skip rfl (by rfl) ?_
          try simp only [Act.put, List.setIfInBounds_toArray, List.set_cons_zero, List.set_cons_succ]
          iterate 2
            refine wpS_t_skip rfl (by rfl) ?_
            try simp only [Act.put, List.setIfInBounds_toArray, List.set_cons_zero, List.set_cons_succ]
          iterate 1
            refine wpS_t rfl (v := ?_) (by rfl) (fun W => ?_) ?_
            rotate_left
            · go_simp
              try rfl
            try simp only [Act.put, List.setIfInBounds_toArray, List.set_cons_zero, List.set_cons_succ]
          refine wpS_done ?_
          go_wp2_with fail
          have hwj : wrap64 ((j : Int) + 1) = ((j + 1 : Nat) : Int) := by have := H24.out; unfold wrap64; omega
          rw [hwj]
          clear hwj
          refine ⟨⟨j + 1, by omega, rfl, ?_, HS1.out⟩, by simp only [intOf]; omega⟩
          rw [lastOf_take P k [] HY.out.2.1, if_neg (fun h => HK.out h.1)]
          exact HW1.out
      · have hjn : j = N := by omega
        subst hjn
        clear hlt hj
        have c1 : decide (j < j) = false := by simp
        have c1' : decide ((j : Int) < (j : Int)) = false := by simp
        rw [List.take_of_length_le (by rw [← HN.out.1]; exact Nat.le_refl _)] at HW
        go_wp2_with (refine wpList_load_sum rfl _ rfl z2 0 rfl k HS.out.key ?_)
        refine (mget_any k wr p b P.length l HS.out.map).mono ?_
        rintro e w4 ⟨v4, rfl, hN4, hb⟩
        have hget : Keys.get (prs l) k = lastOf P k [] := by rw [HP.out, get_puts P k rise_nil full_nil]; rfl
        rw [hget] at hN4
        obtain ⟨a4, c4, rfl, _, _, _⟩ := id hN4.1
        obtain ⟨W0, hW0⟩ : ∃ x, x = lastOf P k [] := ⟨_, rfl⟩
        rw [← hW0] at hN4 HW ⊢
        have H4 := Lib.hid (HS.out.below hb)
        have HV4 := Lib.hid (And.intro hN4.1 (bytes_below HW.out hb (Nat.le_refl _)))
        clear hb HS HW hN4 hget hW0
        obtain ⟨m0, hm0⟩ : ∃ m, m = W0.length := ⟨_, rfl⟩
        rw [← hm0] at HV4 ⊢
        clear hm0
        go_wp2_with fail
        refine (same_self W0 _ _ w4 HV4.out.1 HV4.out.2).mono ?_
        rintro e w5 ⟨rfl, hb⟩
        have H5 := Lib.hid (H4.out.below hb)
        clear hb H4 HV4
        go_wp2_with fail
        have hln : l.length ≤ 24 := by
          have h1 := congrArg List.length HP.out
          have h2 := length_puts P []
          have h3 := H24.out
          have h4 := HN.out.1
          simp [prs] at h1
          simp at h2
          omega
        refine (mpairs_any w5 p b P.length l H5.out.map (by omega)).mono ?_
        rintro e w6 ⟨vp, rfl, hP, hb⟩
        obtain ⟨ap, cp, rfl, hp1, hp2⟩ := pairs_form hP
        obtain ⟨L, hL⟩ : ∃ L, L = (prs l).length := ⟨_, rfl⟩
        rw [← hL] at hP hp1 ⊢
        have hL24 : L ≤ 24 := by rw [hL]; simpa [prs] using hln
        have H6 := Lib.hid (And.intro (H5.out.below hb) hP)
        have HL := Lib.hid (And.intro hL hL24)
        clear hb hP hp2 H5 hL hL24 hln
        have k2 : (L : Int) ≤ (cp : Int) := by omega
        go_wp2_with fail
        go_loopw [11, 12, 13] (fun iv _ _ W => ∃ i : Nat, i ≤ L ∧ iv = .int .i64 (i : Int) ∧ GW w W z2 k (.slice a j cap) P p b P.length l ∧ PairsAt W (.slice ap L cp) (prs l)) (fun iv _ _ _ => L - (intOf iv).toNat)
        case atStart => exact ⟨0, by omega, rfl, H6.out⟩
        case round =>
          clear H6
          obtain ⟨i, hi, rfl, hS, hP⟩ := hrel
          have HS := Lib.hid (And.intro hS hP)
          clear hS hP
          by_cases hlt : i < L
          · have d1 : decide (i < L) = true := by simpa using hlt
            have d1' : decide ((i : Int) < (L : Int)) = true := by simp; omega
            have hi0 : (0 : Int) ≤ (i : Int) := by omega
            have hlt' : (i : Int) < (L : Int) := by omega
            obtain ⟨ba, oa, ca', y, xs, he1, hr1, hy1, hg1⟩ := pairs_one HS.out.2 (i := i) (by rw [← HL.out.1]; exact hlt)
            simp only [Value.slice.injEq] at he1
            obtain ⟨rfl, -, rfl⟩ := he1
            have hmem : (y.1, xs) ∈ prs l := List.mem_iff_getElem?.2 ⟨i, hg1⟩
            have hgx : Keys.get (prs l) y.1 = xs := Keys.get_mem (prs_rise HS.out.1.map.rise) hmem
            have hxne : xs ≠ [] := (vals_full HS.out.1.map _ hmem).1
            have HI := Lib.hid (And.intro hi hlt)
            have HX := Lib.hid (And.intro hr1 (And.intro hgx hg1))
            obtain ⟨xa, xc, hxf, hx1, hx2, hx3⟩ := id hy1
            obtain ⟨M, hM⟩ : ∃ M, M = xs.length := ⟨_, rfl⟩
            have hM0 : M ≠ 0 := fun e => hxne (List.length_eq_zero_iff.1 (by rw [← hM, e]))
            rw [← hM] at hxf
            rw [hxf] at hy1
            have HXF := Lib.hid (And.intro hxf hM)
            have HY := Lib.hid hy1
            clear hr1 hy1 hg1 hmem hgx hxne hx1 hx2 hx3 hxf hi hlt hM
            have m1 : decide (M = 0) = false := by simpa using hM0
            have m1' : decide ((M : Int) = 0) = false := by simp; omega
            have m1'' : ((M : Int) == 0) = false := by rw [beq_eq_false_iff_ne]; omega
            go_wp2_with (refine wpList_load_sum rfl _ rfl ba (oa + i * 33) rfl y.1 (encP_key HX.out.1) ?_)
            refine (mget_any y.1 wr p b P.length l HS.out.1.map).mono ?_
            rintro e w7 ⟨v7, rfl, hN7, hb⟩
            rw [HX.out.2.1] at hN7
            obtain ⟨a7, c7, rfl, _, _, _⟩ := id hN7.1
            rw [← HXF.out.2] at hN7 ⊢
            have H7 := Lib.hid (And.intro (HS.out.1.below hb) (And.intro (HS.out.2.below hb) (And.intro hN7.1 (And.intro (bytes_below HY.out hb (Nat.le_refl _)) ((Keeps.of_below (X := fun _ => False) hb).range HX.out.1 (fun h => h))))))
            have HG := Lib.hid HX.out.2.2
            clear hb hN7 HX HY HS
            by_cases hi1 : i = 0
            · have z1 : decide ((0 : Int) < (i : Int)) = false := by simp; omega
              have z2' : decide (0 < i) = false := by simp; omega
              have HI1 := Lib.hid hi1
              clear hi1
              go_wp2_with fail
              have hcell : w7.drew.cell? ⟨ba, oa + i * 33 + 32, none⟩ = some (.slice xa M xc) := by
                have := H7.out.2.2.2.2 32 (peV y) (by rw [encP, List.getElem?_append_right (by rw [length_cellsOf]; omega), length_cellsOf]; rfl)
                rw [HXF.out.1] at this
                exact this
              have HC := Lib.hid hcell
              clear hcell
              refine wp_region_sched (fun W => True) [.t 0, .t 1, .t 2, .t 3, .t 4, .t 5, .t 6, .t 7, .t 8, .t 9, .t 10, .t 11, .t 12, .e 13 true, .e 14 true, .t 15, .t 16, .t 17, .t 18, .t 19, .t 20, .t 21, .t 22, .t 23, .t 24, .t 25, .t 26, .s 27, .t 28, .t 29, .t 30, .t 31, .t 32, .s 33, .t 34, .t 35, .t 36] (by kernel_rfl) (by kernel_rfl) (by intro c a d v w h; cases d <;> exact h) ?_
              have HS7 := Lib.hid (And.intro (H7.out.1.below (Below.refl _ _).drew) (And.intro (H7.out.2.1.below (Below.refl _ _).drew) (And.intro (bytes_below H7.out.2.2.1 (Below.refl _ _).drew (Nat.le_refl _)) (bytes_below H7.out.2.2.2.1 (Below.refl _ _).drew (Nat.le_refl _)))))
              clear H7
              generalize w7.drew = V at *
              iterate 13
                refine wpS_t rfl (v := ?_) (by rfl) (fun W => ?_) ?_
                rotate_left
                · go_simp
                  try rfl
                try simp only [Act.put, List.setIfInBounds_toArray, List.set_cons_zero, List.set_cons_succ]
              refine wpS_k rfl (by rfl) (fun K hK => ?_)
              have g := HC.out
              go_simp
              refine hK _ _ ⟨trivial, ?_⟩; clear hK K
              try simp only [Act.put, List.setIfInBounds_toArray, List.set_cons_zero, List.set_cons_succ]
              clear g
              refine wpS_k rfl (by rfl) (fun K hK => ?_)
              go_simp
              refine (same_self xs _ _ V HS7.out.2.2.1 HS7.out.2.2.2).mono ?_
              rintro e V1 ⟨rfl, hb⟩
              have HS8 := Lib.hid (And.intro (HS7.out.1.below hb) (HS7.out.2.1.below hb))
              clear hb HS7
              refine hK _ _ ⟨trivial, ?_⟩; clear hK K
              try simp only [Act.put, List.setIfInBounds_toArray, List.set_cons_zero, List.set_cons_succ]
              iterate 6
                refine wpS_t rfl (v := ?_) (by rfl) (fun W => ?_) ?_
                rotate_left
                · go_simp
                  try rfl
                try simp only [Act.put, List.setIfInBounds_toArray, List.set_cons_zero, List.set_cons_succ]
              iterate 6
                refine wpS_t_skip rfl (by rfl) ?_
                try simp only [Act.put, List.setIfInBounds_toArray, List.set_cons_zero, List.set_cons_succ]
              iterate 1
                refine wpS_s_skip (trivial) rfl (by rfl) ?_
                try simp only [Act.put, List.setIfInBounds_toArray, List.set_cons_zero, List.set_cons_succ]
              iterate 5
                refine wpS_t_skip rfl (by rfl) ?_
                try simp only [Act.put, List.setIfInBounds_toArray, List.set_cons_zero, List.set_cons_succ]
              iterate 1
                refine wpS_s_skip (trivial) rfl (by rfl) ?_
                try simp only [Act.put, List.setIfInBounds_toArray, List.set_cons_zero, List.set_cons_succ]
              iterate 1
                refine wpS_t_skip rfl (by rfl) ?_
                try simp only [Act.put, List.setIfInBounds_toArray, List.set_cons_zero, List.set_cons_succ]
              iterate 2
                refine wpS_t rfl (v := ?_) (by rfl) (fun W => ?_) ?_
                rotate_left
                · go_simp
                  try rfl
                try simp only [Act.put, List.setIfInBounds_toArray, List.set_cons_zero, List.set_cons_succ]
              refine wpS_done ?_
              have hwi : wrap64 ((i : Int) + 1) = ((i + 1 : Nat) : Int) := by have := HL.out.2; have := HI.out; unfold wrap64; omega
              go_wp2_with fail
              rw [hwi]
              clear hwi
              refine ⟨⟨i + 1, by have := HI.out; omega, rfl, HS8.out⟩, ?_⟩
              simp only [intOf]
              have := HI.out
              omega
            · obtain ⟨J, hJ⟩ : ∃ J, J = i - 1 := ⟨_, rfl⟩
              have z1 : decide ((0 : Int) < (i : Int)) = true := by simp; omega
              have z2' : decide (0 < i) = true := by simp; omega
              have hw : IntKind.i64.wrap ((i : Int) - 1) = (J : Int) := by rw [IntKind.wrap_i64]; have := HL.out.2; have := HI.out; omega
              have hJ0 : (0 : Int) ≤ (J : Int) := by omega
              have hJL : (J : Int) < (L : Int) := by omega
              have hJi : J + 1 = i := by omega
              obtain ⟨bq, oq, cq, yq, xq, heq, hrq, hyq, hgq⟩ := pairs_one H7.out.2.1 (i := J) (by rw [← HL.out.1]; omega)
              simp only [Value.slice.injEq, Option.some.injEq, Addr.mk.injEq, and_true] at heq
              obtain ⟨⟨rfl, rfl⟩, -, rfl⟩ := heq
              have hless : Keys.kn yq.1 < Keys.kn y.1 := by
                have hri := prs_rise H7.out.1.map.rise
                have h1 := (List.getElem?_eq_some_iff.1 hgq)
                have h2 := (List.getElem?_eq_some_iff.1 HG.out)
                obtain ⟨g1, g1'⟩ := h1
                obtain ⟨g2, g2'⟩ := h2
                have := (List.pairwise_iff_getElem.1 hri) J i g1 g2 (by omega)
                rw [g1', g2'] at this
                exact this
              have hgeq := geq_keys hless
              have HI1 := Lib.hid (And.intro hi1 hJi)
              have HQ := Lib.hid (And.intro (encP_key hrq) (encP_key H7.out.2.2.2.2))
              clear hi1 hJ hJi hrq hyq hgq hless
              obtain ⟨s1, hs1⟩ : ∃ s, s = skey yq.1 := ⟨_, rfl⟩
              obtain ⟨s2, hs2⟩ : ∃ s, s = skey y.1 := ⟨_, rfl⟩
              rw [← hs1, ← hs2] at hgeq
              have HSK := Lib.hid (And.intro hs1 hs2)
              clear hs1 hs2
              go_wp2_with fail
              have hcell : w7.drew.cell? ⟨ba, oa + i * 33 + 32, none⟩ = some (.slice xa M xc) := by
                have := H7.out.2.2.2.2 32 (peV y) (by rw [encP, List.getElem?_append_right (by rw [length_cellsOf]; omega), length_cellsOf]; rfl)
                rw [HXF.out.1] at this
                exact this
              have HC := Lib.hid hcell
              have HQD := Lib.hid (show w7.drew.rangeAt ba (oa + J * 33) (cellsOf yq.1) ∧ w7.drew.rangeAt ba (oa + i * 33) (cellsOf y.1) from HQ.out)
              clear hcell HQ
              refine wp_region_sched (fun W => W.rangeAt ba (oa + J * 33) (cellsOf yq.1) ∧ W.rangeAt ba (oa + i * 33) (cellsOf y.1)) [.t 0, .t 1, .t 2, .t 3, .t 4, .t 5, .t 6, .t 7, .t 8, .t 9, .t 10, .t 11, .t 12, .e 13 true, .e 14 true, .t 15, .t 16, .t 17, .t 18, .t 19, .t 20, .t 21, .t 22, .t 23, .t 24, .t 25, .t 26, .s 27, .t 28, .t 29, .t 30, .t 31, .t 32, .s 33, .t 34, .t 35, .t 36] (by kernel_rfl) (by kernel_rfl) (by intro c a d v w h; cases d <;> exact h) ?_
              have HS7 := Lib.hid (And.intro (H7.out.1.below (Below.refl _ _).drew) (And.intro (H7.out.2.1.below (Below.refl _ _).drew) (And.intro (bytes_below H7.out.2.2.1 (Below.refl _ _).drew (Nat.le_refl _)) (bytes_below H7.out.2.2.2.1 (Below.refl _ _).drew (Nat.le_refl _)))))
              clear H7
              generalize w7.drew = V at *
              iterate 13
                refine wpS_t rfl (v := ?_) (by rfl) (fun W => ?_) ?_
                rotate_left
                · go_simp
                  try rfl
                try simp only [Act.put, List.setIfInBounds_toArray, List.set_cons_zero, List.set_cons_succ]
              refine wpS_k rfl (by rfl) (fun K hK => ?_)
              have g := HC.out
              go_simp
              refine hK _ _ ⟨by exact HQD.out, ?_⟩; clear hK K
              try simp only [Act.put, List.setIfInBounds_toArray, List.set_cons_zero, List.set_cons_succ]
              clear g
              refine wpS_k rfl (by rfl) (fun K hK => ?_)
              go_simp
              refine (same_self xs _ _ V HS7.out.2.2.1 HS7.out.2.2.2).mono ?_
              rintro e V1 ⟨rfl, hb⟩
              have HS8 := Lib.hid (And.intro (HS7.out.1.below hb) (HS7.out.2.1.below hb))
              have HQ2 := Lib.hid (And.intro ((Keeps.of_below (X := fun _ => False) hb).range HQD.out.1 (fun h => h)) ((Keeps.of_below (X := fun _ => False) hb).range HQD.out.2 (fun h => h)))
              clear hb HS7
              refine hK _ _ ⟨by exact HQ2.out, ?_⟩; clear hK K
              try simp only [Act.put, List.setIfInBounds_toArray, List.set_cons_zero, List.set_cons_succ]
              iterate 12
                refine wpS_t rfl (v := ?_) (by rfl) (fun W => ?_) ?_
                rotate_left
                · go_simp
                  try rfl
                try simp only [Act.put, List.setIfInBounds_toArray, List.set_cons_zero, List.set_cons_succ]
              refine wpS_s (by exact HQ2.out) rfl (v := .string s1) (by rfl) (fun W hW => ?_) ?_
              · have hk := key_string hW.1
                rw [← HSK.out.1] at hk
                go_simp
              try simp only [Act.put, List.setIfInBounds_toArray, List.set_cons_zero, List.set_cons_succ]
              iterate 5
                refine wpS_t rfl (v := ?_) (by rfl) (fun W => ?_) ?_
                rotate_left
                · go_simp
                  try rfl
                try simp only [Act.put, List.setIfInBounds_toArray, List.set_cons_zero, List.set_cons_succ]
              refine wpS_s (by exact HQ2.out) rfl (v := .string s2) (by rfl) (fun W hW => ?_) ?_
              · have hk := key_string hW.2
                rw [← HSK.out.2] at hk
                go_simp
              try simp only [Act.put, List.setIfInBounds_toArray, List.set_cons_zero, List.set_cons_succ]
              iterate 3
                refine wpS_t rfl (v := ?_) (by rfl) (fun W => ?_) ?_
                rotate_left
                · go_simp
                  try rfl
                try simp only [Act.put, List.setIfInBounds_toArray, List.set_cons_zero, List.set_cons_succ]
              refine wpS_done ?_
              have hwi : wrap64 ((i : Int) + 1) = ((i + 1 : Nat) : Int) := by have := HL.out.2; have := HI.out; unfold wrap64; omega
              clear hw
              go_wp2_with fail
              rw [hwi]
              clear hwi
              refine ⟨⟨i + 1, by have := HI.out; omega, rfl, HS8.out⟩, ?_⟩
              simp only [intOf]
              have := HI.out
              omega
          · have hiL : i = L := by omega
            subst hiL
            clear hlt hi
            have d1 : decide (i < i) = false := by simp
            have d1' : decide ((i : Int) < (i : Int)) = false := by simp
            go_wp2_with fail
            refine (alive15_any wr).mono ?_
            rintro e w8 ⟨rfl, hb⟩
            have HB := Lib.hid (HS.out.1.bw.trans (hb.mono HS.out.1.bw.size))
            clear hb
            go_wp2_with fail
            exact bodyPost_ret (results_tmp rfl _ _ _) rfl ⟨rfl, HB.out⟩
end Go.Proofs.Ytfmgoehnbaiamaa
