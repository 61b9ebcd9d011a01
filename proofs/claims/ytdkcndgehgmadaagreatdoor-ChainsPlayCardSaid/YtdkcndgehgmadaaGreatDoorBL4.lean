/-
  Walk: a Book writes over the sums that it holds (fillSum).
-/
import Derived.Test.YtdkcndgehgmadaaGreatDoorZAX
open Go Go.RowKit Alm
namespace Go.Proofs.YtdkcndgehgmadaaGreatDoor
theorem infoHeld : (Tryz.prog.info? 161).map (·.size) = some 3 := by kernel_rfl
theorem wpList_load_held {ops : Array Oper} {rest : List Oper} {op : Oper} {a : Act} {w : World} {Q : Exit → Act → World → Prop} (hgd : op.guard = none) (x : Operand) (ho : op.op = .load 161 x)
    (b o : Nat) (hx : a.eval x = .pointer (some ⟨b, o, none⟩)) (h : Held) (hc : w.rangeAt b o (cellsH h))
    (hk : wpList Tryz.prog ops Q rest (a.put op.dst (.agg (cellsH h).toArray)) w) : wpList Tryz.prog ops Q (op :: rest) a w :=
  wpList_load_mid hgd _ x ho b o hx (cellsH h) _ hc Tryz.underlying161 rfl infoHeld hk
theorem wpList_var_held {ops : Array Oper} {rest : List Oper} {op : Oper} {a : Act} {w : World} {C : Array Value} {t : TypeId} {Q : Exit → Act → World → Prop} (hC : C.size = 3) (hgd : op.guard = none) (x y : Operand) (ho : op.op = .store 161 x y) (h : Held) (h1 : h.1.oneCell' = true) (h2 : h.2.1.oneCell' = true)
    (hx : a.eval x = .pointer (some ⟨w.heap.size, 0, none⟩)) (hy : a.eval y = .agg (cellsH h).toArray)
    (hk : ∀ W', Below w.heap.size w W' → W'.rangeAt w.heap.size 0 (cellsH h) → wpList Tryz.prog ops Q rest (a.put op.dst undef) W') : wpList Tryz.prog ops Q (op :: rest) a (w.alloc (.cells C t)) := by
  have ht : (w.alloc (.cells C t)).there w.heap.size 0 3 := by rw [← hC]; exact there_new _ _ _
  have ht2 := World.there_setCells ht w.heap.size 0 (cellsH h)
  exact wpList_store_mid hgd _ x y ho w.heap.size 0 _ hx hy ht infoHeld (by simp [cellsH, h1, h2]; rfl) (hk _ (setCells_below _ (Nat.le_refl _) _ 0 _ _ (al (Below.refl _ _) _)) (range_stored _ _ _ _ ht2))
theorem wp_store_mk {op : Oper} {a : Act} {w : World} {K : Act → World → Prop} {Q : Exit → Act → World → Prop} (x y : Operand) (ho : op.op = .store 24 x y)
    (b o : Nat) (s : Sum) (hx : a.eval x = .pointer (some ⟨b, o, none⟩)) (hy : a.eval y = sv s) (ht : w.there b o 32) (h : K (a.put op.dst undef) (w.setCells b o (cellsOf s))) : op.wp Tryz.prog a w K Q :=
  wp_store_mid _ x y ho b o _ hx hy (by rw [size_cellsOf]; exact ht) (by rw [size_cellsOf]; exact infoSum) (all_cellsOf s) h
theorem wrap_next {k m : Nat} (h : k < m) (hm : m < 1000000) : wrap64 ((k : Int) + 1) = ((k + 1 : Nat) : Int) := by
  unfold wrap64
  omega
/-- The mark of a number among sums, in cells. -/
noncomputable def mkC (n : Nat) : List Value := cellsOf (mkS (UInt8.ofNat n))
theorem length_mkC (n : Nat) : (mkC n).length = 32 := length_cellsOf _
theorem not_in {H : List Held} {q : Nat} {hv : Value} (ha : ApartH H q hv) : ¬ InH H q := fun ⟨i, hi, h⟩ => (ha i hi q h).1 rfl
theorem not_row {H : List Held} {q : Nat} {hv : Value} (ha : ApartH H q hv) : ∀ k, hv.ownBlock = some k → ¬ InH H k := fun k hk ⟨i, hi, h⟩ => (ha i hi k h).2.1 hk
theorem lies_form {W : World} {base : Nat} {H : List Held} {S : Nat → List (List Value)} {mk : Nat → List Value} {i k : Nat} (h : Lies W base 32 H (fillTo mk H S i k)) (hk : k ≤ (S i).length) (hi : i < H.length) : ∃ al cl, lst H i = .slice al (S i).length cl := by
  obtain ⟨a, c, h1⟩ := (h i hi).form
  rw [length_fillTo mk H S i k i hk] at h1
  exact ⟨a, c, h1⟩
theorem lie_block {W : World} {base size g n cap : Nat} {xs : List (List Value)} (h : Lie W base size (.slice (some ⟨g, 0, none⟩) n cap) xs) : ∀ o m, o + m ≤ n * size → W.there g o m := by
  rcases h with ⟨h0, _⟩ | ⟨g', cap', hv, hb, hg, hnc, hcm, hr, ht, hl⟩
  · cases h0
  · simp only [Value.slice.injEq, Option.some.injEq, Addr.mk.injEq, and_true] at hv
    obtain ⟨rfl, rfl, rfl⟩ := hv
    intro o m hom j hj
    have h1 : xs.length * size ≤ cap * size := Nat.mul_le_mul_right _ hnc
    have := ht (o + j) (by omega)
    rwa [Nat.zero_add] at this
set_option maxRecDepth 100000 in
set_option maxHeartbeats 1000000 in
theorem fillSum_any (base q n : Nat) (hv : Value) (F : Nat → Value) (H : List Held) (S : Nat → List (List Value)) (w : World) (hb : Book w q n F) (hF : F 5 = hv) (hrow : Row3 w 161 base q hv H) (hr : Lies w base 32 H S) (ha : ApartH H q hv) (hN : ∀ i, i < H.length → num H i < 256) (hS : ∀ i, i < H.length → (S i).length < 1000000) (hH : H.length < 100000) (hL : ∀ i, i < H.length → lng H i = .slice none 0 0) :
    Calls Tryz.prog 76 #[.pointer (some ⟨q, 0, none⟩)] w fun e w' => e = .returned (.tuple #[]) ∧ Lies w' base 32 H (filled mkC H S) ∧ Keeps (InH H) w w' := by
  obtain ⟨ah, ch, hform⟩ := hrow.form
  obtain ⟨N, hNN⟩ : ∃ N, N = H.length := ⟨_, rfl⟩
  rw [← hNN] at hform
  subst hform
  have HBk := Lib.hid (And.intro hb (And.intro hrow hF))
  have H0 := Lib.hid (And.intro (show Lies w base 32 H (fillTo mkC H S 0 0) by rw [fillTo_zero]; exact hr) (Keeps.refl (InH H) w))
  have HH := Lib.hid (And.intro ha (And.intro hN (And.intro hS (And.intro hH hNN))))
  have HLL := Lib.hid hL
  have book : ∀ W, Keeps (InH H) w W → Book W q n F ∧ Row3 W 161 base q (.slice ah N ch) H ∧ W.cell? ⟨q, 5, none⟩ = some (.slice ah N ch) := fun W hk => by
    have h1 := HBk.out.1.keep hk (not_in HH.out.1)
    exact ⟨h1, HBk.out.2.1.keep hk (not_row HH.out.1), by rw [← HBk.out.2.2]; exact h1.cs 5 (by omega) (by omega)⟩
  have HBO := Lib.hid book
  clear hb hrow hF hr ha hN hS hH hL hNN book HBk
  go_enter Tryz.func76, Tryz.ntmps76
  go_wp2_with fail
  go_loopw [2] (fun iv W => ∃ i : Nat, i ≤ N ∧ iv = .int .i64 (i : Int) ∧ Lies W base 32 H (fillTo mkC H S i 0) ∧ Keeps (InH H) w W) (fun iv _ => N - (intOf iv).toNat)
  case atStart => exact ⟨0, by omega, rfl, H0.out⟩
  case round =>
    clear H0
    obtain ⟨i, hi, rfl, hR, hK⟩ := hrel
    have HB := Lib.hid (And.intro hR hK)
    have g5 := (HBO.out _ hK).2.2
    clear hR hK
    by_cases hlt : i < N
    · have c1 : decide (i < N) = true := by simpa using hlt
      have c1' : decide ((i : Int) < (N : Int)) = true := by simp; omega
      have hj0 : (0 : Int) ≤ (i : Int) := by omega
      have hlt' : (i : Int) < (N : Int) := by omega
      have hiH : i < H.length := by rw [← HH.out.2.2.2.2]; exact hlt
      obtain ⟨gH, capH, he, _, _, _, hat⟩ := (HBO.out _ HB.out.2).2.1.at hiH
      rw [← HH.out.2.2.2.2] at he
      simp only [Value.slice.injEq, true_and] at he
      obtain ⟨rfl, rfl⟩ := he
      have hcl : cellsH (hd H i) = cellsH (lst H i, .slice none 0 0, num H i) := by
        rw [← HLL.out i hiH]; rfl
      rw [hcl] at hat
      obtain ⟨al, cl, hfl⟩ := lies_form HB.out.1 (Nat.zero_le _) hiH
      rw [hfl] at hat
      obtain ⟨m, hm⟩ : ∃ m, m = (S i).length := ⟨_, rfl⟩
      obtain ⟨nm, hnm⟩ : ∃ x, x = num H i := ⟨_, rfl⟩
      rw [← hm] at hat hfl
      rw [← hnm] at hat
      have HF := Lib.hid (And.intro hfl (And.intro hm (And.intro hnm hiH)))
      clear hfl hm hnm hcl hiH
      have HG := Lib.hid trivial
      have HAT := Lib.hid hat
      clear hat
      go_wp2_with (first
        | (refine wpList_load_held rfl _ rfl gH (i * 3) rfl _ HAT.out ?_)
        | (have _ := HG; refine wpList_var_held (by rfl) rfl _ _ rfl (.slice al m cl, .slice none 0 0, nm) rfl rfl (by rfl) (by rfl) ?_; intro W2 hb hr2; obtain ⟨bx, hbx⟩ : ∃ z, z = wr.heap.size := ⟨_, rfl⟩; rw [← hbx] at hr2 ⊢; have H2 := Lib.hid (And.intro hb (And.intro hr2 hbx)); clear HG hb hr2 hbx))
      have hbxw : Below wr.heap.size wr W2 := H2.out.1
      have H3 := Lib.hid (show Lies W2 base 32 H (fillTo mkC H S i 0) ∧ Keeps (InH H) w W2 ∧ W2.rangeAt bx 0 (cellsH (.slice al m cl, .slice none 0 0, nm)) from ⟨HB.out.1.below hbxw, HB.out.2.trans (Keeps.of_below hbxw), H2.out.2.1⟩)
      clear hbxw g5
      go_loopw [4] (fun kv W => ∃ k : Nat, k ≤ m ∧ kv = .int .i64 (k : Int) ∧ Lies W base 32 H (fillTo mkC H S i k) ∧ Keeps (InH H) w W ∧ W.rangeAt bx 0 (cellsH (.slice al m cl, .slice none 0 0, nm))) (fun kv _ => m - (intOf kv).toNat)
      case atStart => exact ⟨0, by omega, rfl, H3.out⟩
      case round =>
        clear H3
        obtain ⟨k, hk, rfl, hR, hK, hX⟩ := hrel
        have HI := Lib.hid (And.intro hR (And.intro hK hX))
        have g0 : wr.cell? ⟨bx, 0, none⟩ = some (.slice al m cl) := hX 0 _ rfl
        clear hR hK hX
        by_cases hkm : k < m
        · have d1 : decide (k < m) = true := by simpa using hkm
          have d1' : decide ((k : Int) < (m : Int)) = true := by simp; omega
          have hk0 : (0 : Int) ≤ (k : Int) := by omega
          have hkm' : (k : Int) < (m : Int) := by omega
          go_wp2_with fail
          have hiH := HF.out.2.2.2
          have hmS : m = (S i).length := HF.out.2.1
          have hown := HI.out.1 i hiH
          rw [HF.out.1] at hown
          have hgi : ∃ gi, al = some ⟨gi, 0, none⟩ := by
            rcases hown with ⟨h0, _⟩ | ⟨g', cap', hv, _⟩
            · simp only [Value.slice.injEq] at h0
              omega
            · simp only [Value.slice.injEq] at hv
              exact ⟨g', hv.1⟩
          obtain ⟨gi, rfl⟩ := hgi
          have hbk := lie_block hown (k * 32) 32 (by omega)
          have hown0 := HB.out.1 i hiH
          rw [HF.out.1] at hown0
          have hgx : gi ≠ bx := by have := (hown0.lt gi rfl).2; have := H2.out.2.2; omega
          have hnm : nm < 256 := by rw [HF.out.2.2.1]; exact HH.out.2.1 i hiH
          have hu : ((UInt8.ofNat nm).toNat : Nat) = nm := by simp; omega
          have hmk : cellsOf (mkS (UInt8.ofNat nm)) = mkC (num H i) := by unfold mkC; rw [HF.out.2.2.1]
          have HC := Lib.hid (And.intro hiH (And.intro hmS (And.intro hbk (And.intro hgx (And.intro hu hmk)))))
          clear hiH hmS hown hown0 hbk hgx hnm hu hmk
          have hd := (Below.refl wr.heap.size wr).drew
          have HJ := Lib.hid (show Lies wr.drew base 32 H (fillTo mkC H S i k) ∧ Keeps (InH H) w wr.drew ∧ wr.drew.rangeAt bx 0 (cellsH (.slice (some ⟨gi, 0, none⟩) m cl, .slice none 0 0, nm)) ∧ wr.drew.there gi (k * 32) 32 from ⟨HI.out.1.below hd, HI.out.2.1.trans (Keeps.of_below hd), (Keeps.of_below (X := fun _ => False) hd).range HI.out.2.2 (fun h => h), (Keeps.of_below (X := fun _ => False) hd).there HC.out.2.2.1 (by decide) (fun h => h)⟩)
          clear hd HI g0
          refine wp_region_sched (fun V => Below wr.drew.heap.size wr.drew V) [.t 0, .t 2, .t 3, .s 1, .e 4 true, .e 5 true, .t 6, .e 7 false] (by kernel_rfl) (by kernel_rfl) (by intro c a d v w h; cases d <;> exact h) ?_
          generalize wr.drew = V at *
          iterate 3
            refine wpS_t rfl (v := ?_) (by rfl) (fun W => ?_) ?_
            rotate_left
            · go_simp
              try rfl
            try simp only [Act.put, List.setIfInBounds_toArray, List.set_cons_zero, List.set_cons_succ]
          refine wpS_s (Below.refl _ _) rfl (v := .slice (some ⟨gi, 0, none⟩) m cl) (by rfl) (fun W hW => ?_) ?_
          · have g : W.cell? ⟨bx, 0, none⟩ = some (.slice (some ⟨gi, 0, none⟩) m cl) := (Keeps.of_below (X := fun _ => False) hW).cell (HJ.out.2.2.1 0 _ rfl) (fun h => h)
            go_simp
          try simp only [Act.put, List.setIfInBounds_toArray, List.set_cons_zero, List.set_cons_succ]
          refine wpS_k rfl (by rfl) (fun K hK => ?_)
          have g : V.cell? ⟨bx, 2, none⟩ = some (.int .i64 ((nm : Nat) : Int)) := HJ.out.2.2.1 2 _ rfl
          go_simp
          refine hK _ _ ⟨Below.refl _ _, ?_⟩; clear hK K
          try simp only [Act.put, List.setIfInBounds_toArray, List.set_cons_zero, List.set_cons_succ]
          clear g
          refine wpS_k rfl (by rfl) (fun K hK => ?_)
          go_simp
          have hc := markSum_any (UInt8.ofNat nm) V
          rw [HC.out.2.2.2.2.1] at hc
          refine hc.mono ?_
          clear hc
          rintro e V2 ⟨rfl, hb2⟩
          have hbV : Below V.heap.size V V2 := hb2
          have HK := Lib.hid (show Lies V2 base 32 H (fillTo mkC H S i k) ∧ Keeps (InH H) w V2 ∧ V2.rangeAt bx 0 (cellsH (.slice (some ⟨gi, 0, none⟩) m cl, .slice none 0 0, nm)) ∧ V2.there gi (k * 32) 32 from ⟨HJ.out.1.below hb2, HJ.out.2.1.trans (Keeps.of_below hb2), (Keeps.of_below (X := fun _ => False) hb2).range HJ.out.2.2.1 (fun h => h), (Keeps.of_below (X := fun _ => False) hb2).there HJ.out.2.2.2 (by decide) (fun h => h)⟩)
          clear hb2 HJ
          refine hK _ _ ⟨hbV, ?_⟩; clear hK K
          try simp only [Act.put, List.setIfInBounds_toArray, List.set_cons_zero, List.set_cons_succ]
          clear hbV
          iterate 1
            refine wpS_t rfl (v := ?_) (by rfl) (fun W => ?_) ?_
            rotate_left
            · go_simp
              try rfl
            try simp only [Act.put, List.setIfInBounds_toArray, List.set_cons_zero, List.set_cons_succ]
          refine wpS_e rfl (by rfl) (fun K hK => ?_)
          refine wp_store_mk _ _ (by rfl) gi (k * 32) (mkS (UInt8.ofNat nm)) (by rfl) (by rfl) HK.out.2.2.2 ?_
          refine hK _ _ ?_; clear hK K
          try simp only [Act.put]
          refine wpS_done ?_
          go_wp2_with fail
          rw [HC.out.2.2.2.2.2]
          have hkc := keepsC gi (mkC (num H i)) (k * 32) V2
          have hrs := lies_set HK.out.1 HH.out.1 HC.out.1 (by rw [← HC.out.2.1]; exact hkm) (length_mkC _) HF.out.1
          have hkk := HK.out.2.1.trans (hkc.mono (Y := InH H) fun b hb2 => ⟨i, HC.out.1, by rw [HF.out.1, hb2]; rfl⟩)
          have hrx := hkc.range HK.out.2.2.1 (fun e => HC.out.2.2.2.1 e.symm)
          have hwk : wrap64 ((k : Int) + 1) = ((k + 1 : Nat) : Int) := wrap_next hkm (by rw [HC.out.2.1]; exact HH.out.2.2.1 i HC.out.1)
          exact ⟨⟨k + 1, hkm, by rw [hwk], hrs, hkk, hrx⟩, by rw [hwk]; simp only [intOf, Int.toNat_natCast]; omega⟩
        · have hkn : k = m := by omega
          subst hkn
          go_wp2_with fail
          have hfn := fillTo_next mkC H S i
          rw [← HF.out.2.1] at hfn
          have hwi : wrap64 ((i : Int) + 1) = ((i + 1 : Nat) : Int) := wrap_next (m := 100000) (by rw [HH.out.2.2.2.2] at hlt; exact Nat.lt_trans hlt HH.out.2.2.2.1) (by decide)
          have HI2 := HI.out
          clear HI H2 HAT HF hkm g0 HB
          exact ⟨⟨i + 1, hlt, by rw [hwi], by rw [← hfn]; exact HI2.1, HI2.2.1⟩, by rw [hwi]; simp only [intOf, Int.toNat_natCast]; omega⟩
    · have hjn : i = N := by omega
      subst hjn
      go_wp2_with fail
      exact bodyPost_end (results_none rfl _ _ _) rfl ⟨rfl, lies_filled (by rw [← HH.out.2.2.2.2]; exact HB.out.1), HB.out.2⟩
end Go.Proofs.YtdkcndgehgmadaaGreatDoor
