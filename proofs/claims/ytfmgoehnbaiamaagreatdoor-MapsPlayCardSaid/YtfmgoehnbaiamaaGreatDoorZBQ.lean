/-
  Joined: BP4, BP5.
-/
import Derived.Test.YtfmgoehnbaiamaaGreatDoorZBP
import Derived.Test.YtfmgoehnbaiamaaGreatDoorBL5
-- Walk: a Book writes over the pairs that it holds (fillPair).
open Go Go.RowKit Alm
namespace Go.Proofs.YtfmgoehnbaiamaaGreatDoor
theorem infoPair33 : (Tryz.prog.info? 41).map (·.size) = some 33 := by kernel_rfl
theorem wp_store_pk {op : Oper} {a : Act} {w : World} {K : Act → World → Prop} {Q : Exit → Act → World → Prop} (x y : Operand) (ho : op.op = .store 41 x y)
    (b o : Nat) (s : PE) (hx : a.eval x = .pointer (some ⟨b, o, none⟩)) (hy : a.eval y = .agg (encP s).toArray) (ht : w.there b o 33) (h : K (a.put op.dst undef) (w.setCells b o (encP s))) : op.wp Tryz.prog a w K Q :=
  wp_store_mid _ x y ho b o (encP s).toArray hx hy (by rw [show (encP s).toArray.size = 33 by rw [List.size_toArray, length_encP]]; exact ht) (by rw [show (encP s).toArray.size = 33 by rw [List.size_toArray, length_encP]]; exact infoPair33) (all_encP s) h
theorem lies_form33 {W : World} {base : Nat} {H : List Held} {S : Nat → List (List Value)} {mk : Nat → List Value} {i k : Nat} (h : Lies W base 33 H (fillTo mk H S i k)) (hk : k ≤ (S i).length) (hi : i < H.length) : ∃ al cl, lst H i = .slice al (S i).length cl := by
  obtain ⟨a, c, h1⟩ := (h i hi).form
  rw [length_fillTo mk H S i k i hk] at h1
  exact ⟨a, c, h1⟩
theorem infoHeldP : (Tryz.prog.info? 140).map (·.size) = some 3 := by kernel_rfl
theorem wpList_load_heldP {ops : Array Oper} {rest : List Oper} {op : Oper} {a : Act} {w : World} {Q : Exit → Act → World → Prop} (hgd : op.guard = none) (x : Operand) (ho : op.op = .load 140 x)
    (b o : Nat) (hx : a.eval x = .pointer (some ⟨b, o, none⟩)) (h : Held) (hc : w.rangeAt b o (cellsH h))
    (hk : wpList Tryz.prog ops Q rest (a.put op.dst (.agg (cellsH h).toArray)) w) : wpList Tryz.prog ops Q (op :: rest) a w :=
  wpList_load_mid hgd _ x ho b o hx (cellsH h) _ hc Tryz.underlying140 rfl infoHeldP hk
theorem wpList_var_heldP {ops : Array Oper} {rest : List Oper} {op : Oper} {a : Act} {w : World} {C : Array Value} {t : TypeId} {Q : Exit → Act → World → Prop} (hC : C.size = 3) (hgd : op.guard = none) (x y : Operand) (ho : op.op = .store 140 x y) (h : Held) (h1 : h.1.oneCell' = true) (h2 : h.2.1.oneCell' = true)
    (hx : a.eval x = .pointer (some ⟨w.heap.size, 0, none⟩)) (hy : a.eval y = .agg (cellsH h).toArray)
    (hk : ∀ W', Below w.heap.size w W' → W'.rangeAt w.heap.size 0 (cellsH h) → wpList Tryz.prog ops Q rest (a.put op.dst undef) W') : wpList Tryz.prog ops Q (op :: rest) a (w.alloc (.cells C t)) := by
  have ht : (w.alloc (.cells C t)).there w.heap.size 0 3 := by rw [← hC]; exact there_new _ _ _
  have ht2 := World.there_setCells ht w.heap.size 0 (cellsH h)
  exact wpList_store_mid hgd _ x y ho w.heap.size 0 _ hx hy ht infoHeldP (by simp [cellsH, h1, h2]; rfl) (hk _ (setCells_below _ (Nat.le_refl _) _ 0 _ _ (al (Below.refl _ _) _)) (range_stored _ _ _ _ ht2))
set_option maxRecDepth 100000 in
set_option maxHeartbeats 1000000 in
theorem fillPair_any (base q n : Nat) (hv : Value) (F : Nat → Value) (H : List Held) (S : Nat → List (List Value)) (w : World) (hb : Book w q n F) (hF : F 6 = hv) (hrow : Row3 w 140 base q hv H) (hr : Lies w base 33 H S) (ha : ApartH H q hv) (hN : ∀ i, i < H.length → num H i < 256) (hS : ∀ i, i < H.length → (S i).length < 1000000) (hH : H.length < 100000) (hL : ∀ i, i < H.length → lng H i = .slice none 0 0) :
    Calls Tryz.prog 72 #[.pointer (some ⟨q, 0, none⟩)] w fun e w' => e = .returned (.tuple #[]) ∧ Lies w' base 33 H (filled mkP H S) ∧ Keeps (InH H) w w' := by
  obtain ⟨ah, ch, hform⟩ := hrow.form
  obtain ⟨N, hNN⟩ : ∃ N, N = H.length := ⟨_, rfl⟩
  rw [← hNN] at hform
  subst hform
  have HBk := Lib.hid (And.intro hb (And.intro hrow hF))
  have H0 := Lib.hid (And.intro (show Lies w base 33 H (fillTo mkP H S 0 0) by rw [fillTo_zero]; exact hr) (Keeps.refl (InH H) w))
  have HH := Lib.hid (And.intro ha (And.intro hN (And.intro hS (And.intro hH hNN))))
  have HLL := Lib.hid hL
  have book : ∀ W, Keeps (InH H) w W → Book W q n F ∧ Row3 W 140 base q (.slice ah N ch) H ∧ W.cell? ⟨q, 6, none⟩ = some (.slice ah N ch) := fun W hk => by
    have h1 := HBk.out.1.keep hk (not_in HH.out.1)
    exact ⟨h1, HBk.out.2.1.keep hk (not_row HH.out.1), by rw [← HBk.out.2.2]; exact h1.cs 6 (by omega) (by omega)⟩
  have HBO := Lib.hid book
  clear hb hrow hF hr ha hN hS hH hL hNN book HBk
  go_enter Tryz.func72, Tryz.ntmps72
  go_wp2_with fail
  go_loopw [2] (fun iv W => ∃ i : Nat, i ≤ N ∧ iv = .int .i64 (i : Int) ∧ Lies W base 33 H (fillTo mkP H S i 0) ∧ Keeps (InH H) w W) (fun iv _ => N - (intOf iv).toNat)
  case atStart => exact ⟨0, by omega, rfl, H0.out⟩
  case round =>
    clear H0
    obtain ⟨i, hi, rfl, hR, hK⟩ := hrel
    have HB := Lib.hid (And.intro hR hK)
    have g5 := (HBO.out _ hK).2.2
    clear hR hK
    by_cases hlt : i < N
    · have c1 : decide (i < N) = true := by simpa using hlt
      have c1' : decide ((i : Int) < (N : Int)) = true := by simp; omega
      have hj0 : (0 : Int) ≤ (i : Int) := by omega
      have hlt' : (i : Int) < (N : Int) := by omega
      have hiH : i < H.length := by rw [← HH.out.2.2.2.2]; exact hlt
      obtain ⟨gH, capH, he, _, _, _, hat⟩ := (HBO.out _ HB.out.2).2.1.at hiH
      rw [← HH.out.2.2.2.2] at he
      simp only [Value.slice.injEq, true_and] at he
      obtain ⟨rfl, rfl⟩ := he
      have hcl : cellsH (hd H i) = cellsH (lst H i, .slice none 0 0, num H i) := by
        rw [← HLL.out i hiH]; rfl
      rw [hcl] at hat
      obtain ⟨al, cl, hfl⟩ := lies_form33 HB.out.1 (Nat.zero_le _) hiH
      rw [hfl] at hat
      obtain ⟨m, hm⟩ : ∃ m, m = (S i).length := ⟨_, rfl⟩
      obtain ⟨nm, hnm⟩ : ∃ x, x = num H i := ⟨_, rfl⟩
      rw [← hm] at hat hfl
      rw [← hnm] at hat
      have HF := Lib.hid (And.intro hfl (And.intro hm (And.intro hnm hiH)))
      clear hfl hm hnm hcl hiH
      have HG := Lib.hid trivial
      have HAT := Lib.hid hat
      clear hat
      go_wp2_with (first
        | (refine wpList_load_heldP rfl _ rfl gH (i * 3) rfl _ HAT.out ?_)
        | (have _ := HG; refine wpList_var_heldP (by rfl) rfl _ _ rfl (.slice al m cl, .slice none 0 0, nm) rfl rfl (by rfl) (by rfl) ?_; intro W2 hb hr2; obtain ⟨bx, hbx⟩ : ∃ z, z = wr.heap.size := ⟨_, rfl⟩; rw [← hbx] at hr2 ⊢; have H2 := Lib.hid (And.intro hb (And.intro hr2 hbx)); clear HG hb hr2 hbx))
      have hbxw : Below wr.heap.size wr W2 := H2.out.1
      have H3 := Lib.hid (show Lies W2 base 33 H (fillTo mkP H S i 0) ∧ Keeps (InH H) w W2 ∧ W2.rangeAt bx 0 (cellsH (.slice al m cl, .slice none 0 0, nm)) from ⟨HB.out.1.below hbxw, HB.out.2.trans (Keeps.of_below hbxw), H2.out.2.1⟩)
      clear hbxw g5
      go_loopw [4] (fun kv W => ∃ k : Nat, k ≤ m ∧ kv = .int .i64 (k : Int) ∧ Lies W base 33 H (fillTo mkP H S i k) ∧ Keeps (InH H) w W ∧ W.rangeAt bx 0 (cellsH (.slice al m cl, .slice none 0 0, nm))) (fun kv _ => m - (intOf kv).toNat)
      case atStart => exact ⟨0, by omega, rfl, H3.out⟩
      case round =>
        clear H3
        obtain ⟨k, hk, rfl, hR, hK, hX⟩ := hrel
        have HI := Lib.hid (And.intro hR (And.intro hK hX))
        have g0 : wr.cell? ⟨bx, 0, none⟩ = some (.slice al m cl) := hX 0 _ rfl
        clear hR hK hX
        by_cases hkm : k < m
        · have d1 : decide (k < m) = true := by simpa using hkm
          have d1' : decide ((k : Int) < (m : Int)) = true := by simp; omega
          have hk0 : (0 : Int) ≤ (k : Int) := by omega
          have hkm' : (k : Int) < (m : Int) := by omega
          go_wp2_with fail
          have hiH := HF.out.2.2.2
          have hmS : m = (S i).length := HF.out.2.1
          have hown := HI.out.1 i hiH
          rw [HF.out.1] at hown
          have hgi : ∃ gi, al = some ⟨gi, 0, none⟩ := by
            rcases hown with ⟨h0, _⟩ | ⟨g', cap', hv, _⟩
            · simp only [Value.slice.injEq] at h0
              omega
            · simp only [Value.slice.injEq] at hv
              exact ⟨g', hv.1⟩
          obtain ⟨gi, rfl⟩ := hgi
          have hbk := lie_block hown (k * 33) 33 (by omega)
          have hown0 := HB.out.1 i hiH
          rw [HF.out.1] at hown0
          have hgx : gi ≠ bx := by have := (hown0.lt gi rfl).2; have := H2.out.2.2; omega
          have hnm : nm < 256 := by rw [HF.out.2.2.1]; exact HH.out.2.1 i hiH
          have hu : nm < 256 := hnm
          have hmk : encP (pkP nm) = mkP (num H i) := by unfold mkP; rw [HF.out.2.2.1]
          have HC := Lib.hid (And.intro hiH (And.intro hmS (And.intro hbk (And.intro hgx (And.intro hu hmk)))))
          clear hiH hmS hown hown0 hbk hgx hnm hu hmk
          have hd := (Below.refl wr.heap.size wr).drew
          have HJ := Lib.hid (show Lies wr.drew base 33 H (fillTo mkP H S i k) ∧ Keeps (InH H) w wr.drew ∧ wr.drew.rangeAt bx 0 (cellsH (.slice (some ⟨gi, 0, none⟩) m cl, .slice none 0 0, nm)) ∧ wr.drew.there gi (k * 33) 33 from ⟨HI.out.1.below hd, HI.out.2.1.trans (Keeps.of_below hd), (Keeps.of_below (X := fun _ => False) hd).range HI.out.2.2 (fun h => h), (Keeps.of_below (X := fun _ => False) hd).there HC.out.2.2.1 (by decide) (fun h => h)⟩)
          clear hd HI g0
          refine wp_region_sched (fun V => Below wr.drew.heap.size wr.drew V) [.t 0, .t 2, .t 3, .s 1, .e 4 true, .e 5 true, .t 6, .e 7 false] (by kernel_rfl) (by kernel_rfl) (by intro c a d v w h; cases d <;> exact h) ?_
          generalize wr.drew = V at *
          iterate 3
            refine wpS_t rfl (v := ?_) (by rfl) (fun W => ?_) ?_
            rotate_left
            · go_simp
              try rfl
            try simp only [Act.put, List.setIfInBounds_toArray, List.set_cons_zero, List.set_cons_succ]
          refine wpS_s (Below.refl _ _) rfl (v := .slice (some ⟨gi, 0, none⟩) m cl) (by rfl) (fun W hW => ?_) ?_
          · have g : W.cell? ⟨bx, 0, none⟩ = some (.slice (some ⟨gi, 0, none⟩) m cl) := (Keeps.of_below (X := fun _ => False) hW).cell (HJ.out.2.2.1 0 _ rfl) (fun h => h)
            go_simp
          try simp only [Act.put, List.setIfInBounds_toArray, List.set_cons_zero, List.set_cons_succ]
          refine wpS_k rfl (by rfl) (fun K hK => ?_)
          have g : V.cell? ⟨bx, 2, none⟩ = some (.int .i64 ((nm : Nat) : Int)) := HJ.out.2.2.1 2 _ rfl
          go_simp
          refine hK _ _ ⟨Below.refl _ _, ?_⟩; clear hK K
          try simp only [Act.put, List.setIfInBounds_toArray, List.set_cons_zero, List.set_cons_succ]
          clear g
          refine wpS_k rfl (by rfl) (fun K hK => ?_)
          go_simp
          have hc := markPair_any nm V HC.out.2.2.2.2.1
          refine hc.mono ?_
          clear hc
          rintro e V2 ⟨rfl, hb2⟩
          have hbV : Below V.heap.size V V2 := hb2
          have HK := Lib.hid (show Lies V2 base 33 H (fillTo mkP H S i k) ∧ Keeps (InH H) w V2 ∧ V2.rangeAt bx 0 (cellsH (.slice (some ⟨gi, 0, none⟩) m cl, .slice none 0 0, nm)) ∧ V2.there gi (k * 33) 33 from ⟨HJ.out.1.below hb2, HJ.out.2.1.trans (Keeps.of_below hb2), (Keeps.of_below (X := fun _ => False) hb2).range HJ.out.2.2.1 (fun h => h), (Keeps.of_below (X := fun _ => False) hb2).there HJ.out.2.2.2 (by decide) (fun h => h)⟩)
          clear hb2 HJ
          refine hK _ _ ⟨hbV, ?_⟩; clear hK K
          try simp only [Act.put, List.setIfInBounds_toArray, List.set_cons_zero, List.set_cons_succ]
          clear hbV
          iterate 1
            refine wpS_t rfl (v := ?_) (by rfl) (fun W => ?_) ?_
            rotate_left
            · go_simp
              try rfl
            try simp only [Act.put, List.setIfInBounds_toArray, List.set_cons_zero, List.set_cons_succ]
          refine wpS_e rfl (by rfl) (fun K hK => ?_)
          refine wp_store_pk _ _ (by rfl) gi (k * 33) (pkP nm) (by rfl) (by rfl) HK.out.2.2.2 ?_
          refine hK _ _ ?_; clear hK K
          try simp only [Act.put]
          refine wpS_done ?_
          go_wp2_with fail
          rw [HC.out.2.2.2.2.2]
          have hkc := keepsC gi (mkP (num H i)) (k * 33) V2
          have hrs := lies_set HK.out.1 HH.out.1 HC.out.1 (by rw [← HC.out.2.1]; exact hkm) (length_mkP _) HF.out.1
          have hkk := HK.out.2.1.trans (hkc.mono (Y := InH H) fun b hb2 => ⟨i, HC.out.1, by rw [HF.out.1, hb2]; rfl⟩)
          have hrx := hkc.range HK.out.2.2.1 (fun e => HC.out.2.2.2.1 e.symm)
          have hwk : wrap64 ((k : Int) + 1) = ((k + 1 : Nat) : Int) := wrap_next hkm (by rw [HC.out.2.1]; exact HH.out.2.2.1 i HC.out.1)
          exact ⟨⟨k + 1, hkm, by rw [hwk], hrs, hkk, hrx⟩, by rw [hwk]; simp only [intOf, Int.toNat_natCast]; omega⟩
        · have hkn : k = m := by omega
          subst hkn
          go_wp2_with fail
          have hfn := fillTo_next mkP H S i
          rw [← HF.out.2.1] at hfn
          have hwi : wrap64 ((i : Int) + 1) = ((i + 1 : Nat) : Int) := wrap_next (m := 100000) (by rw [HH.out.2.2.2.2] at hlt; exact Nat.lt_trans hlt HH.out.2.2.2.1) (by decide)
          have HI2 := HI.out
          clear HI H2 HAT HF hkm g0 HB
          exact ⟨⟨i + 1, hlt, by rw [hwi], by rw [← hfn]; exact HI2.1, HI2.2.1⟩, by rw [hwi]; simp only [intOf, Int.toNat_natCast]; omega⟩
    · have hjn : i = N := by omega
      subst hjn
      go_wp2_with fail
      exact bodyPost_end (results_none rfl _ _ _) rfl ⟨rfl, lies_filled (by rw [← HH.out.2.2.2.2]; exact HB.out.1), HB.out.2⟩
end Go.Proofs.YtfmgoehnbaiamaaGreatDoor
-- Walk: a Book puts more behind each list of pairs (growPair).
namespace Go.Proofs.YtfmgoehnbaiamaaGreatDoor
theorem wpList_lit_pairB {w : World} {ops : Array Oper} {rest : List Oper} {o : Oper} {a : Act} {Q : Exit → Act → World → Prop} (hgd : o.guard = none) (x : Operand) (ho : o.op = .buildSlice 22 1 #[(0, x)]) (s : PE) (hx : a.eval x = .agg (encP s).toArray)
    (h : wpList Tryz.prog ops Q rest (a.put o.dst (.slice (some ⟨w.heap.size, 0, none⟩) 1 1)) (w.alloc (.cells (encP s).toArray 41))) : wpList Tryz.prog ops Q (o :: rest) a w := by
  obtain ⟨i, z, hi, hz, hs, hb, hzs⟩ := info_pair
  refine wpList_plain hgd fun _ hK => wp_buildSlice _ 41 1 _ ho (encP s).toArray i z Tryz.underlying22 hi hz (by rw [hs]; omega) (by rw [hs]; omega) ?_ (hK _ _ h)
  have hp : ((#[(0, x)] : Array (Nat × Operand)).toList.map fun (i, x) => (i, a.eval x)) = (([(.agg (encP s).toArray : Value)]).zipIdx 0).map fun x => (x.2, x.1) := by simp [hx]
  rw [Array.toList_map, hp, hs, Great.fill_whole (s := 33) (by omega) [(.agg (encP s).toArray : Value)] _ (fun v hv => by rw [List.mem_singleton.1 hv]; simp [Value.cells, length_encP]) (by simp)]
  simp [Value.cells]
theorem wpList_append_pairG {w : World} {ops : Array Oper} {rest : List Oper} {o : Oper} {a : Act} {Q : Exit → Act → World → Prop} (hgd : o.guard = none) (s x : Operand)
    (ho : o.op = .call { callee := .builtin .append, args := #[s, x], argTypes := #[22, 22] })
    {base B : Nat} {v0 v : Value} {xs ys : List (List Value)} (hs : a.eval s = v) (hG : Grown w base 33 B v0 xs v ys) (hbB : base ≤ B) (hB : B ≤ w.heap.size)
    (ad : Addr) (c : Nat) (y : PE) (hx : a.eval x = .slice (some ad) 1 c) (hc : ∀ j u, (encP y)[j]? = some u → w.cell? (ad.add j) = some u)
    (hl : xs.length + ys.length < 1000000)
    (h : ∀ v' w', Grown w' base 33 B v0 xs v' (ys ++ [encP y]) → Keeps (fun k => v0.ownBlock = some k ∨ B ≤ k) w w' → (∃ a c, v' = .slice a (xs.length + ys.length + 1) c) → wpList Tryz.prog ops Q rest (a.put o.dst v') w') : wpList Tryz.prog ops Q (o :: rest) a w := by
  obtain ⟨i, z, hi, hz, h1, h2, h3⟩ := info_pair
  exact wpList_plain hgd fun _ hK => wp_append_grown s x _ ho _ i z 33 56 Tryz.underlying22 hi hz h1 h2 h3 (by omega) (by omega) hs hG hbB hB ad c (encP y) hx (length_encP y) hc (one_encP y) hl fun v' w' g1 g2 g3 => hK _ _ (h v' w' g1 g2 g3)
set_option maxRecDepth 100000 in
set_option maxHeartbeats 1000000 in
theorem growPair_any (base q n : Nat) (hv : Value) (F : Nat → Value) (H : List Held) (S : Nat → List (List Value)) (w : World) (hb : Book w q n F) (hF : F 6 = hv) (hrow : Row3 w 140 base q hv H) (hr : Lies w base 33 H S) (ha : ApartH H q hv) (hN : ∀ i, i < H.length → num H i < 256) (hS : ∀ i, i < H.length → (S i).length < 900000) (hH : H.length < 100000) (hL : ∀ i, i < H.length → lng H i = .slice none 0 0) (hbs : base ≤ w.heap.size) :
    Calls Tryz.prog 81 #[.pointer (some ⟨q, 0, none⟩)] w fun e w' => e = .returned (.tuple #[]) ∧ ∃ L, GrowI mkP 33 6 140 w w' base q n F hv H S H.length L := by
  obtain ⟨ah, ch, hform⟩ := hrow.form
  obtain ⟨N, hNN⟩ : ∃ N, N = H.length := ⟨_, rfl⟩
  rw [← hNN] at hform
  subst hform
  have H0 := Lib.hid (GrowI.start (mk := mkP) (off := 6) hb hrow hr)
  have HH := Lib.hid (And.intro ha (And.intro hN (And.intro hS (And.intro hH (And.intro hNN (And.intro hF hbs))))))
  have HLL := Lib.hid hL
  clear hb hF hrow hr ha hN hS hH hL hbs
  rw [← hNN]
  clear hNN
  go_enter Tryz.func81, Tryz.ntmps81
  go_wp2_with fail
  go_loopw [2] (fun iv W => ∃ i : Nat, i ≤ N ∧ iv = .int .i64 (i : Int) ∧ ∃ L, GrowI mkP 33 6 140 w W base q n F (.slice ah N ch) H S i L) (fun iv _ => N - (intOf iv).toNat)
  case atStart => exact ⟨0, by omega, rfl, _, H0.out⟩
  case round =>
    clear H0
    obtain ⟨i, hi, rfl, L, hG⟩ := hrel
    have HB := Lib.hid hG
    have g5 : wr.cell? ⟨q, 6, none⟩ = some (.slice ah N ch) := by rw [← HH.out.2.2.2.2.2.1]; exact hG.book.cs 6 (by omega) (by omega)
    clear hG
    by_cases hlt : i < N
    · have c1 : decide (i < N) = true := by simpa using hlt
      have c1' : decide ((i : Int) < (N : Int)) = true := by simp; omega
      have hj0 : (0 : Int) ≤ (i : Int) := by omega
      have hlt' : (i : Int) < (N : Int) := by omega
      have hiH : i < H.length := by rw [← HH.out.2.2.2.2.1]; exact hlt
      obtain ⟨gH, capH, he, _, _, _, hat⟩ := HB.out.row.at (i := i) (by rw [length_longTo]; exact hiH)
      rw [length_longTo, ← HH.out.2.2.2.2.1] at he
      simp only [Value.slice.injEq, true_and] at he
      obtain ⟨rfl, rfl⟩ := he
      rw [hd_longTo H L i i hiH, if_neg (Nat.lt_irrefl i)] at hat
      have hcl : cellsH (hd H i) = cellsH (lst H i, .slice none 0 0, num H i) := by
        rw [← HLL.out i hiH]; rfl
      rw [hcl] at hat
      obtain ⟨al, cl, hfl⟩ := (HB.out.lies i hiH).form
      rw [hfl] at hat
      obtain ⟨m, hm⟩ : ∃ m, m = (S i).length := ⟨_, rfl⟩
      obtain ⟨nm, hnm⟩ : ∃ x, x = num H i := ⟨_, rfl⟩
      rw [← hm] at hat hfl
      rw [← hnm] at hat
      have hm9 : m < 900000 := by rw [hm]; exact HH.out.2.2.1 i hiH
      have HF := Lib.hid (And.intro hfl (And.intro hm (And.intro hnm (And.intro hiH hm9))))
      clear hfl hm hnm hcl hiH hm9
      have HG := Lib.hid trivial
      have HAT := Lib.hid hat
      clear hat
      go_wp2_with (first
        | (refine wpList_load_heldP rfl _ rfl gH (i * 3) rfl _ HAT.out ?_)
        | (have _ := HG; refine wpList_var_heldP (by rfl) rfl _ _ rfl (.slice al m cl, .slice none 0 0, nm) rfl rfl (by rfl) (by rfl) ?_; clear HG))
      intro W2 hb hr2
      obtain ⟨bx, hbx⟩ : ∃ z, z = wr.heap.size := ⟨_, rfl⟩
      have hbl : bx < W2.heap.size := by (rw [hbx]; exact range_lt hr2 (by simp [cellsH]))
      rw [← hbx] at hr2 ⊢
      have H2 := Lib.hid (And.intro hb (And.intro hr2 (And.intro hbx hbl)))
      have g0 : W2.cell? ⟨bx, 0, none⟩ = some (.slice al m cl) := hr2 0 _ rfl
      clear hb hr2 hbx hbl
      go_wp2_with fail
      have HB2 := Lib.hid (HB.out.below H2.out.1)
      have hst : Grown W2 base 33 W2.heap.size (lst H i) (S i) (lst H i) [] := Grown.start (HB2.out.lies i HF.out.2.2.2.1) (Nat.le_refl _)
      have HS0 := Lib.hid hst
      clear g5 hst g0
      go_loopw [4, 5] (fun lv kv V => ∃ k : Nat, k ≤ 40 ∧ kv = .int .i64 (k : Int) ∧ (∃ a c, lv = .slice a (m + k) c) ∧ Grown V base 33 W2.heap.size (lst H i) (S i) lv (List.replicate k (mkP nm)) ∧ Keeps (fun k => (lst H i).ownBlock = some k ∨ W2.heap.size ≤ k) W2 V ∧ V.rangeAt bx 0 (cellsH (.slice al m cl, .slice none 0 0, nm))) (fun _ kv _ => 40 - (intOf kv).toNat)
      case atStart => exact ⟨0, by omega, rfl, ⟨_, _, rfl⟩, by rw [← HF.out.1]; exact HS0.out, Keeps.refl _ _, H2.out.2.1⟩
      case round =>
        clear HS0
        obtain ⟨k, hk, rfl, ⟨la, lc, rfl⟩, hGr, hK, hX⟩ := hrel
        have HI := Lib.hid (And.intro hGr (And.intro hK hX))
        have g2 : wr.cell? ⟨bx, 2, none⟩ = some (.int .i64 ((nm : Nat) : Int)) := hX 2 _ rfl
        clear hGr hK hX
        by_cases hkm : k < 40
        · have d1' : decide ((k : Int) < 40) = true := by simp; omega
          have hkm' : (k : Int) < 40 := by omega
          have hnm : nm < 256 := by rw [HF.out.2.2.1]; exact HH.out.2.1 i HF.out.2.2.2.1
          have HCm := Lib.hid (fun W => markPair_any nm W hnm)
          have hlk : (S i).length + (List.replicate k (mkP nm)).length < 1000000 := by rw [List.length_replicate, ← HF.out.2.1]; have := HF.out.2.2.2.2; omega
          have HLK := Lib.hid hlk
          have hwk : wrap64 ((k : Int) + 1) = ((k + 1 : Nat) : Int) := wrap_next hkm (by decide)
          have HWK := Lib.hid hwk
          clear hlk hnm hwk
          have HG2 := Lib.hid trivial
          go_wp2_with (first
            | (go_at_call 131; refine (HCm.out _).mono ?_; rintro e V2 ⟨rfl, hb2⟩; have HV2 := Lib.hid hb2; clear hb2)
            | (refine wpList_lit_pairB rfl _ rfl (pkP nm) rfl ?_)
            | (have _ := HG2; at_builtin; refine Hid.out ?_; clear HG2))
          refine Lib.hid ?_
          have hba := Alm.al (Below.refl V2.heap.size V2) (.cells (encP (pkP nm)).toArray 41)
          refine wpList_append_pairG rfl _ _ rfl (base := base) (B := W2.heap.size) (v0 := lst H i) (xs := S i) (ys := List.replicate k (mkP nm)) rfl ((HI.out.1.below HV2.out).below hba) (Nat.le_trans HH.out.2.2.2.2.2.2 HB2.out.keep.size) (Nat.le_trans HI.out.2.1.size (Nat.le_trans HV2.out.size hba.size)) ⟨V2.heap.size, 0, none⟩ 1 (pkP nm) rfl (fun j u hj => by rw [Addr.add_mid]; exact range_new V2 (encP (pkP nm)).toArray 41 _ rfl j u hj) HLK.out ?_
          intro v4 V4 hg4 hk4 hf4
          obtain ⟨a4, c4, rfl⟩ := hf4
          have H4 := Lib.hid (And.intro hg4 (And.intro hk4 hba))
          clear hg4 hk4 hba
          go_wp2_with fail
          have hg4 := H4.out.1
          rw [show encP (pkP nm) = mkP nm from rfl, repl_succ] at hg4
          have hk4 := (HI.out.2.1.trans (Keeps.of_below HV2.out)).trans ((Keeps.of_below H4.out.2.2).trans H4.out.2.1)
          have hx4 : V4.rangeAt bx 0 (cellsH (.slice al m cl, .slice none 0 0, nm)) := by
            refine H4.out.2.1.range ((Keeps.of_below (X := fun _ => False) H4.out.2.2).range ((Keeps.of_below (X := fun _ => False) HV2.out).range HI.out.2.2 (fun h => h)) (fun h => h)) (fun e => ?_)
            rcases e with e | e
            · have := ((HB.out.lies i HF.out.2.2.2.1).lt bx e).2
              have := H2.out.2.2.1
              omega
            · have := H2.out.2.2.2; omega
          have hln : (S i).length + (List.replicate k (mkP nm)).length + 1 = m + (k + 1) := by rw [List.length_replicate, ← HF.out.2.1]; omega
          rw [hln] at hg4
          rw [List.length_replicate] at hln
          rw [hln]
          have hki : (k : Int) + 1 = ((k + 1 : Nat) : Int) := rfl
          rw [hki]
          clear H4 HV2 HLK HCm HI HAT
          exact ⟨⟨k + 1, hkm, rfl, ⟨_, _, rfl⟩, hg4, hk4, hx4⟩, by simp only [intOf, Int.toNat_natCast]; omega⟩
        · obtain rfl : k = 40 := by omega
          have hkr : ∀ k, (lst H i).ownBlock = some k ∨ W2.heap.size ≤ k → k = q → False := fun k e h => by
            subst h
            rcases e with e | e
            · exact (HH.out.1 i HF.out.2.2.2.1 k e).1 rfl
            · have := HB2.out.book.lt; omega
          have g5 : wr.cell? ⟨q, 6, none⟩ = some (.slice (some ⟨gH, 0, none⟩) N ch) := by
            rw [← HH.out.2.2.2.2.2.1]
            exact (HB2.out.book.keep HI.out.2.1 (fun e => hkr q e rfl)).cs 6 (by omega) (by omega)
          have hth : wr.frozen? ⟨gH, i * 3 + 1, none⟩ = false ∧ ∃ u, wr.cell? ⟨gH, i * 3 + 1, none⟩ = some u := by
            have hat2 := HI.out.2.1.range ((Keeps.of_below (X := fun _ => False) H2.out.1).range HAT.out (fun h => h)) (fun e => by
              rcases e with e | e
              · exact (HH.out.1 i HF.out.2.2.2.1 gH e).2.1 rfl
              · have := (HB2.out.row.1.lt gH rfl).2; omega)
            refine ⟨?_, _, hat2 1 _ rfl⟩
            have hrw := HB2.out.row.keep HI.out.2.1 (fun k hk2 e => by
              obtain rfl : gH = k := by simpa [Value.ownBlock] using hk2
              rcases e with e | e
              · exact (HH.out.1 i HF.out.2.2.2.1 gH e).2.1 rfl
              · have := (HB2.out.row.1.lt gH rfl).2; omega)
            rcases hrw.1.2 with ⟨h0, _⟩ | ⟨g', cap', cur, he2, hb2, hg2, _⟩
            · cases h0
            · simp only [Value.slice.injEq, Option.some.injEq, Addr.mk.injEq, and_true] at he2
              rw [he2.1]
              exact frozen_of_row wr _ _ _ _ hg2
          obtain ⟨hfz, u1, hu1⟩ := hth
          have HFIN := Lib.hid (HB2.out.next HH.out.1 HF.out.2.2.2.1 (by rw [← HF.out.2.2.1]; exact HI.out.1) HI.out.2.1 rfl)
          have hwi : wrap64 ((i : Int) + 1) = ((i + 1 : Nat) : Int) := wrap_next (m := 100000) (by rw [HH.out.2.2.2.2.1] at hlt; exact Nat.lt_trans hlt HH.out.2.2.2.1) (by decide)
          have HWI := Lib.hid hwi
          clear hkr hwi
          go_wp2_with fail
          have hfin := HFIN.out
          have hwi := HWI.out
          clear HFIN HI HF H2 HB2 HAT HH HLL HWI hfz hu1 g5 g2 HB hkm
          exact ⟨⟨i + 1, hlt, by rw [hwi], _, hfin⟩, by rw [hwi]; simp only [intOf, Int.toNat_natCast]; omega⟩
    · have hjn : i = N := by omega
      subst hjn
      go_wp2_with fail
      exact bodyPost_end (results_none rfl _ _ _) rfl ⟨rfl, _, HB.out⟩
end Go.Proofs.YtfmgoehnbaiamaaGreatDoor
