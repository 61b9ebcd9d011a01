/-
  Walk: a Book puts more behind each list of sums (growSum).
-/
import Derived.Test.YtfmgoehnbaiamaaGreatDoorZBB
open Go Go.RowKit Alm
namespace Go.Proofs.YtfmgoehnbaiamaaGreatDoor
theorem info_sumB : ∃ i z, Tryz.prog.info? 24 = some i ∧ i.zero = some z ∧ i.size = 32 ∧ i.bytes = 32 ∧ z.cells.size = 32 := by
  have h : (Tryz.prog.info? 24).map (fun i => (i.zero.map fun z => z.cells.size, i.size, i.bytes)) = some (some 32, 32, 32) := by kernel_rfl
  obtain ⟨i, hi, h2⟩ := Option.map_eq_some_iff.1 h
  simp only [Prod.mk.injEq] at h2
  obtain ⟨z, hz, hz2⟩ := Option.map_eq_some_iff.1 h2.1
  exact ⟨i, z, hi, hz, h2.2.1, h2.2.2, hz2⟩
theorem wpList_lit_sum {w : World} {ops : Array Oper} {rest : List Oper} {o : Oper} {a : Act} {Q : Exit → Act → World → Prop} (hgd : o.guard = none) (x : Operand) (ho : o.op = .buildSlice 61 1 #[(0, x)]) (s : Sum) (hx : a.eval x = sv s)
    (h : wpList Tryz.prog ops Q rest (a.put o.dst (.slice (some ⟨w.heap.size, 0, none⟩) 1 1)) (w.alloc (.cells (cellsOf s).toArray 24))) : wpList Tryz.prog ops Q (o :: rest) a w := by
  obtain ⟨i, z, hi, hz, hs, hb, hzs⟩ := info_sumB
  refine wpList_plain hgd fun _ hK => wp_buildSlice _ 24 1 _ ho (cellsOf s).toArray i z Tryz.underlying61 hi hz (by rw [hs]; omega) (by rw [hs]; omega) ?_ (hK _ _ h)
  have hp : ((#[(0, x)] : Array (Nat × Operand)).toList.map fun (i, x) => (i, a.eval x)) = (([(sv s : Value)]).zipIdx 0).map fun x => (x.2, x.1) := by simp [hx]
  rw [Array.toList_map, hp, hs, Great.fill_whole (s := 32) (by omega) [(sv s : Value)] _ (fun v hv => by rw [List.mem_singleton.1 hv]; exact size_cellsOf s) (by simp)]
  simp [sv, Value.cells]
theorem wpList_append_sumG {w : World} {ops : Array Oper} {rest : List Oper} {o : Oper} {a : Act} {Q : Exit → Act → World → Prop} (hgd : o.guard = none) (s x : Operand)
    (ho : o.op = .call { callee := .builtin .append, args := #[s, x], argTypes := #[61, 61] })
    {base B : Nat} {v0 v : Value} {xs ys : List (List Value)} (hs : a.eval s = v) (hG : Grown w base 32 B v0 xs v ys) (hbB : base ≤ B) (hB : B ≤ w.heap.size)
    (ad : Addr) (c : Nat) (y : Sum) (hx : a.eval x = .slice (some ad) 1 c) (hc : ∀ j u, (cellsOf y)[j]? = some u → w.cell? (ad.add j) = some u)
    (hl : xs.length + ys.length < 1000000)
    (h : ∀ v' w', Grown w' base 32 B v0 xs v' (ys ++ [cellsOf y]) → Keeps (fun k => v0.ownBlock = some k ∨ B ≤ k) w w' → (∃ a c, v' = .slice a (xs.length + ys.length + 1) c) → wpList Tryz.prog ops Q rest (a.put o.dst v') w') : wpList Tryz.prog ops Q (o :: rest) a w := by
  obtain ⟨i, z, hi, hz, h1, h2, h3⟩ := info_sumB
  exact wpList_plain hgd fun _ hK => wp_append_grown s x _ ho _ i z 32 32 Tryz.underlying61 hi hz h1 h2 h3 (by omega) (by omega) hs hG hbB hB ad c (cellsOf y) hx (length_cellsOf y) hc (oneCell_cellsOf y) hl fun v' w' g1 g2 g3 => hK _ _ (h v' w' g1 g2 g3)
theorem repl_succ (k : Nat) (c : List Value) : List.replicate k c ++ [c] = List.replicate (k + 1) c := List.replicate_succ'.symm
/-- What a Book has in hand when the lists ahead of a place have grown. -/
structure GrowI (mk : Nat → List Value) (size off : Nat) (t : TypeId) (w W : World) (base q n : Nat) (F : Nat → Value) (hv : Value) (H : List Held) (S : Nat → List (List Value)) (i : Nat) (L : Nat → Value) : Prop where
  row : Row3 W t base q hv (longTo H L i)
  book : Book W q n F
  lies : Lies W base size H S
  long : ∀ j, j < i → j < H.length → Lie W base size (L j) (S j ++ List.replicate 40 (mk (num H j))) ∧ ∀ k, (L j).ownBlock = some k → (lst H j).ownBlock = some k ∨ w.heap.size ≤ k
  keep : Keeps (fun k => InH H k ∨ hv.ownBlock = some k) w W
  lo : ∀ k, InH H k ∨ hv.ownBlock = some k → k < w.heap.size
theorem GrowI.below {mk : Nat → List Value} {size off : Nat} {t : TypeId} {w W W' : World} {base q n : Nat} {F : Nat → Value} {hv : Value} {H : List Held} {S : Nat → List (List Value)} {i : Nat} {L : Nat → Value} (h : GrowI mk size off t w W base q n F hv H S i L) (hb : Below W.heap.size W W') : GrowI mk size off t w W' base q n F hv H S i L :=
  ⟨h.row.below hb, h.book.below hb, h.lies.below hb, fun j h1 h2 => ⟨(h.long j h1 h2).1.below hb, (h.long j h1 h2).2⟩, h.keep.trans (Keeps.of_below hb), h.lo⟩
theorem GrowI.start {mk : Nat → List Value} {size off : Nat} {t : TypeId} {w : World} {base q n : Nat} {F : Nat → Value} {hv : Value} {H : List Held} {S : Nat → List (List Value)} (hb : Book w q n F) (hr : Row3 w t base q hv H) (hl : Lies w base size H S) : GrowI mk size off t w w base q n F hv H S 0 (fun _ => .slice none 0 0) :=
  ⟨by rw [longTo_zero]; exact hr, hb, hl, fun j h => by omega, Keeps.refl _ _, fun k hk => by
    rcases hk with ⟨i, hi, h⟩ | h
    · exact ((hl i hi).lt k h).2
    · exact (hr.1.lt k h).2⟩
/-- One list more has grown: from W on only it, and what is new, was written; then the longer one is told. -/
theorem GrowI.next {mk : Nat → List Value} {size off : Nat} {t : TypeId} {w W V : World} {base q n : Nat} {F : Nat → Value} {hv : Value} {H : List Held} {S : Nat → List (List Value)} {i : Nat} {L : Nat → Value} (h : GrowI mk size off t w W base q n F hv H S i L) (ha : ApartH H q hv) (hi : i < H.length) {v : Value}
    (hG : Grown V base size W.heap.size (lst H i) (S i) v (List.replicate 40 (mk (num H i)))) (hk : Keeps (fun k => (lst H i).ownBlock = some k ∨ W.heap.size ≤ k) W V) {g m c : Nat} (hg : hv = .slice (some ⟨g, 0, none⟩) m c) :
    GrowI mk size off t w (V.setCell ⟨g, i * 3 + 1, none⟩ v) base q n F hv H S (i + 1) (fun j => if j = i then v else L j) := by
  have hgH : hv.ownBlock = some g := by rw [hg]; rfl
  have hkg := keepsC g [v] (i * 3 + 1) V
  change Keeps _ V (V.setCell ⟨g, i * 3 + 1, none⟩ v) at hkg
  have hgq : g ≠ q := fun e => h.row.2 (by rw [hgH, e])
  have hgW : g < W.heap.size := (h.row.1.lt g hgH).2
  have hqW := h.book.lt
  have lt0 : ∀ j, j < H.length → ∀ k, (lst H j).ownBlock = some k → k < W.heap.size := fun j hj k hk => ((h.lies j hj).lt k hk).2
  have hw0 := h.keep.size
  -- the row, up to the store
  have hrow : Row3 V t base q hv (longTo H L i) := h.row.keep hk (fun k hk2 e => by
    rcases e with e | e
    · exact (ha i hi k e).2.1 hk2
    · have := (h.row.1.lt k hk2).2; omega)
  refine ⟨?_, ?_, ?_, ?_, ?_, h.lo⟩
  · rw [longTo_set H L i v hi]
    have := hrow.long (i := i) (by rw [length_longTo]; exact hi) hg v
    have e1 : lst (longTo H L i) i = lst H i := by unfold lst; rw [hd_longTo H L i i hi, if_neg (Nat.lt_irrefl i)]
    have e2 : num (longTo H L i) i = num H i := by unfold num; rw [hd_longTo H L i i hi, if_neg (Nat.lt_irrefl i)]
    rwa [e1, e2] at this
  · refine (h.book.keep hk (fun e => ?_)).keep hkg (fun e => hgq e.symm)
    rcases e with e | e
    · exact (ha i hi q e).1 rfl
    · omega
  · intro j hj
    by_cases e : j = i
    · subst e
      exact hG.old.keep hkg (fun k hk2 e => (ha j hj k hk2).2.1 (by rw [hgH, e]))
    · refine ((h.lies j hj).keep hk (fun k hk2 e2 => ?_)).keep hkg (fun k hk2 e2 => (ha j hj k hk2).2.1 (by rw [hgH, e2]))
      rcases e2 with e2 | e2
      · exact (ha i hi k e2).2.2 j hj e hk2
      · have := lt0 j hj k hk2; omega
  · intro j hj hjH
    by_cases e : j = i
    · subst e
      rw [if_pos rfl]
      refine ⟨hG.now.keep hkg (fun k hk2 e => ?_), fun k hk2 => ?_⟩
      · subst e
        rcases hG.block k hk2 with h1 | h1
        · exact (ha j hjH k h1).2.1 hgH
        · omega
      · rcases hG.block k hk2 with h1 | h1
        · exact .inl h1
        · exact .inr (Nat.le_trans hw0 h1)
    · rw [if_neg e]
      obtain ⟨h1, h2⟩ := h.long j (by omega) hjH
      refine ⟨(h1.keep hk (fun k hk2 e2 => ?_)).keep hkg (fun k hk2 e2 => ?_), h2⟩
      · have hkW := (h1.lt k hk2).2
        rcases e2 with e2 | e2
        · rcases h2 k hk2 with h3 | h3
          · exact (ha i hi k e2).2.2 j hjH e h3
          · have := h.lo k (.inl ⟨i, hi, e2⟩); omega
        · omega
      · subst e2
        rcases h2 k hk2 with h3 | h3
        · exact (ha j hjH k h3).2.1 hgH
        · have := h.lo _ (.inr hgH); omega
  · refine (h.keep.trans' (X := fun k => InH H k ∨ hv.ownBlock = some k) hk (fun k e => ?_)).trans (hkg.mono fun k e => .inr (by rw [hgH, e]))
    rcases e with e | e
    · exact .inl (.inl ⟨i, hi, e⟩)
    · exact .inr (Nat.le_trans hw0 e)
/-- The lists when all have been written over. -/
theorem filled_len (mk : Nat → List Value) (H : List Held) (S : Nat → List (List Value)) (i : Nat) : (filled mk H S i).length = (S i).length := List.length_replicate
set_option maxRecDepth 100000 in
set_option maxHeartbeats 1000000 in
theorem growSum_any (base q n : Nat) (hv : Value) (F : Nat → Value) (H : List Held) (S : Nat → List (List Value)) (w : World) (hb : Book w q n F) (hF : F 5 = hv) (hrow : Row3 w 155 base q hv H) (hr : Lies w base 32 H S) (ha : ApartH H q hv) (hN : ∀ i, i < H.length → num H i < 256) (hS : ∀ i, i < H.length → (S i).length < 900000) (hH : H.length < 100000) (hL : ∀ i, i < H.length → lng H i = .slice none 0 0) (hbs : base ≤ w.heap.size) :
    Calls Tryz.prog 80 #[.pointer (some ⟨q, 0, none⟩)] w fun e w' => e = .returned (.tuple #[]) ∧ ∃ L, GrowI mkC 32 5 155 w w' base q n F hv H S H.length L := by
  obtain ⟨ah, ch, hform⟩ := hrow.form
  obtain ⟨N, hNN⟩ : ∃ N, N = H.length := ⟨_, rfl⟩
  rw [← hNN] at hform
  subst hform
  have H0 := Lib.hid (GrowI.start (mk := mkC) (off := 5) hb hrow hr)
  have HH := Lib.hid (And.intro ha (And.intro hN (And.intro hS (And.intro hH (And.intro hNN (And.intro hF hbs))))))
  have HLL := Lib.hid hL
  clear hb hF hrow hr ha hN hS hH hL hbs
  rw [← hNN]
  clear hNN
  go_enter Tryz.func80, Tryz.ntmps80
  go_wp2_with fail
  go_loopw [2] (fun iv W => ∃ i : Nat, i ≤ N ∧ iv = .int .i64 (i : Int) ∧ ∃ L, GrowI mkC 32 5 155 w W base q n F (.slice ah N ch) H S i L) (fun iv _ => N - (intOf iv).toNat)
  case atStart => exact ⟨0, by omega, rfl, _, H0.out⟩
  case round =>
    clear H0
    obtain ⟨i, hi, rfl, L, hG⟩ := hrel
    have HB := Lib.hid hG
    have g5 : wr.cell? ⟨q, 5, none⟩ = some (.slice ah N ch) := by rw [← HH.out.2.2.2.2.2.1]; exact hG.book.cs 5 (by omega) (by omega)
    clear hG
    by_cases hlt : i < N
    · have c1 : decide (i < N) = true := by simpa using hlt
      have c1' : decide ((i : Int) < (N : Int)) = true := by simp; omega
      have hj0 : (0 : Int) ≤ (i : Int) := by omega
      have hlt' : (i : Int) < (N : Int) := by omega
      have hiH : i < H.length := by rw [← HH.out.2.2.2.2.1]; exact hlt
      obtain ⟨gH, capH, he, _, _, _, hat⟩ := HB.out.row.at (i := i) (by rw [length_longTo]; exact hiH)
      rw [length_longTo, ← HH.out.2.2.2.2.1] at he
      simp only [Value.slice.injEq, true_and] at he
      obtain ⟨rfl, rfl⟩ := he
      rw [hd_longTo H L i i hiH, if_neg (Nat.lt_irrefl i)] at hat
      have hcl : cellsH (hd H i) = cellsH (lst H i, .slice none 0 0, num H i) := by
        rw [← HLL.out i hiH]; rfl
      rw [hcl] at hat
      obtain ⟨al, cl, hfl⟩ := (HB.out.lies i hiH).form
      rw [hfl] at hat
      obtain ⟨m, hm⟩ : ∃ m, m = (S i).length := ⟨_, rfl⟩
      obtain ⟨nm, hnm⟩ : ∃ x, x = num H i := ⟨_, rfl⟩
      rw [← hm] at hat hfl
      rw [← hnm] at hat
      have hm9 : m < 900000 := by rw [hm]; exact HH.out.2.2.1 i hiH
      have HF := Lib.hid (And.intro hfl (And.intro hm (And.intro hnm (And.intro hiH hm9))))
      clear hfl hm hnm hcl hiH hm9
      have HG := Lib.hid trivial
      have HAT := Lib.hid hat
      clear hat
      go_wp2_with (first
        | (refine wpList_load_held rfl _ rfl gH (i * 3) rfl _ HAT.out ?_)
        | (have _ := HG; refine wpList_var_held (by rfl) rfl _ _ rfl (.slice al m cl, .slice none 0 0, nm) rfl rfl (by rfl) (by rfl) ?_; clear HG))
      intro W2 hb hr2
      obtain ⟨bx, hbx⟩ : ∃ z, z = wr.heap.size := ⟨_, rfl⟩
      have hbl : bx < W2.heap.size := by (rw [hbx]; exact range_lt hr2 (by simp [cellsH]))
      rw [← hbx] at hr2 ⊢
      have H2 := Lib.hid (And.intro hb (And.intro hr2 (And.intro hbx hbl)))
      have g0 : W2.cell? ⟨bx, 0, none⟩ = some (.slice al m cl) := hr2 0 _ rfl
      clear hb hr2 hbx hbl
      go_wp2_with fail
      have HB2 := Lib.hid (HB.out.below H2.out.1)
      have hst : Grown W2 base 32 W2.heap.size (lst H i) (S i) (lst H i) [] := Grown.start (HB2.out.lies i HF.out.2.2.2.1) (Nat.le_refl _)
      have HS0 := Lib.hid hst
      clear g5 hst g0
      go_loopw [4, 5] (fun lv kv V => ∃ k : Nat, k ≤ 40 ∧ kv = .int .i64 (k : Int) ∧ (∃ a c, lv = .slice a (m + k) c) ∧ Grown V base 32 W2.heap.size (lst H i) (S i) lv (List.replicate k (mkC nm)) ∧ Keeps (fun k => (lst H i).ownBlock = some k ∨ W2.heap.size ≤ k) W2 V ∧ V.rangeAt bx 0 (cellsH (.slice al m cl, .slice none 0 0, nm))) (fun _ kv _ => 40 - (intOf kv).toNat)
      case atStart => exact ⟨0, by omega, rfl, ⟨_, _, rfl⟩, by rw [← HF.out.1]; exact HS0.out, Keeps.refl _ _, H2.out.2.1⟩
      case round =>
        clear HS0
        obtain ⟨k, hk, rfl, ⟨la, lc, rfl⟩, hGr, hK, hX⟩ := hrel
        have HI := Lib.hid (And.intro hGr (And.intro hK hX))
        have g2 : wr.cell? ⟨bx, 2, none⟩ = some (.int .i64 ((nm : Nat) : Int)) := hX 2 _ rfl
        clear hGr hK hX
        by_cases hkm : k < 40
        · have d1' : decide ((k : Int) < 40) = true := by simp; omega
          have hkm' : (k : Int) < 40 := by omega
          have hnm : nm < 256 := by rw [HF.out.2.2.1]; exact HH.out.2.1 i HF.out.2.2.2.1
          have hu : ((UInt8.ofNat nm).toNat : Nat) = nm := by simp; omega
          have hc := markSum_any (UInt8.ofNat nm)
          rw [hu] at hc
          have HCm := Lib.hid hc
          have hlk : (S i).length + (List.replicate k (mkC nm)).length < 1000000 := by rw [List.length_replicate, ← HF.out.2.1]; have := HF.out.2.2.2.2; omega
          have HLK := Lib.hid hlk
          have hwk : wrap64 ((k : Int) + 1) = ((k + 1 : Nat) : Int) := wrap_next hkm (by decide)
          have HWK := Lib.hid hwk
          clear hc hlk hnm hu hwk
          have HG2 := Lib.hid trivial
          go_wp2_with (first
            | (go_at_call 130; refine (HCm.out _).mono ?_; rintro e V2 ⟨rfl, hb2⟩; have HV2 := Lib.hid hb2; clear hb2)
            | (refine wpList_lit_sum rfl _ rfl (mkS (UInt8.ofNat nm)) rfl ?_)
            | (have _ := HG2; at_builtin; refine Hid.out ?_; clear HG2))
          refine Lib.hid ?_
          have hba := Alm.al (Below.refl V2.heap.size V2) (.cells (cellsOf (mkS (UInt8.ofNat nm))).toArray 24)
          refine wpList_append_sumG rfl _ _ rfl (base := base) (B := W2.heap.size) (v0 := lst H i) (xs := S i) (ys := List.replicate k (mkC nm)) rfl ((HI.out.1.below HV2.out).below hba) (Nat.le_trans HH.out.2.2.2.2.2.2 HB2.out.keep.size) (Nat.le_trans HI.out.2.1.size (Nat.le_trans HV2.out.size hba.size)) ⟨V2.heap.size, 0, none⟩ 1 (mkS (UInt8.ofNat nm)) rfl (fun j u hj => by rw [Addr.add_mid]; exact range_new V2 (cellsOf (mkS (UInt8.ofNat nm))).toArray 24 _ rfl j u hj) HLK.out ?_
          intro v4 V4 hg4 hk4 hf4
          obtain ⟨a4, c4, rfl⟩ := hf4
          have H4 := Lib.hid (And.intro hg4 (And.intro hk4 hba))
          clear hg4 hk4 hba
          go_wp2_with fail
          have hg4 := H4.out.1
          rw [show cellsOf (mkS (UInt8.ofNat nm)) = mkC nm from rfl, repl_succ] at hg4
          have hk4 := (HI.out.2.1.trans (Keeps.of_below HV2.out)).trans ((Keeps.of_below H4.out.2.2).trans H4.out.2.1)
          have hx4 : V4.rangeAt bx 0 (cellsH (.slice al m cl, .slice none 0 0, nm)) := by
            refine H4.out.2.1.range ((Keeps.of_below (X := fun _ => False) H4.out.2.2).range ((Keeps.of_below (X := fun _ => False) HV2.out).range HI.out.2.2 (fun h => h)) (fun h => h)) (fun e => ?_)
            rcases e with e | e
            · have := ((HB.out.lies i HF.out.2.2.2.1).lt bx e).2
              have := H2.out.2.2.1
              omega
            · have := H2.out.2.2.2; omega
          have hln : (S i).length + (List.replicate k (mkC nm)).length + 1 = m + (k + 1) := by rw [List.length_replicate, ← HF.out.2.1]; omega
          rw [hln] at hg4
          rw [List.length_replicate] at hln
          rw [hln]
          have hki : (k : Int) + 1 = ((k + 1 : Nat) : Int) := rfl
          rw [hki]
          clear H4 HV2 HLK HCm HI HAT
          exact ⟨⟨k + 1, hkm, rfl, ⟨_, _, rfl⟩, hg4, hk4, hx4⟩, by simp only [intOf, Int.toNat_natCast]; omega⟩
        · obtain rfl : k = 40 := by omega
          have hkr : ∀ k, (lst H i).ownBlock = some k ∨ W2.heap.size ≤ k → k = q → False := fun k e h => by
            subst h
            rcases e with e | e
            · exact (HH.out.1 i HF.out.2.2.2.1 k e).1 rfl
            · have := HB2.out.book.lt; omega
          have g5 : wr.cell? ⟨q, 5, none⟩ = some (.slice (some ⟨gH, 0, none⟩) N ch) := by
            rw [← HH.out.2.2.2.2.2.1]
            exact (HB2.out.book.keep HI.out.2.1 (fun e => hkr q e rfl)).cs 5 (by omega) (by omega)
          have hth : wr.frozen? ⟨gH, i * 3 + 1, none⟩ = false ∧ ∃ u, wr.cell? ⟨gH, i * 3 + 1, none⟩ = some u := by
            have hat2 := HI.out.2.1.range ((Keeps.of_below (X := fun _ => False) H2.out.1).range HAT.out (fun h => h)) (fun e => by
              rcases e with e | e
              · exact (HH.out.1 i HF.out.2.2.2.1 gH e).2.1 rfl
              · have := (HB2.out.row.1.lt gH rfl).2; omega)
            refine ⟨?_, _, hat2 1 _ rfl⟩
            have hrw := HB2.out.row.keep HI.out.2.1 (fun k hk2 e => by
              obtain rfl : gH = k := by simpa [Value.ownBlock] using hk2
              rcases e with e | e
              · exact (HH.out.1 i HF.out.2.2.2.1 gH e).2.1 rfl
              · have := (HB2.out.row.1.lt gH rfl).2; omega)
            rcases hrw.1.2 with ⟨h0, _⟩ | ⟨g', cap', cur, he2, hb2, hg2, _⟩
            · cases h0
            · simp only [Value.slice.injEq, Option.some.injEq, Addr.mk.injEq, and_true] at he2
              rw [he2.1]
              exact frozen_of_row wr _ _ _ _ hg2
          obtain ⟨hfz, u1, hu1⟩ := hth
          have HFIN := Lib.hid (HB2.out.next HH.out.1 HF.out.2.2.2.1 (by rw [← HF.out.2.2.1]; exact HI.out.1) HI.out.2.1 rfl)
          have hwi : wrap64 ((i : Int) + 1) = ((i + 1 : Nat) : Int) := wrap_next (m := 100000) (by rw [HH.out.2.2.2.2.1] at hlt; exact Nat.lt_trans hlt HH.out.2.2.2.1) (by decide)
          have HWI := Lib.hid hwi
          clear hkr hwi
          go_wp2_with fail
          have hfin := HFIN.out
          have hwi := HWI.out
          clear HFIN HI HF H2 HB2 HAT HH HLL HWI hfz hu1 g5 g2 HB hkm
          exact ⟨⟨i + 1, hlt, by rw [hwi], _, hfin⟩, by rw [hwi]; simp only [intOf, Int.toNat_natCast]; omega⟩
    · have hjn : i = N := by omega
      subst hjn
      go_wp2_with fail
      exact bodyPost_end (results_none rfl _ _ _) rfl ⟨rfl, _, HB.out⟩
end Go.Proofs.YtfmgoehnbaiamaaGreatDoor
