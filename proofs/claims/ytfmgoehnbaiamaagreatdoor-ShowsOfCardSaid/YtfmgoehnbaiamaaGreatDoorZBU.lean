/-
  Joined: BY5, BY6.
-/
import Derived.Test.YtfmgoehnbaiamaaGreatDoorZBT
-- Walk: a Book puts more behind each list of bytes (growByte).
open Go Go.RowKit Alm
namespace Go.Proofs.YtfmgoehnbaiamaaGreatDoor
theorem info_u8B : ∃ i z, Tryz.prog.info? 5 = some i ∧ i.zero = some z ∧ i.size = 1 ∧ i.bytes = 1 ∧ z.cells.size = 1 := by
  have h : (Tryz.prog.info? 5).map (fun i => (i.zero.map fun z => z.cells.size, i.size, i.bytes)) = some (some 1, 1, 1) := by kernel_rfl
  obtain ⟨i, hi, h2⟩ := Option.map_eq_some_iff.1 h
  simp only [Prod.mk.injEq] at h2
  obtain ⟨z, hz, hz2⟩ := Option.map_eq_some_iff.1 h2.1
  exact ⟨i, z, hi, hz, h2.2.1, h2.2.2, hz2⟩
theorem wpList_lit_u8 {w : World} {ops : Array Oper} {rest : List Oper} {o : Oper} {a : Act} {Q : Exit → Act → World → Prop} (hgd : o.guard = none) (x : Operand) (ho : o.op = .buildSlice 39 1 #[(0, x)]) (s : Int) (hx : a.eval x = .int .u8 s)
    (h : wpList Tryz.prog ops Q rest (a.put o.dst (.slice (some ⟨w.heap.size, 0, none⟩) 1 1)) (w.alloc (.cells #[.int .u8 s] 5))) : wpList Tryz.prog ops Q (o :: rest) a w := by
  obtain ⟨i, z, hi, hz, hs, hb, hzs⟩ := info_u8B
  refine wpList_plain hgd fun _ hK => wp_buildSlice _ 5 1 _ ho #[.int .u8 s] i z Tryz.underlying39 hi hz (by rw [hs]; omega) (by rw [hs]; omega) ?_ (hK _ _ h)
  have hp : ((#[(0, x)] : Array (Nat × Operand)).toList.map fun (i, x) => (i, a.eval x)) = (([(.int .u8 s : Value)]).zipIdx 0).map fun x => (x.2, x.1) := by simp [hx]
  rw [Array.toList_map, hp, hs, Great.fill_whole (s := 1) (by omega) [(.int .u8 s : Value)] _ (fun v hv => by rw [List.mem_singleton.1 hv]; rfl) (by simp)]
  simp [Value.cells]
theorem wpList_append_u8G {w : World} {ops : Array Oper} {rest : List Oper} {o : Oper} {a : Act} {Q : Exit → Act → World → Prop} (hgd : o.guard = none) (s x : Operand)
    (ho : o.op = .call { callee := .builtin .append, args := #[s, x], argTypes := #[39, 39] })
    {base B : Nat} {v0 v : Value} {xs ys : List (List Value)} (hs : a.eval s = v) (hG : Grown w base 1 B v0 xs v ys) (hbB : base ≤ B) (hB : B ≤ w.heap.size)
    (ad : Addr) (c : Nat) (y : Int) (hx : a.eval x = .slice (some ad) 1 c) (hc : ∀ j u, ([Value.int .u8 y])[j]? = some u → w.cell? (ad.add j) = some u)
    (hl : xs.length + ys.length < 1000000)
    (h : ∀ v' w', Grown w' base 1 B v0 xs v' (ys ++ [[Value.int .u8 y]]) → Keeps (fun k => v0.ownBlock = some k ∨ B ≤ k) w w' → (∃ a c, v' = .slice a (xs.length + ys.length + 1) c) → wpList Tryz.prog ops Q rest (a.put o.dst v') w') : wpList Tryz.prog ops Q (o :: rest) a w := by
  obtain ⟨i, z, hi, hz, h1, h2, h3⟩ := info_u8B
  exact wpList_plain hgd fun _ hK => wp_append_grown s x _ ho _ i z 1 1 Tryz.underlying39 hi hz h1 h2 h3 (by omega) (by omega) hs hG hbB hB ad c [Value.int .u8 y] hx rfl hc (by simp [Value.oneCell']) hl fun v' w' g1 g2 g3 => hK _ _ (h v' w' g1 g2 g3)
set_option maxRecDepth 100000 in
set_option maxHeartbeats 1000000 in
theorem growByte_any (base q n : Nat) (hv : Value) (F : Nat → Value) (H : List Held) (S : Nat → List (List Value)) (w : World) (hb : Book w q n F) (hF : F 1 = hv) (hrow : Row3 w 136 base q hv H) (hr : Lies w base 1 H S) (ha : ApartH H q hv) (hN : ∀ i, i < H.length → num H i < 256) (hS : ∀ i, i < H.length → (S i).length < 900000) (hH : H.length < 100000) (hL : ∀ i, i < H.length → lng H i = .slice none 0 0) (hbs : base ≤ w.heap.size) :
    Calls Tryz.prog 76 #[.pointer (some ⟨q, 0, none⟩)] w fun e w' => e = .returned (.tuple #[]) ∧ ∃ L, GrowI mkB 1 1 136 w w' base q n F hv H S H.length L := by
  obtain ⟨ah, ch, hform⟩ := hrow.form
  obtain ⟨N, hNN⟩ : ∃ N, N = H.length := ⟨_, rfl⟩
  rw [← hNN] at hform
  subst hform
  have H0 := Lib.hid (GrowI.start (mk := mkB) (off := 1) hb hrow hr)
  have HH := Lib.hid (And.intro ha (And.intro hN (And.intro hS (And.intro hH (And.intro hNN (And.intro hF hbs))))))
  have HLL := Lib.hid hL
  clear hb hF hrow hr ha hN hS hH hL hbs
  rw [← hNN]
  clear hNN
  go_enter Tryz.func76, Tryz.ntmps76
  go_wp2_with fail
  go_loopw [2] (fun iv W => ∃ i : Nat, i ≤ N ∧ iv = .int .i64 (i : Int) ∧ ∃ L, GrowI mkB 1 1 136 w W base q n F (.slice ah N ch) H S i L) (fun iv _ => N - (intOf iv).toNat)
  case atStart => exact ⟨0, by omega, rfl, _, H0.out⟩
  case round =>
    clear H0
    obtain ⟨i, hi, rfl, L, hG⟩ := hrel
    have HB := Lib.hid hG
    have g5 : wr.cell? ⟨q, 1, none⟩ = some (.slice ah N ch) := by rw [← HH.out.2.2.2.2.2.1]; exact hG.book.cs 1 (by omega) (by omega)
    clear hG
    by_cases hlt : i < N
    · have c1 : decide (i < N) = true := by simpa using hlt
      have c1' : decide ((i : Int) < (N : Int)) = true := by simp; omega
      have hj0 : (0 : Int) ≤ (i : Int) := by omega
      have hlt' : (i : Int) < (N : Int) := by omega
      have hiH : i < H.length := by rw [← HH.out.2.2.2.2.1]; exact hlt
      obtain ⟨gH, capH, he, _, _, _, hat⟩ := HB.out.row.at (i := i) (by rw [length_longTo]; exact hiH)
      rw [length_longTo, ← HH.out.2.2.2.2.1] at he
      simp only [Value.slice.injEq, true_and] at he
      obtain ⟨rfl, rfl⟩ := he
      rw [hd_longTo H L i i hiH, if_neg (Nat.lt_irrefl i)] at hat
      have hcl : cellsH (hd H i) = cellsH (lst H i, .slice none 0 0, num H i) := by
        rw [← HLL.out i hiH]; rfl
      rw [hcl] at hat
      obtain ⟨al, cl, hfl⟩ := (HB.out.lies i hiH).form
      rw [hfl] at hat
      obtain ⟨m, hm⟩ : ∃ m, m = (S i).length := ⟨_, rfl⟩
      obtain ⟨nm, hnm⟩ : ∃ x, x = num H i := ⟨_, rfl⟩
      rw [← hm] at hat hfl
      rw [← hnm] at hat
      have hm9 : m < 900000 := by rw [hm]; exact HH.out.2.2.1 i hiH
      have HF := Lib.hid (And.intro hfl (And.intro hm (And.intro hnm (And.intro hiH hm9))))
      clear hfl hm hnm hcl hiH hm9
      have HG := Lib.hid trivial
      have HAT := Lib.hid hat
      clear hat
      go_wp2_with (first
        | (refine wpList_load_heldB rfl _ rfl gH (i * 3) rfl _ HAT.out ?_)
        | (have _ := HG; refine wpList_var_heldB (by rfl) rfl _ _ rfl (.slice al m cl, .slice none 0 0, nm) rfl rfl (by rfl) (by rfl) ?_; clear HG))
      intro W2 hb hr2
      obtain ⟨bx, hbx⟩ : ∃ z, z = wr.heap.size := ⟨_, rfl⟩
      have hbl : bx < W2.heap.size := by (rw [hbx]; exact range_lt hr2 (by simp [cellsH]))
      rw [← hbx] at hr2 ⊢
      have H2 := Lib.hid (And.intro hb (And.intro hr2 (And.intro hbx hbl)))
      have g0 : W2.cell? ⟨bx, 0, none⟩ = some (.slice al m cl) := hr2 0 _ rfl
      clear hb hr2 hbx hbl
      go_wp2_with fail
      have HB2 := Lib.hid (HB.out.below H2.out.1)
      have hst : Grown W2 base 1 W2.heap.size (lst H i) (S i) (lst H i) [] := Grown.start (HB2.out.lies i HF.out.2.2.2.1) (Nat.le_refl _)
      have HS0 := Lib.hid hst
      clear g5 hst g0
      go_loopw [4, 5] (fun lv kv V => ∃ k : Nat, k ≤ 40 ∧ kv = .int .i64 (k : Int) ∧ (∃ a c, lv = .slice a (m + k) c) ∧ Grown V base 1 W2.heap.size (lst H i) (S i) lv (List.replicate k (mkB nm)) ∧ Keeps (fun k => (lst H i).ownBlock = some k ∨ W2.heap.size ≤ k) W2 V ∧ V.rangeAt bx 0 (cellsH (.slice al m cl, .slice none 0 0, nm))) (fun _ kv _ => 40 - (intOf kv).toNat)
      case atStart => exact ⟨0, by omega, rfl, ⟨_, _, rfl⟩, by rw [← HF.out.1]; exact HS0.out, Keeps.refl _ _, H2.out.2.1⟩
      case round =>
        clear HS0
        obtain ⟨k, hk, rfl, ⟨la, lc, rfl⟩, hGr, hK, hX⟩ := hrel
        have HI := Lib.hid (And.intro hGr (And.intro hK hX))
        have g2 : wr.cell? ⟨bx, 2, none⟩ = some (.int .i64 ((nm : Nat) : Int)) := hX 2 _ rfl
        clear hGr hK hX
        by_cases hkm : k < 40
        · have d1' : decide ((k : Int) < 40) = true := by simp; omega
          have hkm' : (k : Int) < 40 := by omega
          have hnm : nm < 256 := by rw [HF.out.2.2.1]; exact HH.out.2.1 i HF.out.2.2.2.1
          have HCm := Lib.hid (fun W => markByte_any nm W hnm)
          have hlk : (S i).length + (List.replicate k (mkB nm)).length < 1000000 := by rw [List.length_replicate, ← HF.out.2.1]; have := HF.out.2.2.2.2; omega
          have HLK := Lib.hid hlk
          have hwk : wrap64 ((k : Int) + 1) = ((k + 1 : Nat) : Int) := wrap_next hkm (by decide)
          have HWK := Lib.hid hwk
          clear hlk hnm hwk
          have HG2 := Lib.hid trivial
          go_wp2_with (first
            | (go_at_call 126; refine (HCm.out _).mono ?_; rintro e wr ⟨rfl, rfl⟩; have Hwr := Lib.hid (Below.refl wr.heap.size wr))
            | (refine wpList_lit_u8 rfl _ rfl ((nm : Nat) : Int) rfl ?_)
            | (have _ := HG2; at_builtin; refine Hid.out ?_; clear HG2))
          refine Lib.hid ?_
          have hba := Alm.al (Below.refl wr.heap.size wr) (.cells #[.int .u8 ((nm : Nat) : Int)] 5)
          refine wpList_append_u8G rfl _ _ rfl (base := base) (B := W2.heap.size) (v0 := lst H i) (xs := S i) (ys := List.replicate k (mkB nm)) rfl ((HI.out.1.below Hwr.out).below hba) (Nat.le_trans HH.out.2.2.2.2.2.2 HB2.out.keep.size) (Nat.le_trans HI.out.2.1.size (Nat.le_trans Hwr.out.size hba.size)) ⟨wr.heap.size, 0, none⟩ 1 ((nm : Nat) : Int) rfl (fun j u hj => by rw [Addr.add_mid]; exact range_new wr #[.int .u8 ((nm : Nat) : Int)] 5 _ rfl j u hj) HLK.out ?_
          intro v4 V4 hg4 hk4 hf4
          obtain ⟨a4, c4, rfl⟩ := hf4
          have H4 := Lib.hid (And.intro hg4 (And.intro hk4 hba))
          clear hg4 hk4 hba
          go_wp2_with fail
          have hg4 := H4.out.1
          rw [show [Value.int .u8 ((nm : Nat) : Int)] = mkB nm from rfl, repl_succ] at hg4
          have hk4 := (HI.out.2.1.trans (Keeps.of_below Hwr.out)).trans ((Keeps.of_below H4.out.2.2).trans H4.out.2.1)
          have hx4 : V4.rangeAt bx 0 (cellsH (.slice al m cl, .slice none 0 0, nm)) := by
            refine H4.out.2.1.range ((Keeps.of_below (X := fun _ => False) H4.out.2.2).range ((Keeps.of_below (X := fun _ => False) Hwr.out).range HI.out.2.2 (fun h => h)) (fun h => h)) (fun e => ?_)
            rcases e with e | e
            · have := ((HB.out.lies i HF.out.2.2.2.1).lt bx e).2
              have := H2.out.2.2.1
              omega
            · have := H2.out.2.2.2; omega
          have hln : (S i).length + (List.replicate k (mkB nm)).length + 1 = m + (k + 1) := by rw [List.length_replicate, ← HF.out.2.1]; omega
          rw [hln] at hg4
          rw [List.length_replicate] at hln
          rw [hln]
          have hki : (k : Int) + 1 = ((k + 1 : Nat) : Int) := rfl
          rw [hki]
          clear H4 Hwr HLK HCm HI HAT
          exact ⟨⟨k + 1, hkm, rfl, ⟨_, _, rfl⟩, hg4, hk4, hx4⟩, by simp only [intOf, Int.toNat_natCast]; omega⟩
        · obtain rfl : k = 40 := by omega
          have hkr : ∀ k, (lst H i).ownBlock = some k ∨ W2.heap.size ≤ k → k = q → False := fun k e h => by
            subst h
            rcases e with e | e
            · exact (HH.out.1 i HF.out.2.2.2.1 k e).1 rfl
            · have := HB2.out.book.lt; omega
          have g5 : wr.cell? ⟨q, 1, none⟩ = some (.slice (some ⟨gH, 0, none⟩) N ch) := by
            rw [← HH.out.2.2.2.2.2.1]
            exact (HB2.out.book.keep HI.out.2.1 (fun e => hkr q e rfl)).cs 1 (by omega) (by omega)
          have hth : wr.frozen? ⟨gH, i * 3 + 1, none⟩ = false ∧ ∃ u, wr.cell? ⟨gH, i * 3 + 1, none⟩ = some u := by
            have hat2 := HI.out.2.1.range ((Keeps.of_below (X := fun _ => False) H2.out.1).range HAT.out (fun h => h)) (fun e => by
              rcases e with e | e
              · exact (HH.out.1 i HF.out.2.2.2.1 gH e).2.1 rfl
              · have := (HB2.out.row.1.lt gH rfl).2; omega)
            refine ⟨?_, _, hat2 1 _ rfl⟩
            have hrw := HB2.out.row.keep HI.out.2.1 (fun k hk2 e => by
              obtain rfl : gH = k := by simpa [Value.ownBlock] using hk2
              rcases e with e | e
              · exact (HH.out.1 i HF.out.2.2.2.1 gH e).2.1 rfl
              · have := (HB2.out.row.1.lt gH rfl).2; omega)
            rcases hrw.1.2 with ⟨h0, _⟩ | ⟨g', cap', cur, he2, hb2, hg2, _⟩
            · cases h0
            · simp only [Value.slice.injEq, Option.some.injEq, Addr.mk.injEq, and_true] at he2
              rw [he2.1]
              exact frozen_of_row wr _ _ _ _ hg2
          obtain ⟨hfz, u1, hu1⟩ := hth
          have HFIN := Lib.hid (HB2.out.next HH.out.1 HF.out.2.2.2.1 (by rw [← HF.out.2.2.1]; exact HI.out.1) HI.out.2.1 rfl)
          have hwi : wrap64 ((i : Int) + 1) = ((i + 1 : Nat) : Int) := wrap_next (m := 100000) (by rw [HH.out.2.2.2.2.1] at hlt; exact Nat.lt_trans hlt HH.out.2.2.2.1) (by decide)
          have HWI := Lib.hid hwi
          clear hkr hwi
          go_wp2_with fail
          have hfin := HFIN.out
          have hwi := HWI.out
          clear HFIN HI HF H2 HB2 HAT HH HLL HWI hfz hu1 g5 g2 HB hkm
          exact ⟨⟨i + 1, hlt, by rw [hwi], _, hfin⟩, by rw [hwi]; simp only [intOf, Int.toNat_natCast]; omega⟩
    · have hjn : i = N := by omega
      subst hjn
      go_wp2_with fail
      exact bodyPost_end (results_none rfl _ _ _) rfl ⟨rfl, _, HB.out⟩
end Go.Proofs.YtfmgoehnbaiamaaGreatDoor
-- Walk: a Book looks at the bytes that it holds (lookByte).
namespace Go.Proofs.YtfmgoehnbaiamaaGreatDoor
theorem isByte_any (n : Nat) (w : World) (hn : n < 256) : Calls Tryz.prog 135 #[.int .u8 ((n : Nat) : Int), .int .i64 ((n : Nat) : Int)] w fun e w' => e = .returned (.bool true) ∧ Below w.heap.size w w' := by
  have h1 : IntKind.u8.wrap (n : Int) = (n : Int) := by rw [IntKind.wrap_u8]; omega
  have h2 : (n : Int) % 256 = (n : Int) := by omega
  clear hn
  go_enter Tryz.func135, Tryz.ntmps135
  go_wp2_with fail
  exact bodyPost_ret (results_tmp rfl _ _ _) rfl ⟨rfl, Below.refl _ _⟩
set_option maxRecDepth 100000 in
set_option maxHeartbeats 1000000 in
theorem lookByte_any (base q n : Nat) (hv : Value) (F : Nat → Value) (H : List Held) (a : Nat → Nat) (w : World) (hb : Book w q n F) (hF : F 1 = hv) (hrow : Row3 w 136 base q hv H) (h1 : ∀ i, i < H.length → Lie w base 1 (lst H i) (List.replicate (a i) (mkB (num H i)))) (h2 : ∀ i, i < H.length → Lie w base 1 (lng H i) (List.replicate (a i + 40) (mkB (num H i)))) (hN : ∀ i, i < H.length → num H i < 256) (hA : ∀ i, i < H.length → a i < 900000) (hH : H.length < 100000) :
    Calls Tryz.prog 85 #[.pointer (some ⟨q, 0, none⟩)] w fun e w' => e = .returned (.bool true) ∧ Below w.heap.size w w' := by
  obtain ⟨ah, ch, hform⟩ := hrow.form
  obtain ⟨N, hNN⟩ : ∃ N, N = H.length := ⟨_, rfl⟩
  rw [← hNN] at hform
  subst hform
  have H0 := Lib.hid (And.intro hb (And.intro hrow (And.intro h1 h2)))
  have HH := Lib.hid (And.intro hN (And.intro hA (And.intro hH (And.intro hNN hF))))
  clear hb hF hrow h1 h2 hN hA hH hNN
  go_enter Tryz.func85, Tryz.ntmps85
  go_wp2_with fail
  go_loopw [3] (fun iv W => ∃ i : Nat, i ≤ N ∧ iv = .int .i64 (i : Int) ∧ Below w.heap.size w W) (fun iv _ => N - (intOf iv).toNat)
  case atStart => exact ⟨0, by omega, rfl, Below.refl _ _⟩
  case round =>
    obtain ⟨i, hi, rfl, hG⟩ := hrel
    have HB := Lib.hid hG
    have g5 : wr.cell? ⟨q, 1, none⟩ = some (.slice ah N ch) := by rw [← HH.out.2.2.2.2]; exact (H0.out.1.below hG).cs 1 (by omega) (by omega)
    clear hG
    by_cases hlt : i < N
    · obtain ⟨c1, c1', hj0, hlt'⟩ := dec_lt hlt
      have hiH : i < H.length := by rw [← HH.out.2.2.2.1]; exact hlt
      obtain ⟨gH, capH, he, _, _, _, hat⟩ := (H0.out.2.1.below HB.out).at hiH
      rw [← HH.out.2.2.2.1] at he
      simp only [Value.slice.injEq, true_and] at he
      obtain ⟨rfl, rfl⟩ := he
      obtain ⟨m, hm⟩ : ∃ m, m = a i := ⟨_, rfl⟩
      obtain ⟨M, hM⟩ : ∃ M, M = m + 40 := ⟨_, rfl⟩
      obtain ⟨nm, hnm⟩ : ∃ x, x = num H i := ⟨_, rfl⟩
      have hl1 := H0.out.2.2.1 i hiH
      have hl2 := H0.out.2.2.2 i hiH
      rw [← hm, ← hnm] at hl1 hl2
      rw [← hM] at hl2
      obtain ⟨al, cl, hfl⟩ := lie_repl hl1
      obtain ⟨gL, cL, hfL⟩ := lie_some hl2 (by rw [hM]; exact Nat.succ_pos _)
      have hcl : cellsH (hd H i) = cellsH (.slice al m cl, .slice (some ⟨gL, 0, none⟩) M cL, nm) := by
        rw [← hfl, ← hfL, hnm]; rfl
      rw [hcl] at hat
      rw [hfl] at hl1
      rw [hfL] at hl2
      have hm9 : m < 900000 := by rw [hm]; exact HH.out.2.1 i hiH
      have hnm9 : nm < 256 := by rw [hnm]; exact HH.out.1 i hiH
      have hu : nm < 256 := hnm9
      obtain ⟨hwM, hM0, hm0⟩ := wrap_40 hM hm9
      have HF := Lib.hid (And.intro hl1 (And.intro hl2 (And.intro hM (And.intro hu hm9))))
      have HWM := Lib.hid (And.intro hwM hM0)
      clear hfl hfL hm hM hnm hcl hiH hl1 hl2 hnm9 hu hm9 hwM hM0
      have HG := Lib.hid trivial
      have HAT := Lib.hid hat
      clear hat
      go_wp2_with (first
        | (refine wpList_load_heldB rfl _ rfl gH (i * 3) rfl _ HAT.out ?_)
        | (have _ := HG; refine wpList_var_heldB (by rfl) rfl _ _ rfl (.slice al m cl, .slice (some ⟨gL, 0, none⟩) M cL, nm) rfl rfl (by rfl) (by rfl) ?_; clear HG))
      intro W2 hb hr2
      obtain ⟨bx, hbx⟩ : ∃ z, z = wr.heap.size := ⟨_, rfl⟩
      rw [← hbx] at hr2 ⊢
      have H2 := Lib.hid (And.intro hb hr2)
      have HB2 := Lib.hid (HB.out.trans (hb.mono HB.out.size))
      have g0 : W2.cell? ⟨bx, 0, none⟩ = some (.slice al m cl) := hr2 0 _ rfl
      have g1 : W2.cell? ⟨bx, 1, none⟩ = some (.slice (some ⟨gL, 0, none⟩) M cL) := hr2 1 _ rfl
      clear hb hr2 hbx
      have hwM := HWM.out.1
      have hM0 := HWM.out.2
      go_wp2_with fail
      clear g5 g0 g1 hwM hM0
      go_loopw [5] (fun kv V => ∃ k : Nat, k ≤ M ∧ kv = .int .i64 (k : Int) ∧ Below W2.heap.size W2 V) (fun kv _ => M - (intOf kv).toNat)
      case atStart => exact ⟨0, Nat.zero_le _, rfl, Below.refl _ _⟩
      case round =>
        obtain ⟨k, hk, rfl, hK⟩ := hrel
        have hX : wr.rangeAt bx 0 (cellsH (.slice al m cl, .slice (some ⟨gL, 0, none⟩) M cL, nm)) := (Keeps.of_below (X := fun _ => False) hK).range H2.out.2 (fun h => h)
        have g1 : wr.cell? ⟨bx, 1, none⟩ = some (.slice (some ⟨gL, 0, none⟩) M cL) := hX 1 _ rfl
        have HKK := Lib.hid hK
        by_cases hkm : k < M
        · obtain ⟨d1, d1', hk0, hkm'⟩ := dec_lt hkm
          have hMe : decide ((k : Int) < (m : Int) + 40) = true := by rw [← HWM.out.2]; exact d1'
          have hMl : (k : Int) < (m : Int) + 40 := by rw [← HWM.out.2]; exact hkm'
          have hd := (Below.refl wr.heap.size wr).drew
          have hL2 : wr.drew.rangeAt gL (k * 1) (mkB nm) := lie_mark (((HF.out.2.1.below HB2.out).below hK).below hd) hkm
          have hX2 := (Keeps.of_below (X := fun _ => False) hd).range hX (fun h => h)
          have HJ := Lib.hid (And.intro hL2 (And.intro hX2 hd))
          have HCm := Lib.hid (fun W => isByte_any nm W HF.out.2.2.2.1)
          have hwk : wrap64 ((k : Int) + 1) = ((k + 1 : Nat) : Int) := wrap_next (m := 999999) (by have := HF.out.2.2.1; have := HF.out.2.2.2.2; omega) (by decide)
          have HWK := Lib.hid hwk
          clear hL2 hX2 hX hd hK hwk
          by_cases hkn : k < m
          · obtain ⟨e1, e1', _, hkn'⟩ := dec_lt hkn
            obtain ⟨gi, ci, hgi⟩ := lie_some HF.out.1 (Nat.lt_of_le_of_lt (Nat.zero_le _) hkn)
            simp only [Value.slice.injEq, true_and] at hgi
            obtain ⟨rfl, rfl⟩ := hgi
            have hS2 : wr.drew.rangeAt gi (k * 1) (mkB nm) := lie_mark (((HF.out.1.below HB2.out).below HKK.out).below HJ.out.2.2) hkn
            have HS := Lib.hid hS2
            clear hS2
            go_wp2_with fail
            refine wp_region_sched (fun V => Below wr.drew.heap.size wr.drew V) [.t 0, .t 2, .t 5, .s 1, .t 3, .s 4, .e 6 true, .e 7 true, .t 8, .t 9, .t 10, .t 11, .e 12 true, .t 13, .t 14, .t 15, .t 16, .t 18, .t 21, .s 17, .t 19, .s 20, .e 22 true, .e 23 false, .t 24, .t 25, .t 26] (by kernel_rfl) (by kernel_rfl) (by intro c a d v w h; cases d <;> exact h) ?_
            change wpS _ _ _ _ _ _ _ wr.drew
            have hsz : wr.drew.heap.size = wr.heap.size := rfl
            have hKd : Below W2.heap.size W2 wr.drew := HKK.out.drew
            have HKD := Lib.hid hKd
            clear hsz hKd g1 HKK
            generalize wr.drew = V at *
            iterate 3
              refine wpS_t rfl (v := ?_) (by rfl) (fun W => ?_) ?_
              rotate_left
              · go_simp
                try rfl
              try simp only [Act.put, List.setIfInBounds_toArray, List.set_cons_zero, List.set_cons_succ]
            refine wpS_s (Below.refl _ _) rfl (v := .slice (some ⟨gL, 0, none⟩) M cL) (by rfl) (fun W hW => ?_) ?_
            · have g : W.cell? ⟨bx, 1, none⟩ = some (.slice (some ⟨gL, 0, none⟩) M cL) := (Keeps.of_below (X := fun _ => False) hW).cell (HJ.out.2.1 1 _ rfl) (fun h => h)
              go_simp
            try simp only [Act.put, List.setIfInBounds_toArray, List.set_cons_zero, List.set_cons_succ]
            iterate 1
              refine wpS_t rfl (v := ?_) (by rfl) (fun W => ?_) ?_
              rotate_left
              · go_simp
                try rfl
              try simp only [Act.put, List.setIfInBounds_toArray, List.set_cons_zero, List.set_cons_succ]
            refine wpS_s (Below.refl _ _) rfl (v := .int .u8 ((nm : Nat) : Int)) (by rfl) (fun W hW => ?_) ?_
            · have g : W.cell? ⟨gL, k, none⟩ = some (.int .u8 ((nm : Nat) : Int)) := by have := (Keeps.of_below (X := fun _ => False) hW).range HJ.out.1 (fun h => h) 0 _ rfl; rwa [Nat.mul_one] at this
              go_simp
            try simp only [Act.put, List.setIfInBounds_toArray, List.set_cons_zero, List.set_cons_succ]
            refine wpS_k rfl (by rfl) (fun K hK => ?_)
            have g : V.cell? ⟨bx, 2, none⟩ = some (.int .i64 ((nm : Nat) : Int)) := HJ.out.2.1 2 _ rfl
            go_simp
            refine hK _ _ ⟨Below.refl _ _, ?_⟩; clear hK K
            try simp only [Act.put, List.setIfInBounds_toArray, List.set_cons_zero, List.set_cons_succ]
            clear g
            refine wpS_k rfl (by rfl) (fun K hK => ?_)
            go_simp
            refine (HCm.out V).mono ?_
            rintro e V2 ⟨rfl, hb2⟩
            have HV2 := Lib.hid hb2
            clear hb2
            refine hK _ _ ⟨HV2.out, ?_⟩; clear hK K
            try simp only [Act.put, List.setIfInBounds_toArray, List.set_cons_zero, List.set_cons_succ]
            iterate 4
              refine wpS_t rfl (v := ?_) (by rfl) (fun W => ?_) ?_
              rotate_left
              · go_simp
                try rfl
              try simp only [Act.put, List.setIfInBounds_toArray, List.set_cons_zero, List.set_cons_succ]
            refine wpS_k rfl (by rfl) (fun K hK => ?_)
            have g : V2.cell? ⟨bx, 0, none⟩ = some (.slice (some ⟨gi, 0, none⟩) m cl) := (Keeps.of_below (X := fun _ => False) HV2.out).cell (HJ.out.2.1 0 _ rfl) (fun h => h)
            go_simp
            refine hK _ _ ⟨HV2.out, ?_⟩; clear hK K
            try simp only [Act.put, List.setIfInBounds_toArray, List.set_cons_zero, List.set_cons_succ]
            clear g
            iterate 3
              refine wpS_t rfl (v := ?_) (by rfl) (fun W => ?_) ?_
              rotate_left
              · go_simp
                try rfl
              try simp only [Act.put, List.setIfInBounds_toArray, List.set_cons_zero, List.set_cons_succ]
            iterate 3
              refine wpS_t rfl (v := ?_) (by rfl) (fun W => ?_) ?_
              rotate_left
              · go_simp
                try rfl
              try simp only [Act.put, List.setIfInBounds_toArray, List.set_cons_zero, List.set_cons_succ]
            refine wpS_s HV2.out rfl (v := .slice (some ⟨gi, 0, none⟩) m cl) (by rfl) (fun W hW => ?_) ?_
            · have g : W.cell? ⟨bx, 0, none⟩ = some (.slice (some ⟨gi, 0, none⟩) m cl) := (Keeps.of_below (X := fun _ => False) hW).cell (HJ.out.2.1 0 _ rfl) (fun h => h)
              go_simp
            try simp only [Act.put, List.setIfInBounds_toArray, List.set_cons_zero, List.set_cons_succ]
            iterate 1
              refine wpS_t rfl (v := ?_) (by rfl) (fun W => ?_) ?_
              rotate_left
              · go_simp
                try rfl
              try simp only [Act.put, List.setIfInBounds_toArray, List.set_cons_zero, List.set_cons_succ]
            refine wpS_s HV2.out rfl (v := .int .u8 ((nm : Nat) : Int)) (by rfl) (fun W hW => ?_) ?_
            · have g : W.cell? ⟨gi, k, none⟩ = some (.int .u8 ((nm : Nat) : Int)) := by have := (Keeps.of_below (X := fun _ => False) hW).range HS.out (fun h => h) 0 _ rfl; rwa [Nat.mul_one] at this
              go_simp
            try simp only [Act.put, List.setIfInBounds_toArray, List.set_cons_zero, List.set_cons_succ]
            refine wpS_k rfl (by rfl) (fun K hK => ?_)
            have g : V2.cell? ⟨bx, 2, none⟩ = some (.int .i64 ((nm : Nat) : Int)) := (Keeps.of_below (X := fun _ => False) HV2.out).cell (HJ.out.2.1 2 _ rfl) (fun h => h)
            go_simp
            refine hK _ _ ⟨HV2.out, ?_⟩; clear hK K
            try simp only [Act.put, List.setIfInBounds_toArray, List.set_cons_zero, List.set_cons_succ]
            clear g
            refine wpS_e rfl (by rfl) (fun K hK => ?_)
            go_simp
            refine (HCm.out V2).mono ?_
            rintro e V3 ⟨rfl, hb3⟩
            have HV3 := Lib.hid (HV2.out.trans (hb3.mono HV2.out.size))
            clear hb3
            refine hK _ _ ?_; clear hK K
            try simp only [Act.put, List.setIfInBounds_toArray, List.set_cons_zero, List.set_cons_succ]
            iterate 3
              refine wpS_t rfl (v := ?_) (by rfl) (fun W => ?_) ?_
              rotate_left
              · go_simp
                try rfl
              try simp only [Act.put, List.setIfInBounds_toArray, List.set_cons_zero, List.set_cons_succ]
            refine wpS_done ?_
            go_wp2_with fail
            have hfin : Below W2.heap.size W2 V3 := HKD.out.trans (HV3.out.mono HKD.out.size)
            have hki : (k : Int) + 1 = ((k + 1 : Nat) : Int) := rfl
            rw [hki]
            clear HJ HKD HS HCm HF H2 HAT
            exact ⟨⟨k + 1, hkm, rfl, hfin⟩, by simp only [intOf, Int.toNat_natCast]; omega⟩
          · obtain ⟨e1, e1', hkn'⟩ : decide (k < m) = false ∧ decide ((k : Int) < (m : Int)) = false ∧ ¬ (k : Int) < (m : Int) := ⟨by simpa using hkn, by simpa using hkn, by omega⟩
            go_wp2_with fail
            refine wp_region_sched (fun V => Below wr.drew.heap.size wr.drew V) [.t 0, .t 2, .t 5, .s 1, .t 3, .s 4, .e 6 true, .e 7 true, .t 8, .t 9, .t 10, .t 11, .e 12 true, .t 13, .t 14, .t 15, .t 16, .t 18, .t 21, .s 17, .t 19, .s 20, .e 22 true, .e 23 false, .t 24, .t 25, .t 26] (by kernel_rfl) (by kernel_rfl) (by intro c a d v w h; cases d <;> exact h) ?_
            change wpS _ _ _ _ _ _ _ wr.drew
            have hsz : wr.drew.heap.size = wr.heap.size := rfl
            have hKd : Below W2.heap.size W2 wr.drew := HKK.out.drew
            have HKD := Lib.hid hKd
            clear hsz hKd g1 HKK
            generalize wr.drew = V at *
            iterate 3
              refine wpS_t rfl (v := ?_) (by rfl) (fun W => ?_) ?_
              rotate_left
              · go_simp
                try rfl
              try simp only [Act.put, List.setIfInBounds_toArray, List.set_cons_zero, List.set_cons_succ]
            refine wpS_s (Below.refl _ _) rfl (v := .slice (some ⟨gL, 0, none⟩) M cL) (by rfl) (fun W hW => ?_) ?_
            · have g : W.cell? ⟨bx, 1, none⟩ = some (.slice (some ⟨gL, 0, none⟩) M cL) := (Keeps.of_below (X := fun _ => False) hW).cell (HJ.out.2.1 1 _ rfl) (fun h => h)
              go_simp
            try simp only [Act.put, List.setIfInBounds_toArray, List.set_cons_zero, List.set_cons_succ]
            iterate 1
              refine wpS_t rfl (v := ?_) (by rfl) (fun W => ?_) ?_
              rotate_left
              · go_simp
                try rfl
              try simp only [Act.put, List.setIfInBounds_toArray, List.set_cons_zero, List.set_cons_succ]
            refine wpS_s (Below.refl _ _) rfl (v := .int .u8 ((nm : Nat) : Int)) (by rfl) (fun W hW => ?_) ?_
            · have g : W.cell? ⟨gL, k, none⟩ = some (.int .u8 ((nm : Nat) : Int)) := by have := (Keeps.of_below (X := fun _ => False) hW).range HJ.out.1 (fun h => h) 0 _ rfl; rwa [Nat.mul_one] at this
              go_simp
            try simp only [Act.put, List.setIfInBounds_toArray, List.set_cons_zero, List.set_cons_succ]
            refine wpS_k rfl (by rfl) (fun K hK => ?_)
            have g : V.cell? ⟨bx, 2, none⟩ = some (.int .i64 ((nm : Nat) : Int)) := HJ.out.2.1 2 _ rfl
            go_simp
            refine hK _ _ ⟨Below.refl _ _, ?_⟩; clear hK K
            try simp only [Act.put, List.setIfInBounds_toArray, List.set_cons_zero, List.set_cons_succ]
            clear g
            refine wpS_k rfl (by rfl) (fun K hK => ?_)
            go_simp
            refine (HCm.out V).mono ?_
            rintro e V2 ⟨rfl, hb2⟩
            have HV2 := Lib.hid hb2
            clear hb2
            refine hK _ _ ⟨HV2.out, ?_⟩; clear hK K
            try simp only [Act.put, List.setIfInBounds_toArray, List.set_cons_zero, List.set_cons_succ]
            iterate 4
              refine wpS_t rfl (v := ?_) (by rfl) (fun W => ?_) ?_
              rotate_left
              · go_simp
                try rfl
              try simp only [Act.put, List.setIfInBounds_toArray, List.set_cons_zero, List.set_cons_succ]
            refine wpS_k rfl (by rfl) (fun K hK => ?_)
            have g : V2.cell? ⟨bx, 0, none⟩ = some (.slice al m cl) := (Keeps.of_below (X := fun _ => False) HV2.out).cell (HJ.out.2.1 0 _ rfl) (fun h => h)
            go_simp
            refine hK _ _ ⟨HV2.out, ?_⟩; clear hK K
            try simp only [Act.put, List.setIfInBounds_toArray, List.set_cons_zero, List.set_cons_succ]
            clear g
            iterate 3
              refine wpS_t rfl (v := ?_) (by rfl) (fun W => ?_) ?_
              rotate_left
              · go_simp
                try rfl
              try simp only [Act.put, List.setIfInBounds_toArray, List.set_cons_zero, List.set_cons_succ]
            iterate 3
              refine wpS_t_skip rfl (by rfl) ?_
              try simp only [Act.put, List.setIfInBounds_toArray, List.set_cons_zero, List.set_cons_succ]
            iterate 1
              refine wpS_s_skip (HV2.out) rfl (by rfl) ?_
              try simp only [Act.put, List.setIfInBounds_toArray, List.set_cons_zero, List.set_cons_succ]
            iterate 1
              refine wpS_t_skip rfl (by rfl) ?_
              try simp only [Act.put, List.setIfInBounds_toArray, List.set_cons_zero, List.set_cons_succ]
            iterate 1
              refine wpS_s_skip (HV2.out) rfl (by rfl) ?_
              try simp only [Act.put, List.setIfInBounds_toArray, List.set_cons_zero, List.set_cons_succ]
            refine wpS_k_skip (HV2.out) rfl (by rfl) ?_
            try simp only [Act.put, List.setIfInBounds_toArray, List.set_cons_zero, List.set_cons_succ]
            refine wpS_e_skip rfl (by rfl) ?_
            try simp only [Act.put, List.setIfInBounds_toArray, List.set_cons_zero, List.set_cons_succ]
            iterate 1
              refine wpS_t_skip rfl (by rfl) ?_
              try simp only [Act.put, List.setIfInBounds_toArray, List.set_cons_zero, List.set_cons_succ]
            iterate 2
              refine wpS_t rfl (v := ?_) (by rfl) (fun W => ?_) ?_
              rotate_left
              · go_simp
                try rfl
              try simp only [Act.put, List.setIfInBounds_toArray, List.set_cons_zero, List.set_cons_succ]
            refine wpS_done ?_
            go_wp2_with fail
            have hfin : Below W2.heap.size W2 V2 := HKD.out.trans (HV2.out.mono HKD.out.size)
            have hki : (k : Int) + 1 = ((k + 1 : Nat) : Int) := rfl
            rw [hki]
            clear HJ HKD HCm HF H2 HAT
            exact ⟨⟨k + 1, hkm, rfl, hfin⟩, by simp only [intOf, Int.toNat_natCast]; omega⟩
        · obtain rfl : k = M := by omega
          have hMl : ¬ (k : Int) < (m : Int) + 40 := by rw [← HWM.out.2]; exact Int.lt_irrefl _
          have hMe : decide ((k : Int) < (m : Int) + 40) = false := decide_eq_false hMl
          have hwi : wrap64 ((i : Int) + 1) = ((i + 1 : Nat) : Int) := wrap_next (m := 100000) (by have := HH.out.2.2.1; have := HH.out.2.2.2.1; omega) (by decide)
          have HWI := Lib.hid hwi
          have HEND := Lib.hid (HB2.out.trans (hK.mono HB2.out.size))
          clear hwi hK HKK hX
          go_wp2_with fail
          have hfin := HEND.out
          rw [HWI.out]
          clear HF H2 HAT HEND HWM HWI HB2 HB H0
          exact ⟨⟨i + 1, hlt, rfl, hfin⟩, by simp only [intOf, Int.toNat_natCast]; omega⟩
    · have hjn : i = N := by omega
      subst hjn
      go_wp2_with fail
      exact bodyPost_ret (results_tmp rfl _ _ _) rfl ⟨rfl, HB.out⟩
end Go.Proofs.YtfmgoehnbaiamaaGreatDoor
