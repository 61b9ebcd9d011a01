/-
  Joined: BY5, VTB1.
-/
import Derived.Test.YtfmgoehnbaiamaaGreatDoorZBF
import Derived.Test.YtfmgoehnbaiamaaGreatDoorZBE
-- Walk: a Book puts more behind each list of bytes (growByte).
open Go Go.RowKit Alm
namespace Go.Proofs.YtfmgoehnbaiamaaGreatDoor
theorem info_u8B : ∃ i z, Tryz.prog.info? 5 = some i ∧ i.zero = some z ∧ i.size = 1 ∧ i.bytes = 1 ∧ z.cells.size = 1 := by
  have h : (Tryz.prog.info? 5).map (fun i => (i.zero.map fun z => z.cells.size, i.size, i.bytes)) = some (some 1, 1, 1) := by kernel_rfl
  obtain ⟨i, hi, h2⟩ := Option.map_eq_some_iff.1 h
  simp only [Prod.mk.injEq] at h2
  obtain ⟨z, hz, hz2⟩ := Option.map_eq_some_iff.1 h2.1
  exact ⟨i, z, hi, hz, h2.2.1, h2.2.2, hz2⟩
theorem wpList_lit_u8 {w : World} {ops : Array Oper} {rest : List Oper} {o : Oper} {a : Act} {Q : Exit → Act → World → Prop} (hgd : o.guard = none) (x : Operand) (ho : o.op = .buildSlice 39 1 #[(0, x)]) (s : Int) (hx : a.eval x = .int .u8 s)
    (h : wpList Tryz.prog ops Q rest (a.put o.dst (.slice (some ⟨w.heap.size, 0, none⟩) 1 1)) (w.alloc (.cells #[.int .u8 s] 5))) : wpList Tryz.prog ops Q (o :: rest) a w := by
  obtain ⟨i, z, hi, hz, hs, hb, hzs⟩ := info_u8B
  refine wpList_plain hgd fun _ hK => wp_buildSlice _ 5 1 _ ho #[.int .u8 s] i z Tryz.underlying39 hi hz (by rw [hs]; omega) (by rw [hs]; omega) ?_ (hK _ _ h)
  have hp : ((#[(0, x)] : Array (Nat × Operand)).toList.map fun (i, x) => (i, a.eval x)) = (([(.int .u8 s : Value)]).zipIdx 0).map fun x => (x.2, x.1) := by simp [hx]
  rw [Array.toList_map, hp, hs, Great.fill_whole (s := 1) (by omega) [(.int .u8 s : Value)] _ (fun v hv => by rw [List.mem_singleton.1 hv]; rfl) (by simp)]
  simp [Value.cells]
theorem wpList_append_u8G {w : World} {ops : Array Oper} {rest : List Oper} {o : Oper} {a : Act} {Q : Exit → Act → World → Prop} (hgd : o.guard = none) (s x : Operand)
    (ho : o.op = .call { callee := .builtin .append, args := #[s, x], argTypes := #[39, 39] })
    {base B : Nat} {v0 v : Value} {xs ys : List (List Value)} (hs : a.eval s = v) (hG : Grown w base 1 B v0 xs v ys) (hbB : base ≤ B) (hB : B ≤ w.heap.size)
    (ad : Addr) (c : Nat) (y : Int) (hx : a.eval x = .slice (some ad) 1 c) (hc : ∀ j u, ([Value.int .u8 y])[j]? = some u → w.cell? (ad.add j) = some u)
    (hl : xs.length + ys.length < 1000000)
    (h : ∀ v' w', Grown w' base 1 B v0 xs v' (ys ++ [[Value.int .u8 y]]) → Keeps (fun k => v0.ownBlock = some k ∨ B ≤ k) w w' → (∃ a c, v' = .slice a (xs.length + ys.length + 1) c) → wpList Tryz.prog ops Q rest (a.put o.dst v') w') : wpList Tryz.prog ops Q (o :: rest) a w := by
  obtain ⟨i, z, hi, hz, h1, h2, h3⟩ := info_u8B
  exact wpList_plain hgd fun _ hK => wp_append_grown s x _ ho _ i z 1 1 Tryz.underlying39 hi hz h1 h2 h3 (by omega) (by omega) hs hG hbB hB ad c [Value.int .u8 y] hx rfl hc (by simp [Value.oneCell']) hl fun v' w' g1 g2 g3 => hK _ _ (h v' w' g1 g2 g3)
set_option maxRecDepth 100000 in
set_option maxHeartbeats 1000000 in
theorem growByte_any (base q n : Nat) (hv : Value) (F : Nat → Value) (H : List Held) (S : Nat → List (List Value)) (w : World) (hb : Book w q n F) (hF : F 1 = hv) (hrow : Row3 w 136 base q hv H) (hr : Lies w base 1 H S) (ha : ApartH H q hv) (hN : ∀ i, i < H.length → num H i < 256) (hS : ∀ i, i < H.length → (S i).length < 900000) (hH : H.length < 100000) (hL : ∀ i, i < H.length → lng H i = .slice none 0 0) (hbs : base ≤ w.heap.size) :
    Calls Tryz.prog 76 #[.pointer (some ⟨q, 0, none⟩)] w fun e w' => e = .returned (.tuple #[]) ∧ ∃ L, GrowI mkB 1 1 136 w w' base q n F hv H S H.length L := by
  obtain ⟨ah, ch, hform⟩ := hrow.form
  obtain ⟨N, hNN⟩ : ∃ N, N = H.length := ⟨_, rfl⟩
  rw [← hNN] at hform
  subst hform
  have H0 := Lib.hid (GrowI.start (mk := mkB) (off := 1) hb hrow hr)
  have HH := Lib.hid (And.intro ha (And.intro hN (And.intro hS (And.intro hH (And.intro hNN (And.intro hF hbs))))))
  have HLL := Lib.hid hL
  clear hb hF hrow hr ha hN hS hH hL hbs
  rw [← hNN]
  clear hNN
  go_enter Tryz.func76, Tryz.ntmps76
  go_wp2_with fail
  go_loopw [2] (fun iv W => ∃ i : Nat, i ≤ N ∧ iv = .int .i64 (i : Int) ∧ ∃ L, GrowI mkB 1 1 136 w W base q n F (.slice ah N ch) H S i L) (fun iv _ => N - (intOf iv).toNat)
  case atStart => exact ⟨0, by omega, rfl, _, H0.out⟩
  case round =>
    clear H0
    obtain ⟨i, hi, rfl, L, hG⟩ := hrel
    have HB := Lib.hid hG
    have g5 : wr.cell? ⟨q, 1, none⟩ = some (.slice ah N ch) := by rw [← HH.out.2.2.2.2.2.1]; exact hG.book.cs 1 (by omega) (by omega)
    clear hG
    by_cases hlt : i < N
    · have c1 : decide (i < N) = true := by simpa using hlt
      have c1' : decide ((i : Int) < (N : Int)) = true := by simp; omega
      have hj0 : (0 : Int) ≤ (i : Int) := by omega
      have hlt' : (i : Int) < (N : Int) := by omega
      have hiH : i < H.length := by rw [← HH.out.2.2.2.2.1]; exact hlt
      obtain ⟨gH, capH, he, _, _, _, hat⟩ := HB.out.row.at (i := i) (by rw [length_longTo]; exact hiH)
      rw [length_longTo, ← HH.out.2.2.2.2.1] at he
      simp only [Value.slice.injEq, true_and] at he
      obtain ⟨rfl, rfl⟩ := he
      rw [hd_longTo H L i i hiH, if_neg (Nat.lt_irrefl i)] at hat
      have hcl : cellsH (hd H i) = cellsH (lst H i, .slice none 0 0, num H i) := by
        rw [← HLL.out i hiH]; rfl
      rw [hcl] at hat
      obtain ⟨al, cl, hfl⟩ := (HB.out.lies i hiH).form
      rw [hfl] at hat
      obtain ⟨m, hm⟩ : ∃ m, m = (S i).length := ⟨_, rfl⟩
      obtain ⟨nm, hnm⟩ : ∃ x, x = num H i := ⟨_, rfl⟩
      rw [← hm] at hat hfl
      rw [← hnm] at hat
      have hm9 : m < 900000 := by rw [hm]; exact HH.out.2.2.1 i hiH
      have HF := Lib.hid (And.intro hfl (And.intro hm (And.intro hnm (And.intro hiH hm9))))
      clear hfl hm hnm hcl hiH hm9
      have HG := Lib.hid trivial
      have HAT := Lib.hid hat
      clear hat
      go_wp2_with (first
        | (refine wpList_load_heldB rfl _ rfl gH (i * 3) rfl _ HAT.out ?_)
        | (have _ := HG; refine wpList_var_heldB (by rfl) rfl _ _ rfl (.slice al m cl, .slice none 0 0, nm) rfl rfl (by rfl) (by rfl) ?_; clear HG))
      intro W2 hb hr2
      obtain ⟨bx, hbx⟩ : ∃ z, z = wr.heap.size := ⟨_, rfl⟩
      have hbl : bx < W2.heap.size := by (rw [hbx]; exact range_lt hr2 (by simp [cellsH]))
      rw [← hbx] at hr2 ⊢
      have H2 := Lib.hid (And.intro hb (And.intro hr2 (And.intro hbx hbl)))
      have g0 : W2.cell? ⟨bx, 0, none⟩ = some (.slice al m cl) := hr2 0 _ rfl
      clear hb hr2 hbx hbl
      go_wp2_with fail
      have HB2 := Lib.hid (HB.out.below H2.out.1)
      have hst : Grown W2 base 1 W2.heap.size (lst H i) (S i) (lst H i) [] := Grown.start (HB2.out.lies i HF.out.2.2.2.1) (Nat.le_refl _)
      have HS0 := Lib.hid hst
      clear g5 hst g0
      go_loopw [4, 5] (fun lv kv V => ∃ k : Nat, k ≤ 40 ∧ kv = .int .i64 (k : Int) ∧ (∃ a c, lv = .slice a (m + k) c) ∧ Grown V base 1 W2.heap.size (lst H i) (S i) lv (List.replicate k (mkB nm)) ∧ Keeps (fun k => (lst H i).ownBlock = some k ∨ W2.heap.size ≤ k) W2 V ∧ V.rangeAt bx 0 (cellsH (.slice al m cl, .slice none 0 0, nm))) (fun _ kv _ => 40 - (intOf kv).toNat)
      case atStart => exact ⟨0, by omega, rfl, ⟨_, _, rfl⟩, by rw [← HF.out.1]; exact HS0.out, Keeps.refl _ _, H2.out.2.1⟩
      case round =>
        clear HS0
        obtain ⟨k, hk, rfl, ⟨la, lc, rfl⟩, hGr, hK, hX⟩ := hrel
        have HI := Lib.hid (And.intro hGr (And.intro hK hX))
        have g2 : wr.cell? ⟨bx, 2, none⟩ = some (.int .i64 ((nm : Nat) : Int)) := hX 2 _ rfl
        clear hGr hK hX
        by_cases hkm : k < 40
        · have d1' : decide ((k : Int) < 40) = true := by simp; omega
          have hkm' : (k : Int) < 40 := by omega
          have hnm : nm < 256 := by rw [HF.out.2.2.1]; exact HH.out.2.1 i HF.out.2.2.2.1
          have HCm := Lib.hid (fun W => markByte_any nm W hnm)
          have hlk : (S i).length + (List.replicate k (mkB nm)).length < 1000000 := by rw [List.length_replicate, ← HF.out.2.1]; have := HF.out.2.2.2.2; omega
          have HLK := Lib.hid hlk
          have hwk : wrap64 ((k : Int) + 1) = ((k + 1 : Nat) : Int) := wrap_next hkm (by decide)
          have HWK := Lib.hid hwk
          clear hlk hnm hwk
          have HG2 := Lib.hid trivial
          go_wp2_with (first
            | (go_at_call 126; refine (HCm.out _).mono ?_; rintro e wr ⟨rfl, rfl⟩; have Hwr := Lib.hid (Below.refl wr.heap.size wr))
            | (refine wpList_lit_u8 rfl _ rfl ((nm : Nat) : Int) rfl ?_)
            | (have _ := HG2; at_builtin; refine Hid.out ?_; clear HG2))
          refine Lib.hid ?_
          have hba := Alm.al (Below.refl wr.heap.size wr) (.cells #[.int .u8 ((nm : Nat) : Int)] 5)
          refine wpList_append_u8G rfl _ _ rfl (base := base) (B := W2.heap.size) (v0 := lst H i) (xs := S i) (ys := List.replicate k (mkB nm)) rfl ((HI.out.1.below Hwr.out).below hba) (Nat.le_trans HH.out.2.2.2.2.2.2 HB2.out.keep.size) (Nat.le_trans HI.out.2.1.size (Nat.le_trans Hwr.out.size hba.size)) ⟨wr.heap.size, 0, none⟩ 1 ((nm : Nat) : Int) rfl (fun j u hj => by rw [Addr.add_mid]; exact range_new wr #[.int .u8 ((nm : Nat) : Int)] 5 _ rfl j u hj) HLK.out ?_
          intro v4 V4 hg4 hk4 hf4
          obtain ⟨a4, c4, rfl⟩ := hf4
          have H4 := Lib.hid (And.intro hg4 (And.intro hk4 hba))
          clear hg4 hk4 hba
          go_wp2_with fail
          have hg4 := H4.out.1
          rw [show [Value.int .u8 ((nm : Nat) : Int)] = mkB nm from rfl, repl_succ] at hg4
          have hk4 := (HI.out.2.1.trans (Keeps.of_below Hwr.out)).trans ((Keeps.of_below H4.out.2.2).trans H4.out.2.1)
          have hx4 : V4.rangeAt bx 0 (cellsH (.slice al m cl, .slice none 0 0, nm)) := by
            refine H4.out.2.1.range ((Keeps.of_below (X := fun _ => False) H4.out.2.2).range ((Keeps.of_below (X := fun _ => False) Hwr.out).range HI.out.2.2 (fun h => h)) (fun h => h)) (fun e => ?_)
            rcases e with e | e
            · have := ((HB.out.lies i HF.out.2.2.2.1).lt bx e).2
              have := H2.out.2.2.1
              omega
            · have := H2.out.2.2.2; omega
          have hln : (S i).length + (List.replicate k (mkB nm)).length + 1 = m + (k + 1) := by rw [List.length_replicate, ← HF.out.2.1]; omega
          rw [hln] at hg4
          rw [List.length_replicate] at hln
          rw [hln]
          have hki : (k : Int) + 1 = ((k + 1 : Nat) : Int) := rfl
          rw [hki]
          clear H4 Hwr HLK HCm HI HAT
          exact ⟨⟨k + 1, hkm, rfl, ⟨_, _, rfl⟩, hg4, hk4, hx4⟩, by simp only [intOf, Int.toNat_natCast]; omega⟩
        · obtain rfl : k = 40 := by omega
          have hkr : ∀ k, (lst H i).ownBlock = some k ∨ W2.heap.size ≤ k → k = q → False := fun k e h => by
            subst h
            rcases e with e | e
            · exact (HH.out.1 i HF.out.2.2.2.1 k e).1 rfl
            · have := HB2.out.book.lt; omega
          have g5 : wr.cell? ⟨q, 1, none⟩ = some (.slice (some ⟨gH, 0, none⟩) N ch) := by
            rw [← HH.out.2.2.2.2.2.1]
            exact (HB2.out.book.keep HI.out.2.1 (fun e => hkr q e rfl)).cs 1 (by omega) (by omega)
          have hth : wr.frozen? ⟨gH, i * 3 + 1, none⟩ = false ∧ ∃ u, wr.cell? ⟨gH, i * 3 + 1, none⟩ = some u := by
            have hat2 := HI.out.2.1.range ((Keeps.of_below (X := fun _ => False) H2.out.1).range HAT.out (fun h => h)) (fun e => by
              rcases e with e | e
              · exact (HH.out.1 i HF.out.2.2.2.1 gH e).2.1 rfl
              · have := (HB2.out.row.1.lt gH rfl).2; omega)
            refine ⟨?_, _, hat2 1 _ rfl⟩
            have hrw := HB2.out.row.keep HI.out.2.1 (fun k hk2 e => by
              obtain rfl : gH = k := by simpa [Value.ownBlock] using hk2
              rcases e with e | e
              · exact (HH.out.1 i HF.out.2.2.2.1 gH e).2.1 rfl
              · have := (HB2.out.row.1.lt gH rfl).2; omega)
            rcases hrw.1.2 with ⟨h0, _⟩ | ⟨g', cap', cur, he2, hb2, hg2, _⟩
            · cases h0
            · simp only [Value.slice.injEq, Option.some.injEq, Addr.mk.injEq, and_true] at he2
              rw [he2.1]
              exact frozen_of_row wr _ _ _ _ hg2
          obtain ⟨hfz, u1, hu1⟩ := hth
          have HFIN := Lib.hid (HB2.out.next HH.out.1 HF.out.2.2.2.1 (by rw [← HF.out.2.2.1]; exact HI.out.1) HI.out.2.1 rfl)
          have hwi : wrap64 ((i : Int) + 1) = ((i + 1 : Nat) : Int) := wrap_next (m := 100000) (by rw [HH.out.2.2.2.2.1] at hlt; exact Nat.lt_trans hlt HH.out.2.2.2.1) (by decide)
          have HWI := Lib.hid hwi
          clear hkr hwi
          go_wp2_with fail
          have hfin := HFIN.out
          have hwi := HWI.out
          clear HFIN HI HF H2 HB2 HAT HH HLL HWI hfz hu1 g5 g2 HB hkm
          exact ⟨⟨i + 1, hlt, by rw [hwi], _, hfin⟩, by rw [hwi]; simp only [intOf, Int.toNat_natCast]; omega⟩
    · have hjn : i = N := by omega
      subst hjn
      go_wp2_with fail
      exact bodyPost_end (results_none rfl _ _ _) rfl ⟨rfl, _, HB.out⟩
end Go.Proofs.YtfmgoehnbaiamaaGreatDoor
-- Walk: a copy of bytes, with a mark behind it (TwinBytes).
namespace Go.Proofs.YtfmgoehnbaiamaaGreatDoor
/-- Bytes as elements of a list. -/
def ones (l : List UInt8) : List (List Value) := l.map fun b => [u8v b]
theorem ones_len (l : List UInt8) : (ones l).length = l.length := List.length_map _
theorem ones_append (a b : List UInt8) : ones (a ++ b) = ones a ++ ones b := List.map_append
theorem ones_flat (l : List UInt8) : (ones l).flatten = cells8 l := by
  induction l with
  | nil => rfl
  | cons b l ih =>
    have h : ones (b :: l) = [u8v b] :: ones l := rfl
    have h2 : cells8 (b :: l) = u8v b :: cells8 l := rfl
    rw [h, List.flatten_cons, ih, h2]; rfl
theorem bcl {w V : World} (hV : Below w.heap.size w V) {a : Addr} {v : Value} (h : w.cell? a = some v) : V.cell? a = some v := (Keeps.of_below (X := fun _ => False) hV).cell h (fun h => h)
/-- A copy of bytes: they lie with a mark behind them. -/
def TwinB (W : World) (base : Nat) (v : Value) (l : List UInt8) : Prop := ∃ g cap, v = .slice (some ⟨g, 0, none⟩) l.length cap ∧ Lie W base 1 (.slice (some ⟨g, 0, none⟩) (l.length + 1) cap) (ones (l ++ [77]))
theorem TwinB.lie {W : World} {base : Nat} {v : Value} {l : List UInt8} (h : TwinB W base v l) : Lie W base 1 v (ones l) := by
  obtain ⟨g, cap, rfl, h⟩ := h
  rw [ones_append] at h
  exact h.front (by rw [ones_len])
theorem lie_bytes {W : World} {base : Nat} {v : Value} {l : List UInt8} (h : Lie W base 1 v (ones l)) : BytesAt W v l := by
  rcases h with ⟨rfl, h0⟩ | ⟨g, cap, rfl, hb, hg, hnc, hcm, hr, ht, hl⟩
  · have : l = [] := List.length_eq_zero_iff.1 (by rw [← ones_len, h0]; rfl)
    subst this
    exact ⟨none, 0, rfl, Nat.le_refl _, by unfold maxLen; omega, .inl rfl⟩
  · rw [ones_len] at hnc ⊢
    rw [ones_flat] at hr
    exact ⟨_, cap, rfl, hnc, hcm, .inr ⟨g, 0, rfl, hr⟩⟩
theorem TwinB.bytes {W : World} {base : Nat} {v : Value} {l : List UInt8} (h : TwinB W base v l) : BytesAt W v l := lie_bytes h.lie
theorem TwinB.keep {X : Nat → Prop} {W W' : World} {base : Nat} {v : Value} {l : List UInt8} (h : TwinB W base v l) (hk : Keeps X W W') (hx : ∀ k, v.ownBlock = some k → ¬ X k) : TwinB W' base v l := by
  obtain ⟨g, cap, rfl, h⟩ := h
  exact ⟨g, cap, rfl, h.keep hk (fun k hk2 => hx k hk2)⟩
theorem TwinB.below {W W' : World} {base : Nat} {v : Value} {l : List UInt8} (h : TwinB W base v l) (hb : Below W.heap.size W W') : TwinB W' base v l := h.keep (Keeps.of_below (X := fun _ => False) hb) (fun _ _ h => h)
theorem bytes_form8 {w : World} {v : Value} {l : List UInt8} (h : BytesAt w v l) (h0 : l ≠ []) : ∃ b o cap, v = .slice (some ⟨b, o, none⟩) l.length cap ∧ l.length ≤ cap ∧ cap ≤ maxLen ∧ w.rangeAt b o (cells8 l) := by
  obtain ⟨a, cap, rfl, h1, h2, h3⟩ := h
  obtain ⟨b, o, rfl, hr⟩ := h3.resolve_left h0
  exact ⟨b, o, cap, rfl, h1, h2, hr⟩
theorem range_at8 {w : World} {b o : Nat} {l : List UInt8} (h : w.rangeAt b o (cells8 l)) {i : Nat} (hi : i < l.length) : w.cell? ⟨b, o + i, none⟩ = some (.int .u8 ((l[i].toNat : Nat) : Int)) := by
  have := h i (u8v l[i]) (by simp [cells8, hi])
  exact this
set_option maxRecDepth 100000 in
set_option maxHeartbeats 1000000 in
theorem twin_bytes (l : List UInt8) (v : Value) (w : World) (hv : BytesAt w v l) (hl : l.length < 900000) : Calls Tryz.prog 26 #[v] w fun e w' => ∃ v', e = .returned v' ∧ TwinB w' w.heap.size v' l ∧ Below w.heap.size w w' := by
  have hv0 := hv
  obtain ⟨va, vc, rfl, hc1, hc2, h3⟩ := hv
  obtain ⟨n, hn⟩ : ∃ n, n = l.length := ⟨_, rfl⟩
  rw [← hn] at hc1 hv0 hl ⊢
  obtain ⟨n1, hn1⟩ : ∃ m, m = n + 1 := ⟨_, rfl⟩
  have hw1 := twin_nums hl
  rw [← hn1] at hw1
  obtain ⟨i0, z0, hi0, hz0, hs0, hb0, hzs0⟩ := info_u8B
  have HI := Lib.hid (And.intro hi0 (And.intro hz0 (And.intro hs0 hb0)))
  have HV := Lib.hid (And.intro hv0 (And.intro hn (And.intro hc1 (And.intro hc2 (And.intro hl hn1)))))
  clear hv0 hn hc1 hc2 hl hn1 hi0 hz0 hs0 hb0 hzs0 h3
  go_enter Tryz.func26, Tryz.ntmps26
  go_wp2_with (at_make; refine Hid.out ?_)
  refine Lib.hid ?_
  try rw [hw1]
  refine wpList_make_own _ rfl _ _ _ rfl w.heap.size 5 i0 z0 1 Tryz.underlying39 HI.out.1 HI.out.2.1 HI.out.2.2.1 .i64 .i64 (n1 : Int) n1 rfl (by rfl) rfl (by rw [HI.out.2.2.2]; have := HV.out; omega) (by unfold maxLen; have := HV.out; omega) (Nat.le_refl _) ?_
  intro w2 ho2 hg2
  have hb2 : Below w.heap.size w w2 := Keeps.below (B := w.heap.size) (Keeps.of_grown (X := fun _ => False) hg2 (fun k hk => by cases hk)) (Nat.le_refl _) (fun _ h => h.elim)
  have hlie : Lie w2 w.heap.size 1 (.slice (some ⟨w.heap.size, 0, none⟩) 0 n1) [] := lie_own (xs := []) ho2 rfl (fun x hx => by cases hx)
  have H2 := Lib.hid (And.intro (Grown.start (B := w2.heap.size) hlie (Nat.le_refl _)) (And.intro hb2 hg2.size))
  clear ho2 hg2 hb2 hlie
  go_wp2_with fail
  go_loopw [3, 4] (fun tv iv W => ∃ i : Nat, i ≤ n ∧ iv = .int .i64 (i : Int) ∧ (∃ a c, tv = .slice a i c) ∧ Grown W w.heap.size 1 w2.heap.size (.slice (some ⟨w.heap.size, 0, none⟩) 0 n1) [] tv (ones (l.take i)) ∧ Below w.heap.size w W ∧ w2.heap.size ≤ W.heap.size) (fun _ iv _ => n - (intOf iv).toNat)
  case atStart => exact ⟨0, Nat.zero_le _, rfl, ⟨_, _, rfl⟩, H2.out.1, H2.out.2.1, Nat.le_refl _⟩
  case round =>
    obtain ⟨i, hi, rfl, ⟨ta, tc, rfl⟩, hG, hB, hS⟩ := hrel
    have HG := Lib.hid (And.intro hG (And.intro hB hS))
    clear hG hB hS
    by_cases hlt : i < n
    · obtain ⟨d1, d2, d3, d4⟩ := dec_lt hlt
      have hil : i < l.length := by rw [← HV.out.2.1]; exact hlt
      have hne : l ≠ [] := by intro h; rw [h] at hil; simp at hil
      obtain ⟨b, o, cap', hvf, _, _, hr⟩ := bytes_form8 HV.out.1 hne
      simp only [Value.slice.injEq] at hvf
      obtain ⟨rfl, -, rfl⟩ := hvf
      have hx := bcl HG.out.2.1 (range_at8 hr hil)
      have htk : True := trivial
      have hst : ones (l.take (i + 1)) = ones (l.take i) ++ [[u8v l[i]]] := by rw [List.take_succ_eq_append_getElem hil, ones_append]; rfl
      clear htk
      have htk := hst
      clear hst
      generalize l[i] = s at *
      have HX := Lib.hid (And.intro hx htk)
      clear hx htk hr hne hil
      have hxc := HX.out.1
      go_wp2_with (refine wpList_lit_u8 rfl _ rfl ((s.toNat : Nat) : Int) rfl ?_; refine Hid.out ?_)
      refine Lib.hid ?_
      try simp only [Act.put, List.setIfInBounds_toArray, List.set_cons_zero, List.set_cons_succ]
      have hba := Alm.al (Below.refl wr.heap.size wr) (.cells #[.int .u8 ((s.toNat : Nat) : Int)] 5)
      refine wpList_append_u8G (base := w.heap.size) (B := w2.heap.size) (v0 := .slice (some ⟨w.heap.size, 0, none⟩) 0 n1) (xs := []) (ys := ones (l.take i)) rfl _ _ rfl rfl (HG.out.1.below hba) H2.out.2.1.size (Nat.le_trans HG.out.2.2 hba.size) ⟨wr.heap.size, 0, none⟩ 1 ((s.toNat : Nat) : Int) rfl (fun j u hj => by rw [Addr.add_mid]; exact range_new wr #[.int .u8 ((s.toNat : Nat) : Int)] 5 _ rfl j u hj) (by rw [ones_len, List.length_take]; have := HV.out; simp; omega) ?_
      intro v4 V4 hg4 hk4 hf4
      obtain ⟨a4, c4, rfl⟩ := hf4
      have hb4 := hk4.below (B := w.heap.size) (Nat.le_trans HG.out.2.1.size hba.size) (fun k h => by
        rcases h with h | h
        · simp only [Value.ownBlock, Option.some.injEq] at h; omega
        · exact Nat.le_trans H2.out.2.1.size h)
      have hu8 : ([[Value.int .u8 ((s.toNat : Nat) : Int)]] : List (List Value)) = [[u8v s]] := rfl
      rw [hu8, ← HX.out.2] at hg4
      have hln : ([] : List (List Value)).length + (ones (l.take i)).length + 1 = i + 1 := by rw [ones_len, List.length_take, List.length_nil]; have := HV.out; omega
      rw [hln] at hg4 ⊢
      have H4 := Lib.hid (And.intro hg4 (And.intro ((HG.out.2.1.trans (hba.mono HG.out.2.1.size)).trans hb4) (Nat.le_trans HG.out.2.2 (Nat.le_trans hba.size hk4.size))))
      clear hg4 hb4 hk4 hba hln
      go_wp2_with fail
      have h4 := H4.out
      have hwi := wrapn (k := i) (by have := HV.out; omega)
      try rw [hwi]
      clear hwi
      clear H4 HG HX HV H2 HI d1 d2 d3 d4
      refine ⟨⟨i + 1, hlt, rfl, ⟨_, _, rfl⟩, h4⟩, ?_⟩
      clear h4
      simp only [intOf, Int.toNat_natCast]
      omega
    · obtain rfl : i = n := by omega
      have htk : l.take i = l := List.take_of_length_le (by rw [← HV.out.2.1]; exact Nat.le_refl _)
      rw [htk] at HG
      clear htk
      have hne : HG = HG := rfl
      clear hne
      go_wp2_with (refine wpList_lit_u8 rfl _ rfl (77 : Int) rfl ?_; refine Hid.out ?_)
      refine Lib.hid ?_
      try simp only [Act.put, List.setIfInBounds_toArray, List.set_cons_zero, List.set_cons_succ]
      have hba := Alm.al (Below.refl wr.heap.size wr) (.cells #[.int .u8 77] 5)
      refine wpList_append_u8G (base := w.heap.size) (B := w2.heap.size) (v0 := .slice (some ⟨w.heap.size, 0, none⟩) 0 n1) (xs := []) (ys := ones l) rfl _ _ rfl rfl (HG.out.1.below hba) H2.out.2.1.size (Nat.le_trans HG.out.2.2 hba.size) ⟨wr.heap.size, 0, none⟩ 1 77 rfl (fun j u hj => by rw [Addr.add_mid]; exact range_new wr #[.int .u8 77] 5 _ rfl j u hj) (by rw [ones_len]; have := HV.out; simp; omega) ?_
      intro v4 V4 hg4 hk4 hf4
      have hb4 := hk4.below (B := w.heap.size) (Nat.le_trans HG.out.2.1.size hba.size) (fun k h => by
        rcases h with h | h
        · simp only [Value.ownBlock, Option.some.injEq] at h; omega
        · exact Nat.le_trans H2.out.2.1.size h)
      have hu8 : ones l ++ [[Value.int .u8 77]] = ones (l ++ [77]) := by rw [ones_append]; rfl
      rw [hu8] at hg4
      have hlie := hg4.now
      rw [List.nil_append] at hlie
      have hcap : ∃ g cap, v4 = .slice (some ⟨g, 0, none⟩) (i + 1) cap ∧ i + 1 ≤ cap := by
        rcases hlie with ⟨_, h0⟩ | ⟨g, cap, hv4, _, _, hnc, _⟩
        · have h9 := congrArg List.length h0; rw [ones_len] at h9; simp at h9
        · have e : (ones (l ++ [77])).length = i + 1 := by rw [ones_len, List.length_append, List.length_singleton, ← HV.out.2.1]
          rw [e] at hv4 hnc
          exact ⟨g, cap, hv4, hnc⟩
      obtain ⟨g, cap, rfl, hcp⟩ := hcap
      have hi3 : (i : Int) ≤ (cap : Int) := by omega
      have hi4 : i ≤ cap := by omega
      have HF := Lib.hid (show TwinB V4 w.heap.size (.slice (some ⟨g, 0, none⟩) i cap) l from ⟨g, cap, by rw [← HV.out.2.1], by rw [← HV.out.2.1]; exact hlie⟩)
      have HB4 := Lib.hid ((HG.out.2.1.trans (hba.mono HG.out.2.1.size)).trans hb4)
      clear hg4 hb4 hk4 hba hlie hf4
      go_wp2_with fail
      refine bodyPost_ret (results_tmp rfl _ _ _) rfl ?_
      exact ⟨_, rfl, HF.out, HB4.out⟩
end Go.Proofs.YtfmgoehnbaiamaaGreatDoor
