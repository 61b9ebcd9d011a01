/-
  Joined: R9, BK1, BK2.
-/
import Derived.Test.YtfmgoehnbaiamaaGreatDoorZAY
import Derived.Test.YtfmgoehnbaiamaaGreatDoorZAM
import Derived.Test.YtfmgoehnbaiamaaGreatDoorZAK
import Derived.Test.YtfmgoehnbaiamaaGreatDoorZAL
import Derived.Test.YtfmgoehnbaiamaaGreatDoorW0
import Derived.Stop.BytesEq
-- Walks: the document's sum: Of.
open Go Go.RowKit Alm
namespace Go.Proofs.YtfmgoehnbaiamaaGreatDoor
theorem length_rfull_lt (l : List UInt8) : (rfull l).length ≤ l.length + 72 := by
  rw [rfull, List.length_append, length_rend]; omega
theorem wpList_append_none {ops : Array Oper} {rest : List Oper} {o : Oper} {a : Act} {w : World} {Q : Exit → Act → World → Prop} (hgd : o.guard = none) (s x : Operand)
    (ho : o.op = .call { callee := .builtin .append, args := #[s, x], argTypes := #[39, 39] }) (hs : a.eval s = .slice none 0 0) (ad : Option Addr) (c : Nat) (hx : a.eval x = .slice ad 0 c)
    (h : wpList Tryz.prog ops Q rest (a.put o.dst (.slice none 0 0)) w) : wpList Tryz.prog ops Q (o :: rest) a w := by
  obtain ⟨i, hi, hz⟩ := Option.map_eq_some_iff.1 infoByteZ
  refine wpList_plain hgd fun K hK => ?_
  have hrun : (Builtin.append_ #[39, 39] o.type #[.slice none 0 0, .slice ad 0 c]).run Tryz.prog w = .ok (.slice none 0 0) w := by
    have hf : (Builtin.firstCells i.size 0 (.slice ad 0 c)).run Tryz.prog w = .ok #[] w := by
      cases ad with
      | none => exact run_firstCells_none w i.size 0 0 c
      | some a' => exact run_firstCells_some w i.size 0 a' 0 c [] (by simp) (by intro _ _ h'; simp at h')
    simp [Builtin.append_, run_underlying Tryz.underlying39, sizeOf, typeInfo, hi, Builtin.lenOf, hf]
  unfold Oper.wp
  simp only [execOp, ho, resolve, invoke, builtin, List.map_toArray, List.map_cons, List.map_nil, hs, hx, Sem.run_bind, Sem.run_pure, Result.andThen_ok, hrun]
  exact hK _ _ h
theorem own_bytes_range {w : World} {base : Nat} {e : TypeId} {v : Value} {l : List UInt8} {n : Nat} (h : w.ownsRow base e 1 v n (cells8 l)) (hn : 1 ≤ n) : ∃ g cap, v = .slice (some ⟨g, 0, none⟩) n cap ∧ n ≤ cap ∧ cap ≤ maxLen ∧ base ≤ g ∧ g < w.heap.size ∧ w.rangeAt g 0 (cells8 l) := by
  rcases h.2 with ⟨rfl, h0⟩ | ⟨g, cap, cur, rfl, h4, hg, hnc, hcm, hsz, htk⟩
  · omega
  · refine ⟨g, cap, rfl, hnc, hcm, h4, (Array.getElem?_eq_some_iff.1 hg).1, fun j v hj => ?_⟩
    rw [cell_of_row w g _ cur e (0, 0) hg, Nat.zero_add]
    rw [← htk, List.getElem?_take] at hj
    split at hj
    · simpa using hj
    · cases hj
theorem own_bytes_below {w w' : World} {base : Nat} {e : TypeId} {v : Value} {l : List UInt8} {n : Nat} (h : w.ownsRow base e 1 v n (cells8 l)) (hb : Below w.heap.size w w') : w'.ownsRow base e 1 v n (cells8 l) := (Keeps.of_below (X := fun _ => False) hb).owns h (fun _ _ h => h)
theorem cells8_dropL (l : List UInt8) (n : Nat) : (cells8 l).drop n = cells8 (l.drop n) := by simp [cells8, List.map_drop]
theorem cells8_takeL (l : List UInt8) (n : Nat) : (cells8 l).take n = cells8 (l.take n) := by simp [cells8, List.map_take]
/-- A part of bytes that lie somewhere. -/
theorem bytes_part {w : World} {g n c at_ : Nat} {l : List UInt8} (hr : w.rangeAt g 0 (cells8 l)) (h1 : at_ + 64 ≤ l.length) (h2 : l.length = n) (hc : n ≤ c) (hm : c ≤ maxLen) : BytesAt w (.slice (some ⟨g, at_, none⟩) 64 (c - at_)) ((l.drop at_).take 64) := by
  have hl : ((l.drop at_).take 64).length = 64 := by rw [List.length_take, List.length_drop]; omega
  refine ⟨_, c - at_, by rw [hl], by rw [hl]; omega, by omega, .inr ⟨g, at_, rfl, fun j v hj => ?_⟩⟩
  rw [← cells8_takeL, ← cells8_dropL, List.getElem?_take, List.getElem?_drop] at hj
  split at hj
  · have := hr _ _ hj
    rwa [Nat.zero_add] at this
  · cases hj
/-- What stands in some bytes, put behind none. -/
theorem wpList_append_nilB {ops : Array Oper} {rest : List Oper} {o : Oper} {a : Act} {w : World} {Q : Exit → Act → World → Prop} (hgd : o.guard = none) (s x : Operand)
    (ho : o.op = .call { callee := .builtin .append, args := #[s, x], argTypes := #[39, 39] }) (hs : a.eval s = .slice none 0 0) (v : Value) (l : List UInt8) (n : Nat) (hn : n = l.length) (hx : a.eval x = v) (hv : BytesAt w v l) (hl : n < 4000000000)
    (h : ∀ v1 w1, w1.ownsRow w.heap.size 5 1 v1 n (cells8 l) → Below w.heap.size w w1 → wpList Tryz.prog ops Q rest (a.put o.dst v1) w1) : wpList Tryz.prog ops Q (o :: rest) a w := by
  subst hn
  obtain ⟨va, vc, rfl, hvc, hvm, h3⟩ := hv
  rcases h3 with h0 | ⟨b, off, rfl, hr⟩
  · subst h0
    exact wpList_append_none hgd s x ho hs va vc hx (h _ _ (World.ownsRow_nil _ _ _ _) (Below.refl _ _))
  · by_cases h0 : l = []
    · subst h0
      exact wpList_append_none hgd s x ho hs _ vc hx (h _ _ (World.ownsRow_nil _ _ _ _) (Below.refl _ _))
    · have hp := List.length_pos_iff.2 h0
      refine wpList_append_b8 hgd s x ho w.heap.size _ [] l 0 l.length rfl rfl hs (World.ownsRow_nil _ _ _ _) b off vc hx hr hp (by omega) (Nat.le_refl _) ?_
      intro g cap w' h1 h2 h3 h4
      rw [Nat.zero_add] at h1 ⊢
      exact h _ _ h1 (own_grown (Below.refl _ _) (World.ownsRow_nil w w.heap.size 5 1) h2 (Nat.le_refl _))
theorem wp_load_eight {op : Oper} {a : Act} {w : World} {K : Act → World → Prop} {Q : Exit → Act → World → Prop} (x : Operand) (ho : op.op = .load 201 x)
    (b : Nat) (hx : a.eval x = .pointer (some ⟨b, 0, none⟩)) (l : List UInt32) (hl : l.length = 8) (hc : w.rangeAt b 0 (cells32 l)) (h : K (a.put op.dst (.agg (cells32 l).toArray)) w) : op.wp Tryz.prog a w K Q :=
  wp_load_mid _ x ho b 0 hx (cells32 l) _ hc Tryz.underlying201 rfl (by unfold cells32; rw [List.length_map, hl]; exact infoEight) h
theorem wp_store_eight {op : Oper} {a : Act} {w : World} {K : Act → World → Prop} {Q : Exit → Act → World → Prop} (x y : Operand) (ho : op.op = .store 201 x y)
    (b : Nat) (hx : a.eval x = .pointer (some ⟨b, 0, none⟩)) (l : List UInt32) (hl : l.length = 8) (hy : a.eval y = .agg (cells32 l).toArray) (ht : w.there b 0 8)
    (h : K (a.put op.dst undef) (w.setCells b 0 (cells32 l))) : op.wp Tryz.prog a w K Q :=
  wp_store_mid _ x y ho b 0 _ hx hy (by rw [size_c32 hl]; exact ht) (by rw [size_c32 hl]; exact infoEight) (all_cells32 _) h
theorem of_nums {a N cap : Nat} (h : a + 64 ≤ N) (hc : N ≤ cap) (hN : N < 2000000) : decide (a < N) = true ∧ decide ((a : Int) < (N : Int)) = true ∧ (a : Int) < (N : Int) ∧ IntKind.i64.wrap ((a : Int) + 64) = ((a + 64 : Nat) : Int) ∧ wrap64 ((a : Int) + 64) = ((a + 64 : Nat) : Int) ∧ (0 : Int) ≤ (a : Int) ∧ (a : Int) ≤ ((a + 64 : Nat) : Int) ∧ ((a + 64 : Nat) : Int) ≤ (cap : Int) ∧ (a + 64 : Nat) - a = 64 ∧ ¬ cap = a := by
  refine ⟨by simp; omega, by simp; omega, by omega, by rw [IntKind.wrap_i64]; omega, by unfold wrap64; omega, by omega, by omega, by omega, by omega, by omega⟩
theorem keepsC8 (b : Nat) : ∀ (vs : List Value) (o : Nat) (w : World), Keeps (· = b) w (w.setCells b o vs)
  | [], _, _ => Keeps.refl _ _
  | v :: r, o, w => by
    rw [World.setCells]
    exact ((Keeps.refl (· = b) w).setCell (p := ⟨b, o, none⟩) (.inl rfl) v).trans (keepsC8 b r (o + 1) _)
set_option maxRecDepth 100000 in
set_option maxHeartbeats 2000000 in
/-- From the bytes on, with what stands behind them: block by block. -/
theorem refof_any (l : List UInt8) (v : Value) (w : World) (hv : BytesAt w v l) (hl : l.length < 1000000) : Calls Tryz.prog 117 #[v] w fun e w' => e = .returned (sv (sha l)) ∧ Below w.heap.size w w' := by
  obtain ⟨N, hN⟩ : ∃ N, N = (rfull l).length := ⟨_, rfl⟩
  have hN64 : N % 64 = 0 := by rw [hN]; exact length_rfull l
  have hNl : N ≤ l.length + 72 := by rw [hN]; exact length_rfull_lt l
  have hNp : 1 ≤ N := by rw [hN, rfull, List.length_append, length_rend]; omega
  have hth := there_new w (cells8 (List.replicate 32 0)).toArray 24
  have hB0 := al (Below.refl w.heap.size w) (.cells (cells8 (List.replicate 32 0)).toArray 24)
  have hv1 := bytes_below hv hB0 (Nat.le_refl _)
  obtain ⟨va, vc, rfl, hvc, hvm, h3⟩ := hv
  have HV := Lib.hid (And.intro hv1 (And.intro h3 (And.intro hvc hvm)))
  have HB := Lib.hid (And.intro hB0 hth)
  have HN := Lib.hid (And.intro hN (And.intro hN64 (And.intro hNl (And.intro hNp hl))))
  obtain ⟨n, hn⟩ : ∃ n, n = l.length := ⟨_, rfl⟩
  rw [← hn]
  have HNN := Lib.hid hn
  clear hN hN64 hNl hNp hth hB0 hv1 h3 hvc hvm hl hn
  go_enter Tryz.func117, Tryz.ntmps117
  go_wp2_with (at_builtin; refine Hid.out ?_)
  refine Lib.hid ?_
  change wpList _ _ _ _ _ (w.alloc (.cells (cells8 (List.replicate 32 0)).toArray 24))
  generalize w.alloc (.cells (cells8 (List.replicate 32 0)).toArray 24) = w0 at *
  have hvn := HV.out.1
  rw [← HNN.out] at hvn
  refine wpList_append_nilB rfl _ _ rfl rfl (.slice va n vc) l n HNN.out rfl hvn (by rw [HNN.out]; have := HN.out.2.2.2.2; omega) ?_
  intro v1 w1 ho1 hb1
  have H1 := Lib.hid (And.intro ho1 hb1)
  have hn9 : n < 1000000000 := by rw [HNN.out]; have := HN.out.2.2.2.2; omega
  have HE := Lib.hid (refend_any n w1 hn9)
  clear ho1 hb1 hvn hn9
  go_wp2_with (first
    | (go_at_call 156; refine HE.out.mono ?_; rintro e w2 ⟨v2, rfl, ho2, hb2⟩; refine Hid.out ?_))
  refine Lib.hid ?_
  have hrl : 1 ≤ (rend n).length := by rw [length_rend]; omega
  obtain ⟨g2, c2, rfl, _, _, hg2, hg2', hr2⟩ := own_bytes_range ho2 hrl
  have hb12 := HB.out.1.trans (H1.out.2.mono HB.out.1.size)
  have H2b : w0.heap.size ≤ w2.heap.size := Nat.le_trans H1.out.2.size hb2.size
  have HS2 := Lib.hid H2b
  clear H2b
  have HT2 := Lib.hid ((Keeps.of_below (X := fun _ => False) hb2).there ((Keeps.of_below (X := fun _ => False) H1.out.2).there HB.out.2 (by decide) (fun h => h)) (by decide) (fun h => h))
  have H2 := Lib.hid (And.intro (own_bytes_below H1.out.1 hb2) (And.intro hr2 (And.intro (hb12.trans (hb2.mono hb12.size)) (And.intro hrl (length_rend n)))))
  obtain ⟨m, hm⟩ : ∃ m, m = (rend n).length := ⟨_, rfl⟩
  rw [← hm]
  have HM := Lib.hid hm
  clear ho2 hb2 hr2 hrl hg2 hg2' hb12 hm HE
  go_wp2_with (at_builtin; refine Hid.out ?_)
  refine Lib.hid ?_
  have hnN : n + m = N := by rw [HM.out, HN.out.1, rfull, List.length_append, ← HNN.out]
  refine wpList_append_b8 rfl _ _ rfl w0.heap.size v1 l (rend n) n m HNN.out.symm HM.out.symm rfl H2.out.1 g2 0 c2 rfl H2.out.2.1 (by rw [HM.out]; exact H2.out.2.2.2.1) (by rw [hnN]; have := HN.out.2.2.1; have := HN.out.2.2.2.2; omega) HS2.out ?_
  intro g cap w3 ho3 hg3 hc31 hc32
  have hrf : l ++ rend n = rfull l := by rw [rfull, ← HNN.out]
  rw [hrf] at ho3
  rw [hnN] at ho3 hc31 ⊢
  have hlt0 : w.heap.size < w0.heap.size := there_lt HB.out.2 (by decide)
  have hb3 := own_grown H2.out.2.2.1 (own_mono H2.out.1 (Nat.le_of_lt hlt0)) hg3 (Nat.le_trans (Nat.le_of_lt hlt0) HS2.out)
  have ht3 : w3.there w.heap.size 0 32 := (Keeps.of_grown (X := fun k => v1.ownBlock = some k) hg3 (fun k h => h)).there HT2.out (by decide) (fun e => by
    have := (H2.out.1.lt _ e).1
    omega)
  have H3 := Lib.hid (And.intro ho3 (And.intro hc31 (And.intro hc32 (And.intro hb3 ht3))))
  have HBG := Lib.hid (refbegin_any w3)
  clear hnN ho3 hc31 hc32 hg3 hrf hlt0 hb3 ht3 HT2 HS2 H2 H1 HV
  go_wp2_with (first
    | (go_at_call 157; refine HBG.out.mono ?_; rintro e w4 ⟨rfl, hb4⟩; refine Hid.out ?_))
  refine Lib.hid ?_
  have H4 := Lib.hid (And.intro (own_bytes_below H3.out.1 hb4) (And.intro (H3.out.2.2.2.1.trans (hb4.mono H3.out.2.2.2.1.size)) ((Keeps.of_below (X := fun _ => False) hb4).there H3.out.2.2.2.2 (by decide) (fun h => h))))
  have HC := Lib.hid (And.intro H3.out.2.1 H3.out.2.2.1)
  clear hb4 H3 HBG HB HM
  obtain ⟨N8, hN8⟩ : ∃ x : Nat, x = w4.heap.size := ⟨_, rfl⟩
  have hE4 : (w4.alloc (.cells (cells32 (List.replicate 8 0)).toArray 201)).there w4.heap.size 0 8 := (Row32.new (t := 201) (W := w4) _ rfl rfl).there
  have hR4 : Row32 ((w4.alloc (.cells (cells32 (List.replicate 8 0)).toArray 201)).setCells w4.heap.size 0 (cells32 begin8)) w4.heap.size 201 begin8 := (Row32.new (t := 201) (W := w4) _ rfl rfl).whole rfl
  have HE4 := Lib.hid (And.intro hE4 hR4)
  clear hE4 hR4
  go_wp2_with (refine wpList_store_eight rfl _ _ rfl w4.heap.size rfl begin8 rfl rfl HE4.out.1 ?_)
  have hkeep : Below w4.heap.size w4 ((w4.alloc (.cells (cells32 (List.replicate 8 0)).toArray 201)).setCells w4.heap.size 0 (cells32 begin8)) := setCells_below _ (Nat.le_refl _) _ _ _ _ (al (Below.refl _ _) _)
  have hgl : g < w4.heap.size := (H4.out.1.lt g rfl).2
  have H5 := Lib.hid (And.intro (own_bytes_below H4.out.1 hkeep) (And.intro (H4.out.2.1.trans (hkeep.mono H4.out.2.1.size)) (And.intro ((Keeps.of_below (X := fun _ => False) hkeep).there H4.out.2.2 (by decide) (fun h => h)) HE4.out.2)))
  have HL := Lib.hid (And.intro hgl (And.intro H4.out.2.1.size (there_lt H4.out.2.2 (by decide))))
  clear hkeep hgl HE4 H4
  rw [← hN8] at HL H5 ⊢
  clear hN8
  go_loopw [5] (fun v V => ∃ k : Nat, 64 * k ≤ N ∧ v = .int .i64 (64 * (k : Int)) ∧ V.ownsRow w0.heap.size 5 1 (.slice (some ⟨g, 0, none⟩) N cap) N (cells8 (rfull l)) ∧ Below w.heap.size w V ∧ V.there w.heap.size 0 32 ∧ Row32 V N8 201 (rblocks begin8 (rfull l) k)) (fun v _ => N - (intOf v).toNat)
  case atStart => exact ⟨0, by omega, rfl, H5.out⟩
  case round =>
    clear H5
    obtain ⟨k, hk, rfl, hO, hB, hT, hR⟩ := hrel
    obtain ⟨at_, hat⟩ : ∃ a, a = 64 * k := ⟨_, rfl⟩
    rw [show (64 : Int) * (k : Int) = (at_ : Int) by rw [hat]; rfl]
    rw [← hat] at hk
    by_cases hlt : at_ < N
    · have hle : at_ + 64 ≤ N := by have := HN.out.2.1; omega
      have hN2 : N < 2000000 := by have := HN.out.2.2.1; have := HN.out.2.2.2.2; omega
      obtain ⟨c1, c2', c3, c4, c5, c6, c7, c8, c9, c10⟩ := of_nums hle HC.out.1 hN2
      obtain ⟨b, hb⟩ : ∃ b, b = at_ + 64 := ⟨_, rfl⟩
      rw [← hb] at c4 c5 c7 c8 c9
      have hd := (Below.refl wr.heap.size wr).drew
      have HI := Lib.hid (And.intro (own_bytes_below hO hd) (And.intro hB.drew (And.intro ((Keeps.of_below (X := fun _ => False) hd).there hT (by decide) (fun h => h)) (show Row32 wr.drew N8 201 (rblocks begin8 (rfull l) k) from hR))))
      have HA := Lib.hid (And.intro hat (And.intro hb (And.intro hle c9)))
      clear hO hB hT hR hat hb hle hN2 hd
      go_wp2_with fail
      refine wp_region_sched (fun V => Below wr.drew.heap.size wr.drew V) [.t 1, .t 2, .t 3, .t 4, .t 5, .e 0 false, .e 6 false, .e 7 false] (by kernel_rfl) (by kernel_rfl) (by intro c a d v w h; cases d <;> exact h) ?_
      generalize wr.drew = V at *
      iterate 5
        refine wpS_t rfl (v := ?_) (by rfl) (fun W => ?_) ?_
        rotate_left
        · go_simp
          try rfl
        try simp only [Act.put, List.setIfInBounds_toArray, List.set_cons_zero, List.set_cons_succ]
      have hlen := length_rblocks begin8 (rfull l) rfl k
      have HLN := Lib.hid hlen
      clear hlen
      refine wpS_e rfl (by rfl) (fun K hK => ?_)
      refine wp_load_eight _ rfl N8 (by rfl) _ HLN.out HI.out.2.2.2.range ?_
      refine hK _ _ ?_; clear hK K
      try simp only [Act.put, List.setIfInBounds_toArray, List.set_cons_zero, List.set_cons_succ]
      have hbp := bytes_part (at_ := at_) (g := g) (n := N) (c := cap) (l := rfull l) (by
        obtain ⟨g', c', he, _, _, _, _, hr⟩ := own_bytes_range HI.out.1 HN.out.2.2.2.1
        simp only [Value.slice.injEq, Option.some.injEq, Addr.mk.injEq, and_true, true_and] at he
        rw [he.1]; exact hr) (by rw [← HN.out.1]; exact HA.out.2.2.1) HN.out.1.symm HC.out.1 HC.out.2
      have hst : rblocks begin8 (rfull l) (k + 1) = took (rblocks begin8 (rfull l) k) (((rfull l).drop at_).take 64) := by
        rw [rblocks, rtook_eq _ _ HLN.out, HA.out.1]
      have HST := Lib.hid hst
      have hcb : (((rfull l).drop at_).take 64).length = 64 := by rw [List.length_take, List.length_drop, ← HN.out.1]; have := HA.out.2.2.1; omega
      have HTK := Lib.hid (take_any _ _ V g at_ (cap - at_) HLN.out hcb hbp)
      clear hbp hst hcb
      refine wpS_e rfl (by rfl) (fun K hK => ?_)
      go_simp
      refine HTK.out.mono ?_
      rintro e V2 ⟨rfl, hb2⟩
      have hlt2 := length_rblocks begin8 (rfull l) rfl (k + 1)
      rw [HST.out] at hlt2
      have hR2 : Row32 V2 N8 201 (rblocks begin8 (rfull l) k) := HI.out.2.2.2.below hb2 HI.out.2.2.2.lt
      have hT8 : V2.there N8 0 8 := by have := hR2.there; rwa [HLN.out] at this
      have H2 := Lib.hid (And.intro (own_bytes_below HI.out.1 hb2) (And.intro (HI.out.2.1.trans (hb2.mono HI.out.2.1.size)) (And.intro ((Keeps.of_below (X := fun _ => False) hb2).there HI.out.2.2.1 (by decide) (fun h => h)) (And.intro hR2 (And.intro hT8 hlt2)))))
      clear hb2 hlt2 hR2 hT8 HTK HI
      refine hK _ _ ?_; clear hK K
      try simp only [Act.put, List.setIfInBounds_toArray, List.set_cons_zero, List.set_cons_succ]
      refine wpS_e rfl (by rfl) (fun K hK => ?_)
      refine wp_store_eight _ _ rfl N8 (by rfl) _ H2.out.2.2.2.2.2 (by rfl) H2.out.2.2.2.2.1 ?_
      refine hK _ _ ?_; clear hK K
      try simp only [Act.put]
      refine wpS_done ?_
      go_wp2_with fail
      have hkc := keepsC8 N8 (cells32 (took (rblocks begin8 (rfull l) k) (((rfull l).drop at_).take 64))) 0 V2
      have hgN : g ≠ N8 := by have := HL.out.1; omega
      have hwN : w.heap.size ≠ N8 := by have := HL.out.2.2; omega
      have f1 := hkc.owns H2.out.1 (fun j hj e => hgN (by rw [← e]; simpa [Value.ownBlock] using hj))
      have f2 := setCells_below N8 HL.out.2.1 (cells32 (took (rblocks begin8 (rfull l) k) (((rfull l).drop at_).take 64))) 0 _ _ H2.out.2.1
      have f3 := World.there_setCells H2.out.2.2.1 N8 0 (cells32 (took (rblocks begin8 (rfull l) k) (((rfull l).drop at_).take 64)))
      have f4 := H2.out.2.2.2.1.whole (l' := took (rblocks begin8 (rfull l) k) (((rfull l).drop at_).take 64)) (by rw [HLN.out, H2.out.2.2.2.2.2])
      have f5 : 64 * (k + 1) ≤ N := by have := HA.out; omega
      have f6 : (b : Int) = 64 * ((k + 1 : Nat) : Int) := by have := HA.out; omega
      have HFIN := Lib.hid (And.intro f1 (And.intro f2 (And.intro f3 f4)))
      clear f1 f2 f3 f4 hkc H2 HLN
      have h9 := HFIN.out
      rw [← HST.out] at h9
      have hbb : b = at_ + 64 := HA.out.2.1
      have hle := HA.out.2.2.1
      refine ⟨⟨k + 1, f5, by rw [f6], HFIN.out.1, HFIN.out.2.1, HFIN.out.2.2.1, by rw [HST.out]; exact HFIN.out.2.2.2⟩, ?_⟩
      clear h9 HFIN HST HA HL HC HN HNN f5 f6 c1 c2' c3 c4 c5 c6 c7 c8 c9 c10
      simp only [intOf, Int.toNat_natCast]
      omega
    · have haN : at_ = N := by omega
      have d1 : decide (at_ < N) = false := by simpa using hlt
      have d1' : decide ((at_ : Int) < (N : Int)) = false := by simp; omega
      have d2 : ¬ (at_ : Int) < (N : Int) := by omega
      have hlen := length_rblocks begin8 (rfull l) rfl k
      have hsum := refsum_any (rblocks begin8 (rfull l) k) wr hlen
      rw [← sha_blocks l k (by rw [← HN.out.1, ← haN, hat])] at hsum
      have HS := Lib.hid (And.intro hsum (And.intro hlen (And.intro hR.range (And.intro hB hT))))
      clear hsum hlen hR hB hT hO haN hat hlt hk
      go_wp2_with (first
        | (refine wpList_load_eight rfl _ rfl N8 rfl _ HS.out.2.1 HS.out.2.2.1 ?_)
        | (go_at_call 159; refine HS.out.1.mono ?_; rintro e w5 ⟨rfl, hb5⟩; have H5 := Lib.hid ((Keeps.of_below (X := fun _ => False) hb5).there HS.out.2.2.2.2 (by decide) (fun h => h)); have HB5 := Lib.hid (HS.out.2.2.2.1.trans (hb5.mono HS.out.2.2.2.1.size)); clear hb5)
        | (refine wpList_store_sum rfl _ _ rfl w.heap.size 0 (sha l) rfl rfl H5.out ?_))
      exact bodyPost_ret (results_sum Tryz.results117 _ _ _ _ rfl (World.there_setCells H5.out _ _ _)) rfl ⟨rfl, setCells_below _ (Nat.le_refl _) _ _ _ _ HB5.out⟩
end Go.Proofs.YtfmgoehnbaiamaaGreatDoor
-- Walks: a Book's marks of sums (markSum, isSum).
namespace Go.Proofs.YtfmgoehnbaiamaaGreatDoor
/-- The mark of a number among sums. -/
noncomputable def mkS : UInt8 → Sum := Classical.choose (⟨fun b => ⟨#[b, 0, 0, 0, 0, 0, 0, 0, 0, 0, 0, 0, 0, 0, 0, 0, 0, 0, 0, 0, 0, 0, 0, 0, 0, 0, 0, 0, 0, 0, 0, 0], rfl⟩, rfl⟩ : ∃ f : UInt8 → Sum, f = fun b => ⟨#[b, 0, 0, 0, 0, 0, 0, 0, 0, 0, 0, 0, 0, 0, 0, 0, 0, 0, 0, 0, 0, 0, 0, 0, 0, 0, 0, 0, 0, 0, 0, 0], rfl⟩)
theorem mkS_eq : mkS = fun b => ⟨#[b, 0, 0, 0, 0, 0, 0, 0, 0, 0, 0, 0, 0, 0, 0, 0, 0, 0, 0, 0, 0, 0, 0, 0, 0, 0, 0, 0, 0, 0, 0, 0], rfl⟩ := Classical.choose_spec (⟨fun b => ⟨#[b, 0, 0, 0, 0, 0, 0, 0, 0, 0, 0, 0, 0, 0, 0, 0, 0, 0, 0, 0, 0, 0, 0, 0, 0, 0, 0, 0, 0, 0, 0, 0], rfl⟩, rfl⟩ : ∃ f : UInt8 → Sum, f = fun b => ⟨#[b, 0, 0, 0, 0, 0, 0, 0, 0, 0, 0, 0, 0, 0, 0, 0, 0, 0, 0, 0, 0, 0, 0, 0, 0, 0, 0, 0, 0, 0, 0, 0], rfl⟩)
theorem val_mk (b : UInt8) : (Value.agg #[.int .u8 ((b.toNat : Nat) : Int), .int .u8 0, .int .u8 0, .int .u8 0, .int .u8 0, .int .u8 0, .int .u8 0, .int .u8 0, .int .u8 0, .int .u8 0, .int .u8 0, .int .u8 0, .int .u8 0, .int .u8 0, .int .u8 0, .int .u8 0, .int .u8 0, .int .u8 0, .int .u8 0, .int .u8 0, .int .u8 0, .int .u8 0, .int .u8 0, .int .u8 0, .int .u8 0, .int .u8 0, .int .u8 0, .int .u8 0, .int .u8 0, .int .u8 0, .int .u8 0, .int .u8 0]) = sv (mkS b) := by rw [mkS_eq]; rfl
theorem eq_marks (s t : Sum) (w : World) : (Op.equalIn 10000 24 (.agg (cellsOf s).toArray) (.agg (cellsOf t).toArray)).run Tryz.prog w = .ok (decide (s = t)) w := by
  obtain ⟨d, hd⟩ : ∃ d, 10000 = d + 2 := ⟨9998, rfl⟩
  rw [hd]
  have h := run_equalIn_bytes (P := Tryz.prog) w d 24 5 32 Tryz.underlying24 Tryz.underlying5 (fun w => Tryz.sizeOf5 w) s.toList t.toList (by simp) (by simp)
  have hc : ∀ s : Sum, cellsOf s = s.toList.map Extern.Stop.cell := fun s => rfl
  simp only [hc]
  rw [h]
  have hd : (s.toList == t.toList) = decide (s = t) := by
    rw [Bool.eq_iff_iff]
    simp
  rw [hd]
end Go.Proofs.YtfmgoehnbaiamaaGreatDoor
-- Walks: a Book's marks of sums (markSum, isSum).
namespace Go.Proofs.YtfmgoehnbaiamaaGreatDoor
theorem val_mq {q : Int} {b : UInt8} (h : q = ((b.toNat : Nat) : Int)) : (Value.agg #[.int .u8 q, .int .u8 0, .int .u8 0, .int .u8 0, .int .u8 0, .int .u8 0, .int .u8 0, .int .u8 0, .int .u8 0, .int .u8 0, .int .u8 0, .int .u8 0, .int .u8 0, .int .u8 0, .int .u8 0, .int .u8 0, .int .u8 0, .int .u8 0, .int .u8 0, .int .u8 0, .int .u8 0, .int .u8 0, .int .u8 0, .int .u8 0, .int .u8 0, .int .u8 0, .int .u8 0, .int .u8 0, .int .u8 0, .int .u8 0, .int .u8 0, .int .u8 0]) = sv (mkS b) := by rw [h]; exact val_mk b
set_option maxRecDepth 100000 in
theorem markSum_any (b : UInt8) (w : World) : Calls Tryz.prog 130 #[.int .i64 ((b.toNat : Nat) : Int)] w fun e w' => e = .returned (sv (mkS b)) ∧ Below w.heap.size w w' := by
  obtain ⟨q, hq⟩ : ∃ q, q = ((b.toNat : Nat) : Int) := ⟨_, rfl⟩
  have hm : q % 256 = q := by
    have := b.toNat_lt
    rw [hq]
    omega
  rw [← hq]
  have HQ := Lib.hid hq
  have HB := Lib.hid (And.intro (al (Below.refl w.heap.size w) (.cells #[.int .u8 0, .int .u8 0, .int .u8 0, .int .u8 0, .int .u8 0, .int .u8 0, .int .u8 0, .int .u8 0, .int .u8 0, .int .u8 0, .int .u8 0, .int .u8 0, .int .u8 0, .int .u8 0, .int .u8 0, .int .u8 0, .int .u8 0, .int .u8 0, .int .u8 0, .int .u8 0, .int .u8 0, .int .u8 0, .int .u8 0, .int .u8 0, .int .u8 0, .int .u8 0, .int .u8 0, .int .u8 0, .int .u8 0, .int .u8 0, .int .u8 0, .int .u8 0] 24)) (there_new w #[.int .u8 0, .int .u8 0, .int .u8 0, .int .u8 0, .int .u8 0, .int .u8 0, .int .u8 0, .int .u8 0, .int .u8 0, .int .u8 0, .int .u8 0, .int .u8 0, .int .u8 0, .int .u8 0, .int .u8 0, .int .u8 0, .int .u8 0, .int .u8 0, .int .u8 0, .int .u8 0, .int .u8 0, .int .u8 0, .int .u8 0, .int .u8 0, .int .u8 0, .int .u8 0, .int .u8 0, .int .u8 0, .int .u8 0, .int .u8 0, .int .u8 0, .int .u8 0] 24))
  clear hq
  go_enter Tryz.func130, Tryz.ntmps130
  go_wp2_with (refine wpList_store_sum rfl _ _ rfl w.heap.size 0 (mkS b) rfl (val_mq HQ.out) HB.out.2 ?_)
  exact bodyPost_ret (results_sum Tryz.results130 _ _ _ _ rfl (World.there_setCells HB.out.2 _ _ _)) rfl ⟨rfl, setCells_below _ (Nat.le_refl _) _ _ _ _ HB.out.1⟩
set_option maxRecDepth 100000 in
theorem isSum_any (s : Sum) (b : UInt8) (w : World) : Calls Tryz.prog 139 #[sv s, .int .i64 ((b.toNat : Nat) : Int)] w fun e w' => e = .returned (.bool (decide (s = mkS b))) ∧ Below w.heap.size w w' := by
  obtain ⟨q, hq⟩ : ∃ q, q = ((b.toNat : Nat) : Int) := ⟨_, rfl⟩
  have hm : q % 256 = q := by
    have := b.toNat_lt
    rw [hq]
    omega
  rw [← hq]
  have HB := Lib.hid (And.intro (al (Below.refl w.heap.size w) (.cells (cellsOf s).toArray 24)) (range_new w (cellsOf s).toArray 24 _ rfl))
  have heq := fun w => eq_marks s (mkS b) w
  have hvq := val_mq hq
  obtain ⟨V, hV⟩ : ∃ V, V = Value.agg #[.int .u8 q, .int .u8 0, .int .u8 0, .int .u8 0, .int .u8 0, .int .u8 0, .int .u8 0, .int .u8 0, .int .u8 0, .int .u8 0, .int .u8 0, .int .u8 0, .int .u8 0, .int .u8 0, .int .u8 0, .int .u8 0, .int .u8 0, .int .u8 0, .int .u8 0, .int .u8 0, .int .u8 0, .int .u8 0, .int .u8 0, .int .u8 0, .int .u8 0, .int .u8 0, .int .u8 0, .int .u8 0, .int .u8 0, .int .u8 0, .int .u8 0, .int .u8 0] := ⟨_, rfl⟩
  obtain ⟨d, hd⟩ : ∃ d, d = decide (s = mkS b) := ⟨_, rfl⟩
  rw [← hd]
  rw [← hd] at heq
  have heq2 : ∀ w, (Op.equalIn 10000 24 (.agg (cellsOf s).toArray) (Value.agg #[.int .u8 q, .int .u8 0, .int .u8 0, .int .u8 0, .int .u8 0, .int .u8 0, .int .u8 0, .int .u8 0, .int .u8 0, .int .u8 0, .int .u8 0, .int .u8 0, .int .u8 0, .int .u8 0, .int .u8 0, .int .u8 0, .int .u8 0, .int .u8 0, .int .u8 0, .int .u8 0, .int .u8 0, .int .u8 0, .int .u8 0, .int .u8 0, .int .u8 0, .int .u8 0, .int .u8 0, .int .u8 0, .int .u8 0, .int .u8 0, .int .u8 0, .int .u8 0])).run Tryz.prog w = .ok d w := fun w => by rw [hvq]; exact heq w
  clear hq hvq hd heq
  go_enter Tryz.func139, Tryz.ntmps139
  go_wp2_with (refine wpList_load_sum rfl _ rfl w.heap.size 0 rfl s HB.out.2 ?_)
  exact bodyPost_ret (results_tmp rfl _ _ _) rfl ⟨rfl, HB.out.1⟩
end Go.Proofs.YtfmgoehnbaiamaaGreatDoor
