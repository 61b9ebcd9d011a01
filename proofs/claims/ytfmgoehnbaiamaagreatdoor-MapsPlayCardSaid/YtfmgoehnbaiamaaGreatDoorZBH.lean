/-
  Joined: MP0, MP1, V1, S1, SO1, S3, S4.
-/
import Derived.Test.YtfmgoehnbaiamaaGreatDoorZAV
import Derived.Test.YtfmgoehnbaiamaaGreatDoorZBG
import Derived.Test.YtfmgoehnbaiamaaGreatDoorZBE
-- Walks: slices.Clone and Clip of bytes, as a list that lies; pairs that lie in given blocks only.
open Go Go.RowKit Alm
namespace Go.Proofs.YtfmgoehnbaiamaaGreatDoor
theorem ones_each (l : List UInt8) : ∀ x ∈ ones l, x.length = 1 := fun x hx => by
  obtain ⟨b, _, rfl⟩ := List.mem_map.1 hx
  rfl
set_option maxRecDepth 100000 in
theorem clone_lie (w : World) (v : Value) (l : List UInt8) (h : BytesAt w v l) (hl : l.length < 4000000000) : Calls Tryz.prog 49 #[v] w fun e w' => ∃ v', e = .returned v' ∧ Lie w' w.heap.size 1 v' (ones l) ∧ Below w.heap.size w w' := by
  have e1 := @Lib.run_eql_slice_nil Tryz.prog
  obtain ⟨i0, hi0, hz0⟩ := Option.map_eq_some_iff.1 infoByteZ
  simp only [Prod.mk.injEq] at hz0
  have HI := Lib.hid hi0
  have HZ := Lib.hid hz0
  clear hi0 hz0
  obtain ⟨a, cap, rfl, h1, h2, h3⟩ := h
  by_cases hn : l = []
  · subst hn
    cases a with
    | none =>
      go_enter Tryz.func49, Tryz.ntmps49
      go_wp2_with fail
      refine bodyPost_ret (results_tmp rfl _ _ _) rfl ?_
      exact ⟨_, rfl, .inl ⟨rfl, rfl⟩, Below.refl _ _⟩
    | some a =>
      go_enter Tryz.func49, Tryz.ntmps49
      have hown : (w.alloc (.cells #[] 5)).ownsRow w.heap.size 5 1 (.slice (some ⟨w.heap.size, 0, none⟩) 0 0) 0 [] := World.ownsRow_made w #[] 0 (Nat.le_refl _) (by unfold maxLen; omega) rfl
      go_wp2_with (at_builtin; refine wpList_append_zero rfl _ _ rfl w.heap.size i0 HI.out _ _ _ rfl hown _ _ rfl ?_)
      refine bodyPost_ret (results_tmp rfl _ _ _) rfl ?_
      exact ⟨_, rfl, lie_own (xs := ones []) hown rfl (fun x hx => by cases hx), (al (Below.refl _ _) _)⟩
  · obtain ⟨b, o, rfl, hr⟩ := h3.resolve_left hn
    go_enter Tryz.func49, Tryz.ntmps49
    have hr1 := range_below (al (Below.refl _ _) (.cells #[] 5)) hr (range_lt hr (by intro h; have := length_cells8 l; rw [h] at this; exact hn (List.length_eq_zero_iff.1 (by simp at this; omega))))
    have hown : (w.alloc (.cells #[] 5)).ownsRow w.heap.size 5 1 (.slice (some ⟨w.heap.size, 0, none⟩) 0 0) 0 (cells8 []) := World.ownsRow_made w #[] 0 (Nat.le_refl _) (by unfold maxLen; omega) rfl
    have hB := al (Below.refl w.heap.size w) (.cells #[] 5)
    have hpos : 0 < l.length := List.length_pos_iff.2 hn
    obtain ⟨n, hnl⟩ : ∃ n, n = l.length := ⟨_, rfl⟩
    have HN := Lib.hid hnl
    rw [← hnl] at h1 hpos hl ⊢
    clear hnl h3 hr
    go_wp2_with (at_builtin; refine wpList_append_own _ rfl _ _ _ rfl w.heap.size 5 i0 (.int .u8 0) 1 1 Tryz.underlying39 HI.out HZ.out.1 HZ.out.2.1 HZ.out.2.2 rfl (by decide) _ _ _ rfl hown ⟨b, o, none⟩ n cap (cells8 l) rfl (by rw [length_cells8, HN.out]; omega) (fun j u hj => by rw [Addr.add_mid]; exact hr1 j u hj) (oneCell_cells8 _) (by unfold maxLen; omega) (by omega) (by simp) ?_; intro v' w2 ho3 hg3 hat3)
    have ho4 : w2.ownsRow w.heap.size 5 1 v' l.length (cells8 l) := by
      have := ho3
      rw [Nat.zero_add, HN.out] at this
      exact this
    refine bodyPost_ret (results_tmp rfl _ _ _) rfl ?_
    exact ⟨_, rfl, lie_own (xs := ones l) (by rw [ones_flat]; exact ho4) (ones_len l) (ones_each l), hB.grown hg3 (by simp) (fun k hk => by cases hk; exact Nat.le_refl _)⟩
theorem clip_lie (w : World) (base : Nat) (v : Value) (l : List UInt8) (h : Lie w base 1 v (ones l)) : Calls Tryz.prog 52 #[v] w fun e w' => ∃ v', e = .returned v' ∧ Lie w base 1 v' (ones l) ∧ w = w' := by
  rcases h with ⟨rfl, h0⟩ | ⟨g, cap, rfl, h1, h2, h3, h4, h5, h6, h7⟩
  · go_enter Tryz.func52, Tryz.ntmps52
    go_wp2_with fail
    refine bodyPost_ret (results_tmp rfl _ _ _) rfl ?_
    exact ⟨_, rfl, .inl ⟨rfl, h0⟩, rfl⟩
  · have hn : Lie w base 1 (.slice (some ⟨g, 0, none⟩) (ones l).length (ones l).length) (ones l) := .inr ⟨g, _, rfl, h1, h2, Nat.le_refl _, Nat.le_trans h3 h4, h5, fun j hj => h6 j (by omega), h7⟩
    have HN := Lib.hid hn
    clear hn h1 h2 h5 h6 h7
    obtain ⟨n, hn⟩ : ∃ n, n = (ones l).length := ⟨_, rfl⟩
    rw [← hn] at HN h3 ⊢
    clear hn
    have k1 : (n : Int) ≤ (cap : Int) := by omega
    unfold maxLen at h4
    go_enter Tryz.func52, Tryz.ntmps52
    go_wp2_with fail
    refine bodyPost_ret (results_tmp rfl _ _ _) rfl ?_
    exact ⟨_, rfl, HN.out, rfl⟩
theorem bytes_keepC {X : Nat → Prop} {w w' : World} {v : Value} {b : List UInt8} (h : BytesAt w v b) (hk : Keeps X w w') (hx : b ≠ [] → ∀ k, v.ownBlock = some k → ¬ X k) : BytesAt w' v b := by
  obtain ⟨a, cap, rfl, h1, h2, h3⟩ := h
  refine ⟨a, cap, rfl, h1, h2, ?_⟩
  rcases h3 with h0 | ⟨g, o, rfl, hr⟩
  · exact .inl h0
  · by_cases hb : b = []
    · exact .inl hb
    · exact .inr ⟨g, o, rfl, hk.range hr (hx hb g rfl)⟩
theorem bytes_ltC {w : World} {v : Value} {b : List UInt8} (h : BytesAt w v b) (h0 : b ≠ []) {k : Nat} (hk : v.ownBlock = some k) : k < w.heap.size := by
  obtain ⟨a, cap, rfl, h1, h2, h3⟩ := h
  rcases h3 with h4 | ⟨g, o, rfl, hr⟩
  · exact (h0 h4).elim
  · simp only [Value.ownBlock, Option.some.injEq] at hk
    subst hk
    exact range_lt hr (by intro h5; have := congrArg List.length h5; rw [length_cells8] at this; exact h0 (List.length_eq_zero_iff.1 this))
theorem Lie.maps {X : Nat → Prop} {W W' : World} {base size : Nat} {v : Value} {xs : List (List Value)} (h : Lie W base size v xs) (hX : OnMaps X W) (hk : Keeps X W W') : Lie W' base size v xs := by
  rcases h with h | ⟨g, cap, hv, hb, hg, hnc, hcm, hr, ht, hl⟩
  · exact .inl h
  · refine .inr ⟨g, cap, hv, hb, Nat.lt_of_lt_of_le hg hk.size, hnc, hcm, ?_, ?_, hl⟩
    · by_cases he : xs.flatten = []
      · rw [he]; intro j v hj; simp at hj
      · exact hk.range hr (range_maps hX hr he)
    · rcases Nat.eq_zero_or_pos (cap * size) with h0 | h0
      · rw [h0]; intro j hj; omega
      · refine hk.there ht h0 (fun hx => ?_)
        have h1 := (ht 0 h0).1
        rw [hX g hx] at h1
        cases h1
/-- A list of pairs in memory reads so, in blocks of a kind. -/
def PairsZ (Z : Nat → Prop) (w : World) (v : Value) (P : List Keys.Pr) : Prop :=
  ∃ (a : Option Addr) (cap : Nat) (cs : List (PE × List UInt8)), v = .slice a P.length cap ∧ P.length ≤ cap ∧ cap ≤ maxLen ∧ cs.map (fun c => (c.1.1, c.2)) = P ∧ (∀ c ∈ cs, BytesAt w (peV c.1) c.2 ∧ (c.2 ≠ [] → ∀ k, (peV c.1).ownBlock = some k → Z k)) ∧
    (P = [] ∨ ∃ b o, a = some ⟨b, o, none⟩ ∧ Z b ∧ w.rangeAt b o (cellsP (cs.map Prod.fst)))
theorem PairsZ.at {Z : Nat → Prop} {w : World} {v : Value} {P : List Keys.Pr} (h : PairsZ Z w v P) : PairsAt w v P := by
  obtain ⟨a, cap, cs, h1, h2, h3, h4, h5, h6⟩ := h
  exact ⟨a, cap, cs, h1, h2, h3, h4, fun c hc => (h5 c hc).1, h6.imp_right fun ⟨b, o, e, _, hr⟩ => ⟨b, o, e, hr⟩⟩
theorem PairsZ.nil (Z : Nat → Prop) (w : World) : PairsZ Z w (.slice none 0 0) [] := ⟨none, 0, [], rfl, Nat.le_refl _, by decide, rfl, (fun c hc => by cases hc), .inl rfl⟩
theorem cellsP_ne2 {cs : List (PE × List UInt8)} {P : List Keys.Pr} (h : cs.map (fun c => (c.1.1, c.2)) = P) (hP : P ≠ []) : cellsP (cs.map Prod.fst) ≠ [] := cellsP_ne (by
  intro e
  have : cs = [] := by simpa using e
  rw [this] at h; exact hP h.symm)
/-- What is written lies in no such block; of what is told one may ask only of blocks that are there. -/
theorem PairsZ.keep {Z Z' X : Nat → Prop} {w w' : World} {v : Value} {P : List Keys.Pr} (h : PairsZ Z w v P) (hk : Keeps X w w') (hx : ∀ k, Z k → k < w.heap.size → ¬ X k) (hz : ∀ k, Z k → k < w.heap.size → Z' k) : PairsZ Z' w' v P := by
  obtain ⟨a, cap, cs, h1, h2, h3, h4, h5, h6⟩ := h
  refine ⟨a, cap, cs, h1, h2, h3, h4, fun c hc => ⟨bytes_keepC (h5 c hc).1 hk (fun h0 k e => hx k ((h5 c hc).2 h0 k e) (bytes_ltC (h5 c hc).1 h0 e)), fun h0 k e => hz k ((h5 c hc).2 h0 k e) (bytes_ltC (h5 c hc).1 h0 e)⟩, ?_⟩
  rcases h6 with h6 | ⟨b, o, e, hb, hr⟩
  · exact .inl h6
  · by_cases hP : P = []
    · exact .inl hP
    · have hl := range_lt hr (cellsP_ne2 h4 hP)
      exact .inr ⟨b, o, e, hz b hb hl, hk.range hr (hx b hb hl)⟩
theorem PairsZ.below {Z : Nat → Prop} {w w' : World} {v : Value} {P : List Keys.Pr} (h : PairsZ Z w v P) (hb : Below w.heap.size w w') : PairsZ Z w' v P := h.keep (X := fun _ => False) (Keeps.of_below hb) (fun _ _ _ h => h) (fun _ h _ => h)
theorem PairsZ.maps {Z X : Nat → Prop} {w w' : World} {v : Value} {P : List Keys.Pr} (h : PairsZ Z w v P) (hX : OnMaps X w) (hk : Keeps X w w') : PairsZ Z w' v P := by
  obtain ⟨a, cap, cs, h1, h2, h3, h4, h5, h6⟩ := h
  refine ⟨a, cap, cs, h1, h2, h3, h4, fun c hc => ⟨bytes_maps hX hk (h5 c hc).1, (h5 c hc).2⟩, ?_⟩
  rcases h6 with h6 | ⟨b, o, e, hb, hr⟩
  · exact .inl h6
  · by_cases hP : P = []
    · exact .inl hP
    · exact .inr ⟨b, o, e, hb, hk.range hr (range_maps hX hr (cellsP_ne2 h4 hP))⟩
theorem pairs_oneZ {Z : Nat → Prop} {w : World} {v : Value} {P : List Keys.Pr} (h : PairsZ Z w v P) {i : Nat} (hi : i < P.length) : ∃ (b o cap : Nat) (y : PE) (bs : List UInt8), v = .slice (some ⟨b, o, none⟩) P.length cap ∧ w.rangeAt b (o + i * 33) (encP y) ∧ BytesAt w (peV y) bs ∧ P[i]? = some (y.1, bs) ∧ (bs ≠ [] → ∀ k, (peV y).ownBlock = some k → Z k) := by
  obtain ⟨a, cap, cs, h1, h2, h3, h4, h5, h6⟩ := h
  have hP : P ≠ [] := by intro e; rw [e] at hi; simp at hi
  obtain ⟨b, o, rfl, _, hr⟩ := h6.resolve_left hP
  have hc : i < cs.length := by rw [← h4, List.length_map] at hi; exact hi
  have h7 := h5 cs[i] (List.getElem_mem hc)
  refine ⟨b, o, cap, cs[i].1, cs[i].2, h1, ?_, h7.1, ?_, h7.2⟩
  · have h8 := rangeP_at hr (i := i) (by rw [List.length_map]; exact hc)
    rwa [List.getD_eq_getElem?_getD, List.getElem?_eq_getElem (by rw [List.length_map]; exact hc), List.getElem_map, Option.getD_some] at h8
  · rw [← h4, List.getElem?_map, List.getElem?_eq_getElem hc]; rfl
theorem pairs_ownZ {Z : Nat → Prop} {w : World} {base : Nat} {v : Value} {cs : List (PE × List UInt8)} {P : List Keys.Pr} (ho : w.ownsRow base 41 33 v cs.length (cellsP (cs.map Prod.fst))) (hE : ∀ c ∈ cs, BytesAt w (peV c.1) c.2 ∧ (c.2 ≠ [] → ∀ k, (peV c.1).ownBlock = some k → Z k)) (hZ : ∀ k, base ≤ k → Z k) (hP : cs.map (fun c => (c.1.1, c.2)) = P) : PairsZ Z w v P := by
  have hl : P.length = cs.length := by rw [← hP, List.length_map]
  by_cases h0 : P = []
  · have hc : cs = [] := List.length_eq_zero_iff.1 (by rw [← hl, h0]; rfl)
    subst h0
    subst hc
    rcases ho.2 with ⟨rfl, _⟩ | ⟨g, cap, cur, rfl, _, _, hnc, hcm, _⟩
    · exact ⟨none, 0, [], rfl, Nat.le_refl _, by decide, rfl, (fun c hc => by cases hc), .inl rfl⟩
    · exact ⟨_, cap, [], rfl, hnc, hcm, rfl, (fun c hc => by cases hc), .inl rfl⟩
  · have hb := fun k hk => own_base ho (k := k) hk
    obtain ⟨g, cap, rfl, h1, h2, _, hr⟩ := own_range ho (by rw [← hl]; exact List.length_pos_iff.2 h0)
    exact ⟨_, cap, cs, by rw [hl], by rw [hl]; exact h1, h2, hP, hE, .inr ⟨g, 0, rfl, hZ g (hb g rfl), hr⟩⟩
end Go.Proofs.YtfmgoehnbaiamaaGreatDoor
-- Walk: maps: Put, with the blocks in which the values lie.
namespace Go.Proofs.YtfmgoehnbaiamaaGreatDoor
/-- The values of a map lie in such blocks. -/
def MapZ (Z : Nat → Prop) (l : List Ent) : Prop := ∀ e ∈ l, ∀ k, e.2.1.ownBlock = some k → Z k
/-- What Put makes of a map. -/
def PutZ (Z : Nat → Prop) (w : World) (p b n : Nat) (l : List Ent) (k : Sum) (bs : List UInt8) (w' : World) : Prop :=
  ∃ l', MapIn w' p b (n + 1) l' ∧ prs l' = Keys.putB (prs l) k bs ∧ Keeps (fun i => i = b) w w' ∧ MapZ Z l'
set_option maxRecDepth 100000 in
set_option maxHeartbeats 1000000 in
theorem mput_z (Z : Nat → Prop) (k : Sum) (bs : List UInt8) (v : Value) (w : World) (p b n : Nat) (l : List Ent) (h : MapIn w p b n l) (hn : n < 1000000) (hv : BytesAt w v bs) (hz : MapZ Z l) (hZ : ∀ k, w.heap.size ≤ k → Z k) :
    Calls Tryz.prog 9 #[.pointer (some ⟨p, 0, none⟩), sv k, v] w fun e w' => e = .returned (.int .i64 (if bs.length > 256 then 3 else 0)) ∧ PutZ Z w p b n l k bs w' := by
  obtain ⟨R, hR⟩ : ∃ R : Int, R = if bs.length > 256 then 3 else 0 := ⟨_, rfl⟩
  rw [← hR]
  obtain ⟨a, cap, rfl, h1, h2, h3⟩ := hv
  obtain ⟨m, hm⟩ : ∃ m, m = bs.length := ⟨_, rfl⟩
  have hb0 := al (Below.refl _ w) (.cells (cellsOf k).toArray 24)
  have hbv := bytes_below (show BytesAt w (.slice a bs.length cap) bs from ⟨a, cap, rfl, h1, h2, h3⟩) hb0 (Nat.le_refl _)
  rw [← hm] at hbv ⊢
  have H0 := Lib.hid (And.intro (GS.start h k) hbv)
  have HM := Lib.hid (And.intro hm (And.intro hR hn))
  have HH := Lib.hid h
  have HZZ := Lib.hid (And.intro hz hZ)
  clear hm hR hn h h1 h2 h3 hb0 hbv hz hZ
  by_cases c1 : 256 < m
  · have d1 : decide (256 < (m : Int)) = true := by simp; omega
    have d1' : decide (256 < m) = true := by simpa using c1
    have hR : R = 3 := by rw [HM.out.2.1, if_pos (by rw [← HM.out.1]; exact c1)]
    subst hR
    go_enter Tryz.func9, Tryz.ntmps9
    go_wp2_with (go_at_call 48; refine (mnone_live _ p b H0.out.1.cell).mono ?_; rintro e w1 ⟨rfl, rfl⟩)
    refine bodyPost_ret (results_tmp rfl _ _ _) rfl ⟨rfl, l, H0.out.1.map.mono (by omega), ?_, Keeps.of_below H0.out.1.below, HZZ.out.1⟩
    unfold Keys.putB
    rw [if_pos (by rw [← HM.out.1]; exact c1)]
  · have d1 : decide (256 < (m : Int)) = false := by simp; omega
    have d1' : decide (256 < m) = false := by simpa using c1
    have hR : R = 0 := by rw [HM.out.2.1, if_neg (by rw [← HM.out.1]; exact c1)]
    subst hR
    by_cases c2 : m = 0
    · subst c2
      go_enter Tryz.func9, Tryz.ntmps9
      go_wp2_with (go_at_call 48; refine (mnone_live _ p b H0.out.1.cell).mono ?_; rintro e w1 ⟨rfl, rfl⟩)
      refine wp_region_sched (fun V => V.cell? ⟨p, 0, none⟩ = some (.map (some b)) ∧ GS w p b n l k V) [.t 0, .t 1, .t 2, .s 3, .e 4 true, .e 5 false] (by kernel_rfl) (by kernel_rfl) (by intro c a d v w h; cases d <;> exact h) ?_
      replace H0 := Lib.hid H0.out.1.drew
      generalize World.drew _ = W at *
      iterate 3
        refine wpS_t rfl (v := ?_) (by rfl) (fun W => ?_) ?_
        rotate_left
        · go_simp
          try rfl
        try simp only [Act.put, List.setIfInBounds_toArray, List.set_cons_zero, List.set_cons_succ]
      refine wpS_s (by exact ⟨H0.out.cell, H0.out⟩) rfl (v := ?_) (by rfl) (fun W hSW => ?_) ?_
      rotate_left
      · go_simp
        try rfl
      try simp only [Act.put, List.setIfInBounds_toArray, List.set_cons_zero, List.set_cons_succ]
      refine wpS_k rfl (by rfl) (fun K hK => ?_)
      refine wp_load_sum _ (by rfl) w.heap.size 0 (by rfl) k H0.out.key ?_
      refine hK _ _ ⟨by exact ⟨H0.out.cell, H0.out⟩, ?_⟩; clear hK K
      try simp only [Act.put, List.setIfInBounds_toArray, List.set_cons_zero, List.set_cons_succ]
      refine wpS_e rfl (by rfl) (fun K hK => ?_)
      refine wp_delete_map _ _ (by rfl) p b n l (by rfl) H0.out.map k (by rfl) ?_
      intro W2 hm2 hk2
      have H2 := Lib.hid (show PutZ Z w p b n l k bs W2 from ⟨_, hm2.mono (by omega), by
        rw [prs_del]; unfold Keys.putB
        have hz : bs.length = 0 := HM.out.1.symm
        rw [if_neg (by omega), if_pos (List.length_eq_zero_iff.1 hz)], (Keeps.of_below H0.out.below).trans hk2, fun e he => HZZ.out.1 e (Keys.mem_del.1 he).1⟩)
      clear hm2 hk2 H0
      refine hK _ _ ?_; clear hK K
      try simp only [Act.put]
      refine wpS_done ?_
      go_wp2_with fail
      exact bodyPost_ret (results_tmp rfl _ _ _) rfl ⟨rfl, H2.out⟩
    · have d2 : decide (m = 0) = false := by simpa using c2
      have d2' : decide ((m : Int) = 0) = false := by simpa using c2
      go_enter Tryz.func9, Tryz.ntmps9
      go_wp2_with (go_at_call 48; refine (mnone_live _ p b H0.out.1.cell).mono ?_; rintro e w1 ⟨rfl, rfl⟩)
      refine wp_region_sched (fun V => V.cell? ⟨p, 0, none⟩ = some (.map (some b)) ∧ GS w p b n l k V ∧ BytesAt V (.slice a m cap) bs) [.t 0, .t 1, .t 2, .t 5, .s 3, .s 4, .e 6 true, .e 7 false] (by kernel_rfl) (by kernel_rfl) (by intro c a d v w h; cases d <;> exact h) ?_
      replace H0 := Lib.hid (And.intro H0.out.1.drew (bytes_below H0.out.2 (Below.refl _ _).drew (Nat.le_refl _)))
      generalize World.drew _ = W at *
      iterate 4
        refine wpS_t rfl (v := ?_) (by rfl) (fun W => ?_) ?_
        rotate_left
        · go_simp
          try rfl
        try simp only [Act.put, List.setIfInBounds_toArray, List.set_cons_zero, List.set_cons_succ]
      refine wpS_s (by exact ⟨H0.out.1.cell, H0.out⟩) rfl (v := ?_) (by rfl) (fun W hSW => ?_) ?_
      rotate_left
      · go_simp
        try rfl
      try simp only [Act.put, List.setIfInBounds_toArray, List.set_cons_zero, List.set_cons_succ]
      refine wpS_load_sum (by exact ⟨H0.out.1.cell, H0.out⟩) rfl (by rfl) _ (by rfl) w.heap.size 0 (by rfl) k (fun V hV => hV.2.1.key) ?_
      try simp only [Act.put, List.setIfInBounds_toArray, List.set_cons_zero, List.set_cons_succ]
      refine wpS_k rfl (by rfl) (fun K hK => ?_)
      go_simp
      have hlen : bs.length < 4000000000 := by have := HM.out.1; omega
      have HWZ := Lib.hid H0.out.1.below.size
      refine (clone_bytes W (.slice a m cap) bs H0.out.2 hlen).mono ?_
      rintro e V1 ⟨v1, rfl, hn1, hb1⟩
      have H1 := Lib.hid (And.intro hn1 (And.intro (H0.out.1.next hb1) (bytes_below H0.out.2 hb1 (Nat.le_refl _))))
      clear hn1 hb1 H0 hlen
      refine hK _ _ ⟨by exact ⟨H1.out.2.1.cell, H1.out.2⟩, ?_⟩; clear hK K
      try simp only [Act.put, List.setIfInBounds_toArray, List.set_cons_zero, List.set_cons_succ]
      refine wpS_e rfl (by rfl) (fun K hK => ?_)
      have hz2 : MapZ Z (Keys.put k (v1, bs) l) := fun e he => by
        rcases (Keys.mem_put HH.out.rise).1 he with e1 | ⟨e1, _⟩
        · subst e1; exact fun k hk => HZZ.out.2 k (Nat.le_trans HWZ.out (H1.out.1.2 k hk).1)
        · exact HZZ.out.1 e e1
      have HZ2 := Lib.hid hz2
      clear hz2
      have hne : bs ≠ [] := by intro e; have := HM.out.1; rw [e] at this; exact c2 this
      refine wp_update_map _ _ _ (by rfl) p b n l (by rfl) H1.out.2.1.map HM.out.2.2 k (by rfl) v1 bs (by rfl) H1.out.1.1 hne (by have := HM.out.1; omega) ?_
      intro W2 hm2 hk2
      have H2 := Lib.hid (show PutZ Z w p b n l k bs W2 from ⟨_, hm2, by
        rw [prs_put]; unfold Keys.putB
        rw [if_neg (by have := HM.out.1; omega), if_neg hne], (Keeps.of_below H1.out.2.1.below).trans hk2, HZ2.out⟩)
      clear hm2 hk2 H1
      refine hK _ _ ?_; clear hK K
      try simp only [Act.put]
      refine wpS_done ?_
      go_wp2_with fail
      exact bodyPost_ret (results_tmp rfl _ _ _) rfl ⟨rfl, H2.out⟩
end Go.Proofs.YtfmgoehnbaiamaaGreatDoor
-- Plain law: what stands at a key behind puts; pairs are what stands at keys.
namespace Go.Proofs.YtfmgoehnbaiamaaGreatDoor
open Keys (Rise Pr kn putB put del)
/-- No pair is without bytes, none has more than 256. -/
def Full (l : List Pr) : Prop := ∀ p ∈ l, p.2 ≠ [] ∧ p.2.length ≤ 256
end Go.Proofs.YtfmgoehnbaiamaaGreatDoor
-- Plain law: what stands beside a key, depth by depth (shows).
namespace Go.Proofs.YtfmgoehnbaiamaaGreatDoor
open Keys (Rise Pr kn putB put del)
/-- What lies on the other side of a key, so high; what lies on its own side. -/
def oth (k : Sum) (n : Nat) (l : List Pr) : List Pr := l.filter fun p => (kn p.1).testBit n != (kn k).testBit n
def mine (k : Sum) (n : Nat) (l : List Pr) : List Pr := l.filter fun p => (kn p.1).testBit n == (kn k).testBit n
noncomputable def atH (n : Nat) (l : List Pr) : Sum := Keys.at' sd z0 vl n l
theorem atH_nil (n : Nat) : atH n [] = em n := Keys.at_nil sd z0 vl n
theorem atH_zero (l : List Pr) : atH 0 l = match l with | [] => z0 | p :: _ => vl p.1 p.2 := by
  cases l <;> rfl
/-- What is told of a key, from above. -/
noncomputable def tells (k : Sum) : Nat → List Pr → List (Option Sum)
  | 0, _ => []
  | n + 1, l => (if atH n (oth k n l) = em n then none else some (atH n (oth k n l))) :: tells k n (mine k n l)
/-- Told so, or what is empty told too. -/
def Tells (k : Sum) : Nat → List Pr → List (Option Sum) → Prop
  | 0, _, T => T = []
  | n + 1, l, T => ∃ t T', T = t :: T' ∧ t.getD (em n) = atH n (oth k n l) ∧ Tells k n (mine k n l) T'
theorem Tells.length {k : Sum} : ∀ {n l T}, Tells k n l T → T.length = n
  | 0, _, _, h => by rw [show _ = [] from h]; rfl
  | n + 1, _, _, h => by obtain ⟨t, T', rfl, _, h⟩ := h; rw [List.length_cons, h.length]
/-- The sides of what is told. -/
def sidesOf (T : List (Option Sum)) : List Sum := T.filterMap id
theorem mem_mine {k : Sum} {n : Nat} {l : List Pr} {p : Pr} : p ∈ mine k n l ↔ p ∈ l ∧ (kn p.1).testBit n = (kn k).testBit n := by
  unfold mine; rw [List.mem_filter]; simp
/-- All lie under the way to a key, so high. -/
def Near (k : Sum) (n : Nat) (l : List Pr) : Prop := ∀ p ∈ l, kn p.1 >>> n = kn k >>> n
theorem Near.mine {k : Sum} {n : Nat} {l : List Pr} (h : Near k (n + 1) l) : Near k n (mine k n l) := fun p hp => by
  obtain ⟨h1, h2⟩ := mem_mine.1 hp
  rw [Keys.shr_succ (kn p.1), Keys.shr_succ (kn k), h p h1, h2]
/-- How many bits are set below a height. -/
def cnt (which : Sum) : Nat → Nat
  | 0 => 0
  | n + 1 => cnt which n + if (kn which).testBit n then 1 else 0
/-- Pairs that are the same but at a key. -/
def But (k : Sum) (l m : List Pr) : Prop := ∀ q : Pr → Bool, (∀ v, q (k, v) = false) → l.filter q = m.filter q
theorem But.oth {k : Sum} {n : Nat} {l m : List Pr} (h : But k l m) : oth k n l = oth k n m := h _ fun v => by simp
theorem But.mine {k : Sum} {n : Nat} {l m : List Pr} (h : But k l m) : But k (mine k n l) (mine k n m) := fun q hq => by
  unfold Go.Proofs.YtfmgoehnbaiamaaGreatDoor.mine
  rw [List.filter_filter, List.filter_filter]
  exact h _ fun v => by rw [hq]; rfl
/-! ### pairs cut where the bit changes -/
end Go.Proofs.YtfmgoehnbaiamaaGreatDoor
-- Plain law: what the document's Put makes of pairs that rise.
namespace Go.Proofs.YtfmgoehnbaiamaaGreatDoor
open Keys (Rise Pr kn putB del)
/-- One pair gone through by the document's Put: what it has, and whether the new one stands there. -/
def stP (k : Sum) (v : List UInt8) (s : List Pr × Bool) (p : Pr) : List Pr × Bool :=
  if (!s.2 && decide (kn k < kn p.1)) = true then (if p.1 = k then (s.1 ++ [(k, v)], true) else (s.1 ++ [(k, v)] ++ [p], true))
  else if p.1 = k then (if s.2 = true then (s.1, true) else (s.1 ++ [(k, v)], true)) else (s.1 ++ [p], s.2)
def finP (k : Sum) (v : List UInt8) (s : List Pr × Bool) : List Pr := if s.2 = true then s.1 else s.1 ++ [(k, v)]
theorem fold_done (k : Sum) (v : List UInt8) : ∀ (l acc : List Pr), l.foldl (stP k v) (acc, true) = (acc ++ del k l, true)
  | [], acc => by simp [del]
  | p :: l, acc => by
    rw [List.foldl_cons]
    by_cases h : p.1 = k
    · have e : stP k v (acc, true) p = (acc, true) := by simp [stP, h]
      rw [e, fold_done k v l acc]
      simp [del, h]
    · have e : stP k v (acc, true) p = (acc ++ [p], true) := by simp [stP, h]
      rw [e, fold_done k v l (acc ++ [p])]
      simp [del, h]
theorem del_above {k : Sum} {l : List Pr} (h : ∀ p ∈ l, kn k < kn p.1) : del k l = l := by
  unfold del
  refine List.filter_eq_self.2 fun p hp => ?_
  have := h p hp
  simp
  intro e
  rw [e] at this
  omega
theorem fold_put (k : Sum) (v : List UInt8) : ∀ (l acc : List Pr), Rise l → finP k v (l.foldl (stP k v) (acc, false)) = acc ++ Keys.put k v l
  | [], acc, _ => by simp [finP, Keys.put]
  | p :: l, acc, hr => by
    rw [List.foldl_cons]
    have h1 := (List.pairwise_cons.1 hr).1
    have h2 := (List.pairwise_cons.1 hr).2
    by_cases hlt : kn k < kn p.1
    · have hne : ¬ p.1 = k := fun e => by rw [e] at hlt; omega
      have e : stP k v (acc, false) p = (acc ++ [(k, v)] ++ [p], true) := by simp [stP, hlt, hne]
      rw [e, fold_done, del_above (fun q hq => Nat.lt_trans hlt (h1 q hq))]
      simp [finP, Keys.put, hlt]
    · by_cases hk : p.1 = k
      · have e : stP k v (acc, false) p = (acc ++ [(k, v)], true) := by simp [stP, hk]
        rw [e, fold_done, del_above (fun q hq => by have := h1 q hq; rw [hk] at this; exact this)]
        simp [finP, Keys.put, hk]
      · have e : stP k v (acc, false) p = (acc ++ [p], false) := by simp [stP, hlt, hk]
        rw [e, fold_put k v l (acc ++ [p]) h2]
        have hk' : ¬ k = p.1 := fun e => hk e.symm
        simp [Keys.put, hlt, hk']
/-- What the document's Put makes of pairs. -/
def rp (k : Sum) (v : List UInt8) (l : List Pr) : List Pr := finP k v (l.foldl (stP k v) ([], decide (v = [])))
theorem rp_eq {k : Sum} {v : List UInt8} {l : List Pr} (hr : Rise l) (hv : v.length ≤ 256) : rp k v l = putB l k v := by
  unfold rp putB
  rw [if_neg (by omega)]
  by_cases h : v = []
  · rw [if_pos h, decide_eq_true h, fold_done]
    simp [finP]
  · rw [if_neg h, decide_eq_false h, fold_put k v l [] hr]
    simp
end Go.Proofs.YtfmgoehnbaiamaaGreatDoor
-- Walks: shows.cut (and slices.IndexFunc of its closure).
namespace Go.Proofs.YtfmgoehnbaiamaaGreatDoor
end Go.Proofs.YtfmgoehnbaiamaaGreatDoor
-- Walks: shows.empty, shows.at.
namespace Go.Proofs.YtfmgoehnbaiamaaGreatDoor
/-- What is empty, from height 0 on; at each depth, from 0 on. -/
noncomputable def ems (n : Nat) : List Sum := (List.range n).map em
theorem length_ems (n : Nat) : (ems n).length = n := by simp [ems]
theorem ems_get {n i : Nat} (h : i < n) : (ems n)[i]? = some (em i) := by simp [ems, h]
noncomputable def nones : List Sum := (ems 257).reverse
theorem length_nones : nones.length = 257 := by simp [nones, length_ems]
theorem nones_get {d : Nat} (h : d ≤ 256) : nones[d]? = some (em (256 - d)) := by
  unfold nones
  rw [List.getElem?_reverse (by rw [length_ems]; omega), length_ems, ems_get (by omega)]
/-- One of what is empty. -/
theorem nones_at {w : World} {v : Value} (h : SumsAt w v nones) : ∃ b o c, v = .slice (some ⟨b, o, none⟩) 257 c ∧ 257 ≤ c ∧ ∀ W, Below w.heap.size w W → ∀ n, n ≤ 256 → W.rangeAt b (o + (256 - n) * 32) (cellsOf (em n)) := by
  obtain ⟨a, c, rfl, h1, h2, h3⟩ := h
  have hne : nones ≠ [] := fun e => by have := length_nones; rw [e] at this; cases this
  obtain ⟨b, o, rfl, hr⟩ := h3.resolve_left hne
  rw [length_nones] at h1
  refine ⟨b, o, c, by rw [length_nones], h1, fun W hb n hn => ?_⟩
  have hl : 256 - n < nones.length := by rw [length_nones]; omega
  have h4 := range_at hr (i := 256 - n) hl
  have h5 := nones_get (d := 256 - n) (by omega)
  rw [List.getElem?_eq_getElem hl, Option.some.injEq, show 256 - (256 - n) = n by omega] at h5
  rw [h5] at h4
  exact (Keeps.of_below (X := fun _ => False) hb).range h4 (fun h => h)
end Go.Proofs.YtfmgoehnbaiamaaGreatDoor
