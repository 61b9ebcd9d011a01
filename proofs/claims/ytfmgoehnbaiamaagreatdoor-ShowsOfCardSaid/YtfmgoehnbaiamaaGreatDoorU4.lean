/-
  Walks: slices.Clone and Clip of bytes; maps: none, New, Put, Get.
-/
import Derived.Test.YtfmgoehnbaiamaaGreatDoorU3
import Derived.Lib.SliceRun
open Go Go.RowKit Alm
namespace Go.Proofs.YtfmgoehnbaiamaaGreatDoor
/-- Bytes of one's own: no older memory. -/
def BytesNew (w : World) (base : Nat) (v : Value) (l : List UInt8) : Prop := BytesAt w v l ∧ ∀ k, v.ownBlock = some k → base ≤ k ∧ k < w.heap.size
set_option maxRecDepth 100000 in
theorem clone_bytes (w : World) (v : Value) (l : List UInt8) (h : BytesAt w v l) (hl : l.length < 4000000000) : Calls Tryz.prog 49 #[v] w fun e w' => ∃ v', e = .returned v' ∧ BytesNew w' w.heap.size v' l ∧ Below w.heap.size w w' := by
  have e1 := @Lib.run_eql_slice_nil Tryz.prog
  obtain ⟨i0, hi0, hz0⟩ := Option.map_eq_some_iff.1 infoByteZ
  simp only [Prod.mk.injEq] at hz0
  have HI := Lib.hid hi0
  have HZ := Lib.hid hz0
  clear hi0 hz0
  obtain ⟨a, cap, rfl, h1, h2, h3⟩ := h
  by_cases hn : l = []
  · subst hn
    cases a with
    | none =>
      go_enter Tryz.func49, Tryz.ntmps49
      go_wp2_with fail
      refine bodyPost_ret (results_tmp rfl _ _ _) rfl ?_
      exact ⟨_, rfl, ⟨⟨none, 0, rfl, by simp, by decide, .inl rfl⟩, fun k hk => by cases hk⟩, Below.refl _ _⟩
    | some a =>
      go_enter Tryz.func49, Tryz.ntmps49
      have hown : (w.alloc (.cells #[] 5)).ownsRow w.heap.size 5 1 (.slice (some ⟨w.heap.size, 0, none⟩) 0 0) 0 [] := World.ownsRow_made w #[] 0 (Nat.le_refl _) (by unfold maxLen; omega) rfl
      go_wp2_with (at_builtin; refine wpList_append_zero rfl _ _ rfl w.heap.size i0 HI.out _ _ _ rfl hown _ _ rfl ?_)
      refine bodyPost_ret (results_tmp rfl _ _ _) rfl ?_
      exact ⟨_, rfl, ⟨⟨_, 0, rfl, by simp, by decide, .inl rfl⟩, fun k hk => by cases hk; exact ⟨Nat.le_refl _, by simp⟩⟩, (al (Below.refl _ _) _)⟩
  · obtain ⟨b, o, rfl, hr⟩ := h3.resolve_left hn
    go_enter Tryz.func49, Tryz.ntmps49
    have hr1 := range_below (al (Below.refl _ _) (.cells #[] 5)) hr (range_lt hr (by intro h; have := length_cells8 l; rw [h] at this; exact hn (List.length_eq_zero_iff.1 (by simp at this; omega))))
    have hown : (w.alloc (.cells #[] 5)).ownsRow w.heap.size 5 1 (.slice (some ⟨w.heap.size, 0, none⟩) 0 0) 0 (cells8 []) := World.ownsRow_made w #[] 0 (Nat.le_refl _) (by unfold maxLen; omega) rfl
    have hB := al (Below.refl w.heap.size w) (.cells #[] 5)
    have hpos : 0 < l.length := List.length_pos_iff.2 hn
    obtain ⟨n, hnl⟩ : ∃ n, n = l.length := ⟨_, rfl⟩
    have HN := Lib.hid hnl
    rw [← hnl] at h1 hpos hl ⊢
    clear hnl h3 hr
    go_wp2_with (at_builtin; refine wpList_append_own _ rfl _ _ _ rfl w.heap.size 5 i0 (.int .u8 0) 1 1 Tryz.underlying39 HI.out HZ.out.1 HZ.out.2.1 HZ.out.2.2 rfl (by decide) _ _ _ rfl hown ⟨b, o, none⟩ n cap (cells8 l) rfl (by rw [length_cells8, HN.out]; omega) (fun j u hj => by rw [Addr.add_mid]; exact hr1 j u hj) (oneCell_cells8 _) (by unfold maxLen; omega) (by omega) (by simp) ?_; intro v' w2 ho3 hg3 hat3)
    have ho4 : w2.ownsRow w.heap.size 5 1 v' l.length (cells8 l) := by
      have := ho3
      rw [Nat.zero_add, HN.out] at this
      exact this
    refine bodyPost_ret (results_tmp rfl _ _ _) rfl ?_
    exact ⟨_, rfl, ⟨bytes_own ho4 (by have := HN.out; omega), fun k hk => ⟨own_base ho4 k hk, own_lt ho4 hk⟩⟩, hB.grown hg3 (by simp) (fun k hk => by cases hk; exact Nat.le_refl _)⟩
theorem clip_bytes (w : World) (base : Nat) (v : Value) (l : List UInt8) (h : BytesNew w base v l) : Calls Tryz.prog 52 #[v] w fun e w' => ∃ v', e = .returned v' ∧ BytesNew w base v' l ∧ w = w' := by
  obtain ⟨⟨a, cap, rfl, h1, h2, h3⟩, h4⟩ := h
  have hn : BytesNew w base (.slice a l.length l.length) l := ⟨⟨a, l.length, rfl, Nat.le_refl _, by omega, h3⟩, fun k hk => h4 k (by cases a <;> exact hk)⟩
  have HN := Lib.hid hn; clear hn h3 h4
  obtain ⟨n, hn⟩ : ∃ n, n = l.length := ⟨_, rfl⟩
  rw [← hn] at HN h1 ⊢
  clear hn
  have k1 : (n : Int) ≤ (cap : Int) := by omega
  unfold maxLen at h2
  cases a with
  | none =>
    have h0 : (none : Option Addr) = none := rfl
    go_enter Tryz.func52, Tryz.ntmps52
    go_wp2_with fail
    refine bodyPost_ret (results_tmp rfl _ _ _) rfl ?_
    exact ⟨_, rfl, HN.out, rfl⟩
  | some a =>
    go_enter Tryz.func52, Tryz.ntmps52
    go_wp2_with fail
    refine bodyPost_ret (results_tmp rfl _ _ _) rfl ?_
    exact ⟨_, rfl, HN.out, rfl⟩
/-- The pairs of entries. -/
def prs (l : List Ent) : List Keys.Pr := l.map fun e => (e.1, e.2.2)
theorem prs_rise {l : List Ent} (h : Keys.Rise l) : Keys.Rise (prs l) := Keys.rise_map _ h
theorem prs_put (k : Sum) (v : Value) (bs : List UInt8) (l : List Ent) : prs (Keys.put k (v, bs) l) = Keys.put k bs (prs l) := Keys.put_map (fun x : Value × List UInt8 => x.2) k (v, bs) l
theorem prs_del (k : Sum) (l : List Ent) : prs (Keys.del k l) = Keys.del k (prs l) := Keys.del_map (fun x : Value × List UInt8 => x.2) k l
theorem getE_prs (l : List Ent) (k : Sum) : (getE l k).2 = Keys.get (prs l) k := by
  unfold getE Keys.get prs
  rw [List.find?_map]
  have e : ((fun p : Keys.Pr => decide (p.1 = k)) ∘ fun e : Ent => (e.1, e.2.2)) = fun p : Ent => decide (p.1 = k) := rfl
  rw [e]
  cases l.find? (fun p => decide (p.1 = k)) <;> rfl
theorem getE_bytes {w : World} {p b n : Nat} {l : List Ent} (h : MapIn w p b n l) (k : Sum) : BytesAt w (getE l k).1 (Keys.get (prs l) k) ∧ (Keys.get (prs l) k).length ≤ 256 := by
  rw [← getE_prs]
  unfold getE
  cases hf : l.find? (fun p => decide (p.1 = k)) with
  | none => exact ⟨⟨none, 0, rfl, Nat.le_refl _, by unfold maxLen; omega, .inl rfl⟩, by simp⟩
  | some e =>
    have he := List.mem_of_find?_eq_some hf
    obtain ⟨h1, _, h3⟩ := h.vals e he
    exact ⟨h1, h3⟩
theorem map_some (W : World) (b : Nat) : (binOp .eql 91 (.map (some b)) (.map none)).run Tryz.prog W = .ok (.bool false) W := by kernel_rfl
theorem mnone_live (w : World) (p b : Nat) (hc : w.cell? ⟨p, 0, none⟩ = some (.map (some b))) : Calls Tryz.prog 48 #[.pointer (some ⟨p, 0, none⟩)] w fun e w' => e = .returned (.bool false) ∧ w = w' := by
  have hmap := map_some
  go_enter Tryz.func48, Tryz.ntmps48
  go_wp2_with fail
  exact bodyPost_ret (results_tmp rfl _ _ _) rfl ⟨rfl, rfl⟩
theorem mapIn_made (w : World) : MapIn ((w.alloc (.map #[] 0)).alloc (.cells #[.map (some w.heap.size)] 93)) (w.heap.size + 1) w.heap.size 0 [] := by
  have hz : (w.alloc (.map #[] 0)).heap.size = w.heap.size + 1 := by rw [World.size_alloc]
  refine ⟨?_, (World.ownsMap_made w _ _ _).alloc _, List.Pairwise.nil, fun e he => by cases he⟩
  have := range_new (w.alloc (.map #[] 0)) #[.map (some w.heap.size)] 93 _ rfl 0 _ rfl
  rw [hz] at this
  exact this
theorem mnew_any (w : World) : Calls Tryz.prog 7 #[] w fun e w' => e = .returned (.pointer (some ⟨w.heap.size + 1, 0, none⟩)) ∧ MapIn w' (w.heap.size + 1) w.heap.size 0 [] ∧ Below w.heap.size w w' := by
  have hmm := @run_makeMap Tryz.prog
  have H := Lib.hid (mapIn_made w)
  have HB := Lib.hid (al (al (Below.refl _ w) (.map #[] 0)) (.cells #[.map (some w.heap.size)] 93))
  go_enter Tryz.func7, Tryz.ntmps7
  go_wp2_with fail
  exact bodyPost_ret (results_tmp rfl _ _ _) rfl ⟨rfl, H.out, HB.out⟩
/-- What Get has in hand. -/
structure GS (w : World) (p b n : Nat) (l : List Ent) (k : Sum) (V : World) : Prop where
  cell : V.cell? ⟨p, 0, none⟩ = some (.map (some b))
  map : MapIn V p b n l
  key : V.rangeAt w.heap.size 0 (cellsOf k)
  below : Below w.heap.size w V
theorem GS.drew {w : World} {p b n : Nat} {l : List Ent} {k : Sum} {V : World} (h : GS w p b n l k V) : GS w p b n l k V.drew := ⟨h.cell, h.map.below (Below.refl _ _).drew, h.key, h.below.drew⟩
theorem GS.next {w : World} {p b n : Nat} {l : List Ent} {k : Sum} {V V' : World} (h : GS w p b n l k V) (hb : Below V.heap.size V V') : GS w p b n l k V' :=
  ⟨(h.map.below hb).cell, h.map.below hb, (Keeps.of_below (X := fun _ => False) hb).range h.key (fun h => h), h.below.trans (hb.mono h.below.size)⟩
theorem GS.start {w : World} {p b n : Nat} {l : List Ent} (h : MapIn w p b n l) (k : Sum) : GS w p b n l k (w.alloc (.cells (cellsOf k).toArray 24)) :=
  have hb := al (Below.refl _ w) (.cells (cellsOf k).toArray 24)
  ⟨(h.below hb).cell, h.below hb, range_new w (cellsOf k).toArray 24 _ rfl, hb⟩
set_option maxRecDepth 100000 in
set_option maxHeartbeats 1000000 in
theorem mget_any (k : Sum) (w : World) (p b n : Nat) (l : List Ent) (h : MapIn w p b n l) : Calls Tryz.prog 14 #[.pointer (some ⟨p, 0, none⟩), sv k] w fun e w' => ∃ v, e = .returned (.tuple #[v, .int .i64 0]) ∧ BytesNew w' w.heap.size v (Keys.get (prs l) k) ∧ Below w.heap.size w w' := by
  have H0 := Lib.hid (GS.start h k)
  clear h
  obtain ⟨bs, hbs⟩ : ∃ bs, bs = Keys.get (prs l) k := ⟨_, rfl⟩
  rw [← hbs]
  have HS := Lib.hid hbs
  clear hbs
  go_enter Tryz.func14, Tryz.ntmps14
  go_wp2_with (go_at_call 48; refine (mnone_live _ p b H0.out.cell).mono ?_; rintro e w1 ⟨rfl, rfl⟩)
  generalize w.alloc (.cells (cellsOf k).toArray 24) = W at *
  refine wp_region_sched (fun V => V.cell? ⟨p, 0, none⟩ = some (.map (some b)) ∧ GS w p b n l k V) [.t 0, .t 1, .t 2, .s 3, .e 4 true, .e 5 false, .e 6 false, .e 7 false, .t 8, .t 9] (by kernel_rfl) (by kernel_rfl) (by intro c a d v w h; cases d <;> exact h) ?_
  replace H0 := Lib.hid H0.out.drew
  generalize W.drew = W at *
  iterate 3
    refine wpS_t rfl (v := ?_) (by rfl) (fun W => ?_) ?_
    rotate_left
    · go_simp
      try rfl
    try simp only [Act.put, List.setIfInBounds_toArray, List.set_cons_zero, List.set_cons_succ]
  refine wpS_s (by exact ⟨H0.out.cell, H0.out⟩) rfl (v := ?_) (by rfl) (fun W hSW => ?_) ?_
  rotate_left
  · go_simp
    try rfl
  try simp only [Act.put, List.setIfInBounds_toArray, List.set_cons_zero, List.set_cons_succ]
  refine wpS_k rfl (by rfl) (fun K hK => ?_)
  refine wp_load_sum _ (by rfl) w.heap.size 0 (by rfl) k H0.out.key ?_
  refine hK _ _ ⟨by exact ⟨H0.out.cell, H0.out⟩, ?_⟩; clear hK K
  try simp only [Act.put, List.setIfInBounds_toArray, List.set_cons_zero, List.set_cons_succ]
  refine wpS_e rfl (by rfl) (fun K hK => ?_)
  refine wp_lookup_map _ _ (by rfl) p b n l (by rfl) H0.out.map k (by rfl) ?_
  refine hK _ _ ?_; clear hK K
  try simp only [Act.put, List.setIfInBounds_toArray, List.set_cons_zero, List.set_cons_succ]
  obtain ⟨g1, g2⟩ := getE_bytes H0.out.map k
  generalize (getE l k).1 = v0 at *
  rw [← HS.out] at g1 g2
  refine wpS_e rfl (by rfl) (fun K hK => ?_)
  go_simp
  refine (clone_bytes W v0 bs g1 (by omega)).mono ?_
  rintro e V1 ⟨v1, rfl, hn1, hb1⟩
  have H1 := Lib.hid (And.intro hn1 (H0.out.next hb1).below)
  have hsz := H0.out.below.size
  clear hn1 hb1 H0 g1
  refine hK _ _ ?_; clear hK K
  try simp only [Act.put, List.setIfInBounds_toArray, List.set_cons_zero, List.set_cons_succ]
  refine wpS_e rfl (by rfl) (fun K hK => ?_)
  go_simp
  refine (clip_bytes V1 W.heap.size v1 bs H1.out.1).mono ?_
  rintro e V2 ⟨v2, rfl, hn2, rfl⟩
  have H2 := Lib.hid (And.intro (show BytesNew V1 w.heap.size v2 bs from ⟨hn2.1, fun k hk => ⟨Nat.le_trans hsz (hn2.2 k hk).1, (hn2.2 k hk).2⟩⟩) H1.out.2)
  clear hn2 H1 hsz
  refine hK _ _ ?_; clear hK K
  try simp only [Act.put, List.setIfInBounds_toArray, List.set_cons_zero, List.set_cons_succ]
  iterate 2
    refine wpS_t rfl (v := ?_) (by rfl) (fun W => ?_) ?_
    rotate_left
    · go_simp
      try rfl
    try simp only [Act.put, List.setIfInBounds_toArray, List.set_cons_zero, List.set_cons_succ]
  refine wpS_done ?_
  go_wp2_with fail
  exact bodyPost_ret (results_tmp2 rfl _ _ _) rfl ⟨_, rfl, H2.out⟩
/-- What Put makes of a map. -/
def PutTo (w : World) (p b n : Nat) (l : List Ent) (k : Sum) (bs : List UInt8) (w' : World) : Prop :=
  ∃ l', MapIn w' p b (n + 1) l' ∧ prs l' = Keys.putB (prs l) k bs ∧ Keeps (fun i => i = b) w w'
theorem MapIn.mono {w : World} {p b n n' : Nat} {l : List Ent} (h : MapIn w p b n l) (hn : n ≤ n') : MapIn w p b n' l := ⟨h.cell, h.map.mono hn, h.rise, h.vals⟩
set_option maxRecDepth 100000 in
set_option maxHeartbeats 1000000 in
theorem mput_any (k : Sum) (bs : List UInt8) (v : Value) (w : World) (p b n : Nat) (l : List Ent) (h : MapIn w p b n l) (hn : n < 1000000) (hv : BytesAt w v bs) :
    Calls Tryz.prog 9 #[.pointer (some ⟨p, 0, none⟩), sv k, v] w fun e w' => e = .returned (.int .i64 (if bs.length > 256 then 3 else 0)) ∧ PutTo w p b n l k bs w' := by
  obtain ⟨R, hR⟩ : ∃ R : Int, R = if bs.length > 256 then 3 else 0 := ⟨_, rfl⟩
  rw [← hR]
  obtain ⟨a, cap, rfl, h1, h2, h3⟩ := hv
  obtain ⟨m, hm⟩ : ∃ m, m = bs.length := ⟨_, rfl⟩
  have hb0 := al (Below.refl _ w) (.cells (cellsOf k).toArray 24)
  have hbv := bytes_below (show BytesAt w (.slice a bs.length cap) bs from ⟨a, cap, rfl, h1, h2, h3⟩) hb0 (Nat.le_refl _)
  rw [← hm] at hbv ⊢
  have H0 := Lib.hid (And.intro (GS.start h k) hbv)
  have HM := Lib.hid (And.intro hm (And.intro hR hn))
  have HH := Lib.hid h
  clear hm hR hn h h1 h2 h3 hb0 hbv
  by_cases c1 : 256 < m
  · have d1 : decide (256 < (m : Int)) = true := by simp; omega
    have d1' : decide (256 < m) = true := by simpa using c1
    have hR : R = 3 := by rw [HM.out.2.1, if_pos (by rw [← HM.out.1]; exact c1)]
    subst hR
    go_enter Tryz.func9, Tryz.ntmps9
    go_wp2_with (go_at_call 48; refine (mnone_live _ p b H0.out.1.cell).mono ?_; rintro e w1 ⟨rfl, rfl⟩)
    refine bodyPost_ret (results_tmp rfl _ _ _) rfl ⟨rfl, l, H0.out.1.map.mono (by omega), ?_, Keeps.of_below H0.out.1.below⟩
    unfold Keys.putB
    rw [if_pos (by rw [← HM.out.1]; exact c1)]
  · have d1 : decide (256 < (m : Int)) = false := by simp; omega
    have d1' : decide (256 < m) = false := by simpa using c1
    have hR : R = 0 := by rw [HM.out.2.1, if_neg (by rw [← HM.out.1]; exact c1)]
    subst hR
    by_cases c2 : m = 0
    · subst c2
      go_enter Tryz.func9, Tryz.ntmps9
      go_wp2_with (go_at_call 48; refine (mnone_live _ p b H0.out.1.cell).mono ?_; rintro e w1 ⟨rfl, rfl⟩)
      refine wp_region_sched (fun V => V.cell? ⟨p, 0, none⟩ = some (.map (some b)) ∧ GS w p b n l k V) [.t 0, .t 1, .t 2, .s 3, .e 4 true, .e 5 false] (by kernel_rfl) (by kernel_rfl) (by intro c a d v w h; cases d <;> exact h) ?_
      replace H0 := Lib.hid H0.out.1.drew
      generalize World.drew _ = W at *
      iterate 3
        refine wpS_t rfl (v := ?_) (by rfl) (fun W => ?_) ?_
        rotate_left
        · go_simp
          try rfl
        try simp only [Act.put, List.setIfInBounds_toArray, List.set_cons_zero, List.set_cons_succ]
      refine wpS_s (by exact ⟨H0.out.cell, H0.out⟩) rfl (v := ?_) (by rfl) (fun W hSW => ?_) ?_
      rotate_left
      · go_simp
        try rfl
      try simp only [Act.put, List.setIfInBounds_toArray, List.set_cons_zero, List.set_cons_succ]
      refine wpS_k rfl (by rfl) (fun K hK => ?_)
      refine wp_load_sum _ (by rfl) w.heap.size 0 (by rfl) k H0.out.key ?_
      refine hK _ _ ⟨by exact ⟨H0.out.cell, H0.out⟩, ?_⟩; clear hK K
      try simp only [Act.put, List.setIfInBounds_toArray, List.set_cons_zero, List.set_cons_succ]
      refine wpS_e rfl (by rfl) (fun K hK => ?_)
      refine wp_delete_map _ _ (by rfl) p b n l (by rfl) H0.out.map k (by rfl) ?_
      intro W2 hm2 hk2
      have H2 := Lib.hid (show PutTo w p b n l k bs W2 from ⟨_, hm2.mono (by omega), by
        rw [prs_del]; unfold Keys.putB
        have hz : bs.length = 0 := HM.out.1.symm
        rw [if_neg (by omega), if_pos (List.length_eq_zero_iff.1 hz)], (Keeps.of_below H0.out.below).trans hk2⟩)
      clear hm2 hk2 H0
      refine hK _ _ ?_; clear hK K
      try simp only [Act.put]
      refine wpS_done ?_
      go_wp2_with fail
      exact bodyPost_ret (results_tmp rfl _ _ _) rfl ⟨rfl, H2.out⟩
    · have d2 : decide (m = 0) = false := by simpa using c2
      have d2' : decide ((m : Int) = 0) = false := by simpa using c2
      go_enter Tryz.func9, Tryz.ntmps9
      go_wp2_with (go_at_call 48; refine (mnone_live _ p b H0.out.1.cell).mono ?_; rintro e w1 ⟨rfl, rfl⟩)
      refine wp_region_sched (fun V => V.cell? ⟨p, 0, none⟩ = some (.map (some b)) ∧ GS w p b n l k V ∧ BytesAt V (.slice a m cap) bs) [.t 0, .t 1, .t 2, .t 5, .s 3, .s 4, .e 6 true, .e 7 false] (by kernel_rfl) (by kernel_rfl) (by intro c a d v w h; cases d <;> exact h) ?_
      replace H0 := Lib.hid (And.intro H0.out.1.drew (bytes_below H0.out.2 (Below.refl _ _).drew (Nat.le_refl _)))
      generalize World.drew _ = W at *
      iterate 4
        refine wpS_t rfl (v := ?_) (by rfl) (fun W => ?_) ?_
        rotate_left
        · go_simp
          try rfl
        try simp only [Act.put, List.setIfInBounds_toArray, List.set_cons_zero, List.set_cons_succ]
      refine wpS_s (by exact ⟨H0.out.1.cell, H0.out⟩) rfl (v := ?_) (by rfl) (fun W hSW => ?_) ?_
      rotate_left
      · go_simp
        try rfl
      try simp only [Act.put, List.setIfInBounds_toArray, List.set_cons_zero, List.set_cons_succ]
      refine wpS_load_sum (by exact ⟨H0.out.1.cell, H0.out⟩) rfl (by rfl) _ (by rfl) w.heap.size 0 (by rfl) k (fun V hV => hV.2.1.key) ?_
      try simp only [Act.put, List.setIfInBounds_toArray, List.set_cons_zero, List.set_cons_succ]
      refine wpS_k rfl (by rfl) (fun K hK => ?_)
      go_simp
      have hlen : bs.length < 4000000000 := by have := HM.out.1; omega
      refine (clone_bytes W (.slice a m cap) bs H0.out.2 hlen).mono ?_
      rintro e V1 ⟨v1, rfl, hn1, hb1⟩
      have H1 := Lib.hid (And.intro hn1 (And.intro (H0.out.1.next hb1) (bytes_below H0.out.2 hb1 (Nat.le_refl _))))
      clear hn1 hb1 H0 hlen
      refine hK _ _ ⟨by exact ⟨H1.out.2.1.cell, H1.out.2⟩, ?_⟩; clear hK K
      try simp only [Act.put, List.setIfInBounds_toArray, List.set_cons_zero, List.set_cons_succ]
      refine wpS_e rfl (by rfl) (fun K hK => ?_)
      have hne : bs ≠ [] := by intro e; have := HM.out.1; rw [e] at this; exact c2 this
      refine wp_update_map _ _ _ (by rfl) p b n l (by rfl) H1.out.2.1.map HM.out.2.2 k (by rfl) v1 bs (by rfl) H1.out.1.1 hne (by have := HM.out.1; omega) ?_
      intro W2 hm2 hk2
      have H2 := Lib.hid (show PutTo w p b n l k bs W2 from ⟨_, hm2, by
        rw [prs_put]; unfold Keys.putB
        rw [if_neg (by have := HM.out.1; omega), if_neg hne], (Keeps.of_below H1.out.2.1.below).trans hk2⟩)
      clear hm2 hk2 H1
      refine hK _ _ ?_; clear hK K
      try simp only [Act.put]
      refine wpS_done ?_
      go_wp2_with fail
      exact bodyPost_ret (results_tmp rfl _ _ _) rfl ⟨rfl, H2.out⟩
end Go.Proofs.YtfmgoehnbaiamaaGreatDoor
