/-
  Joined: U8, U9.
-/
import Derived.Test.YtfmgoehnbaiamaaGreatDoorZAS
import Derived.BigFrame
import Derived.Laws.IdiomCopy
-- Walks: maps.apart; two sums side by side.
open Go Go.RowKit Alm
namespace Go.Proofs.YtfmgoehnbaiamaaGreatDoor
/-- Where two keys part. -/
def Parts (a b : Sum) (d : Nat) : Prop := d ≤ 256 ∧ Keys.kn a >>> (256 - d) = Keys.kn b >>> (256 - d) ∧ (d < 256 → Keys.kn a >>> (255 - d) ≠ Keys.kn b >>> (255 - d))
theorem shr_mono {x y m n : Nat} (h : x >>> m = y >>> m) (hmn : m ≤ n) : x >>> n = y >>> n := by
  obtain ⟨k, rfl⟩ : ∃ k, n = m + k := ⟨n - m, by omega⟩
  rw [Nat.shiftRight_add, Nat.shiftRight_add, h]
theorem parts_iff {a b : Sum} {d h : Nat} (hp : Parts a b d) (hh : h < 256) (hne : Keys.kn a >>> h ≠ Keys.kn b >>> h) : d = 255 - h ↔ Keys.kn a >>> (h + 1) = Keys.kn b >>> (h + 1) := by
  obtain ⟨h1, h2, h3⟩ := hp
  constructor
  · rintro rfl
    rw [show 256 - (255 - h) = h + 1 by omega] at h2
    exact h2
  · intro he
    have hd : d < 256 - h := by
      apply Nat.lt_of_not_le
      intro hge
      exact hne (shr_mono h2 (by omega))
    have h4 := h3 (by omega)
    have : ¬ (h + 1 ≤ 255 - d) := fun hle => h4 (shr_mono he hle)
    omega
set_option maxRecDepth 100000 in
set_option maxHeartbeats 1000000 in
theorem apart_any (a b : Sum) (w : World) : Calls Tryz.prog 63 #[sv a, sv b] w fun e w' => (∃ d, e = .returned (.int .i64 (d : Nat)) ∧ Parts a b d) ∧ Below w.heap.size w w' := by
  have hr1 := World.rangeAt_alloc (range_new w (cellsOf a).toArray 24 _ rfl) (.cells (cellsOf b).toArray 24)
  have hz : (w.alloc (.cells (cellsOf a).toArray 24)).heap.size = w.heap.size + 1 := Array.size_push _
  have hr2 := range_new (w.alloc (.cells (cellsOf a).toArray 24)) (cellsOf b).toArray 24 _ rfl
  rw [hz] at hr2
  have hb := al (al (Below.refl _ w) (.cells (cellsOf a).toArray 24)) (.cells (cellsOf b).toArray 24)
  have HI := Lib.hid (And.intro hr1 (And.intro hr2 hb))
  clear hr1 hz hr2 hb
  go_enter Tryz.func63, Tryz.ntmps63
  go_wp2_with fail
  change Code.wp _ _ _ _ ((w.alloc (.cells (cellsOf a).toArray 24)).alloc (.cells (cellsOf b).toArray 24))
  generalize (w.alloc (.cells (cellsOf a).toArray 24)).alloc (.cells (cellsOf b).toArray 24) = W0 at *
  go_loopw [6] (fun i W => ∃ d : Nat, d ≤ 256 ∧ i = .int .i64 (d : Int) ∧ Keys.kn a >>> (256 - d) = Keys.kn b >>> (256 - d) ∧ W.rangeAt w.heap.size 0 (cellsOf a) ∧ W.rangeAt (w.heap.size + 1) 0 (cellsOf b) ∧ Below w.heap.size w W) (fun i _ => 256 - (intOf i).toNat)
  case atStart =>
    refine ⟨0, by omega, rfl, ?_, HI.out⟩
    rw [Nat.sub_zero, Nat.shiftRight_eq_div_pow, Nat.shiftRight_eq_div_pow, Nat.div_eq_of_lt (Fast.snum_lt _), Nat.div_eq_of_lt (Fast.snum_lt _)]
  case round =>
    clear HI
    obtain ⟨d, hd, rfl, he, hra, hrb, hB⟩ := hrel
    have H := Lib.hid (And.intro hra (And.intro hrb hB))
    have HE := Lib.hid (And.intro hd he)
    clear hra hrb hB he hd
    by_cases hlt : d < 256
    · have c1 : decide (d < 256) = true := by simpa using hlt
      have c1' : decide ((d : Int) < 256) = true := by simp; omega
      have HL := Lib.hid hlt
      obtain ⟨p, hp⟩ : ∃ p, p = (Keys.kn a >>> (255 - d)) % 2 := ⟨_, rfl⟩
      obtain ⟨q, hq⟩ : ∃ q, q = (Keys.kn b >>> (255 - d)) % 2 := ⟨_, rfl⟩
      have BA := Lib.hid (fun W => by have h := bit_any a d W hlt; rw [← hp] at h; exact h)
      have BB := Lib.hid (fun W => by have h := bit_any b d W hlt; rw [← hq] at h; exact h)
      have HPQ := Lib.hid (And.intro hp hq)
      clear hlt hp hq
      go_wp2_with fail
      refine wp_region_sched (fun V => V.rangeAt w.heap.size 0 (cellsOf a) ∧ V.rangeAt (w.heap.size + 1) 0 (cellsOf b) ∧ Below w.heap.size w V) [.t 1, .t 4, .s 0, .s 3, .e 2 true, .e 5 false, .t 6] (by kernel_rfl) (by kernel_rfl) (by intro c a d v w h; cases d <;> exact h) ?_
      replace H := Lib.hid (show wr.drew.rangeAt w.heap.size 0 (cellsOf a) ∧ wr.drew.rangeAt (w.heap.size + 1) 0 (cellsOf b) ∧ Below w.heap.size w wr.drew from ⟨H.out.1, H.out.2.1, H.out.2.2.drew⟩)
      generalize wr.drew = V at *
      iterate 2
        refine wpS_t rfl (v := ?_) (by rfl) (fun W => ?_) ?_
        rotate_left
        · go_simp
          try rfl
        try simp only [Act.put, List.setIfInBounds_toArray, List.set_cons_zero, List.set_cons_succ]
      refine wpS_load_sum (by exact H.out) rfl (by rfl) _ (by rfl) w.heap.size 0 (by rfl) a (fun W hW => hW.1) ?_
      try simp only [Act.put, List.setIfInBounds_toArray, List.set_cons_zero, List.set_cons_succ]
      refine wpS_load_sum (by exact H.out) rfl (by rfl) _ (by rfl) (w.heap.size + 1) 0 (by rfl) b (fun W hW => hW.2.1) ?_
      try simp only [Act.put, List.setIfInBounds_toArray, List.set_cons_zero, List.set_cons_succ]
      refine wpS_k rfl (by rfl) (fun K hK => ?_)
      go_simp
      refine (BA.out V).mono ?_
      rintro e V1 ⟨rfl, hb1⟩
      have k1 : Keeps (fun _ => False) V V1 := Keeps.of_below hb1
      have H1 := Lib.hid (show V1.rangeAt w.heap.size 0 (cellsOf a) ∧ V1.rangeAt (w.heap.size + 1) 0 (cellsOf b) ∧ Below w.heap.size w V1 from ⟨k1.range H.out.1 (fun h => h), k1.range H.out.2.1 (fun h => h), H.out.2.2.trans (hb1.mono H.out.2.2.size)⟩)
      clear k1 hb1 H
      refine hK _ _ ⟨by exact H1.out, ?_⟩; clear hK K
      try simp only [Act.put, List.setIfInBounds_toArray, List.set_cons_zero, List.set_cons_succ]
      refine wpS_e rfl (by rfl) (fun K hK => ?_)
      go_simp
      refine (BB.out V1).mono ?_
      rintro e V2 ⟨rfl, hb1⟩
      have k1 : Keeps (fun _ => False) V1 V2 := Keeps.of_below hb1
      have H2 := Lib.hid (show V2.rangeAt w.heap.size 0 (cellsOf a) ∧ V2.rangeAt (w.heap.size + 1) 0 (cellsOf b) ∧ Below w.heap.size w V2 from ⟨k1.range H1.out.1 (fun h => h), k1.range H1.out.2.1 (fun h => h), H1.out.2.2.trans (hb1.mono H1.out.2.2.size)⟩)
      clear k1 hb1 H1
      refine hK _ _ ?_; clear hK K
      try simp only [Act.put, List.setIfInBounds_toArray, List.set_cons_zero, List.set_cons_succ]
      have s1 : Keys.kn a >>> (255 - d) = 2 * (Keys.kn a >>> (256 - d)) + p := by
        rw [HPQ.out.1, show 256 - d = (255 - d) + 1 by have := HL.out; omega, Nat.shiftRight_succ]; omega
      have s2 : Keys.kn b >>> (255 - d) = 2 * (Keys.kn b >>> (256 - d)) + q := by
        rw [HPQ.out.2, show 256 - d = (255 - d) + 1 by have := HL.out; omega, Nat.shiftRight_succ]; omega
      have hsame := HE.out.2
      by_cases hq : p = q
      · have hnext : Keys.kn a >>> (256 - (d + 1)) = Keys.kn b >>> (256 - (d + 1)) := by
          rw [show 256 - (d + 1) = 255 - d by omega, s1, s2, hsame, hq]
        have HN := Lib.hid hnext
        clear s1 s2 hsame hnext HPQ BA BB
        subst hq
        iterate 1
          refine wpS_t rfl (v := ?_) (by rfl) (fun W => ?_) ?_
          rotate_left
          · go_simp
            try rfl
          try simp only [Act.put, List.setIfInBounds_toArray, List.set_cons_zero, List.set_cons_succ]
        refine wpS_done ?_
        go_wp2_with fail
        have hw : wrap64 ((d : Int) + 1) = ((d + 1 : Nat) : Int) := by have := HL.out; unfold wrap64; omega
        rw [hw]
        refine ⟨⟨d + 1, by have := HL.out; omega, rfl, HN.out, H2.out⟩, ?_⟩
        have := HL.out
        simp only [intOf]; omega
      · have hdiff : Keys.kn a >>> (255 - d) ≠ Keys.kn b >>> (255 - d) := fun e => hq (by rw [s1, s2, hsame] at e; omega)
        have hpart : Parts a b d := ⟨by have := HL.out; omega, hsame, fun _ => hdiff⟩
        have HPT := Lib.hid hpart
        have hq1 : decide (p = q) = false := by simpa using hq
        have hq2 : decide ((p : Int) = (q : Int)) = false := by simp; omega
        clear HPQ BA BB
        clear s1 s2 hsame hpart hdiff
        iterate 1
          refine wpS_t rfl (v := ?_) (by rfl) (fun W => ?_) ?_
          rotate_left
          · go_simp
            try rfl
          try simp only [Act.put, List.setIfInBounds_toArray, List.set_cons_zero, List.set_cons_succ]
        refine wpS_done ?_
        go_wp2_with fail
        exact bodyPost_ret (results_tmp rfl _ _ _) rfl ⟨⟨d, rfl, HPT.out⟩, H2.out.2.2⟩
    · have ed : d = 256 := by have := HE.out.1; omega
      subst ed
      have hpart : Parts a b 256 := ⟨Nat.le_refl _, HE.out.2, fun h => by omega⟩
      have HPT := Lib.hid hpart
      clear hpart
      go_wp2_with fail
      exact bodyPost_ret (results_tmp rfl _ _ _) rfl ⟨⟨256, rfl, HPT.out⟩, H.out.2.2⟩
end Go.Proofs.YtfmgoehnbaiamaaGreatDoor
-- Two sums side by side; pairs that grow; what a height of Root has in hand.
namespace Go.Proofs.YtfmgoehnbaiamaaGreatDoor
/-- Two sums, as a value. -/
def cells2 (x y : Sum) : List Value := cellsOf x ++ cellsOf y
abbrev bv (x y : Sum) : Value := .agg (cells2 x y).toArray
theorem length_cells2 (x y : Sum) : (cells2 x y).length = 64 := by simp [cells2, length_cellsOf]
theorem all_cells2 (x y : Sum) : (cells2 x y).toArray.all (·.oneCell') = true := all_oneCell_toArray (fun v hv => by
  rcases List.mem_append.1 hv with h | h
  · exact oneCell_cellsOf x v h
  · exact oneCell_cellsOf y v h)
theorem infoBoth : (Tryz.prog.info? 102).map (·.size) = some 64 := by kernel_rfl
theorem infoBothZ : (Tryz.prog.info? 102).map (fun i => i.zero.map fun z => z.cells.size) = some (some 64) := by kernel_rfl
theorem wpList_store_both {ops : Array Oper} {rest : List Oper} {op : Oper} {a : Act} {w : World} {Q : Exit → Act → World → Prop} (hgd : op.guard = none) (x y : Operand) (ho : op.op = .store 102 x y)
    (b o : Nat) (s t : Sum) (hx : a.eval x = .pointer (some ⟨b, o, none⟩)) (hy : a.eval y = bv s t) (ht : w.there b o 64)
    (h : wpList Tryz.prog ops Q rest (a.put op.dst undef) (w.setCells b o (cells2 s t))) : wpList Tryz.prog ops Q (op :: rest) a w :=
  wpList_store_mid hgd _ x y ho b o _ hx hy (by simpa [length_cells2] using ht) (by simpa [length_cells2] using infoBoth) (all_cells2 s t) h
set_option maxRecDepth 100000 in
theorem build_both (x y : Sum) (w : World) : (Instr.build 102 #[(0, .agg (cellsOf x).toArray), (1, .agg (cellsOf y).toArray)]).run Tryz.prog w = .ok (bv x y) w := by
  obtain ⟨ib, hib, hzb⟩ := Option.map_eq_some_iff.1 infoBothZ
  obtain ⟨zb, hz, hzs⟩ := Option.map_eq_some_iff.1 hzb
  obtain ⟨i, z, hi, hz1, hs, hb, hz2⟩ := info_sum
  refine run_build w _ _ _ ?_
  unfold Program.built
  simp only [hib, Tryz.underlying102, hz, hi, hs]
  have := Great.fill_whole (s := 32) (by omega) [sv x, sv y] zb.cells (fun v hv => by
    rcases List.mem_cons.1 hv with rfl | hv
    · exact size_cellsOf x
    · rw [List.mem_singleton.1 hv]; exact size_cellsOf y) (by rw [hzs]; rfl)
  refine this.trans ?_
  congr 1
  simp [cells2, Value.cells]
theorem wpList_build_both {ops : Array Oper} {rest : List Oper} {op : Oper} {a : Act} {w : World} {Q : Exit → Act → World → Prop} (hgd : op.guard = none) (parts : Array (Nat × Operand)) (ho : op.op = .build 102 parts)
    (x y : Sum) (hp : (parts.toList.map fun (i, x) => (i, a.eval x)) = [(0, sv x), (1, sv y)])
    (h : wpList Tryz.prog ops Q rest (a.put op.dst (bv x y)) w) : wpList Tryz.prog ops Q (op :: rest) a w :=
  wpList_build_by hgd 102 parts ho (bv x y) (fun W => by
    have : (parts.map fun (i, x) => (i, a.eval x)) = #[(0, sv x), (1, sv y)] := by
      apply Array.toList_inj.1
      rw [Array.toList_map]; exact hp
    rw [this]
    exact build_both x y W) h
theorem range_left_ {w : World} {b o : Nat} {xs ys : List Value} (h : w.rangeAt b o (xs ++ ys)) : w.rangeAt b o xs := fun j v hv => h j v (by rw [List.getElem?_append_left (List.getElem?_eq_some_iff.1 hv).1]; exact hv)
theorem range_right_ {w : World} {b o : Nat} {xs ys : List Value} (h : w.rangeAt b o (xs ++ ys)) : w.rangeAt b (o + xs.length) ys := fun j v hv => by
  have := h (xs.length + j) v (by rw [List.getElem?_append_right (by omega), Nat.add_sub_cancel_left]; exact hv)
  rwa [← Nat.add_assoc] at this
/-- A new variable that is two sums, set. -/
theorem wpList_var_both {ops : Array Oper} {rest : List Oper} {op : Oper} {a : Act} {w : World} {C : Array Value} {t : TypeId} {Q : Exit → Act → World → Prop} (hC : C.size = 64) (hgd : op.guard = none) (x y : Operand) (ho : op.op = .store 102 x y)
    (s u : Sum) (hx : a.eval x = .pointer (some ⟨w.heap.size, 0, none⟩)) (hy : a.eval y = bv s u)
    (h : ∀ W', Below w.heap.size w W' → W'.rangeAt w.heap.size 0 (cells2 s u) → W'.there w.heap.size 0 64 → wpList Tryz.prog ops Q rest (a.put op.dst undef) W') : wpList Tryz.prog ops Q (op :: rest) a (w.alloc (.cells C t)) := by
  have ht : (w.alloc (.cells C t)).there w.heap.size 0 64 := by rw [← hC]; exact there_new _ _ _
  have ht2 := World.there_setCells ht w.heap.size 0 (cells2 s u)
  exact wpList_store_both hgd x y ho w.heap.size 0 s u hx hy ht (h _ (setCells_below _ (Nat.le_refl _) _ 0 _ _ (al (Below.refl _ _) _)) (range_stored _ _ _ _ (by rw [length_cells2]; exact ht2)) ht2)
theorem keeps_setCells_ (b : Nat) : ∀ (vs : List Value) (o : Nat) (w : World), Keeps (· = b) w (w.setCells b o vs)
  | [], _, _ => Keeps.refl _ _
  | v :: r, o, w => by
    rw [World.setCells]
    exact ((Keeps.refl (· = b) w).setCell (p := ⟨b, o, none⟩) (.inl rfl) v).trans (keeps_setCells_ b r (o + 1) _)
/-- One of two sums, laid anew. -/
theorem both_set {w : World} {b p : Nat} {x y s : Sum} (hr : w.rangeAt b 0 (cells2 x y)) (ht : w.there b 0 64) (hp : p < 2) :
    (w.setCells b (p * 32) (cellsOf s)).rangeAt b 0 (cells2 (if p = 0 then s else x) (if p = 0 then y else s)) ∧ (w.setCells b (p * 32) (cellsOf s)).there b 0 64 := by
  have ht2 := World.there_setCells ht b (p * 32) (cellsOf s)
  refine ⟨?_, ht2⟩
  have h1 := range_left_ hr
  have h2 := range_right_ hr
  rw [length_cellsOf] at h2
  have htp : (w.setCells b (p * 32) (cellsOf s)).there b (p * 32) 32 := fun j hj => by
    have := ht2 (p * 32 + j) (by omega)
    rw [Nat.zero_add] at this
    exact this
  have hst := range_stored b (cellsOf s) (p * 32) w (by rw [length_cellsOf]; exact htp)
  have other : ∀ o, (o + 32 ≤ p * 32 ∨ p * 32 + 32 ≤ o) → ∀ z : Sum, w.rangeAt b o (cellsOf z) → (w.setCells b (p * 32) (cellsOf s)).rangeAt b o (cellsOf z) := fun o ho z hz j v hj => by
    have hjl : j < 32 := by have := (List.getElem?_eq_some_iff.1 hj).1; rw [length_cellsOf] at this; exact this
    rw [World.cell?_setCells_out _ _ _ _ _ (fun _ _ => by rw [length_cellsOf]; show o + j < p * 32 ∨ p * 32 + 32 ≤ o + j; omega)]
    exact hz j v hj
  unfold cells2
  rw [range_append, length_cellsOf]
  match p, hp with
  | 0, _ =>
    rw [if_pos rfl, if_pos rfl]
    exact ⟨by simpa using hst, other 32 (by omega) y (by simpa using h2)⟩
  | 1, _ =>
    rw [if_neg (by omega), if_neg (by omega)]
    exact ⟨other 0 (by omega) x h1, by simpa using hst⟩
theorem infoPair : (Tryz.prog.info? 41).map (·.size) = some 33 := by kernel_rfl
theorem wp_load_pair {op : Oper} {a : Act} {w : World} {K : Act → World → Prop} {Q : Exit → Act → World → Prop} (x : Operand) (ho : op.op = .load 41 x)
    (b o : Nat) (hx : a.eval x = .pointer (some ⟨b, o, none⟩)) (y : PE) (hc : w.rangeAt b o (encP y)) (h : K (a.put op.dst (.agg (encP y).toArray)) w) : op.wp Tryz.prog a w K Q :=
  wp_load_mid _ x ho b o hx (encP y) _ hc Tryz.underlying41 rfl (by rw [length_encP]; exact infoPair) h
theorem wpList_load_pair {ops : Array Oper} {rest : List Oper} {op : Oper} {a : Act} {w : World} {Q : Exit → Act → World → Prop} (hgd : op.guard = none) (x : Operand) (ho : op.op = .load 41 x)
    (b o : Nat) (hx : a.eval x = .pointer (some ⟨b, o, none⟩)) (y : PE) (hc : w.rangeAt b o (encP y)) (h : wpList Tryz.prog ops Q rest (a.put op.dst (.agg (encP y).toArray)) w) : wpList Tryz.prog ops Q (op :: rest) a w :=
  wpList_plain hgd fun _ hK => wp_load_pair x ho b o hx y hc (hK _ _ h)
theorem all_encP (y : PE) : (encP y).toArray.all (·.oneCell') = true := all_oneCell_toArray (one_encP y)
theorem wpList_var_pair {ops : Array Oper} {rest : List Oper} {op : Oper} {a : Act} {w : World} {C : Array Value} {t : TypeId} {Q : Exit → Act → World → Prop} (hC : C.size = 33) (hgd : op.guard = none) (x y : Operand) (ho : op.op = .store 41 x y) (s : PE)
    (hx : a.eval x = .pointer (some ⟨w.heap.size, 0, none⟩)) (hy : a.eval y = .agg (encP s).toArray)
    (h : ∀ W', Below w.heap.size w W' → W'.rangeAt w.heap.size 0 (encP s) → wpList Tryz.prog ops Q rest (a.put op.dst undef) W') : wpList Tryz.prog ops Q (op :: rest) a (w.alloc (.cells C t)) := by
  have ht : (w.alloc (.cells C t)).there w.heap.size 0 33 := by rw [← hC]; exact there_new _ _ _
  have ht2 := World.there_setCells ht w.heap.size 0 (encP s)
  exact wpList_store_mid hgd _ x y ho w.heap.size 0 _ hx hy (by simpa [length_encP] using ht) (by simpa [length_encP] using infoPair) (all_encP s) (h _ (setCells_below _ (Nat.le_refl _) _ 0 _ _ (al (Below.refl _ _) _)) (by
    have := range_stored w.heap.size (encP s) 0 _ (by rw [length_encP]; exact ht2)
    simpa using this))
theorem encP_cell {w : World} {b : Nat} {y : PE} (h : w.rangeAt b 0 (encP y)) : w.cell? ⟨b, 32, none⟩ = some (peV y) := by
  have := h 32 (peV y) (by rw [encP, List.getElem?_append_right (by rw [length_cellsOf]; omega), length_cellsOf]; rfl)
  rwa [Nat.zero_add] at this
theorem wpList_build_pairs {w : World} {ops : Array Oper} {rest : List Oper} {o : Oper} {a : Act} {Q : Exit → Act → World → Prop} (hgd : o.guard = none) (len : Nat) (parts : Array (Nat × Operand)) (ho : o.op = .buildSlice 22 len parts) (l : List PE) (hl : l.length = len) (h0 : 0 < len) (h1 : len ≤ 1000)
    (hp : (parts.toList.map fun (i, x) => (i, a.eval x)) = (((l.map fun s => Value.agg (encP s).toArray)).zipIdx 0).map fun x => (x.2, x.1))
    (h : wpList Tryz.prog ops Q rest (a.put o.dst (.slice (some ⟨w.heap.size, 0, none⟩) len len)) (w.alloc (.cells (cellsP l).toArray 41))) : wpList Tryz.prog ops Q (o :: rest) a w :=
  wpList_plain hgd fun _ hK => wp_build_pairs len parts ho l hl h0 h1 hp (hK _ _ h)
theorem wpList_build_sums1 {w : World} {ops : Array Oper} {rest : List Oper} {o : Oper} {a : Act} {Q : Exit → Act → World → Prop} (hgd : o.guard = none) (len : Nat) (parts : Array (Nat × Operand)) (ho : o.op = .buildSlice 61 len parts) (l : List Sum) (hl : l.length = len) (h0 : 0 < len) (h1 : len ≤ 1000)
    (hp : (parts.toList.map fun (i, x) => (i, a.eval x)) = (((l.map fun s => sv s)).zipIdx 0).map fun x => (x.2, x.1))
    (h : wpList Tryz.prog ops Q rest (a.put o.dst (.slice (some ⟨w.heap.size, 0, none⟩) len len)) (w.alloc (.cells (cellsAll l).toArray 24))) : wpList Tryz.prog ops Q (o :: rest) a w :=
  wpList_plain hgd fun _ hK => wp_build_sums len parts ho l hl h0 h1 hp (hK _ _ h)
/-- append of pairs, into a row of pairs. -/
theorem wp_append_pairs {w : World} {o : Oper} {a : Act} {K : Act → World → Prop} {Q : Exit → Act → World → Prop} (s x : Operand)
    (ho : o.op = .call { callee := .builtin .append, args := #[s, x], argTypes := #[22, 22] })
    (base : Nat) (v : Value) (l ys : List PE) (n m : Nat) (_hn : l.length = n) (hm : ys.length = m) (hs : a.eval s = v) (hown : w.ownsRow base 41 33 v n (cellsP l))
    (b off c : Nat) (hx : a.eval x = .slice (some ⟨b, off, none⟩) m c) (hr : w.rangeAt b off (cellsP ys)) (h0 : 0 < m) (hl : n + m < 1000000) (hB : base ≤ w.heap.size)
    (h : ∀ g cap w', w'.ownsRow base 41 33 (.slice (some ⟨g, 0, none⟩) (n + m) cap) (n + m) (cellsP (l ++ ys)) → w.grownBy w' v.ownBlock → (v.ownBlock = some g ∨ g = w.heap.size) → g < w'.heap.size → K (a.put o.dst (.slice (some ⟨g, 0, none⟩) (n + m) cap)) w') : o.wp Tryz.prog a w K Q := by
  obtain ⟨i, z, hi, hz, h1, h2, h3⟩ := info_pair
  refine wp_append_lies w s x _ ho base _ i z 33 56 Tryz.underlying22 hi hz h1 h2 h3 (by omega) v n (cellsP l) hs hown ⟨b, off, none⟩ m c (cellsP ys) hx (by rw [length_cellsP, hm]; omega) (fun j u hj => by rw [Addr.add_mid]; exact hr j u hj) (oneCell_cellsP ys) h0 (by unfold maxLen; omega) (by omega) hB w.heap.size rfl ?_
  intro g cap w' ho' hg hat hlt
  refine h g cap w' ?_ hg hat hlt
  rw [cellsP_append]; exact ho'
theorem wpList_append_pairs {w : World} {ops : Array Oper} {rest : List Oper} {o : Oper} {a : Act} {Q : Exit → Act → World → Prop} (hgd : o.guard = none) (s x : Operand)
    (ho : o.op = .call { callee := .builtin .append, args := #[s, x], argTypes := #[22, 22] })
    (base : Nat) (v : Value) (l ys : List PE) (n m : Nat) (hn : l.length = n) (hm : ys.length = m) (hs : a.eval s = v) (hown : w.ownsRow base 41 33 v n (cellsP l))
    (b off c : Nat) (hx : a.eval x = .slice (some ⟨b, off, none⟩) m c) (hr : w.rangeAt b off (cellsP ys)) (h0 : 0 < m) (hl : n + m < 1000000) (hB : base ≤ w.heap.size)
    (h : ∀ g cap w', w'.ownsRow base 41 33 (.slice (some ⟨g, 0, none⟩) (n + m) cap) (n + m) (cellsP (l ++ ys)) → w.grownBy w' v.ownBlock → (v.ownBlock = some g ∨ g = w.heap.size) → g < w'.heap.size → wpList Tryz.prog ops Q rest (a.put o.dst (.slice (some ⟨g, 0, none⟩) (n + m) cap)) w') : wpList Tryz.prog ops Q (o :: rest) a w :=
  wpList_plain hgd fun _ hK => wp_append_pairs s x ho base v l ys n m hn hm hs hown b off c hx hr h0 hl hB fun g cap w' h1 h2 h3 h4 => hK _ _ (h g cap w' h1 h2 h3 h4)
/-- One of a list of pairs. -/
theorem cellsP_split {l : List PE} {i : Nat} (h : i < l.length) : cellsP l = cellsP (l.take i) ++ (encP (l.getD i default) ++ cellsP (l.drop (i + 1))) := by
  conv => lhs; rw [← List.take_append_drop i l, cellsP_append, List.drop_eq_getElem_cons h]
  rw [List.getD_eq_getElem?_getD, List.getElem?_eq_getElem h]
  rfl
theorem rangeP_at {w : World} {b o : Nat} {l : List PE} (h : w.rangeAt b o (cellsP l)) {i : Nat} (hi : i < l.length) : w.rangeAt b (o + i * 33) (encP (l.getD i default)) := by
  rw [cellsP_split hi, range_append, length_cellsP, range_append, List.length_take, Nat.min_eq_left (by omega)] at h
  rw [Nat.mul_comm]; exact h.2.1
theorem sums_at {w : World} {v : Value} {l : List Sum} (h : SumsAt w v l) {i : Nat} (hi : i < l.length) : ∃ b o cap, v = .slice (some ⟨b, o, none⟩) l.length cap ∧ l.length ≤ cap ∧ w.rangeAt b (o + i * 32) (cellsOf (l.getD i zeroSum)) := by
  obtain ⟨a, cap, rfl, h1, h2, h3⟩ := h
  rcases h3 with h3 | ⟨b, o, rfl, hr⟩
  · rw [h3] at hi; simp at hi
  · refine ⟨b, o, cap, rfl, h1, ?_⟩
    have := range_at hr hi
    rw [List.getD_eq_getElem?_getD, List.getElem?_eq_getElem hi]
    exact this
/-- The keys of pairs in memory. -/
def KeysIn (w : World) (v : Value) (l : List PE) : Prop :=
  ∃ a cap, v = .slice a l.length cap ∧ l.length ≤ cap ∧ cap ≤ maxLen ∧ (l = [] ∨ ∃ b o, a = some ⟨b, o, none⟩ ∧ w.rangeAt b o (cellsP l))
theorem KeysIn.keep {X : Nat → Prop} {w w' : World} {v : Value} {l : List PE} (h : KeysIn w v l) (hk : Keeps X w w') (hx : l ≠ [] → ∀ k, v.ownBlock = some k → ¬ X k) : KeysIn w' v l := by
  obtain ⟨a, cap, rfl, h1, h2, h3⟩ := h
  refine ⟨a, cap, rfl, h1, h2, ?_⟩
  rcases h3 with h0 | ⟨b, o, rfl, hr⟩
  · exact .inl h0
  · by_cases hl : l = []
    · exact .inl hl
    · exact .inr ⟨b, o, rfl, hk.range hr (hx hl b rfl)⟩
theorem keys_pairs {w : World} {v : Value} {P : List Keys.Pr} (h : PairsAt w v P) : ∃ pe : List PE, KeysIn w v pe ∧ pe.map (·.1) = P.map (·.1) ∧ (pe ≠ [] → ∀ k, v.ownBlock = some k → k < w.heap.size) := by
  obtain ⟨a, cap, cs, rfl, h1, h2, h3, h4, h5⟩ := h
  have hl : cs.length = P.length := by rw [← h3, List.length_map]
  refine ⟨cs.map Prod.fst, ⟨a, cap, by rw [List.length_map, hl], by rw [List.length_map, hl]; exact h1, h2, ?_⟩, by rw [← h3, List.map_map, List.map_map]; rfl, fun hne k hk => ?_⟩
  · rcases h5 with h5 | h5
    · left
      have : cs = [] := List.length_eq_zero_iff.1 (by rw [hl, h5]; rfl)
      rw [this]; rfl
    · exact .inr h5
  · rcases h5 with h5 | ⟨b, o, rfl, hr⟩
    · have : cs = [] := List.length_eq_zero_iff.1 (by rw [hl, h5]; rfl)
      rw [this] at hne; exact absurd rfl hne
    · simp only [Value.ownBlock, Option.some.injEq] at hk
      subst hk
      exact range_lt hr (cellsP_ne hne)
/-- A sum laid behind those that are there. -/
theorem sums_set {W : World} {g m : Nat} {l : List Sum} {s : Sum} (hr : W.rangeAt g 0 (cellsAll l)) (ht : W.there g 0 (32 * m)) (hl : l.length < m) :
    (W.setCells g (l.length * 32) (cellsOf s)).rangeAt g 0 (cellsAll (l ++ [s])) ∧ (W.setCells g (l.length * 32) (cellsOf s)).there g 0 (32 * m) := by
  have ht2 := World.there_setCells ht g (l.length * 32) (cellsOf s)
  refine ⟨?_, ht2⟩
  have htp : (W.setCells g (l.length * 32) (cellsOf s)).there g (l.length * 32) 32 := fun j hj => by
    have := ht2 (l.length * 32 + j) (by omega)
    rw [Nat.zero_add] at this
    exact this
  have hst := range_stored g (cellsOf s) (l.length * 32) W (by rw [length_cellsOf]; exact htp)
  rw [cellsAll_append, range_append, length_cellsAll, cellsAll_one]
  refine ⟨fun j v hj => ?_, by rw [Nat.zero_add, show 32 * l.length = l.length * 32 from Nat.mul_comm _ _]; exact hst⟩
  have hjl : j < 32 * l.length := by have := (List.getElem?_eq_some_iff.1 hj).1; rw [length_cellsAll] at this; exact this
  rw [World.cell?_setCells_out _ _ _ _ _ (fun _ _ => by rw [length_cellsOf]; show 0 + j < l.length * 32 ∨ l.length * 32 + 32 ≤ 0 + j; omega)]
  exact hr j v hj
theorem own_there {w : World} {base : Nat} {e : TypeId} {size g n cap : Nat} {xs : List Value} (h : w.ownsRow base e size (.slice (some ⟨g, 0, none⟩) n cap) n xs) : w.there g 0 (n * size) := by
  rcases h.2 with ⟨hv, _⟩ | ⟨g', cap', cur, hv, hb, hg, hnc, hcm, hsz, htk⟩
  · cases hv
  simp only [Value.slice.injEq, Option.some.injEq, Addr.mk.injEq, and_true, true_and] at hv
  obtain ⟨rfl, rfl⟩ := hv
  intro j hj
  have hlt : j < cur.size := by
    rw [hsz]
    exact Nat.lt_of_lt_of_le hj (Nat.mul_le_mul_right _ hnc)
  refine ⟨?_, ?_⟩
  · rw [cell_of_row _ _ _ cur e (0, 0) hg, Nat.zero_add, Array.getElem?_eq_getElem hlt]; rfl
  · exact frozen_of_row _ _ _ cur e hg
theorem keys_own {w : World} {base : Nat} {v : Value} {l : List PE} (h : w.ownsRow base 41 33 v l.length (cellsP l)) : KeysIn w v l := by
  rcases h.2 with ⟨rfl, h0⟩ | ⟨g, cap, cur, rfl, hb, hg, hnc, hcm, hsz, htk⟩
  · have : l = [] := List.length_eq_zero_iff.1 h0
    subst this
    exact ⟨none, 0, rfl, Nat.le_refl _, by unfold maxLen; omega, .inl rfl⟩
  · refine ⟨_, cap, rfl, hnc, hcm, .inr ⟨g, 0, rfl, fun j u hj => ?_⟩⟩
    rw [cell_of_row w g _ cur _ (0, 0) hg, Nat.zero_add]
    rw [← htk, List.getElem?_take] at hj
    split at hj
    · simpa using hj
    · cases hj
theorem keys_at {w : World} {v : Value} {l : List PE} (h : KeysIn w v l) {i : Nat} (hi : i < l.length) : ∃ b o cap, v = .slice (some ⟨b, o, none⟩) l.length cap ∧ l.length ≤ cap ∧ w.rangeAt b (o + i * 33) (encP (l.getD i default)) := by
  obtain ⟨a, cap, rfl, h1, h2, h3⟩ := h
  rcases h3 with h3 | ⟨b, o, rfl, hr⟩
  · rw [h3] at hi; simp at hi
  · exact ⟨b, o, cap, rfl, h1, rangeP_at hr hi⟩
end Go.Proofs.YtfmgoehnbaiamaaGreatDoor
