/-
  Walks: chains: Add.
-/
import Derived.Test.YtdkcndgehgmadaaGreatDoorZAS
open Go Go.RowKit Alm
namespace Go.Proofs.YtdkcndgehgmadaaGreatDoor
theorem parts_sums {w : World} {p q b : Nat} (x y : Sum) (hp : p < w.heap.size) (hq : q < w.heap.size) (t : TypeId) (hb : b = w.heap.size)
    (h1 : w.rangeAt p 0 (cellsOf x)) (h2 : w.rangeAt q 0 (cellsOf y)) :
    Parts2 (w.alloc (.cells #[.slice (some ⟨p, 0, none⟩) 32 32, .slice (some ⟨q, 0, none⟩) 32 32] t)) b 0 [.slice (some ⟨p, 0, none⟩) 32 32, .slice (some ⟨q, 0, none⟩) 32 32] [x.toList, y.toList] := by
  subst hb
  have hB := al (Below.refl w.heap.size w) (.cells #[.slice (some ⟨p, 0, none⟩) 32 32, .slice (some ⟨q, 0, none⟩) 32 32] t)
  refine ⟨range_new _ _ _ _ rfl, rfl, fun j hj => ?_⟩
  have hj' : j < 2 := hj
  match j, hj' with
  | 0, _ => exact ⟨_, _, _, rfl, by simp, by decide, .inr ⟨p, 0, rfl, range_below hB h1 hp, by simp; omega⟩⟩
  | 1, _ => exact ⟨_, _, _, rfl, by simp, by decide, .inr ⟨q, 0, rfl, range_below hB h2 hq, by simp; omega⟩⟩
theorem entrow_below {W W' : World} {X : Nat} {e : Ent} (h : EntRow W X e) (hb : Below W.heap.size W W') : EntRow W' X e := (hb.block X h.lt).trans h
theorem keeps_setCells_any (b : Nat) : ∀ (vs : List Value) (o : Nat) (w : World), Keeps (· = b) w (w.setCells b o vs)
  | [], _, w => Keeps.refl _ w
  | v :: r, o, w => by
    rw [World.setCells]
    exact ((Keeps.refl (fun k => k = b) w).setCell (p := ⟨b, o, none⟩) (.inl rfl) v).trans (keeps_setCells_any b r (o + 1) _)
/-- What stands while an entry is made, in variable X. -/
structure AddW (w W : World) (X : Nat) (e : Ent) (b : List UInt8) : Prop where
  below : Below w.heap.size w W
  row : EntRow W X e
  bytes : BytesAt W e.v b
  own : ∀ k, e.v.ownBlock = some k → w.heap.size ≤ k ∧ k ≠ X
  hx : w.heap.size ≤ X
  olt : ∀ k, e.v.ownBlock = some k → k < W.heap.size
theorem AddW.mem {w W W' : World} {X : Nat} {e : Ent} {b : List UInt8} (h : AddW w W X e b) (hb : Below W.heap.size W W') : AddW w W' X e b :=
  ⟨h.below.trans (hb.mono h.below.size), entrow_below h.row hb, bytes_below h.bytes hb (Nat.le_refl _), h.own, h.hx, fun k hk => Nat.lt_of_lt_of_le (h.olt k hk) hb.size⟩
theorem AddW.store {w W : World} {X : Nat} {e e' : Ent} {b : List UInt8} (h : AddW w W X e b) (o : Nat) (vs : List Value) (hr : EntRow (W.setCells X o vs) X e') (hv : e'.v = e.v) : AddW w (W.setCells X o vs) X e' b := by
  have hk := keeps_setCells_any X vs o W
  refine ⟨setCells_below X h.hx vs o w W h.below, hr, ?_, ?_, h.hx, ?_⟩
  · rw [hv]
    exact bytes_keep h.bytes hk (fun _ k ek => (h.own k ek).2)
  · rw [hv]; exact h.own
  · rw [hv, size_setCells]; exact h.olt
/-- What stands behind the front's Add. -/
structure AddV (w W : World) (f X : Nat) (vf vf' : Value) (fl : List Sum) (e : Ent) (b : List UInt8) : Prop where
  keeps : Keeps (fun k => (k = f ∨ vf.ownBlock = some k) ∨ w.heap.size ≤ k) w W
  row : EntRow W X e
  front : FrontAt W f vf' fl
  bytes : BytesAt W e.v b
  own : ∀ k, e.v.ownBlock = some k → w.heap.size ≤ k ∧ k < W.heap.size ∧ k ≠ X ∧ vf'.ownBlock ≠ some k
  hx : w.heap.size ≤ X
  fw : f < w.heap.size
  fresh : ∀ k, vf'.ownBlock = some k → k ≠ X ∧ (vf.ownBlock = some k ∨ w.heap.size ≤ k)
theorem AddV.mem {w W W' : World} {f X : Nat} {vf vf' : Value} {fl : List Sum} {e : Ent} {b : List UInt8} (h : AddV w W f X vf vf' fl e b) (hb : Below W.heap.size W W') : AddV w W' f X vf vf' fl e b :=
  ⟨h.keeps.trans' (Keeps.of_below (X := fun _ => False) hb) (fun _ h => h.elim), entrow_below h.row hb, h.front.below hb, bytes_below h.bytes hb (Nat.le_refl _), fun k hk => ⟨(h.own k hk).1, Nat.lt_of_lt_of_le (h.own k hk).2.1 hb.size, (h.own k hk).2.2⟩, h.hx, h.fw, h.fresh⟩
theorem AddV.store {w W : World} {f X : Nat} {vf vf' : Value} {fl : List Sum} {e e' : Ent} {b : List UInt8} (h : AddV w W f X vf vf' fl e b) (o : Nat) (vs : List Value) (hr : EntRow (W.setCells X o vs) X e') (hv : e'.v = e.v) : AddV w (W.setCells X o vs) f X vf vf' fl e' b := by
  have hk := keeps_setCells_any X vs o W
  refine ⟨h.keeps.trans' hk (fun i hi => by subst hi; exact .inl (.inr h.hx)), hr, h.front.keep hk (by have := h.fw; have := h.hx; omega) (fun k hk e => (h.fresh k hk).1 e), ?_, ?_, h.hx, h.fw, h.fresh⟩
  · rw [hv]; exact bytes_keep h.bytes hk (fun _ k ek => (h.own k ek).2.2.1)
  · rw [hv, size_setCells]; exact h.own
theorem AddV.start {w W W' : World} {f X : Nat} {vf vf' : Value} {fl : List Sum} {e : Ent} {b : List UInt8} (h : AddW w W X e b) (hf : FrontAt W' f vf' fl) (hfw : f < w.heap.size) (hvw : ∀ k, vf.ownBlock = some k → k < w.heap.size) (hk : Keeps (fun k => k = f ∨ vf.ownBlock = some k) W W') (hv : ∀ k, vf'.ownBlock = some k → vf.ownBlock = some k ∨ W.heap.size ≤ k) : AddV w W' f X vf vf' fl e b := by
  have hlt := h.olt
  have hXn : ¬ (X = f ∨ vf.ownBlock = some X) := fun hh => by
    have := h.hx
    rcases hh with rfl | h1
    · omega
    · have := hvw X h1; omega
  refine ⟨?_, hk.heap h.row hXn, hf, ?_, fun k ek => ⟨(h.own k ek).1, Nat.lt_of_lt_of_le (hlt k ek) hk.size, (h.own k ek).2, fun e1 => ?_⟩, h.hx, hfw, fun k ek => ⟨fun e1 => ?_, ?_⟩⟩
  · have h1 : Keeps (fun k => (k = f ∨ vf.ownBlock = some k) ∨ w.heap.size ≤ k) w W := Keeps.of_below h.below
    exact h1.trans' hk (fun i hi => .inl (.inl hi))
  · refine bytes_keep h.bytes hk (fun _ k ek e1 => ?_)
    have := (h.own k ek).1
    rcases e1 with rfl | h1
    · omega
    · have := hvw k h1; omega
  · have h0 := (h.own k ek).1
    rcases hv k e1 with h1 | h1
    · have := hvw k h1; omega
    · have := hlt k ek; omega
  · subst e1
    rcases hv k ek with h1 | h1
    · exact hXn (.inr h1)
    · have := h.row.lt; omega
  · rcases hv k ek with h1 | h1
    · exact .inl h1
    · exact .inr (Nat.le_trans h.below.size h1)
theorem bytes_lt {w : World} {v : Value} {b : List UInt8} (h : BytesAt w v b) (h0 : b ≠ []) {k : Nat} (hk : v.ownBlock = some k) : k < w.heap.size := by
  obtain ⟨a, cap, rfl, h1, h2, h3⟩ := h
  rcases h3 with h4 | ⟨g, o, rfl, hr⟩
  · exact (h0 h4).elim
  · simp only [Value.ownBlock, Option.some.injEq] at hk
    subst hk
    exact range_lt hr (by intro h5; have := congrArg List.length h5; rw [length_cells8] at this; exact h0 (List.length_eq_zero_iff.1 this))
theorem add_end {base : Nat} {w W W1 W2 : World} {c f X g m cap : Nat} {cv vf vf' : Value} {es : List Ent} {l : List (List UInt8)} {e : Ent} {b : List UInt8} {s : Sum} (h : ChainIn base w c f cv vf es l) (hA : AddV w W f X vf vf' (l.map lf ++ [s]) e b) (hB : base ≤ w.heap.size)
    (hs : lf b = s) (he : e.leaf = s) (hem : e.mark = mk (l ++ [b])) (her : e.root = rt ((l ++ [b]).map lf)) (hm : m = l.length)
    (hb1 : Below W.heap.size W W1) (ho : W2.ownsRow base 129 97 (.slice (some ⟨g, 0, none⟩) (m + 1) cap) (m + 1) (cellsEnts (es ++ [e]))) (hg : W1.grownBy W2 cv.ownBlock) (hat : cv.ownBlock = some g ∨ g = W1.heap.size) :
    ChainAt base (W2.setCell ⟨c, 1, none⟩ (.slice (some ⟨g, 0, none⟩) (m + 1) cap)) c (l ++ [b]) ∧ Keeps (fun k => base ≤ k) w (W2.setCell ⟨c, 1, none⟩ (.slice (some ⟨g, 0, none⟩) (m + 1) cap)) := by
  have hcw : c < w.heap.size := (Array.getElem?_eq_some_iff.1 h.head).1
  have hK : Keeps (fun k => cv.ownBlock = some k) W1 W2 := .of_grown hg (fun k hk => hk)
  have hcvw : ∀ k, cv.ownBlock = some k → k < w.heap.size := fun k hk => own_lt h.row hk
  have hvfw : ∀ k, vf.ownBlock = some k → k < w.heap.size := fun k hk => own_lt h.front.2.1 hk
  have hw1 : w.heap.size ≤ W1.heap.size := Nat.le_trans hA.keeps.size hb1.size
  have hcn : ¬ ((c = f ∨ vf.ownBlock = some c) ∨ w.heap.size ≤ c) := fun hh => by
    rcases hh with (h1 | h1) | h1
    · exact h.cf h1
    · exact h.fc h1
    · omega
  have hall : Keeps (fun k => ((k = f ∨ vf.ownBlock = some k) ∨ w.heap.size ≤ k) ∨ cv.ownBlock = some k) w W2 :=
    ((hA.keeps.mono (fun k hk => .inl hk)).trans' (Keeps.of_below (X := fun _ => False) hb1) (fun _ h => h.elim)).trans' hK (fun i hi => .inl (.inr hi))
  have hset : Keeps (· = c) W2 (W2.setCell ⟨c, 1, none⟩ (.slice (some ⟨g, 0, none⟩) (m + 1) cap)) := (Keeps.refl (fun k => k = c) W2).setCell (p := ⟨c, 1, none⟩) (.inl rfl) _
  have hgc : g ≠ c := by
    rintro rfl
    rcases hat with h1 | h1
    · exact h.vc h1
    · omega
  have hgf : g ≠ f := by
    rintro rfl
    rcases hat with h1 | h1
    · exact h.vf_ h1
    · have := hA.fw; omega
  have hvf'c : vf'.ownBlock ≠ some c := fun e1 => by
    rcases (hA.fresh c e1).2 with h1 | h1
    · exact h.fc h1
    · omega
  have hvv : ∀ k, vf'.ownBlock = some k → cv.ownBlock ≠ some k := fun k e1 e2 => by
    rcases (hA.fresh k e1).2 with h1 | h1
    · exact h.vv k e2 h1
    · have := hcvw k e2; omega
  have hf1 := hA.front.below hb1
  have hvflt : ∀ k, vf'.ownBlock = some k → k < W1.heap.size := fun k e1 => own_lt hf1.2.1 e1
  have hfr2 : FrontAt W2 f vf' ((l ++ [b]).map lf) := by
    rw [List.map_append, List.map_singleton, hs]
    exact hf1.keep hK (fun e1 => h.vf_ e1) (fun k e1 e2 => hvv k e1 e2)
  refine ⟨⟨f, .slice (some ⟨g, 0, none⟩) (m + 1) cap, vf', es ++ [e], ?_⟩, ?_⟩
  · refine { head := ?_, front := hfr2.keep hset (fun e1 => h.cf e1.symm) (fun k e1 e2 => by subst e2; exact hvf'c e1), row := ?_, nil := (fun e1 => by simp at e1), len := (by rw [List.length_append, List.length_append, h.len]; rfl), ents := ?_, hc := h.hc, hf := h.hf, hvf := ?_, cf := h.cf, vc := ?_, vf_ := ?_, fc := hvf'c, vv := ?_ }
    · have h1 : W2.heap[c]? = some (.cells #[.pointer (some ⟨f, 0, none⟩), cv] 125 (0, 0)) :=
        hall.heap h.head (fun hh => by rcases hh with h1 | h1; exact hcn h1; exact h.vc h1)
      have h2 := heap_setCell_same W2 c 1 _ _ (.slice (some ⟨g, 0, none⟩) (m + 1) cap) h1
      simpa using h2
    · rw [List.length_append, List.length_singleton, ← hm]
      exact hset.owns ho (fun k e1 => by cases e1; exact hgc)
    · intro i e0 b0 he0 hb0
      by_cases hi : i < l.length
      · have hie : i < es.length := by rw [h.len]; exact hi
        rw [List.getElem?_append_left hie] at he0
        rw [List.getElem?_append_left hi] at hb0
        rw [List.take_append_of_le_length (by omega)]
        have hE := h.ents i e0 b0 he0 hb0
        refine { leaf := hE.leaf, mark := hE.mark, root := hE.root, bytes := ?_, apart := ?_ }
        · refine bytes_keep (bytes_keep hE.bytes hall ?_) hset ?_
          · intro h0 k ek hh
            obtain ⟨a1, a2⟩ := hE.apart h0 k ek
            have hkw := bytes_lt hE.bytes h0 ek
            rcases hh with ((h1 | h1) | h1) | h1
            · exact a2 (.inr (.inl h1))
            · exact a2 (.inr (.inr (.inr h1)))
            · omega
            · exact a2 (.inr (.inr (.inl h1)))
          · intro h0 k ek hh
            exact (hE.apart h0 k ek).2 (.inl hh)
        · intro h0 k ek
          obtain ⟨a1, a2⟩ := hE.apart h0 k ek
          have hkw := bytes_lt hE.bytes h0 ek
          refine ⟨a1, fun hh => ?_⟩
          rcases hh with h1 | h1 | h1 | h1
          · exact a2 (.inl h1)
          · exact a2 (.inr (.inl h1))
          · obtain rfl : g = k := by simpa [Value.ownBlock] using h1
            rcases hat with h2 | h2
            · exact a2 (.inr (.inr (.inl h2)))
            · omega
          · rcases (hA.fresh k h1).2 with h2 | h2
            · exact a2 (.inr (.inr (.inr h2)))
            · omega
      · have hil : i = l.length := by
          have := (List.getElem?_eq_some_iff.1 hb0).1
          rw [List.length_append, List.length_singleton] at this
          omega
        subst hil
        have he1 : e0 = e := by
          rw [List.getElem?_append_right (by rw [h.len]; exact Nat.le_refl _), h.len, Nat.sub_self] at he0
          simpa using he0.symm
        have hb1' : b0 = b := by
          rw [List.getElem?_append_right (Nat.le_refl _), Nat.sub_self] at hb0
          simpa using hb0.symm
        subst he1 hb1'
        rw [List.take_left' rfl]
        have hke : ∀ k, e0.v.ownBlock = some k → k < W1.heap.size ∧ cv.ownBlock ≠ some k ∧ k ≠ c := fun k ek => by
          obtain ⟨o1, o2, o3, o4⟩ := hA.own k ek
          exact ⟨Nat.lt_of_lt_of_le o2 hb1.size, fun e2 => by have := hcvw k e2; omega, by omega⟩
        refine { leaf := he.trans hs.symm, mark := hem, root := her, bytes := ?_, apart := ?_ }
        · exact bytes_keep (bytes_keep (bytes_below hA.bytes hb1 (Nat.le_refl _)) hK (fun _ k ek => (hke k ek).2.1)) hset (fun _ k ek => (hke k ek).2.2)
        · intro h0 k ek
          obtain ⟨o1, o2, o3, o4⟩ := hA.own k ek
          refine ⟨by omega, fun hh => ?_⟩
          rcases hh with h1 | h1 | h1 | h1
          · exact (hke k ek).2.2 h1
          · have := hA.fw; omega
          · obtain rfl : g = k := by simpa [Value.ownBlock] using h1
            rcases hat with h2 | h2
            · exact (hke _ ek).2.1 h2
            · have := (hke _ ek).1; omega
          · exact o4 h1
    · intro k e1
      rcases (hA.fresh k e1).2 with h1 | h1
      · exact h.hvf k h1
      · omega
    · intro e1; cases e1; exact hgc rfl
    · intro e1; cases e1; exact hgf rfl
    · intro k e1 e2
      obtain rfl : g = k := by simpa [Value.ownBlock] using e1
      rcases hat with h1 | h1
      · exact hvv _ e2 h1
      · have := hvflt _ e2; omega
  · refine (hall.mono (fun k hk => ?_)).trans' hset (fun i hi => by subst hi; exact .inl h.hc)
    rcases hk with ((h1 | h1) | h1) | h1
    · rw [h1]; exact h.hf
    · exact h.hvf k h1
    · omega
    · exact own_base h.row k h1
set_option maxRecDepth 100000 in
set_option maxHeartbeats 1000000 in
theorem cadd_in {base : Nat} {w : World} {c f : Nat} {cv vf : Value} {es : List Ent} {l : List (List UInt8)} (h : ChainIn base w c f cv vf es l) (b : List UInt8) (v : Value) (hb : BytesAt w v b) (hB : base ≤ w.heap.size) (hl : l.length + 1 < 1000000) (hs : b.length ≤ 16384) :
    Calls Tryz.prog 31 #[.pointer (some ⟨c, 0, none⟩), v] w fun e w' => e = .returned (.int .i64 0) ∧ ChainAt base w' c (l ++ [b]) ∧ Keeps (fun k => base ≤ k) w w' := by
  have hc0 := h.c0
  have hc1 := h.c1
  obtain ⟨ca, cc, hcv, k1, k2, -⟩ := h.form
  have HC := Lib.hid h
  have HV := Lib.hid hb
  obtain ⟨va, vc, rfl, b1, b2, -⟩ := hb
  subst hcv
  have HS := Lib.hid hs
  obtain ⟨n, hn⟩ : ∃ n, n = b.length := ⟨_, rfl⟩
  obtain ⟨m, hm⟩ : ∃ m, m = l.length := ⟨_, rfl⟩
  rw [← hn] at HV b1 hs ⊢
  rw [← hm] at HC k1 hl hc1
  have HN := Lib.hid hn; clear hn
  have HM := Lib.hid hm; clear hm
  have HB := Lib.hid hB; clear hB
  clear h
  unfold maxLen at b2 k2
  have hs' : ¬ ((16384 : Int) < (n : Int)) := by omega
  have hbe := build_ent
  have hfm := field_mark
  go_enter Tryz.func31, Tryz.ntmps31
  go_wp2_with (go_at_call 112; refine (cnone_live _ c f hc0).mono ?_; rintro e w1 ⟨rfl, rfl⟩)
  refine (clone_bytes w _ b HV.out (by have := HS.out; omega)).mono ?_
  rintro e w1 ⟨u, rfl, hu, hb1⟩
  have HU1 := Lib.hid hu
  obtain ⟨⟨ua, uc, rfl, -, -, -⟩, -⟩ := hu
  rw [← HN.out] at HU1 ⊢
  have HB1 := Lib.hid hb1; clear hb1
  go_wp2_with (refine wpList_var_ent (by rfl) rfl _ _ rfl ⟨zeroSum, zeroSum, zeroSum, ua, n, uc⟩ rfl rfl ?_; intro W2 hb2 hE2)
  have hA : AddW w W2 w1.heap.size ⟨zeroSum, zeroSum, zeroSum, ua, n, uc⟩ b :=
    ⟨HB1.out.trans (hb2.mono HB1.out.size), hE2, bytes_below HU1.out.1 hb2 (Nat.le_refl _), fun k hk => ⟨(HU1.out.2 k hk).1, by have := (HU1.out.2 k hk).2; omega⟩, HB1.out.size, fun k hk => Nat.lt_of_lt_of_le (HU1.out.2 k hk).2 hb2.size⟩
  have HA2 := Lib.hid hA
  have HV2 := Lib.hid (bytes_below (bytes_below HV.out HB1.out (Nat.le_refl _)) hb2 (Nat.le_refl _))
  clear hb2 hE2 HB1 HU1 HV hA
  generalize w1.heap.size = X at *
  clear hbe
  refine (lf_any b _ W2 HV2.out (by have := HS.out; omega)).mono ?_
  rintro e w3 ⟨rfl, hb3⟩
  have HA3 := Lib.hid (HA2.out.mem hb3)
  clear hb3 HA2 HV2
  generalize hlf : lf b = s at *
  have HLF := Lib.hid hlf; clear hlf
  go_wp2_with (refine wpList_store_sum rfl _ _ rfl X 0 s rfl rfl (HA3.out.row.there 0 32 (by omega)) ?_; have HA4 := Lib.hid (HA3.out.store 0 (cellsOf s) (HA3.out.row.set0 s) rfl); generalize w3.setCells X 0 (cellsOf s) = w4 at *; clear HA3; have hc4 := (HA4.out.below.cell (p := ⟨c, 1, none⟩) (World.block_lt_of_cell? w _ hc1)).trans hc1)
  have HL4 := Lib.hid (last_at (HC.out.below HA4.out.below) m (by rw [HM.out]; exact Nat.le_refl _) ca cc (by rw [HM.out]))
  clear hc4
  refine HL4.out.mono ?_
  rintro e w5 ⟨⟨p0, r0, rfl, -⟩, hb5⟩
  have HA5 := Lib.hid (HA4.out.mem hb5)
  clear hb5 HA4 HL4
  have htk : l.take m = l := List.take_of_length_le (by rw [HM.out]; exact Nat.le_refl _)
  rw [htk]
  clear htk
  generalize hmk : mk l = mm at *
  have HMK := Lib.hid hmk; clear hmk
  go_wp2_with (refine wpList_var_sum (by rfl) rfl _ _ rfl mm rfl rfl ?_; intro W6 hb6 hr6 _ hlt6)
  have HA6 := Lib.hid (HA5.out.mem hb6)
  have HR6 := Lib.hid hr6
  have HMX := Lib.hid HA5.out.row.lt
  generalize w5.heap.size = M at *
  clear hb6 hr6 HA5 hfm
  refine wp_region_sched (fun _ => True) [.t 0, .t 1, .t 2, .t 3, .e 4 false, .e 5 false, .e 6 false, .t 7, .t 8, .e 9 false] (by kernel_rfl) (by kernel_rfl) (by intro c a d v w h; cases d <;> exact h) ?_
  iterate 4
    refine wpS_t rfl (v := ?_) (by rfl) (fun W => ?_) ?_
    rotate_left
    · go_simp
      try rfl
    try simp only [Act.put, List.setIfInBounds_toArray, List.set_cons_zero, List.set_cons_succ]
  refine wpS_e rfl (by rfl) (fun K hK => ?_)
  go_simp
  refine hK _ _ ?_; clear hK K
  try simp only [Act.put, List.setIfInBounds_toArray, List.set_cons_zero, List.set_cons_succ]
  have hD : Below W6.heap.size W6 W6.drew := (Below.refl _ _).drew
  have HP := Lib.hid (parts_sums (w := W6.drew) (p := M) (q := X) (b := W6.drew.heap.size) mm s hlt6 (Nat.lt_trans HMX.out hlt6) 65 rfl HR6.out (ent_leaf (HA6.out.row.range)))
  have HA7 := Lib.hid (HA6.out.mem (al hD (.cells #[.slice (some ⟨M, 0, none⟩) 32 32, .slice (some ⟨X, 0, none⟩) 32 32] 65)))
  clear hD HA6 HR6
  refine wpS_e rfl (by rfl) (fun K hK => ?_)
  go_simp
  refine (concat_all _ [mm.toList, s.toList] _ _ 2 _ HP.out (by simp) (by simp) (by simp) (by simp)).mono ?_
  rintro e w8 ⟨u8, rfl, hb8, hbw8⟩
  refine hK _ _ ?_; clear hK K
  try simp only [Act.put, List.setIfInBounds_toArray, List.set_cons_zero, List.set_cons_succ]
  have HA8 := Lib.hid (HA7.out.mem hbw8)
  have HB8 := Lib.hid hb8
  clear hb8 hbw8 HA7 HP
  refine wpS_e rfl (by rfl) (fun K hK => ?_)
  go_simp
  refine (sh_any _ _ _ HB8.out (by simp)).mono ?_
  have hsh : sh [mm.toList, s.toList].flatten = mk (l ++ [b]) := by rw [mk_snoc, HMK.out, HLF.out]; simp
  rw [hsh]
  clear hsh
  generalize hmk2 : mk (l ++ [b]) = m2 at *
  have HMK2 := Lib.hid hmk2; clear hmk2
  rintro e w9 ⟨rfl, hb9⟩
  refine hK _ _ ?_; clear hK K
  try simp only [Act.put, List.setIfInBounds_toArray, List.set_cons_zero, List.set_cons_succ]
  have HA9 := Lib.hid (HA8.out.mem hb9)
  clear hb9 HA8 HB8
  iterate 2
    refine wpS_t rfl (v := ?_) (by rfl) (fun W => ?_) ?_
    rotate_left
    · go_simp
      try rfl
    try simp only [Act.put, List.setIfInBounds_toArray, List.set_cons_zero, List.set_cons_succ]
  refine wpS_e rfl (by rfl) (fun K hK => ?_)
  refine wp_store_sum _ _ (by rfl) X 32 m2 (by rfl) (by rfl) (HA9.out.row.there 32 32 (by omega)) ?_
  refine hK _ _ ?_; clear hK K
  try simp only [Act.put]
  refine wpS_done ?_
  have HA10 := Lib.hid (HA9.out.store 32 (cellsOf m2) (HA9.out.row.set1 m2) rfl)
  generalize w9.setCells X 32 (cellsOf m2) = w10 at *
  clear HA9
  go_wp2_with fail
  have hS10 : w10.drew.cell? ⟨c, 0, none⟩ = some (.pointer (some ⟨f, 0, none⟩)) := (HA10.out.below.cell (p := ⟨c, 0, none⟩) (World.block_lt_of_cell? w _ hc0)).trans hc0
  have HS10 := Lib.hid hS10; clear hS10
  have HA11 := Lib.hid (HA10.out.mem (Below.refl _ w10).drew)
  refine wp_region_sched (fun W => W.cell? ⟨c, 0, none⟩ = some (.pointer (some ⟨f, 0, none⟩))) [.t 0, .t 1, .t 2, .t 4, .t 5, .s 3, .e 6 true, .e 7 false] (by kernel_rfl) (by kernel_rfl) (by intro c a d v w h; cases d <;> exact h) ?_
  generalize w10.drew = w11 at *
  clear HA10
  iterate 5
    refine wpS_t rfl (v := ?_) (by rfl) (fun W => ?_) ?_
    rotate_left
    · go_simp
      try rfl
    try simp only [Act.put, List.setIfInBounds_toArray, List.set_cons_zero, List.set_cons_succ]
  refine wpS_s (by exact HS10.out) rfl (v := ?_) (by rfl) (fun W hSW => ?_) ?_
  rotate_left
  · go_simp
    try rfl
  try simp only [Act.put, List.setIfInBounds_toArray, List.set_cons_zero, List.set_cons_succ]
  refine wpS_k rfl (by rfl) (fun K hK => ?_)
  refine wp_load_sum _ (by rfl) X 0 (by rfl) s (ent_leaf HA11.out.row.range) ?_
  refine hK _ _ ⟨by exact HS10.out, ?_⟩; clear hK K
  try simp only [Act.put, List.setIfInBounds_toArray, List.set_cons_zero, List.set_cons_succ]
  refine wpS_e rfl (by rfl) (fun K hK => ?_)
  go_simp
  refine (add_live w11 f vf (l.map lf) s (HC.out.below HA11.out.below).front (by rw [List.length_map, ← HM.out]; omega)).mono ?_
  rintro e w12 ⟨vf', rfl, hf12, hk12, hv12⟩
  refine hK _ _ ?_; clear hK K
  try simp only [Act.put, List.setIfInBounds_toArray, List.set_cons_zero, List.set_cons_succ]
  refine wpS_done ?_
  have HA12 := Lib.hid (AddV.start HA11.out hf12 HC.out.front.lt (fun k hk => own_lt HC.out.front.2.1 hk) hk12 hv12)
  clear hf12 hk12 hv12 HA11 HS10
  have hcw : c < w.heap.size := World.block_lt_of_cell? w _ hc0
  have hcn : ¬ ((c = f ∨ vf.ownBlock = some c) ∨ w.heap.size ≤ c) := fun hh => by
    rcases hh with (h1 | h1) | h1
    · exact HC.out.cf h1
    · exact HC.out.fc h1
    · omega
  have HCN := Lib.hid hcn; clear hcn
  have g0 := HA12.out.keeps.cell hc0 HCN.out
  go_wp2_with fail
  refine (root_live w12 f vf' _ HA12.out.front).mono ?_
  have hrt : rt (l.map lf ++ [s]) = rt ((l ++ [b]).map lf) := by rw [List.map_append, List.map_singleton, HLF.out]
  rw [hrt]
  clear hrt
  generalize hr2 : rt ((l ++ [b]).map lf) = r2 at *
  have HR2 := Lib.hid hr2; clear hr2
  rintro e w13 ⟨rfl, hb13⟩
  have HA13 := Lib.hid (HA12.out.mem hb13)
  clear hb13 HA12 g0
  go_wp2_with (refine wpList_store_sum rfl _ _ rfl X 64 r2 rfl rfl (HA13.out.row.there 64 32 (by omega)) ?_; have HA14 := Lib.hid (HA13.out.store 64 (cellsOf r2) (HA13.out.row.set2 r2) rfl); generalize w13.setCells X 64 (cellsOf r2) = w14 at *; clear HA13)
  have hS14 : w14.drew.cell? ⟨c, 1, none⟩ = some (.slice ca m cc) := HA14.out.keeps.cell hc1 HCN.out
  have HS14 := Lib.hid hS14; clear hS14
  have HA15 := Lib.hid (HA14.out.mem (Below.refl _ w14).drew)
  refine wp_region_sched (fun W => W.cell? ⟨c, 1, none⟩ = some (.slice ca m cc)) [.t 0, .t 1, .t 2, .t 3, .s 4, .e 5 true, .e 6 true, .e 7 false, .t 8, .t 9, .e 10 false] (by kernel_rfl) (by kernel_rfl) (by intro c a d v w h; cases d <;> exact h) ?_
  generalize w14.drew = w15 at *
  clear HA14
  iterate 4
    refine wpS_t rfl (v := ?_) (by rfl) (fun W => ?_) ?_
    rotate_left
    · go_simp
      try rfl
    try simp only [Act.put, List.setIfInBounds_toArray, List.set_cons_zero, List.set_cons_succ]
  refine wpS_s (by exact HS14.out) rfl (v := ?_) (by rfl) (fun W hSW => ?_) ?_
  rotate_left
  · go_simp
    try rfl
  try simp only [Act.put, List.setIfInBounds_toArray, List.set_cons_zero, List.set_cons_succ]
  refine wpS_k rfl (by rfl) (fun K hK => ?_)
  refine wp_load_ent _ (by rfl) X 0 (by rfl) _ HA15.out.row.range ?_
  refine hK _ _ ⟨by exact HS14.out, ?_⟩; clear hK K
  try simp only [Act.put, List.setIfInBounds_toArray, List.set_cons_zero, List.set_cons_succ]
  refine wpS_k rfl (by rfl) (fun K hK => ?_)
  refine wp_build_ents _ (by rfl) ⟨s, m2, r2, ua, n, uc⟩ (by rfl) ?_
  have hb16 := al (Below.refl _ w15) (.cells (cellsEnt ⟨s, m2, r2, ua, n, uc⟩).toArray 129)
  have hc16 := (hb16.cell (p := ⟨c, 1, none⟩) (World.block_lt_of_cell? w15 _ HS14.out)).trans HS14.out
  refine hK _ _ ⟨by exact hc16, ?_⟩; clear hK K
  try simp only [Act.put, List.setIfInBounds_toArray, List.set_cons_zero, List.set_cons_succ]
  have hrow := (HA15.out.mem hb16).keeps.owns HC.out.row (fun k ek hh => by
    have := own_lt HC.out.row ek
    rcases hh with (h1 | h1) | h1
    · subst h1; exact HC.out.vf_ ek
    · exact HC.out.vv k ek h1
    · omega)
  have hrn : (w15.alloc (.cells (cellsEnt ⟨s, m2, r2, ua, n, uc⟩).toArray 129)).rangeAt w15.heap.size 0 (cellsEnt ⟨s, m2, r2, ua, n, uc⟩) := range_new w15 _ _ _ rfl
  have HB16 := Lib.hid hb16; clear hb16
  have HRW := Lib.hid hrow; clear hrow
  have HRN := Lib.hid hrn; clear hrn
  clear hc16
  refine wpS_e rfl (by rfl) (fun K hK => ?_)
  refine wp_append_ent _ _ (by rfl) base _ es m (by rw [HC.out.len, HM.out]) (by rfl) (by rw [HM.out]; have := HRW.out; rw [HM.out] at this; exact this) w15.heap.size 0 1 ⟨s, m2, r2, ua, n, uc⟩ (by rfl) HRN.out (by omega) (Nat.le_trans HB.out (HA15.out.mem HB16.out).keeps.size) ?_
  intro g cap w17 ho17 hg17 hat17 hlt17
  refine hK _ _ ?_; clear hK K
  try simp only [Act.put, List.setIfInBounds_toArray, List.set_cons_zero, List.set_cons_succ]
  have hEND := add_end HC.out HA15.out HB.out HLF.out rfl HMK2.out.symm HR2.out.symm HM.out HB16.out ho17 hg17 hat17
  have hhead : w17.heap[c]? = some (.cells #[.pointer (some ⟨f, 0, none⟩), .slice ca m cc] 125 (0, 0)) := by
    have h1 := (HA15.out.mem HB16.out).keeps.heap HC.out.head HCN.out
    exact (Keeps.of_grown (X := fun k => (Value.slice ca m cc).ownBlock = some k) hg17 (fun k hk => hk)).heap h1 HC.out.vc
  clear ho17 hg17 hat17 HRW HRN HB16 HS14 HA15
  have HE := Lib.hid hEND; clear hEND
  have hc17 : w17.cell? ⟨c, 1, none⟩ = some (.slice ca m cc) := by rw [cell_of_row w17 c _ _ _ (0, 0) hhead]; rfl
  have hf17 : w17.frozen? ⟨c, 1, none⟩ = false := frozen_of_row w17 c _ _ _ hhead
  clear hhead
  iterate 2
    refine wpS_t rfl (v := ?_) (by rfl) (fun W => ?_) ?_
    rotate_left
    · go_simp
      try rfl
    try simp only [Act.put, List.setIfInBounds_toArray, List.set_cons_zero, List.set_cons_succ]
  refine wpS_e rfl (by rfl) (fun K hK => ?_)
  go_simp
  refine hK _ _ ?_; clear hK K
  try simp only [Act.put, List.setIfInBounds_toArray, List.set_cons_zero, List.set_cons_succ]
  refine wpS_done ?_
  go_wp2_with fail
  exact bodyPost_ret (results_tmp rfl _ _ _) rfl ⟨rfl, HE.out.1, HE.out.2⟩
end Go.Proofs.YtdkcndgehgmadaaGreatDoor
