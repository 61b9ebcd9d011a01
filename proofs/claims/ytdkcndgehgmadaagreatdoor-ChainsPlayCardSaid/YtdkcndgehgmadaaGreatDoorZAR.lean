/-
  Joined: F4, K0, K1.
-/
import Derived.Test.YtdkcndgehgmadaaGreatDoorZAP
import Derived.Test.YtdkcndgehgmadaaGreatDoorZAQ
import Derived.WalkMore
-- Walks: fronts: Add.
open Go Go.RowKit Alm
namespace Go.Proofs.YtdkcndgehgmadaaGreatDoor
theorem ones_le (n : Nat) : ones n ≤ n := by
  induction n using ones.induct with
  | case1 n h ih => rw [ones, dif_pos h]; omega
  | case2 n h => rw [ones, dif_neg h]; omega
theorem ones_odd {m : Nat} (h : m % 2 = 1) : ones m = ones (m / 2) + 1 := by rw [ones, dif_pos h]
theorem ones_even {m : Nat} (h : m % 2 = 0) : ones m = 0 := by rw [ones, dif_neg (by omega)]
/-- What Add comes to. -/
def Added (w : World) (p : Nat) (v : Value) (l : List Sum) (e : Ending) (w' : World) : Prop :=
  ∃ v', e = .returned (.int .i64 0) ∧ FrontAt w' p v' l ∧ Keeps (fun k => k = p ∨ v.ownBlock = some k) w w' ∧ (∀ k, v'.ownBlock = some k → v.ownBlock = some k ∨ w.heap.size ≤ k)
set_option maxRecDepth 100000 in
set_option maxHeartbeats 1000000 in
theorem add_live (w : World) (p : Nat) (v : Value) (l : List Sum) (s : Sum) (h : FrontAt w p v l) (hl : l.length + 1 < 4000000000) : Calls Tryz.prog 23 #[.pointer (some ⟨p, 0, none⟩), sv s] w (Added w p v (l ++ [s])) := by
  have hp := h.lt
  have h0 := h.c0
  have h1 := h.c1
  have h2 := h.c2
  have hl' : (l.length : Int) + 1 < 4000000000 := by omega
  have HH := Lib.hid h; clear h
  go_enter Tryz.func23, Tryz.ntmps23
  go_wp2_with fail
  go_step3
  go_wp2_with (go_at_call 99; refine (none_live _ p ((World.cell?_alloc_past _ p 0 hp).trans h0)).mono ?_; rintro e w1 ⟨rfl, rfl⟩)
  go_step3
  go_wp2_with fail
  go_loop [5, 6] (fun t n => ∃ j m : Nat, t = .int .i64 (j : Int) ∧ n = .int .u64 (m : Int) ∧ ones l.length = j + ones m ∧ m ≤ l.length) (fun _ n => (intOf n).toNat)
  case atStart => exact ⟨0, l.length, rfl, rfl, by omega, Nat.le_refl _⟩
  case round =>
    obtain ⟨j, m, rfl, rfl, hj, hm⟩ := hrel
    rename_i hww
    clear hww
    have HJ := Lib.hid hj; clear hj
    have hand0 : bits .and .u64 (m : Int) 1 = ((m % 2 : Nat) : Int) := by
      have := u64_and_nat m 1 (by omega) (by omega)
      rwa [Nat.and_one_is_mod] at this
    have hjb : (j : Int) ≤ 4000000000 := by have := ones_le l.length; have := HJ.out; omega
    have hm0 : 0 ≤ (m : Int) := by omega
    have hm1 : (m : Int) < 4000000000 := by omega
    by_cases hodd : m % 2 = 1
    · rw [hodd] at hand0
      have hand : bits .and .u64 (m : Int) 1 = 1 := hand0
      clear hand0
      have HO := Lib.hid hodd; clear hodd
      go_wp2_with fail
      refine ⟨⟨j + 1, m / 2, by simp, by simp, ?_, by omega⟩, by simp [intOf]; have := HO.out; omega⟩
      have h1 := HJ.out
      have h2 := ones_odd HO.out
      omega
    · have hev : m % 2 = 0 := by omega
      rw [hev] at hand0
      have hand : bits .and .u64 (m : Int) 1 = 0 := hand0
      clear hand0 hodd
      have hj : ones l.length = j := by have h1 := HJ.out; have h2 := ones_even hev; omega
      have hjb : j ≤ Alm.bits l.length := by have := ones_le_bits l.length; omega
      have HB := Lib.hid hjb; clear hjb
      have HJ2 := Lib.hid hj; clear hj hev
      have hbl := Lib.hid (bits_le l.length)
      go_wp2_with fail
      have hS : (w.alloc (.cells (cellsOf s).toArray 24)).drew.cell? ⟨p, 2, none⟩ = some v := (World.cell?_alloc_past _ p 2 hp).trans h2
      have HS := Lib.hid hS; clear hS
      have hbx : (w.alloc (.cells (cellsOf s).toArray 24)).rangeAt w.heap.size 0 (cellsOf s) := range_new w _ _ _ rfl
      have hf1 := HH.out.below (al (Below.refl _ _) (.cells (cellsOf s).toArray 24))
      have HF1 := Lib.hid hf1; clear hf1
      have HBX := Lib.hid hbx; clear hbx
      refine wp_region_sched (fun W => W.cell? ⟨p, 2, none⟩ = some v) [.t 0, .t 1, .t 2, .t 3, .t 8, .s 4, .e 5 true, .e 6 true, .e 7 false, .e 9 false, .t 10, .t 11, .e 12 false] (by kernel_rfl) (by kernel_rfl) (by intro c a d v w h; cases d <;> exact h) ?_
      iterate 5
        refine wpS_t rfl (v := ?_) (by rfl) (fun W => ?_) ?_
        rotate_left
        · go_simp
          try rfl
        try simp only [Act.put, List.setIfInBounds_toArray, List.set_cons_zero, List.set_cons_succ]
      refine wpS_s (by exact HS.out) rfl (v := ?_) (by rfl) (fun W hSW => ?_) ?_
      rotate_left
      · go_simp
        try rfl
      try simp only [Act.put, List.setIfInBounds_toArray, List.set_cons_zero, List.set_cons_succ]
      refine wpS_k rfl (by rfl) (fun K hK => ?_)
      refine wp_load_sum _ (by rfl) w.heap.size 0 (by rfl) s (by exact HBX.out) ?_
      refine hK _ _ ⟨by exact HS.out, ?_⟩; clear hK K
      try simp only [Act.put, List.setIfInBounds_toArray, List.set_cons_zero, List.set_cons_succ]
      refine wpS_k rfl (by rfl) (fun K hK => ?_)
      refine wp_build_sums 1 _ (by rfl) [s] rfl (by omega) (by omega) (by rfl) ?_
      refine hK _ _ ⟨by exact (World.cell?_alloc_past _ p 2 (by simp; omega)).trans HS.out, ?_⟩; clear hK K
      try simp only [Act.put, List.setIfInBounds_toArray, List.set_cons_zero, List.set_cons_succ]
      have hf2 : FrontAt ((w.alloc (.cells (cellsOf s).toArray 24)).drew.alloc (.cells (cellsAll [s]).toArray 24)) p v l := FrontAt.below (w := (w.alloc (.cells (cellsOf s).toArray 24)).drew) HF1.out (al (Below.refl _ _) _)
      have hk2 : Keeps (fun k => k = p ∨ v.ownBlock = some k) w ((w.alloc (.cells (cellsOf s).toArray 24)).drew.alloc (.cells (cellsAll [s]).toArray 24)) := ((((Keeps.refl _ w).alloc _).drew).alloc _)
      have hr2 : ((w.alloc (.cells (cellsOf s).toArray 24)).drew.alloc (.cells (cellsAll [s]).toArray 24)).rangeAt (w.alloc (.cells (cellsOf s).toArray 24)).drew.heap.size 0 (cellsAll [s]) := range_new _ _ _ _ rfl
      generalize (w.alloc (.cells (cellsOf s).toArray 24)).drew.heap.size = b2 at *
      generalize ((w.alloc (.cells (cellsOf s).toArray 24)).drew.alloc (.cells (cellsAll [s]).toArray 24)) = W2 at *
      clear HF1 HBX HS
      have HF := Lib.hid hf2; clear hf2
      have HK := Lib.hid hk2; clear hk2
      have HR := Lib.hid hr2; clear hr2
      refine wpS_e rfl (by rfl) (fun K hK => ?_)
      refine wp_append_sums _ _ (by rfl) 0 v (stk nd e0 64 l) [s] (Alm.bits l.length) 1 HF.out.len rfl (by rfl) HF.out.2.1 b2 0 1 (by rfl) HR.out (by omega) (by have := hbl.out; omega) (by omega) ?_
      intro g cap W3 ho3 hg3 hat3 hlt3
      refine hK _ _ ?_; clear hK K
      try simp only [Act.put, List.setIfInBounds_toArray, List.set_cons_zero, List.set_cons_succ]
      have hk3 : Keeps (fun k => k = p ∨ v.ownBlock = some k) w W3 := HK.out.trans (.of_grown hg3 (fun k hk => .inr hk))
      have hne3 : g ≠ p := by
        intro e
        subst e
        rcases hat3 with h | h
        · exact HF.out.2.2.1 h
        · have := HF.out.lt; omega
      have hh3 := (Keeps.of_grown (X := fun k => v.ownBlock = some k) hg3 (fun k hk => hk)).heap HF.out.1 HF.out.2.2.1
      have hgn : v.ownBlock = some g ∨ w.heap.size ≤ g := hat3.imp id (fun h => by rw [h]; exact HK.out.size)
      have HK3 := Lib.hid hk3; clear hk3
      have HN3 := Lib.hid hne3; clear hne3
      have HH3 := Lib.hid hh3; clear hh3
      have HG := Lib.hid hgn; clear hgn
      have HO3 := Lib.hid ho3; clear ho3
      clear hg3 hat3 HR HK
      refine wpS_e rfl (by rfl) (fun K hK => ?_)
      go_simp
      refine (fold_at (stk nd e0 64 l ++ [s]) (Alm.bits l.length + 1) j g cap 0 W3 (by rw [List.length_append, HF.out.len]; rfl) (by have := HB.out; omega) (by exact HO3.out)).mono ?_
      rintro e W4 ⟨rfl, ho4, hk4⟩
      refine hK _ _ ?_; clear hK K
      try simp only [Act.put, List.setIfInBounds_toArray, List.set_cons_zero, List.set_cons_succ]
      have hst : fold2 nd j (stk nd e0 64 l ++ [s]) = stk nd e0 64 (l ++ [s]) := by rw [← HJ2.out]; exact stk_add nd e0 64 l s (by omega)
      have hlen4 : Alm.bits l.length + 1 - j = Alm.bits (l ++ [s]).length := by
        have h1 := congrArg List.length hst
        rw [length_fold2 nd j _ (by rw [List.length_append, HF.out.len, List.length_singleton]; have := HB.out; omega), List.length_append, HF.out.len, length_stk nd e0 64 (l ++ [s]) (by rw [List.length_append, List.length_singleton]; omega)] at h1
        exact h1
      rw [hst, hlen4] at ho4
      rw [hlen4]
      have HO4 := Lib.hid ho4; clear ho4
      have HH4 := Lib.hid (hk4.heap HH3.out (fun h => HN3.out h.symm))
      have HK4 := Lib.hid (HK3.out.trans' hk4 (fun i hi => by subst hi; exact HG.out.imp .inr id))
      clear hst hlen4 hk4
      iterate 2
        refine wpS_t rfl (v := ?_) (by rfl) (fun W => ?_) ?_
        rotate_left
        · go_simp
          try rfl
        try simp only [Act.put, List.setIfInBounds_toArray, List.set_cons_zero, List.set_cons_succ]
      refine wpS_e rfl (by rfl) (fun K hK => ?_)
      have hc4 : W4.cell? ⟨p, 2, none⟩ = some v := by rw [cell_of_row W4 p _ _ _ (0, 0) HH4.out]; rfl
      have hf4 : W4.frozen? ⟨p, 2, none⟩ = false := frozen_of_row W4 p _ _ _ HH4.out
      have hc5 : W4.cell? ⟨p, 1, none⟩ = some (.int .u64 (l.length : Int)) := by rw [cell_of_row W4 p _ _ _ (0, 0) HH4.out]; rfl
      have hf5 : W4.frozen? ⟨p, 1, none⟩ = false := frozen_of_row W4 p _ _ _ HH4.out
      go_simp
      refine hK _ _ ?_; clear hK K
      try simp only [Act.put, List.setIfInBounds_toArray, List.set_cons_zero, List.set_cons_succ]
      refine wpS_done ?_
      go_wp2_with fail
      rw [Exit.noGoto_ret]
      refine bodyPost_ret (results_tmp rfl _ _ _) rfl ?_
      refine ⟨.slice (some ⟨g, 0, none⟩) (Alm.bits (l ++ [s]).length) cap, rfl, ⟨?_, ?_, ?_, ?_, ?_⟩, ?_, ?_⟩
      · have e1 := heap_setCell_same W4 p 2 _ _ (.slice (some ⟨g, 0, none⟩) (Alm.bits (l ++ [s]).length) cap) HH4.out
        have e2 := heap_setCell_same _ p 1 _ _ (.int .u64 ((l ++ [s]).length : Int)) e1
        simpa using e2
      · have h1 : Keeps (· = p) W4 ((W4.setCell ⟨p, 2, none⟩ (.slice (some ⟨g, 0, none⟩) (Alm.bits (l ++ [s]).length) cap)).setCell ⟨p, 1, none⟩ (.int .u64 ((l ++ [s]).length : Int))) := ((Keeps.refl (fun x => x = p) W4).setCell (p := ⟨p, 2, none⟩) (.inl rfl) _).setCell (p := ⟨p, 1, none⟩) (.inl rfl) _
        have h2 := h1.owns HO4.out (fun k hk => by cases hk; exact HN3.out)
        simpa using h2
      · intro e; cases e; exact HN3.out rfl
      · rw [List.length_append, List.length_singleton]; omega
      · intro e; cases l <;> cases e
      · exact (HK4.out.setCell (.inl (.inl rfl)) _).setCell (.inl (.inl rfl)) _
      · intro k hk; cases hk; exact HG.out
end Go.Proofs.YtdkcndgehgmadaaGreatDoor
-- The seat's words for chains: entries as they lie in memory, the mark of a list of entries.
open Go Go.RowKit Alm
namespace Go.Proofs.YtdkcndgehgmadaaGreatDoor
/-- What all entries come to, the last one of them behind the others. -/
noncomputable def mk : List (List UInt8) → Sum := Classical.choose (⟨fun l => l.foldl (fun m b => sh (m.toList ++ (lf b).toList)) zeroSum, rfl⟩ : ∃ f : List (List UInt8) → Sum, f = fun l => l.foldl (fun m b => sh (m.toList ++ (lf b).toList)) zeroSum)
theorem mk_eq : mk = fun l => l.foldl (fun m b => sh (m.toList ++ (lf b).toList)) zeroSum := Classical.choose_spec (⟨fun l => l.foldl (fun m b => sh (m.toList ++ (lf b).toList)) zeroSum, rfl⟩ : ∃ f : List (List UInt8) → Sum, f = fun l => l.foldl (fun m b => sh (m.toList ++ (lf b).toList)) zeroSum)
theorem mk_nil : mk [] = zeroSum := by rw [mk_eq]; rfl
theorem mk_snoc (l : List (List UInt8)) (b : List UInt8) : mk (l ++ [b]) = sh ((mk l).toList ++ (lf b).toList) := by rw [mk_eq]; simp
/-- An entry, as it lies in memory. -/
structure Ent where
  leaf : Sum
  mark : Sum
  root : Sum
  a : Option Addr
  n : Nat
  cap : Nat
def cells3 (a b c : Sum) : List Value := cellsOf a ++ cellsOf b ++ cellsOf c
theorem length_cells3 (a b c : Sum) : (cells3 a b c).length = 96 := by simp [cells3, length_cellsOf]
theorem oneCell_cells3 (a b c : Sum) : ∀ v ∈ cells3 a b c, v.oneCell' = true := fun v hv => by
  rcases List.mem_append.1 hv with h | h
  · rcases List.mem_append.1 h with h | h
    · exact oneCell_cellsOf _ v h
    · exact oneCell_cellsOf _ v h
  · exact oneCell_cellsOf _ v h
theorem all_cells3 (a b c : Sum) : (cells3 a b c).toArray.all (·.oneCell') = true := all_oneCell_toArray (oneCell_cells3 a b c)
abbrev tv (a b c : Sum) : Value := .agg (cells3 a b c).toArray
def Ent.v (e : Ent) : Value := .slice e.a e.n e.cap
def cellsEnt (e : Ent) : List Value := cells3 e.leaf e.mark e.root ++ [e.v]
theorem length_cellsEnt (e : Ent) : (cellsEnt e).length = 97 := by simp [cellsEnt, length_cells3]
theorem oneCell_cellsEnt (e : Ent) : ∀ v ∈ cellsEnt e, v.oneCell' = true := fun v hv => by
  rcases List.mem_append.1 hv with h | h
  · exact oneCell_cells3 _ _ _ v h
  · rw [List.mem_singleton.1 h]; rfl
def cellsEnts (l : List Ent) : List Value := l.flatMap cellsEnt
theorem length_cellsEnts (l : List Ent) : (cellsEnts l).length = 97 * l.length := by
  induction l with
  | nil => rfl
  | cons s l ih => rw [cellsEnts, List.flatMap_cons, List.length_append, length_cellsEnt, List.length_cons]; have := ih; rw [cellsEnts] at this; omega
theorem cellsEnts_append (a b : List Ent) : cellsEnts (a ++ b) = cellsEnts a ++ cellsEnts b := by simp [cellsEnts]
theorem cellsEnts_cons (s : Ent) (b : List Ent) : cellsEnts (s :: b) = cellsEnt s ++ cellsEnts b := by simp [cellsEnts]
theorem cellsEnts_one (s : Ent) : cellsEnts [s] = cellsEnt s := by simp [cellsEnts]
theorem oneCell_cellsEnts (l : List Ent) : ∀ v ∈ cellsEnts l, v.oneCell' = true := by
  intro v hv
  obtain ⟨s, _, hs⟩ := List.mem_flatMap.1 hv
  exact oneCell_cellsEnt s v hs
theorem cellsEnts_split {l : List Ent} {i : Nat} (h : i < l.length) : cellsEnts l = cellsEnts (l.take i) ++ (cellsEnt l[i] ++ cellsEnts (l.drop (i + 1))) := by
  conv => lhs; rw [← List.take_append_drop i l, cellsEnts_append, List.drop_eq_getElem_cons h, cellsEnts_cons]
theorem ents_at {w : World} {b o : Nat} {l : List Ent} (h : w.rangeAt b o (cellsEnts l)) {i : Nat} (hi : i < l.length) : w.rangeAt b (o + i * 97) (cellsEnt l[i]) := by
  rw [cellsEnts_split hi, range_append, length_cellsEnts, range_append, List.length_take, Nat.min_eq_left (by omega)] at h
  rw [Nat.mul_comm]; exact h.2.1
theorem ent_sums {w : World} {b o : Nat} {e : Ent} (h : w.rangeAt b o (cellsEnt e)) : w.rangeAt b o (cells3 e.leaf e.mark e.root) := by
  rw [cellsEnt, range_append] at h; exact h.1
theorem ent_leaf {w : World} {b o : Nat} {e : Ent} (h : w.rangeAt b o (cellsEnt e)) : w.rangeAt b o (cellsOf e.leaf) := by
  have := ent_sums h
  rw [cells3, range_append, range_append] at this; exact this.1.1
theorem ent_v {w : World} {b o : Nat} {e : Ent} (h : w.rangeAt b o (cellsEnt e)) : w.cell? ⟨b, o + 96, none⟩ = some e.v := by
  rw [cellsEnt, range_append, length_cells3] at h; exact h.2 0 _ rfl
/-- An entry of bytes b behind entries l. -/
structure EntOk (w : World) (base : Nat) (C : Nat → Prop) (l : List (List UInt8)) (e : Ent) (b : List UInt8) : Prop where
  leaf : e.leaf = lf b
  mark : e.mark = mk (l ++ [b])
  root : e.root = rt ((l ++ [b]).map lf)
  bytes : BytesAt w e.v b
  apart : b ≠ [] → ∀ k, e.v.ownBlock = some k → base ≤ k ∧ ¬ C k
/-- The blocks that a chain changes. -/
def CB (c f : Nat) (v vf : Value) : Nat → Prop := fun k => k = c ∨ k = f ∨ v.ownBlock = some k ∨ vf.ownBlock = some k
/-- A chain of entries, made since base. -/
structure ChainIn (base : Nat) (w : World) (c f : Nat) (v vf : Value) (es : List Ent) (l : List (List UInt8)) : Prop where
  head : w.heap[c]? = some (.cells #[.pointer (some ⟨f, 0, none⟩), v] 125 (0, 0))
  front : FrontAt w f vf (l.map lf)
  row : w.ownsRow base 129 97 v l.length (cellsEnts es)
  nil : l = [] → v = .slice none 0 0
  len : es.length = l.length
  ents : ∀ i e b, es[i]? = some e → l[i]? = some b → EntOk w base (CB c f v vf) (l.take i) e b
  hc : base ≤ c
  hf : base ≤ f
  hvf : ∀ k, vf.ownBlock = some k → base ≤ k
  cf : c ≠ f
  vc : v.ownBlock ≠ some c
  vf_ : v.ownBlock ≠ some f
  fc : vf.ownBlock ≠ some c
  vv : ∀ k, v.ownBlock = some k → vf.ownBlock ≠ some k
def ChainAt (base : Nat) (w : World) (c : Nat) (l : List (List UInt8)) : Prop := ∃ f v vf es, ChainIn base w c f v vf es l
theorem bytes_keep {X : Nat → Prop} {w w' : World} {v : Value} {b : List UInt8} (h : BytesAt w v b) (hk : Keeps X w w') (hx : b ≠ [] → ∀ k, v.ownBlock = some k → ¬ X k) : BytesAt w' v b := by
  obtain ⟨a, cap, rfl, h1, h2, h3⟩ := h
  refine ⟨a, cap, rfl, h1, h2, ?_⟩
  rcases h3 with h0 | ⟨g, o, rfl, hr⟩
  · exact .inl h0
  · by_cases hb : b = []
    · exact .inl hb
    · exact .inr ⟨g, o, rfl, hk.range hr (hx hb g rfl)⟩
theorem ChainIn.keep {base : Nat} {X : Nat → Prop} {w w' : World} {c f : Nat} {v vf : Value} {es : List Ent} {l : List (List UInt8)} (h : ChainIn base w c f v vf es l) (hk : Keeps X w w') (hx : ∀ k, base ≤ k → k < w.heap.size → ¬ X k) : ChainIn base w' c f v vf es l := by
  have hlc : c < w.heap.size := (Array.getElem?_eq_some_iff.1 h.head).1
  refine { h with head := hk.heap h.head (hx c h.hc hlc), front := ?_, row := hk.owns h.row (fun k e => hx k (own_base h.row k e) (own_lt h.row e)), ents := fun i e b he hb => ?_ }
  · exact h.front.keep hk (hx f h.hf h.front.lt) (fun k e => hx k (h.hvf k e) (own_lt h.front.2.1 e))
  · have := h.ents i e b he hb
    refine { this with bytes := bytes_keep this.bytes hk (fun h0 k ek => hx k (this.apart h0 k ek).1 ?_) }
    obtain ⟨a, cap, hv, h1, h2, h3⟩ := this.bytes
    rcases h3 with h4 | ⟨g, o, rfl, hr⟩
    · exact (h0 h4).elim
    · rw [hv] at ek
      simp only [Value.ownBlock, Option.some.injEq] at ek
      subst ek
      exact range_lt hr (by intro h5; have := congrArg List.length h5; rw [length_cells8] at this; exact h0 (List.length_eq_zero_iff.1 this))
theorem ChainAt.keep {base : Nat} {X : Nat → Prop} {w w' : World} {c : Nat} {l : List (List UInt8)} (h : ChainAt base w c l) (hk : Keeps X w w') (hx : ∀ k, base ≤ k → k < w.heap.size → ¬ X k) : ChainAt base w' c l := by
  obtain ⟨f, v, vf, es, h⟩ := h
  exact ⟨f, v, vf, es, h.keep hk hx⟩
theorem ChainAt.below {base : Nat} {w w' : World} {c : Nat} {l : List (List UInt8)} (h : ChainAt base w c l) (hb : Below w.heap.size w w') : ChainAt base w' c l :=
  h.keep (Keeps.of_below (X := fun _ => False) hb) (fun _ _ _ h => h)
end Go.Proofs.YtdkcndgehgmadaaGreatDoor
-- The seat's words for chains: operations on entries; slices.Clone and Clip of bytes; chains' last.
open Go Go.RowKit Alm
namespace Go.Proofs.YtdkcndgehgmadaaGreatDoor
theorem infoSums3 : (Tryz.prog.info? 127).map (·.size) = some 96 := by kernel_rfl
theorem infoEnt : (Tryz.prog.info? 129).map (·.size) = some 97 := by kernel_rfl
theorem info_ent : ∃ i z, Tryz.prog.info? 129 = some i ∧ i.zero = some z ∧ i.size = 97 ∧ i.bytes = 120 ∧ z.cells.size = 97 := by
  have h : (Tryz.prog.info? 129).map (fun i => (i.zero.map fun z => z.cells.size, i.size, i.bytes)) = some (some 97, 97, 120) := by kernel_rfl
  obtain ⟨i, hi, h2⟩ := Option.map_eq_some_iff.1 h
  simp only [Prod.mk.injEq] at h2
  obtain ⟨z, hz, hz2⟩ := Option.map_eq_some_iff.1 h2.1
  exact ⟨i, z, hi, hz, h2.2.1, h2.2.2, hz2⟩
theorem build_ent (a : Option Addr) (n cap : Nat) (w : World) : (Instr.build 129 #[(1, .slice a n cap)]).run Tryz.prog w = .ok (.agg (cellsEnt ⟨zeroSum, zeroSum, zeroSum, a, n, cap⟩).toArray) w := by kernel_rfl
theorem part_at (cs : List Value) (o : Nat) (s : Sum) (h : (cs.drop o).take 32 = cellsOf s) (w : World) : (part 24 cs.toArray o).run Tryz.prog w = .ok (sv s) w := by
  simp [part, Tryz.isAgg24, Tryz.sizeOf24, h]
theorem cells3_0 (a b c : Sum) : ((cells3 a b c).drop 0).take 32 = cellsOf a := by
  rw [List.drop_zero, cells3, List.append_assoc, List.take_append_of_le_length (by rw [length_cellsOf]; omega), List.take_of_length_le (by rw [length_cellsOf]; omega)]
theorem cells3_1 (a b c : Sum) : ((cells3 a b c).drop 32).take 32 = cellsOf b := by
  rw [cells3, List.append_assoc, List.drop_append_of_le_length (by rw [length_cellsOf]; omega), List.drop_of_length_le (by rw [length_cellsOf]; omega), List.nil_append, List.take_append_of_le_length (by rw [length_cellsOf]; omega), List.take_of_length_le (by rw [length_cellsOf]; omega)]
theorem cells3_2 (a b c : Sum) : ((cells3 a b c).drop 64).take 32 = cellsOf c := by
  rw [cells3, List.drop_append, List.drop_of_length_le (by rw [List.length_append, length_cellsOf, length_cellsOf]; omega), List.nil_append, List.length_append, length_cellsOf, length_cellsOf, List.drop_zero, List.take_of_length_le (by rw [length_cellsOf]; omega)]
theorem field_leaf (a b c : Sum) (w : World) : (Instr.field 127 (.agg (cells3 a b c).toArray) 0).run Tryz.prog w = .ok (sv a) w := by
  simp [Instr.field, run_underlying Tryz.underlying127, asAgg, part_at _ _ _ (cells3_0 a b c)]
theorem field_mark (a b c : Sum) (w : World) : (Instr.field 127 (.agg (cells3 a b c).toArray) 1).run Tryz.prog w = .ok (sv b) w := by
  simp [Instr.field, run_underlying Tryz.underlying127, asAgg, part_at _ _ _ (cells3_1 a b c)]
theorem field_root (a b c : Sum) (w : World) : (Instr.field 127 (.agg (cells3 a b c).toArray) 2).run Tryz.prog w = .ok (sv c) w := by
  simp [Instr.field, run_underlying Tryz.underlying127, asAgg, part_at _ _ _ (cells3_2 a b c)]
/-- Entries in memory, to be read. -/
def EntsAt (w : World) (v : Value) (es : List Ent) : Prop :=
  ∃ a cap, v = .slice a es.length cap ∧ es.length ≤ cap ∧ cap ≤ maxLen ∧ (es = [] ∨ ∃ b, a = some ⟨b, 0, none⟩ ∧ w.rangeAt b 0 (cellsEnts es))
theorem EntsAt.below {w w' : World} {v : Value} {es : List Ent} (h : EntsAt w v es) (hb : Below w.heap.size w w') : EntsAt w' v es := by
  obtain ⟨a, cap, h0, h1, h2, h3⟩ := h
  refine ⟨a, cap, h0, h1, h2, ?_⟩
  rcases h3 with h | ⟨b, e, hr⟩
  · exact .inl h
  · exact .inr ⟨b, e, (Keeps.of_below (X := fun _ => False) hb).range hr (fun h => h)⟩
theorem wpList_load_sums3 {ops : Array Oper} {rest : List Oper} {op : Oper} {a : Act} {w : World} {Q : Exit → Act → World → Prop} (hgd : op.guard = none) (x : Operand) (ho : op.op = .load 127 x)
    (b o : Nat) (hx : a.eval x = .pointer (some ⟨b, o, none⟩)) (p q r : Sum) (hc : w.rangeAt b o (cells3 p q r))
    (h : wpList Tryz.prog ops Q rest (a.put op.dst (tv p q r)) w) : wpList Tryz.prog ops Q (op :: rest) a w :=
  wpList_load_mid hgd _ x ho b o hx (cells3 p q r) _ hc Tryz.underlying127 rfl (by rw [length_cells3]; exact infoSums3) h
theorem wpList_store_sums3 {ops : Array Oper} {rest : List Oper} {op : Oper} {a : Act} {w : World} {Q : Exit → Act → World → Prop} (hgd : op.guard = none) (x y : Operand) (ho : op.op = .store 127 x y)
    (b o : Nat) (p q r : Sum) (hx : a.eval x = .pointer (some ⟨b, o, none⟩)) (hy : a.eval y = tv p q r) (ht : w.there b o 96)
    (h : wpList Tryz.prog ops Q rest (a.put op.dst undef) (w.setCells b o (cells3 p q r))) : wpList Tryz.prog ops Q (op :: rest) a w :=
  wpList_store_mid hgd _ x y ho b o _ hx hy (by simpa [length_cells3] using ht) (by simpa [length_cells3] using infoSums3) (all_cells3 p q r) h
theorem results_sums3 {fn : Func} {p : Tmp} (h : fn.results = #[.cell p 127]) (tmps : Array Value) (w : World) (b : Nat) (x y z : Sum)
    (hp : tmps.getD p undef = .pointer (some ⟨b, 0, none⟩)) (hr : w.rangeAt b 0 (cells3 x y z)) :
    (results fn tmps).run Tryz.prog w = .ok (tv x y z) w :=
  results_mid h tmps _ b 0 _ _ hp hr Tryz.underlying127 rfl (by rw [length_cells3]; exact infoSums3)
theorem last_nil (v : Value) (w : World) (h : EntsAt w v []) : Calls Tryz.prog 115 #[v] w fun e w' => e = .returned (tv zeroSum zeroSum zeroSum) ∧ Below w.heap.size w w' := by
  obtain ⟨a, cap, rfl, -, -, -⟩ := h
  have R0 : Res w 96 (w.alloc (.cells (cells3 zeroSum zeroSum zeroSum).toArray 127)) := Res.start _ _ _ _ (by rfl)
  have hz : (w.alloc (.cells (cells3 zeroSum zeroSum zeroSum).toArray 127)).rangeAt w.heap.size 0 (cells3 zeroSum zeroSum zeroSum) := range_new w _ _ _ rfl
  go_enter Tryz.func115, Tryz.ntmps115
  go_wp2_with (first
    | (refine wpList_load_sums3 rfl _ rfl w.heap.size 0 rfl zeroSum zeroSum zeroSum hz ?_)
    | (refine wpList_store_sums3 rfl _ _ rfl w.heap.size 0 zeroSum zeroSum zeroSum rfl rfl R0.there ?_))
  exact bodyPost_ret (results_sums3 Tryz.results115 _ _ w.heap.size _ _ _ rfl (range_stored _ _ _ _ (by rw [length_cells3]; exact World.there_setCells R0.there _ _ _))) rfl ⟨rfl, (R0.store _).below⟩
theorem last_snoc (es : List Ent) (e : Ent) (v : Value) (w : World) (h : EntsAt w v (es ++ [e])) : Calls Tryz.prog 115 #[v] w fun x w' => x = .returned (tv e.leaf e.mark e.root) ∧ Below w.heap.size w w' := by
  obtain ⟨a, cap, rfl, h1, h2, h3⟩ := h
  obtain ⟨b, rfl, hr⟩ := h3.resolve_left (by simp)
  have hx := ent_sums (ents_at hr (i := es.length) (by simp))
  rw [Nat.zero_add] at hx
  have hg : (es ++ [e])[es.length]'(by simp) = e := by simp
  rw [hg] at hx
  rw [List.length_append, List.length_singleton] at h1 ⊢
  obtain ⟨n, hn⟩ : ∃ n, n = es.length := ⟨_, rfl⟩
  rw [← hn] at h1 hx ⊢
  clear hn hg hr
  unfold maxLen at h2
  have k1 : (0 : Int) < (n : Int) + 1 := by omega
  have k2 : IntKind.i64.wrap ((n : Int) + 1 - 1) = (n : Int) := by rw [IntKind.wrap_i64]; omega
  have R0 : Res w 96 (w.alloc (.cells (cells3 zeroSum zeroSum zeroSum).toArray 127)) := Res.start _ _ _ _ (by rfl)
  have HX := Lib.hid (R0.range hx)
  clear hx
  go_enter Tryz.func115, Tryz.ntmps115
  go_wp2_with (first
    | (refine wpList_load_sums3 rfl _ rfl b (n * 97) (by rfl) e.leaf e.mark e.root HX.out ?_)
    | (refine wpList_store_sums3 rfl _ _ rfl w.heap.size 0 e.leaf e.mark e.root rfl rfl R0.there ?_))
  exact bodyPost_ret (results_sums3 Tryz.results115 _ _ w.heap.size _ _ _ rfl (range_stored _ _ _ _ (by rw [length_cells3]; exact World.there_setCells R0.there _ _ _))) rfl ⟨rfl, (R0.store _).below⟩
end Go.Proofs.YtdkcndgehgmadaaGreatDoor
