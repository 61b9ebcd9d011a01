/-
  Walks: slices.SortFunc of pairs; slices.Clip of pairs; maps: Pairs.
-/
import Derived.Test.YtfmgoehnbaiamaaU5
open Go Go.RowKit Alm
namespace Go.Proofs.Ytfmgoehnbaiamaa
theorem aggPair (w : World) : (isAgg 36).run Try.prog w = .ok true w := Try.isAgg36 w
theorem sizePair (w : World) : (Go.sizeOf 36).run Try.prog w = .ok 33 w := Try.sizeOf36 w
theorem order_lays (blk off size : Nat) (w : World) : CmpLays Try.prog 53 #[] encP 33 (fun x y : PE => kcmp x.1 y.1) blk off size w := fun _ _ _ _ x y => porder_any x y _
theorem sort_any (w : World) (g cap : Nat) (l : List PE) (cur : Array Value) (e : TypeId) (hb : w.heap[g]? = some (.cells cur e (0, 0))) (ht : cur.toList.take (33 * l.length) = cellsP l) (h1 : l.length ≤ cap) (h2 : cap ≤ maxLen) (h3 : cur.size = 33 * cap) (hl : l.length < 1000000) :
    Calls Try.prog 52 #[.slice (some ⟨g, 0, none⟩) l.length cap, .func (.func 53) #[] #[]] w fun e w' => e = .returned (.tuple #[]) ∧ ∃ l', l'.Perm l ∧ l'.Pairwise (fun a b => ¬ Keys.kn b.1 < Keys.kn a.1) ∧ w'.rangeAt g 0 (cellsP l') ∧ Keeps (fun i => i = g) w w' ∧ g < w'.heap.size := by
  have eg : ∀ args w, (callFunc 53 args).run Try.prog w = .ok (.enter 53 args) w := enters_of Try.func53 (by kernel_rfl) rfl
  have hcon := AnyQ.slices_SortFunc Try.sortPair 33 aggPair sizePair encP length_encP one_encP (fun x y : PE => kcmp x.1 y.1) swo_kcmp 53 #[] g 0 cap l.toArray w eg (order_lays g 0 l.toArray.size w) (holdsP hb ht) (Array.getElem?_eq_some_iff.1 hb).1 (by simp; omega)
  change Calls Try.prog 52 _ _ _ at hcon
  rw [List.size_toArray] at hcon
  refine hcon.mono ?_
  rintro e1 w1 ⟨rfl, d', n, os, hp, hs, rfl⟩
  obtain ⟨hsz, _, hperm⟩ := hp
  have hd : d' = d'.toList.toArray := by simp
  have hlen : d'.toList.length = l.length := by simpa using hsz
  have hperm' : d'.toList.Perm l := by
    have e1 : d'.extract 0 l.length = d' := by
      rw [← hlen]; simp
    have e2 : l.toArray.extract 0 l.length = l.toArray := by simp
    rw [e1, e2] at hperm
    simpa using hperm
  obtain ⟨r1, r2, r3⟩ := sortedP (w := w) (g := g) (cap := cap) (n := n) (os := os) (l := l) (l' := d'.toList) hlen hb h2 h1 h3
  rw [← hd] at r1 r2 r3
  refine ⟨rfl, d'.toList, hperm', ?_, r1, r2, r3⟩
  rw [List.pairwise_iff_getElem]
  intro i j hi hj hij
  have := hs i j (Nat.zero_le _) hij (by omega)
  rw [ltOf_kcmp] at this
  have hi' : i < d'.size := by simpa using hi
  have hj' : j < d'.size := by simpa using hj
  rw [getElem!_pos d' i hi', getElem!_pos d' j hj'] at this
  simpa using this
/-! ### pairs in memory -/
/-- A pair's slice. -/
def peV (x : PE) : Value := .slice x.2.1 x.2.2.1 x.2.2.2
/-- A list of pairs in memory reads so. -/
def PairsAt (w : World) (v : Value) (P : List Keys.Pr) : Prop :=
  ∃ (a : Option Addr) (cap : Nat) (cs : List (PE × List UInt8)), v = .slice a P.length cap ∧ P.length ≤ cap ∧ cap ≤ maxLen ∧ cs.map (fun c => (c.1.1, c.2)) = P ∧ (∀ c ∈ cs, BytesAt w (peV c.1) c.2) ∧
    (P = [] ∨ ∃ b o, a = some ⟨b, o, none⟩ ∧ w.rangeAt b o (cellsP (cs.map Prod.fst)))
theorem cellsP_ne {l : List PE} (h : l ≠ []) : cellsP l ≠ [] := fun e => by
  have := length_cellsP l
  rw [e] at this
  exact h (List.length_eq_zero_iff.1 (by simp at this; omega))
/-- What is written holds no cells. -/
def OnMaps (X : Nat → Prop) (w : World) : Prop := ∀ k, X k → ∀ o, w.cell? ⟨k, o, none⟩ = none
theorem range_maps {X : Nat → Prop} {w : World} (hX : OnMaps X w) {b o : Nat} {cs : List Value} (h : w.rangeAt b o cs) (hne : cs ≠ []) : ¬ X b := by
  intro hx
  obtain ⟨v, r, hv⟩ := List.exists_cons_of_ne_nil hne
  have := h 0 v (by rw [hv]; rfl)
  rw [hX b hx] at this
  cases this
theorem bytes_maps {X : Nat → Prop} {w w' : World} (hX : OnMaps X w) (hk : Keeps X w w') {v : Value} {l : List UInt8} (h : BytesAt w v l) : BytesAt w' v l := by
  by_cases hl : l = []
  · subst hl
    obtain ⟨a, cap, rfl, h1, h2, _⟩ := h
    exact ⟨a, cap, rfl, h1, h2, .inl rfl⟩
  · obtain ⟨a, cap, rfl, h1, h2, h3⟩ := h
    obtain ⟨b, o, rfl, hr⟩ := h3.resolve_left hl
    have hne : cells8 l ≠ [] := by intro h; have := length_cells8 l; rw [h] at this; exact hl (List.length_eq_zero_iff.1 this.symm)
    exact ⟨_, cap, rfl, h1, h2, .inr ⟨b, o, rfl, hk.range hr (range_maps hX hr hne)⟩⟩
theorem PairsAt.maps {X : Nat → Prop} {w w' : World} {v : Value} {P : List Keys.Pr} (h : PairsAt w v P) (hX : OnMaps X w) (hk : Keeps X w w') : PairsAt w' v P := by
  obtain ⟨a, cap, cs, rfl, h1, h2, h3, h4, h5⟩ := h
  refine ⟨a, cap, cs, rfl, h1, h2, h3, fun c hc => bytes_maps hX hk (h4 c hc), ?_⟩
  rcases h5 with h5 | ⟨b, o, rfl, hr⟩
  · exact .inl h5
  · by_cases hP : P = []
    · exact .inl hP
    · have hne : cellsP (cs.map Prod.fst) ≠ [] := cellsP_ne (by
        intro e
        have : cs = [] := by simpa using e
        rw [this] at h3; exact hP h3.symm)
      exact .inr ⟨b, o, rfl, hk.range hr (range_maps hX hr hne)⟩
theorem PairsAt.below {w w' : World} {v : Value} {P : List Keys.Pr} (h : PairsAt w v P) (hb : Below w.heap.size w w') : PairsAt w' v P :=
  h.maps (X := fun _ => False) (fun _ hx => hx.elim) (Keeps.of_below hb)
theorem MapIn.maps {X : Nat → Prop} {w w' : World} {p b n : Nat} {l : List Ent} (h : MapIn w p b n l) (hX : OnMaps X w) (hk : Keeps X w w') (hb : ¬ X b) : MapIn w' p b n l := by
  refine ⟨hk.cell h.cell fun hx => ?_, ?_, h.rise, fun e he => ⟨bytes_maps hX hk (h.vals e he).1, (h.vals e he).2⟩⟩
  · have := h.cell
    rw [hX p hx] at this
    cases this
  · obtain ⟨es, c, h1, h2⟩ := h.map
    exact ⟨es, c, hk.heap h1 hb, h2⟩
theorem MapIn.on {w : World} {p b n : Nat} {l : List Ent} (h : MapIn w p b n l) : OnMaps (fun i => i = b) w := fun k hk o => by
  subst hk
  obtain ⟨es, c, hm⟩ := h.isMap
  unfold World.cell?
  simp only [hm]
theorem on_iter {H : Type} {P : Program} {k : TypeId} {R : Value → Option (DataW H × List MemPlace)} {w : World} {b r n : Nat} {D : DataW H} {left : Lit → Bool} {cnt : Nat} (h : w.ranges P k R b r n D left cnt) : OnMaps (fun i => i = r) w := fun i hi o => by
  subst hi
  obtain ⟨_, _, _, _, _, _, _, _, _, hm, _⟩ := h
  unfold World.cell?
  simp only [hm]
theorem perm_of_map {α β : Type} (f : α → β) {l m : List β} (h : l.Perm m) : ∀ cs : List α, m = cs.map f → ∃ cs' : List α, cs'.Perm cs ∧ cs'.map f = l := by
  induction h with
  | nil => intro cs hc; exact ⟨[], by simp at hc; rw [hc], rfl⟩
  | cons x _ ih =>
    intro cs hc
    cases cs with
    | nil => cases hc
    | cons c r =>
      simp only [List.map_cons, List.cons.injEq] at hc
      obtain ⟨cs', h1, h2⟩ := ih r hc.2
      exact ⟨c :: cs', h1.cons c, by rw [List.map_cons, h2, hc.1]⟩
  | swap x y r =>
    intro cs hc
    match cs, hc with
    | c :: d :: r', hc =>
      simp only [List.map_cons, List.cons.injEq] at hc
      exact ⟨d :: c :: r', List.Perm.swap c d r', by rw [List.map_cons, List.map_cons, ← hc.1, ← hc.2.1, ← hc.2.2]⟩
  | trans _ _ ih1 ih2 =>
    intro cs hc
    obtain ⟨c2, h1, h2⟩ := ih2 cs hc
    obtain ⟨c1, h3, h4⟩ := ih1 c2 h2.symm
    exact ⟨c1, h3.trans h1, h4⟩
/-! ### Pairs: what was collected on the way through the map -/
structure Coll (l : List Ent) (left : Lit → Bool) (cs : List (PE × List UInt8)) : Prop where
  mem : ∀ c ∈ cs, (c.1.1, c.2) ∈ prs l ∧ left (.string c.1.1.toList) = false
  apart : cs.Pairwise fun a b => a.1.1 ≠ b.1.1
  all : ∀ p ∈ l, left (.string p.1.toList) = true ∨ ∃ c ∈ cs, c.1.1 = p.1
theorem has_enc {l : List Ent} {p : Ent} (hp : p ∈ l) : Maps.has (encD l) (.string p.1.toList) = true := by
  unfold encD Maps.has
  rw [List.any_eq_true]
  exact ⟨encE p, List.mem_map.2 ⟨p, hp, rfl⟩, by show (p.1.toList == p.1.toList) = true; simp⟩
theorem Coll.start (l : List Ent) : Coll l (Maps.has (encD l)) [] := ⟨fun _ h => (List.not_mem_nil h).elim, List.Pairwise.nil, fun _ hp => .inl (has_enc hp)⟩
theorem same_str (a b : Sum) : Lit.sameKey (.string a.toList) (.string b.toList) = decide (a = b) := by
  show (a.toList == b.toList) = _
  by_cases h : a = b
  · subst h; simp
  · have : a.toList ≠ b.toList := fun e => h (toList_inj e)
    simp [h]
theorem Coll.step {l : List Ent} {left : Lit → Bool} {cs : List (PE × List UInt8)} (h : Coll l left cs) {x : Sum} {c : PE × List UInt8} (hl : left (.string x.toList) = true) (hx : c.1.1 = x) (hm : (x, c.2) ∈ prs l) :
    Coll l (fun z => left z && !z.sameKey (.string x.toList)) (cs ++ [c]) := by
  refine ⟨fun d hd => ?_, ?_, fun p hp => ?_⟩
  · rcases List.mem_append.1 hd with hd | hd
    · obtain ⟨h1, h2⟩ := h.mem d hd
      exact ⟨h1, by rw [h2]; rfl⟩
    · rw [List.mem_singleton] at hd
      subst hd
      refine ⟨by rw [hx]; exact hm, ?_⟩
      rw [hx, same_str]; simp
  · rw [List.pairwise_append]
    refine ⟨h.apart, List.pairwise_singleton _ _, fun a ha b hb e => ?_⟩
    rw [List.mem_singleton] at hb
    subst hb
    have := (h.mem a ha).2
    rw [e, hx, hl] at this
    cases this
  · by_cases e : p.1 = x
    · exact .inr ⟨c, List.mem_append_right _ (List.mem_singleton.2 rfl), by rw [hx, e]⟩
    · rcases h.all p hp with h1 | ⟨d, hd, h2⟩
      · exact .inl (by rw [h1, same_str]; simp [e])
      · exact .inr ⟨d, List.mem_append_left _ hd, h2⟩
theorem Coll.done {l : List Ent} {left : Lit → Bool} {cs cs' : List (PE × List UInt8)} (h : Coll l left cs) (hl : ∀ z, left z = false) (hr : Keys.Rise l) (hp : cs'.Perm cs) (hs : cs'.Pairwise fun a b => ¬ Keys.kn b.1.1 < Keys.kn a.1.1) :
    cs'.map (fun c => (c.1.1, c.2)) = prs l := by
  have hrise : Keys.Rise (cs'.map fun c => (c.1.1, c.2)) := by
    unfold Keys.Rise
    rw [List.pairwise_map]
    have ha : cs'.Pairwise fun a b => a.1.1 ≠ b.1.1 := (hp.pairwise_iff (fun {_ _} hne => Ne.symm hne)).2 h.apart
    refine (hs.and ha).imp fun {a b} hab => ?_
    have : Keys.kn a.1.1 ≠ Keys.kn b.1.1 := fun e => hab.2 (Keys.kn_inj e)
    have := hab.1
    show Keys.kn a.1.1 < Keys.kn b.1.1
    omega
  refine Keys.rise_ext hrise (prs_rise hr) fun p => ?_
  constructor
  · intro hm
    obtain ⟨c, hc, rfl⟩ := List.mem_map.1 hm
    exact (h.mem c (hp.mem_iff.1 hc)).1
  · intro hm
    obtain ⟨e, he, rfl⟩ := List.mem_map.1 hm
    rcases h.all e he with h1 | ⟨c, hc, h2⟩
    · rw [hl] at h1; cases h1
    · refine List.mem_map.2 ⟨c, hp.mem_iff.2 hc, ?_⟩
      have h3 := (h.mem c hc).1
      have h4 := Keys.rise_key (prs_rise hr) h3 hm h2
      exact h4
theorem at_found {l : List Ent} {x : Sum} {v : Value} (h : ∀ zd, (encD l).atKey (.string x.toList) zd = .held v) : ∃ p ∈ l, p.1 = x ∧ p.2.1 = v := by
  have h1 := h .nil
  unfold encD DataW.atKey at h1
  simp only at h1
  rw [List.find?_map] at h1
  have e : ((fun p : Lit × DataW Value => p.1.sameKey (.string x.toList)) ∘ encE) = fun p : Ent => decide (p.1 = x) := by
    funext p; exact same_str p.1 x
  rw [e] at h1
  cases hf : l.find? (fun p => decide (p.1 = x)) with
  | none => rw [hf] at h1; cases h1
  | some p =>
    rw [hf] at h1
    refine ⟨p, List.mem_of_find?_eq_some hf, by simpa using List.find?_some hf, ?_⟩
    have : DataW.held p.2.1 = DataW.held v := h1
    cases this
    rfl
end Go.Proofs.Ytfmgoehnbaiamaa
