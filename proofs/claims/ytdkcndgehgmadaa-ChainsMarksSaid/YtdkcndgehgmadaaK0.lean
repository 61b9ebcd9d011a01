/-
  The seat's words for chains: entries as they lie in memory, the mark of a list of entries.
-/
import Derived.Test.YtdkcndgehgmadaaB2
import Derived.Test.YtdkcndgehgmadaaF9
import Derived.Test.YtdkcndgehgmadaaF4
open Go Go.RowKit Alm
namespace Go.Proofs.Ytdkcndgehgmadaa
/-- What all entries come to, the last one of them behind the others. -/
noncomputable def mk : List (List UInt8) → Sum := Classical.choose (⟨fun l => l.foldl (fun m b => sh (m.toList ++ (lf b).toList)) zeroSum, rfl⟩ : ∃ f : List (List UInt8) → Sum, f = fun l => l.foldl (fun m b => sh (m.toList ++ (lf b).toList)) zeroSum)
theorem mk_eq : mk = fun l => l.foldl (fun m b => sh (m.toList ++ (lf b).toList)) zeroSum := Classical.choose_spec (⟨fun l => l.foldl (fun m b => sh (m.toList ++ (lf b).toList)) zeroSum, rfl⟩ : ∃ f : List (List UInt8) → Sum, f = fun l => l.foldl (fun m b => sh (m.toList ++ (lf b).toList)) zeroSum)
theorem mk_nil : mk [] = zeroSum := by rw [mk_eq]; rfl
theorem mk_snoc (l : List (List UInt8)) (b : List UInt8) : mk (l ++ [b]) = sh ((mk l).toList ++ (lf b).toList) := by rw [mk_eq]; simp
/-- An entry, as it lies in memory. -/
structure Ent where
  leaf : Sum
  mark : Sum
  root : Sum
  a : Option Addr
  n : Nat
  cap : Nat
def cells3 (a b c : Sum) : List Value := cellsOf a ++ cellsOf b ++ cellsOf c
theorem length_cells3 (a b c : Sum) : (cells3 a b c).length = 96 := by simp [cells3, length_cellsOf]
theorem oneCell_cells3 (a b c : Sum) : ∀ v ∈ cells3 a b c, v.oneCell' = true := fun v hv => by
  rcases List.mem_append.1 hv with h | h
  · rcases List.mem_append.1 h with h | h
    · exact oneCell_cellsOf _ v h
    · exact oneCell_cellsOf _ v h
  · exact oneCell_cellsOf _ v h
theorem all_cells3 (a b c : Sum) : (cells3 a b c).toArray.all (·.oneCell') = true := all_oneCell_toArray (oneCell_cells3 a b c)
abbrev tv (a b c : Sum) : Value := .agg (cells3 a b c).toArray
def Ent.v (e : Ent) : Value := .slice e.a e.n e.cap
def cellsEnt (e : Ent) : List Value := cells3 e.leaf e.mark e.root ++ [e.v]
theorem length_cellsEnt (e : Ent) : (cellsEnt e).length = 97 := by simp [cellsEnt, length_cells3]
theorem oneCell_cellsEnt (e : Ent) : ∀ v ∈ cellsEnt e, v.oneCell' = true := fun v hv => by
  rcases List.mem_append.1 hv with h | h
  · exact oneCell_cells3 _ _ _ v h
  · rw [List.mem_singleton.1 h]; rfl
def cellsEnts (l : List Ent) : List Value := l.flatMap cellsEnt
theorem length_cellsEnts (l : List Ent) : (cellsEnts l).length = 97 * l.length := by
  induction l with
  | nil => rfl
  | cons s l ih => rw [cellsEnts, List.flatMap_cons, List.length_append, length_cellsEnt, List.length_cons]; have := ih; rw [cellsEnts] at this; omega
theorem cellsEnts_append (a b : List Ent) : cellsEnts (a ++ b) = cellsEnts a ++ cellsEnts b := by simp [cellsEnts]
theorem cellsEnts_cons (s : Ent) (b : List Ent) : cellsEnts (s :: b) = cellsEnt s ++ cellsEnts b := by simp [cellsEnts]
theorem cellsEnts_one (s : Ent) : cellsEnts [s] = cellsEnt s := by simp [cellsEnts]
theorem oneCell_cellsEnts (l : List Ent) : ∀ v ∈ cellsEnts l, v.oneCell' = true := by
  intro v hv
  obtain ⟨s, _, hs⟩ := List.mem_flatMap.1 hv
  exact oneCell_cellsEnt s v hs
theorem cellsEnts_split {l : List Ent} {i : Nat} (h : i < l.length) : cellsEnts l = cellsEnts (l.take i) ++ (cellsEnt l[i] ++ cellsEnts (l.drop (i + 1))) := by
  conv => lhs; rw [← List.take_append_drop i l, cellsEnts_append, List.drop_eq_getElem_cons h, cellsEnts_cons]
theorem ents_at {w : World} {b o : Nat} {l : List Ent} (h : w.rangeAt b o (cellsEnts l)) {i : Nat} (hi : i < l.length) : w.rangeAt b (o + i * 97) (cellsEnt l[i]) := by
  rw [cellsEnts_split hi, range_append, length_cellsEnts, range_append, List.length_take, Nat.min_eq_left (by omega)] at h
  rw [Nat.mul_comm]; exact h.2.1
theorem ent_sums {w : World} {b o : Nat} {e : Ent} (h : w.rangeAt b o (cellsEnt e)) : w.rangeAt b o (cells3 e.leaf e.mark e.root) := by
  rw [cellsEnt, range_append] at h; exact h.1
theorem ent_leaf {w : World} {b o : Nat} {e : Ent} (h : w.rangeAt b o (cellsEnt e)) : w.rangeAt b o (cellsOf e.leaf) := by
  have := ent_sums h
  rw [cells3, range_append, range_append] at this; exact this.1.1
theorem ent_v {w : World} {b o : Nat} {e : Ent} (h : w.rangeAt b o (cellsEnt e)) : w.cell? ⟨b, o + 96, none⟩ = some e.v := by
  rw [cellsEnt, range_append, length_cells3] at h; exact h.2 0 _ rfl
/-- An entry of bytes b behind entries l. -/
structure EntOk (w : World) (base : Nat) (C : Nat → Prop) (l : List (List UInt8)) (e : Ent) (b : List UInt8) : Prop where
  leaf : e.leaf = lf b
  mark : e.mark = mk (l ++ [b])
  root : e.root = rt ((l ++ [b]).map lf)
  bytes : BytesAt w e.v b
  apart : b ≠ [] → ∀ k, e.v.ownBlock = some k → base ≤ k ∧ ¬ C k
/-- The blocks that a chain changes. -/
def CB (c f : Nat) (v vf : Value) : Nat → Prop := fun k => k = c ∨ k = f ∨ v.ownBlock = some k ∨ vf.ownBlock = some k
/-- A chain of entries, made since base. -/
structure ChainIn (base : Nat) (w : World) (c f : Nat) (v vf : Value) (es : List Ent) (l : List (List UInt8)) : Prop where
  head : w.heap[c]? = some (.cells #[.pointer (some ⟨f, 0, none⟩), v] 58 (0, 0))
  front : FrontAt w f vf (l.map lf)
  row : w.ownsRow base 113 97 v l.length (cellsEnts es)
  nil : l = [] → v = .slice none 0 0
  len : es.length = l.length
  ents : ∀ i e b, es[i]? = some e → l[i]? = some b → EntOk w base (CB c f v vf) (l.take i) e b
  hc : base ≤ c
  hf : base ≤ f
  hvf : ∀ k, vf.ownBlock = some k → base ≤ k
  cf : c ≠ f
  vc : v.ownBlock ≠ some c
  vf_ : v.ownBlock ≠ some f
  fc : vf.ownBlock ≠ some c
  vv : ∀ k, v.ownBlock = some k → vf.ownBlock ≠ some k
def ChainAt (base : Nat) (w : World) (c : Nat) (l : List (List UInt8)) : Prop := ∃ f v vf es, ChainIn base w c f v vf es l
theorem bytes_keep {X : Nat → Prop} {w w' : World} {v : Value} {b : List UInt8} (h : BytesAt w v b) (hk : Keeps X w w') (hx : b ≠ [] → ∀ k, v.ownBlock = some k → ¬ X k) : BytesAt w' v b := by
  obtain ⟨a, cap, rfl, h1, h2, h3⟩ := h
  refine ⟨a, cap, rfl, h1, h2, ?_⟩
  rcases h3 with h0 | ⟨g, o, rfl, hr⟩
  · exact .inl h0
  · by_cases hb : b = []
    · exact .inl hb
    · exact .inr ⟨g, o, rfl, hk.range hr (hx hb g rfl)⟩
theorem ChainIn.keep {base : Nat} {X : Nat → Prop} {w w' : World} {c f : Nat} {v vf : Value} {es : List Ent} {l : List (List UInt8)} (h : ChainIn base w c f v vf es l) (hk : Keeps X w w') (hx : ∀ k, base ≤ k → k < w.heap.size → ¬ X k) : ChainIn base w' c f v vf es l := by
  have hlc : c < w.heap.size := (Array.getElem?_eq_some_iff.1 h.head).1
  refine { h with head := hk.heap h.head (hx c h.hc hlc), front := ?_, row := hk.owns h.row (fun k e => hx k (own_base h.row k e) (own_lt h.row e)), ents := fun i e b he hb => ?_ }
  · exact h.front.keep hk (hx f h.hf h.front.lt) (fun k e => hx k (h.hvf k e) (own_lt h.front.2.1 e))
  · have := h.ents i e b he hb
    refine { this with bytes := bytes_keep this.bytes hk (fun h0 k ek => hx k (this.apart h0 k ek).1 ?_) }
    obtain ⟨a, cap, hv, h1, h2, h3⟩ := this.bytes
    rcases h3 with h4 | ⟨g, o, rfl, hr⟩
    · exact (h0 h4).elim
    · rw [hv] at ek
      simp only [Value.ownBlock, Option.some.injEq] at ek
      subst ek
      exact range_lt hr (by intro h5; have := congrArg List.length h5; rw [length_cells8] at this; exact h0 (List.length_eq_zero_iff.1 this))
theorem ChainAt.keep {base : Nat} {X : Nat → Prop} {w w' : World} {c : Nat} {l : List (List UInt8)} (h : ChainAt base w c l) (hk : Keeps X w w') (hx : ∀ k, base ≤ k → k < w.heap.size → ¬ X k) : ChainAt base w' c l := by
  obtain ⟨f, v, vf, es, h⟩ := h
  exact ⟨f, v, vf, es, h.keep hk hx⟩
theorem ChainAt.below {base : Nat} {w w' : World} {c : Nat} {l : List (List UInt8)} (h : ChainAt base w c l) (hb : Below w.heap.size w w') : ChainAt base w' c l :=
  h.keep (Keeps.of_below (X := fun _ => False) hb) (fun _ _ _ h => h)
end Go.Proofs.Ytdkcndgehgmadaa
