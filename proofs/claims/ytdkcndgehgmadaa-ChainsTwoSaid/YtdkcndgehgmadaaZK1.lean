/-
  Merged: K0, K1, K2, K3, K4, K5.
-/
import Derived.Test.YtdkcndgehgmadaaZB1
import Derived.Test.YtdkcndgehgmadaaF9
import Derived.Test.YtdkcndgehgmadaaF4
import Derived.WalkMore
import Derived.Test.YtdkcndgehgmadaaE0
import Derived.Test.YtdkcndgehgmadaaG3
-- The seat's words for chains: entries as they lie in memory, the mark of a list of entries.
open Go Go.RowKit Alm
namespace Go.Proofs.Ytdkcndgehgmadaa
/-- What all entries come to, the last one of them behind the others. -/
noncomputable def mk : List (List UInt8) → Sum := Classical.choose (⟨fun l => l.foldl (fun m b => sh (m.toList ++ (lf b).toList)) zeroSum, rfl⟩ : ∃ f : List (List UInt8) → Sum, f = fun l => l.foldl (fun m b => sh (m.toList ++ (lf b).toList)) zeroSum)
theorem mk_eq : mk = fun l => l.foldl (fun m b => sh (m.toList ++ (lf b).toList)) zeroSum := Classical.choose_spec (⟨fun l => l.foldl (fun m b => sh (m.toList ++ (lf b).toList)) zeroSum, rfl⟩ : ∃ f : List (List UInt8) → Sum, f = fun l => l.foldl (fun m b => sh (m.toList ++ (lf b).toList)) zeroSum)
theorem mk_nil : mk [] = zeroSum := by rw [mk_eq]; rfl
theorem mk_snoc (l : List (List UInt8)) (b : List UInt8) : mk (l ++ [b]) = sh ((mk l).toList ++ (lf b).toList) := by rw [mk_eq]; simp
/-- An entry, as it lies in memory. -/
structure Ent where
  leaf : Sum
  mark : Sum
  root : Sum
  a : Option Addr
  n : Nat
  cap : Nat
def cells3 (a b c : Sum) : List Value := cellsOf a ++ cellsOf b ++ cellsOf c
theorem length_cells3 (a b c : Sum) : (cells3 a b c).length = 96 := by simp [cells3, length_cellsOf]
theorem oneCell_cells3 (a b c : Sum) : ∀ v ∈ cells3 a b c, v.oneCell' = true := fun v hv => by
  rcases List.mem_append.1 hv with h | h
  · rcases List.mem_append.1 h with h | h
    · exact oneCell_cellsOf _ v h
    · exact oneCell_cellsOf _ v h
  · exact oneCell_cellsOf _ v h
theorem all_cells3 (a b c : Sum) : (cells3 a b c).toArray.all (·.oneCell') = true := all_oneCell_toArray (oneCell_cells3 a b c)
abbrev tv (a b c : Sum) : Value := .agg (cells3 a b c).toArray
def Ent.v (e : Ent) : Value := .slice e.a e.n e.cap
def cellsEnt (e : Ent) : List Value := cells3 e.leaf e.mark e.root ++ [e.v]
theorem length_cellsEnt (e : Ent) : (cellsEnt e).length = 97 := by simp [cellsEnt, length_cells3]
theorem oneCell_cellsEnt (e : Ent) : ∀ v ∈ cellsEnt e, v.oneCell' = true := fun v hv => by
  rcases List.mem_append.1 hv with h | h
  · exact oneCell_cells3 _ _ _ v h
  · rw [List.mem_singleton.1 h]; rfl
def cellsEnts (l : List Ent) : List Value := l.flatMap cellsEnt
theorem length_cellsEnts (l : List Ent) : (cellsEnts l).length = 97 * l.length := by
  induction l with
  | nil => rfl
  | cons s l ih => rw [cellsEnts, List.flatMap_cons, List.length_append, length_cellsEnt, List.length_cons]; have := ih; rw [cellsEnts] at this; omega
theorem cellsEnts_append (a b : List Ent) : cellsEnts (a ++ b) = cellsEnts a ++ cellsEnts b := by simp [cellsEnts]
theorem cellsEnts_cons (s : Ent) (b : List Ent) : cellsEnts (s :: b) = cellsEnt s ++ cellsEnts b := by simp [cellsEnts]
theorem cellsEnts_one (s : Ent) : cellsEnts [s] = cellsEnt s := by simp [cellsEnts]
theorem oneCell_cellsEnts (l : List Ent) : ∀ v ∈ cellsEnts l, v.oneCell' = true := by
  intro v hv
  obtain ⟨s, _, hs⟩ := List.mem_flatMap.1 hv
  exact oneCell_cellsEnt s v hs
theorem cellsEnts_split {l : List Ent} {i : Nat} (h : i < l.length) : cellsEnts l = cellsEnts (l.take i) ++ (cellsEnt l[i] ++ cellsEnts (l.drop (i + 1))) := by
  conv => lhs; rw [← List.take_append_drop i l, cellsEnts_append, List.drop_eq_getElem_cons h, cellsEnts_cons]
theorem ents_at {w : World} {b o : Nat} {l : List Ent} (h : w.rangeAt b o (cellsEnts l)) {i : Nat} (hi : i < l.length) : w.rangeAt b (o + i * 97) (cellsEnt l[i]) := by
  rw [cellsEnts_split hi, range_append, length_cellsEnts, range_append, List.length_take, Nat.min_eq_left (by omega)] at h
  rw [Nat.mul_comm]; exact h.2.1
theorem ent_sums {w : World} {b o : Nat} {e : Ent} (h : w.rangeAt b o (cellsEnt e)) : w.rangeAt b o (cells3 e.leaf e.mark e.root) := by
  rw [cellsEnt, range_append] at h; exact h.1
theorem ent_leaf {w : World} {b o : Nat} {e : Ent} (h : w.rangeAt b o (cellsEnt e)) : w.rangeAt b o (cellsOf e.leaf) := by
  have := ent_sums h
  rw [cells3, range_append, range_append] at this; exact this.1.1
theorem ent_v {w : World} {b o : Nat} {e : Ent} (h : w.rangeAt b o (cellsEnt e)) : w.cell? ⟨b, o + 96, none⟩ = some e.v := by
  rw [cellsEnt, range_append, length_cells3] at h; exact h.2 0 _ rfl
/-- An entry of bytes b behind entries l. -/
structure EntOk (w : World) (base : Nat) (C : Nat → Prop) (l : List (List UInt8)) (e : Ent) (b : List UInt8) : Prop where
  leaf : e.leaf = lf b
  mark : e.mark = mk (l ++ [b])
  root : e.root = rt ((l ++ [b]).map lf)
  bytes : BytesAt w e.v b
  apart : b ≠ [] → ∀ k, e.v.ownBlock = some k → base ≤ k ∧ ¬ C k
/-- The blocks that a chain changes. -/
def CB (c f : Nat) (v vf : Value) : Nat → Prop := fun k => k = c ∨ k = f ∨ v.ownBlock = some k ∨ vf.ownBlock = some k
/-- A chain of entries, made since base. -/
structure ChainIn (base : Nat) (w : World) (c f : Nat) (v vf : Value) (es : List Ent) (l : List (List UInt8)) : Prop where
  head : w.heap[c]? = some (.cells #[.pointer (some ⟨f, 0, none⟩), v] 58 (0, 0))
  front : FrontAt w f vf (l.map lf)
  row : w.ownsRow base 113 97 v l.length (cellsEnts es)
  nil : l = [] → v = .slice none 0 0
  len : es.length = l.length
  ents : ∀ i e b, es[i]? = some e → l[i]? = some b → EntOk w base (CB c f v vf) (l.take i) e b
  hc : base ≤ c
  hf : base ≤ f
  hvf : ∀ k, vf.ownBlock = some k → base ≤ k
  cf : c ≠ f
  vc : v.ownBlock ≠ some c
  vf_ : v.ownBlock ≠ some f
  fc : vf.ownBlock ≠ some c
  vv : ∀ k, v.ownBlock = some k → vf.ownBlock ≠ some k
def ChainAt (base : Nat) (w : World) (c : Nat) (l : List (List UInt8)) : Prop := ∃ f v vf es, ChainIn base w c f v vf es l
theorem bytes_keep {X : Nat → Prop} {w w' : World} {v : Value} {b : List UInt8} (h : BytesAt w v b) (hk : Keeps X w w') (hx : b ≠ [] → ∀ k, v.ownBlock = some k → ¬ X k) : BytesAt w' v b := by
  obtain ⟨a, cap, rfl, h1, h2, h3⟩ := h
  refine ⟨a, cap, rfl, h1, h2, ?_⟩
  rcases h3 with h0 | ⟨g, o, rfl, hr⟩
  · exact .inl h0
  · by_cases hb : b = []
    · exact .inl hb
    · exact .inr ⟨g, o, rfl, hk.range hr (hx hb g rfl)⟩
theorem ChainIn.keep {base : Nat} {X : Nat → Prop} {w w' : World} {c f : Nat} {v vf : Value} {es : List Ent} {l : List (List UInt8)} (h : ChainIn base w c f v vf es l) (hk : Keeps X w w') (hx : ∀ k, base ≤ k → k < w.heap.size → ¬ X k) : ChainIn base w' c f v vf es l := by
  have hlc : c < w.heap.size := (Array.getElem?_eq_some_iff.1 h.head).1
  refine { h with head := hk.heap h.head (hx c h.hc hlc), front := ?_, row := hk.owns h.row (fun k e => hx k (own_base h.row k e) (own_lt h.row e)), ents := fun i e b he hb => ?_ }
  · exact h.front.keep hk (hx f h.hf h.front.lt) (fun k e => hx k (h.hvf k e) (own_lt h.front.2.1 e))
  · have := h.ents i e b he hb
    refine { this with bytes := bytes_keep this.bytes hk (fun h0 k ek => hx k (this.apart h0 k ek).1 ?_) }
    obtain ⟨a, cap, hv, h1, h2, h3⟩ := this.bytes
    rcases h3 with h4 | ⟨g, o, rfl, hr⟩
    · exact (h0 h4).elim
    · rw [hv] at ek
      simp only [Value.ownBlock, Option.some.injEq] at ek
      subst ek
      exact range_lt hr (by intro h5; have := congrArg List.length h5; rw [length_cells8] at this; exact h0 (List.length_eq_zero_iff.1 this))
theorem ChainAt.keep {base : Nat} {X : Nat → Prop} {w w' : World} {c : Nat} {l : List (List UInt8)} (h : ChainAt base w c l) (hk : Keeps X w w') (hx : ∀ k, base ≤ k → k < w.heap.size → ¬ X k) : ChainAt base w' c l := by
  obtain ⟨f, v, vf, es, h⟩ := h
  exact ⟨f, v, vf, es, h.keep hk hx⟩
theorem ChainAt.below {base : Nat} {w w' : World} {c : Nat} {l : List (List UInt8)} (h : ChainAt base w c l) (hb : Below w.heap.size w w') : ChainAt base w' c l :=
  h.keep (Keeps.of_below (X := fun _ => False) hb) (fun _ _ _ h => h)
end Go.Proofs.Ytdkcndgehgmadaa
-- The seat's words for chains: operations on entries; slices.Clone and Clip of bytes; chains' last.
open Go Go.RowKit Alm
namespace Go.Proofs.Ytdkcndgehgmadaa
theorem infoSums3 : (Try.prog.info? 111).map (·.size) = some 96 := by kernel_rfl
theorem infoEnt : (Try.prog.info? 113).map (·.size) = some 97 := by kernel_rfl
theorem info_ent : ∃ i z, Try.prog.info? 113 = some i ∧ i.zero = some z ∧ i.size = 97 ∧ i.bytes = 120 ∧ z.cells.size = 97 := by
  have h : (Try.prog.info? 113).map (fun i => (i.zero.map fun z => z.cells.size, i.size, i.bytes)) = some (some 97, 97, 120) := by kernel_rfl
  obtain ⟨i, hi, h2⟩ := Option.map_eq_some_iff.1 h
  simp only [Prod.mk.injEq] at h2
  obtain ⟨z, hz, hz2⟩ := Option.map_eq_some_iff.1 h2.1
  exact ⟨i, z, hi, hz, h2.2.1, h2.2.2, hz2⟩
theorem build_ent (a : Option Addr) (n cap : Nat) (w : World) : (Instr.build 113 #[(1, .slice a n cap)]).run Try.prog w = .ok (.agg (cellsEnt ⟨zeroSum, zeroSum, zeroSum, a, n, cap⟩).toArray) w := by kernel_rfl
theorem part_at (cs : List Value) (o : Nat) (s : Sum) (h : (cs.drop o).take 32 = cellsOf s) (w : World) : (part 24 cs.toArray o).run Try.prog w = .ok (sv s) w := by
  simp [part, Try.isAgg24, Try.sizeOf24, h]
theorem cells3_0 (a b c : Sum) : ((cells3 a b c).drop 0).take 32 = cellsOf a := by
  rw [List.drop_zero, cells3, List.append_assoc, List.take_append_of_le_length (by rw [length_cellsOf]; omega), List.take_of_length_le (by rw [length_cellsOf]; omega)]
theorem cells3_1 (a b c : Sum) : ((cells3 a b c).drop 32).take 32 = cellsOf b := by
  rw [cells3, List.append_assoc, List.drop_append_of_le_length (by rw [length_cellsOf]; omega), List.drop_of_length_le (by rw [length_cellsOf]; omega), List.nil_append, List.take_append_of_le_length (by rw [length_cellsOf]; omega), List.take_of_length_le (by rw [length_cellsOf]; omega)]
theorem cells3_2 (a b c : Sum) : ((cells3 a b c).drop 64).take 32 = cellsOf c := by
  rw [cells3, List.drop_append, List.drop_of_length_le (by rw [List.length_append, length_cellsOf, length_cellsOf]; omega), List.nil_append, List.length_append, length_cellsOf, length_cellsOf, List.drop_zero, List.take_of_length_le (by rw [length_cellsOf]; omega)]
theorem field_leaf (a b c : Sum) (w : World) : (Instr.field 111 (.agg (cells3 a b c).toArray) 0).run Try.prog w = .ok (sv a) w := by
  simp [Instr.field, run_underlying Try.underlying111, asAgg, part_at _ _ _ (cells3_0 a b c)]
theorem field_mark (a b c : Sum) (w : World) : (Instr.field 111 (.agg (cells3 a b c).toArray) 1).run Try.prog w = .ok (sv b) w := by
  simp [Instr.field, run_underlying Try.underlying111, asAgg, part_at _ _ _ (cells3_1 a b c)]
theorem field_root (a b c : Sum) (w : World) : (Instr.field 111 (.agg (cells3 a b c).toArray) 2).run Try.prog w = .ok (sv c) w := by
  simp [Instr.field, run_underlying Try.underlying111, asAgg, part_at _ _ _ (cells3_2 a b c)]
/-- Entries in memory, to be read. -/
def EntsAt (w : World) (v : Value) (es : List Ent) : Prop :=
  ∃ a cap, v = .slice a es.length cap ∧ es.length ≤ cap ∧ cap ≤ maxLen ∧ (es = [] ∨ ∃ b, a = some ⟨b, 0, none⟩ ∧ w.rangeAt b 0 (cellsEnts es))
theorem EntsAt.below {w w' : World} {v : Value} {es : List Ent} (h : EntsAt w v es) (hb : Below w.heap.size w w') : EntsAt w' v es := by
  obtain ⟨a, cap, h0, h1, h2, h3⟩ := h
  refine ⟨a, cap, h0, h1, h2, ?_⟩
  rcases h3 with h | ⟨b, e, hr⟩
  · exact .inl h
  · exact .inr ⟨b, e, (Keeps.of_below (X := fun _ => False) hb).range hr (fun h => h)⟩
theorem wpList_load_sums3 {ops : Array Oper} {rest : List Oper} {op : Oper} {a : Act} {w : World} {Q : Exit → Act → World → Prop} (hgd : op.guard = none) (x : Operand) (ho : op.op = .load 111 x)
    (b o : Nat) (hx : a.eval x = .pointer (some ⟨b, o, none⟩)) (p q r : Sum) (hc : w.rangeAt b o (cells3 p q r))
    (h : wpList Try.prog ops Q rest (a.put op.dst (tv p q r)) w) : wpList Try.prog ops Q (op :: rest) a w :=
  wpList_load_mid hgd _ x ho b o hx (cells3 p q r) _ hc Try.underlying111 rfl (by rw [length_cells3]; exact infoSums3) h
theorem wpList_store_sums3 {ops : Array Oper} {rest : List Oper} {op : Oper} {a : Act} {w : World} {Q : Exit → Act → World → Prop} (hgd : op.guard = none) (x y : Operand) (ho : op.op = .store 111 x y)
    (b o : Nat) (p q r : Sum) (hx : a.eval x = .pointer (some ⟨b, o, none⟩)) (hy : a.eval y = tv p q r) (ht : w.there b o 96)
    (h : wpList Try.prog ops Q rest (a.put op.dst undef) (w.setCells b o (cells3 p q r))) : wpList Try.prog ops Q (op :: rest) a w :=
  wpList_store_mid hgd _ x y ho b o _ hx hy (by simpa [length_cells3] using ht) (by simpa [length_cells3] using infoSums3) (all_cells3 p q r) h
theorem results_sums3 {fn : Func} {p : Tmp} (h : fn.results = #[.cell p 111]) (tmps : Array Value) (w : World) (b : Nat) (x y z : Sum)
    (hp : tmps.getD p undef = .pointer (some ⟨b, 0, none⟩)) (hr : w.rangeAt b 0 (cells3 x y z)) :
    (results fn tmps).run Try.prog w = .ok (tv x y z) w :=
  results_mid h tmps _ b 0 _ _ hp hr Try.underlying111 rfl (by rw [length_cells3]; exact infoSums3)
theorem last_nil (v : Value) (w : World) (h : EntsAt w v []) : Calls Try.prog 80 #[v] w fun e w' => e = .returned (tv zeroSum zeroSum zeroSum) ∧ Below w.heap.size w w' := by
  obtain ⟨a, cap, rfl, -, -, -⟩ := h
  have R0 : Res w 96 (w.alloc (.cells (cells3 zeroSum zeroSum zeroSum).toArray 111)) := Res.start _ _ _ _ (by rfl)
  have hz : (w.alloc (.cells (cells3 zeroSum zeroSum zeroSum).toArray 111)).rangeAt w.heap.size 0 (cells3 zeroSum zeroSum zeroSum) := range_new w _ _ _ rfl
  go_enter Try.func80, Try.ntmps80
  go_wp2_with (first
    | (refine wpList_load_sums3 rfl _ rfl w.heap.size 0 rfl zeroSum zeroSum zeroSum hz ?_)
    | (refine wpList_store_sums3 rfl _ _ rfl w.heap.size 0 zeroSum zeroSum zeroSum rfl rfl R0.there ?_))
  exact bodyPost_ret (results_sums3 Try.results80 _ _ w.heap.size _ _ _ rfl (range_stored _ _ _ _ (by rw [length_cells3]; exact World.there_setCells R0.there _ _ _))) rfl ⟨rfl, (R0.store _).below⟩
theorem last_snoc (es : List Ent) (e : Ent) (v : Value) (w : World) (h : EntsAt w v (es ++ [e])) : Calls Try.prog 80 #[v] w fun x w' => x = .returned (tv e.leaf e.mark e.root) ∧ Below w.heap.size w w' := by
  obtain ⟨a, cap, rfl, h1, h2, h3⟩ := h
  obtain ⟨b, rfl, hr⟩ := h3.resolve_left (by simp)
  have hx := ent_sums (ents_at hr (i := es.length) (by simp))
  rw [Nat.zero_add] at hx
  have hg : (es ++ [e])[es.length]'(by simp) = e := by simp
  rw [hg] at hx
  rw [List.length_append, List.length_singleton] at h1 ⊢
  obtain ⟨n, hn⟩ : ∃ n, n = es.length := ⟨_, rfl⟩
  rw [← hn] at h1 hx ⊢
  clear hn hg hr
  unfold maxLen at h2
  have k1 : (0 : Int) < (n : Int) + 1 := by omega
  have k2 : IntKind.i64.wrap ((n : Int) + 1 - 1) = (n : Int) := by rw [IntKind.wrap_i64]; omega
  have R0 : Res w 96 (w.alloc (.cells (cells3 zeroSum zeroSum zeroSum).toArray 111)) := Res.start _ _ _ _ (by rfl)
  have HX := Lib.hid (R0.range hx)
  clear hx
  go_enter Try.func80, Try.ntmps80
  go_wp2_with (first
    | (refine wpList_load_sums3 rfl _ rfl b (n * 97) (by rfl) e.leaf e.mark e.root HX.out ?_)
    | (refine wpList_store_sums3 rfl _ _ rfl w.heap.size 0 e.leaf e.mark e.root rfl rfl R0.there ?_))
  exact bodyPost_ret (results_sums3 Try.results80 _ _ w.heap.size _ _ _ rfl (range_stored _ _ _ _ (by rw [length_cells3]; exact World.there_setCells R0.there _ _ _))) rfl ⟨rfl, (R0.store _).below⟩
end Go.Proofs.Ytdkcndgehgmadaa
-- Walks: slices.Clone and Clip of bytes; chains: New, none, Size.
open Go Go.RowKit Alm
namespace Go.Proofs.Ytdkcndgehgmadaa
/-- Bytes of one's own: no older memory. -/
def BytesNew (w : World) (base : Nat) (v : Value) (l : List UInt8) : Prop := BytesAt w v l ∧ ∀ k, v.ownBlock = some k → base ≤ k ∧ k < w.heap.size
set_option maxRecDepth 100000 in
theorem clone_bytes (w : World) (v : Value) (l : List UInt8) (h : BytesAt w v l) (hl : l.length < 4000000000) : Calls Try.prog 77 #[v] w fun e w' => ∃ v', e = .returned v' ∧ BytesNew w' w.heap.size v' l ∧ Below w.heap.size w w' := by
  have e1 := @Lib.run_eql_slice_nil Try.prog
  obtain ⟨i0, hi0, hz0⟩ := Option.map_eq_some_iff.1 infoByteZ
  simp only [Prod.mk.injEq] at hz0
  have HI := Lib.hid hi0
  have HZ := Lib.hid hz0
  clear hi0 hz0
  obtain ⟨a, cap, rfl, h1, h2, h3⟩ := h
  by_cases hn : l = []
  · subst hn
    cases a with
    | none =>
      go_enter Try.func77, Try.ntmps77
      go_wp2_with fail
      refine bodyPost_ret (results_tmp rfl _ _ _) rfl ?_
      exact ⟨_, rfl, ⟨⟨none, 0, rfl, by simp, by decide, .inl rfl⟩, fun k hk => by cases hk⟩, Below.refl _ _⟩
    | some a =>
      go_enter Try.func77, Try.ntmps77
      have hown : (w.alloc (.cells #[] 5)).ownsRow w.heap.size 5 1 (.slice (some ⟨w.heap.size, 0, none⟩) 0 0) 0 [] := World.ownsRow_made w #[] 0 (Nat.le_refl _) (by unfold maxLen; omega) rfl
      go_wp2_with (at_builtin; refine wpList_append_zero rfl _ _ rfl w.heap.size i0 HI.out _ _ _ rfl hown _ _ rfl ?_)
      refine bodyPost_ret (results_tmp rfl _ _ _) rfl ?_
      exact ⟨_, rfl, ⟨⟨_, 0, rfl, by simp, by decide, .inl rfl⟩, fun k hk => by cases hk; exact ⟨Nat.le_refl _, by simp⟩⟩, (al (Below.refl _ _) _)⟩
  · obtain ⟨b, o, rfl, hr⟩ := h3.resolve_left hn
    go_enter Try.func77, Try.ntmps77
    have hr1 := range_below (al (Below.refl _ _) (.cells #[] 5)) hr (range_lt hr (by intro h; have := length_cells8 l; rw [h] at this; exact hn (List.length_eq_zero_iff.1 (by simp at this; omega))))
    have hown : (w.alloc (.cells #[] 5)).ownsRow w.heap.size 5 1 (.slice (some ⟨w.heap.size, 0, none⟩) 0 0) 0 (cells8 []) := World.ownsRow_made w #[] 0 (Nat.le_refl _) (by unfold maxLen; omega) rfl
    have hB := al (Below.refl w.heap.size w) (.cells #[] 5)
    have hpos : 0 < l.length := List.length_pos_iff.2 hn
    obtain ⟨n, hnl⟩ : ∃ n, n = l.length := ⟨_, rfl⟩
    have HN := Lib.hid hnl
    rw [← hnl] at h1 hpos hl ⊢
    clear hnl h3 hr
    go_wp2_with (at_builtin; refine wpList_append_own _ rfl _ _ _ rfl w.heap.size 5 i0 (.int .u8 0) 1 1 Try.underlying50 HI.out HZ.out.1 HZ.out.2.1 HZ.out.2.2 rfl (by decide) _ _ _ rfl hown ⟨b, o, none⟩ n cap (cells8 l) rfl (by rw [length_cells8, HN.out]; omega) (fun j u hj => by rw [Addr.add_mid]; exact hr1 j u hj) (oneCell_cells8 _) (by unfold maxLen; omega) (by omega) (by simp) ?_; intro v' w2 ho3 hg3 hat3)
    have ho4 : w2.ownsRow w.heap.size 5 1 v' l.length (cells8 l) := by
      have := ho3
      rw [Nat.zero_add, HN.out] at this
      exact this
    refine bodyPost_ret (results_tmp rfl _ _ _) rfl ?_
    exact ⟨_, rfl, ⟨bytes_own ho4 (by have := HN.out; omega), fun k hk => ⟨own_base ho4 k hk, own_lt ho4 hk⟩⟩, hB.grown hg3 (by simp) (fun k hk => by cases hk; exact Nat.le_refl _)⟩
theorem ChainIn.below {base : Nat} {w w' : World} {c f : Nat} {v vf : Value} {es : List Ent} {l : List (List UInt8)} (h : ChainIn base w c f v vf es l) (hb : Below w.heap.size w w') : ChainIn base w' c f v vf es l :=
  h.keep (Keeps.of_below (X := fun _ => False) hb) (fun _ _ _ h => h)
theorem clip_bytes (w : World) (base : Nat) (v : Value) (l : List UInt8) (h : BytesNew w base v l) : Calls Try.prog 76 #[v] w fun e w' => ∃ v', e = .returned v' ∧ BytesNew w base v' l ∧ w = w' := by
  obtain ⟨⟨a, cap, rfl, h1, h2, h3⟩, h4⟩ := h
  have hn : BytesNew w base (.slice a l.length l.length) l := ⟨⟨a, l.length, rfl, Nat.le_refl _, by omega, h3⟩, fun k hk => h4 k (by cases a <;> exact hk)⟩
  have HN := Lib.hid hn; clear hn h3 h4
  obtain ⟨n, hn⟩ : ∃ n, n = l.length := ⟨_, rfl⟩
  rw [← hn] at HN h1 ⊢
  clear hn
  have k1 : (n : Int) ≤ (cap : Int) := by omega
  unfold maxLen at h2
  cases a with
  | none =>
    have h0 : (none : Option Addr) = none := rfl
    go_enter Try.func76, Try.ntmps76
    go_wp2_with fail
    refine bodyPost_ret (results_tmp rfl _ _ _) rfl ?_
    exact ⟨_, rfl, HN.out, rfl⟩
  | some a =>
    go_enter Try.func76, Try.ntmps76
    go_wp2_with fail
    refine bodyPost_ret (results_tmp rfl _ _ _) rfl ?_
    exact ⟨_, rfl, HN.out, rfl⟩
theorem cnone_live (w : World) (c f : Nat) (hc : w.cell? ⟨c, 0, none⟩ = some (.pointer (some ⟨f, 0, none⟩))) : Calls Try.prog 75 #[.pointer (some ⟨c, 0, none⟩)] w fun e w' => e = .returned (.bool false) ∧ w = w' := by
  go_enter Try.func75, Try.ntmps75
  go_wp2_with fail
  exact bodyPost_ret (results_tmp rfl _ _ _) rfl ⟨rfl, rfl⟩
theorem ChainIn.c0 {base : Nat} {w : World} {c f : Nat} {v vf : Value} {es : List Ent} {l : List (List UInt8)} (h : ChainIn base w c f v vf es l) : w.cell? ⟨c, 0, none⟩ = some (.pointer (some ⟨f, 0, none⟩)) := by
  rw [cell_of_row w c _ _ _ (0, 0) h.head]; rfl
theorem ChainIn.c1 {base : Nat} {w : World} {c f : Nat} {v vf : Value} {es : List Ent} {l : List (List UInt8)} (h : ChainIn base w c f v vf es l) : w.cell? ⟨c, 1, none⟩ = some v := by
  rw [cell_of_row w c _ _ _ (0, 0) h.head]; rfl
theorem ChainIn.form {base : Nat} {w : World} {c f : Nat} {v vf : Value} {es : List Ent} {l : List (List UInt8)} (h : ChainIn base w c f v vf es l) : ∃ a cap, v = .slice a l.length cap ∧ l.length ≤ cap ∧ cap ≤ maxLen ∧ (l = [] ∨ ∃ g, a = some ⟨g, 0, none⟩ ∧ w.rangeAt g 0 (cellsEnts es)) := by
  by_cases hl : l = []
  · subst hl
    exact ⟨none, 0, by rw [h.nil rfl]; rfl, by simp, by decide, .inl rfl⟩
  · obtain ⟨g, cap, hv, h1, h2, _, hr⟩ := own_range h.row (List.length_pos_iff.2 hl)
    exact ⟨_, cap, hv, h1, h2, .inr ⟨g, rfl, hr⟩⟩
theorem csize_at (base : Nat) (w : World) (c : Nat) (l : List (List UInt8)) (h : ChainAt base w c l) : Calls Try.prog 44 #[.pointer (some ⟨c, 0, none⟩)] w fun e w' => e = .returned (.int .u64 (l.length : Int)) ∧ w = w' := by
  obtain ⟨f, v, vf, es, h⟩ := h
  have h0 := h.c0
  have h1 := h.c1
  obtain ⟨a, cap, rfl, k1, k2, -⟩ := h.form
  have hl := h.front.2.2.2.1
  rw [List.length_map] at hl
  clear h
  have hl' : (l.length : Int) < 4000000000 := by omega
  go_enter Try.func44, Try.ntmps44
  go_wp2_with (go_at_call 75; refine (cnone_live _ c f h0).mono ?_; rintro e w1 ⟨rfl, rfl⟩)
  exact bodyPost_ret (results_tmp rfl _ _ _) rfl ⟨rfl, rfl⟩
theorem cnew_at (w : World) : Calls Try.prog 86 #[] w fun e w' => ∃ c, e = .returned (.pointer (some ⟨c, 0, none⟩)) ∧ ChainAt w.heap.size w' c [] ∧ Below w.heap.size w w' := by
  go_enter Try.func86, Try.ntmps86
  go_wp2_with fail
  refine (new_front w).mono ?_
  rintro e w1 ⟨rfl, hF, hB⟩
  have hf := hF.below (al (Below.refl _ w1) (.cells #[.pointer (some ⟨w.heap.size, 0, none⟩), .slice none 0 0] 58))
  have hlt := hF.lt
  have hC : ChainIn w.heap.size (w1.alloc (.cells #[.pointer (some ⟨w.heap.size, 0, none⟩), .slice none 0 0] 58)) w1.heap.size w.heap.size (.slice none 0 0) (.slice none 0 0) [] [] :=
    { head := heap_alloc_new w1 _, front := hf, row := World.ownsRow_nil _ _ _ _, nil := fun _ => rfl, len := rfl, ents := (fun i e b he _ => by simp at he), hc := hB.size, hf := Nat.le_refl _, hvf := (fun k hk => by cases hk), cf := (by omega), vc := (by simp [Value.ownBlock]), vf_ := (by simp [Value.ownBlock]), fc := (by simp [Value.ownBlock]), vv := (fun k hk => by cases hk) }
  have HC := Lib.hid hC
  have HB := Lib.hid (hB.alloc hB.size (.cells #[.pointer (some ⟨w.heap.size, 0, none⟩), .slice none 0 0] 58))
  clear hC hf hF hB hlt
  go_wp2_with fail
  refine bodyPost_ret (results_tmp rfl _ _ _) rfl ?_
  exact ⟨_, rfl, ⟨_, _, _, _, HC.out⟩, HB.out⟩
end Go.Proofs.Ytdkcndgehgmadaa
-- Walks: chains' last of a chain's first ones; an entry in a variable.
open Go Go.RowKit Alm
namespace Go.Proofs.Ytdkcndgehgmadaa
theorem ChainIn.take {base : Nat} {w : World} {c f : Nat} {v vf : Value} {es : List Ent} {l : List (List UInt8)} (h : ChainIn base w c f v vf es l) (k : Nat) (hk : k ≤ l.length) (a : Option Addr) (cap : Nat) (hv : v = .slice a l.length cap) : EntsAt w (.slice a k cap) (es.take k) := by
  obtain ⟨a', cap', e, h1, h2, h3⟩ := h.form
  rw [hv] at e
  simp only [Value.slice.injEq, true_and] at e
  obtain ⟨rfl, rfl⟩ := e
  have hl : (es.take k).length = k := by rw [List.length_take, h.len]; omega
  refine ⟨a, cap, by rw [hl], by rw [hl]; omega, h2, ?_⟩
  rcases h3 with rfl | ⟨g, rfl, hr⟩
  · left
    have : es = [] := List.length_eq_zero_iff.1 (by rw [h.len]; rfl)
    rw [this]; simp
  · right
    refine ⟨g, rfl, ?_⟩
    rw [← List.take_append_drop k es, cellsEnts_append, range_append] at hr
    exact hr.1
theorem last_at {base : Nat} {w : World} {c f : Nat} {v vf : Value} {es : List Ent} {l : List (List UInt8)} (h : ChainIn base w c f v vf es l) (k : Nat) (hk : k ≤ l.length) (a : Option Addr) (cap : Nat) (hv : v = .slice a l.length cap) :
    Calls Try.prog 80 #[.slice a k cap] w fun e w' => (∃ p r, e = .returned (tv p (mk (l.take k)) r) ∧ (k ≠ 0 → r = rt ((l.take k).map lf))) ∧ Below w.heap.size w w' := by
  have ht := h.take k hk a cap hv
  by_cases h0 : k = 0
  · subst h0
    rw [List.take_zero] at ht
    refine (last_nil _ w ht).mono ?_
    rintro e w' ⟨rfl, hb⟩
    exact ⟨⟨_, _, by rw [List.take_zero, mk_nil], fun h => (h rfl).elim⟩, hb⟩
  · obtain ⟨j, rfl⟩ : ∃ j, k = j + 1 := ⟨k - 1, by omega⟩
    have hje : j < es.length := by rw [h.len]; omega
    have hjl : j < l.length := by omega
    rw [List.take_succ_eq_append_getElem hje] at ht
    have hE := h.ents j es[j] l[j] (List.getElem?_eq_getElem hje) (List.getElem?_eq_getElem hjl)
    refine (last_snoc _ _ _ w ht).mono ?_
    rintro e w' ⟨rfl, hb⟩
    refine ⟨⟨_, _, by rw [hE.mark, List.take_succ_eq_append_getElem hjl], fun _ => ?_⟩, hb⟩
    rw [hE.root, List.take_succ_eq_append_getElem hjl]
/-- A variable that is an entry. -/
def EntRow (W : World) (X : Nat) (e : Ent) : Prop := W.heap[X]? = some (.cells (cellsEnt e).toArray 113 (0, 0))
theorem EntRow.range {W : World} {X : Nat} {e : Ent} (h : EntRow W X e) : W.rangeAt X 0 (cellsEnt e) := fun j u hj => by
  rw [cell_of_row W X _ _ _ (0, 0) h, Nat.zero_add]; simpa using hj
theorem EntRow.there {W : World} {X : Nat} {e : Ent} (h : EntRow W X e) (o n : Nat) (ho : o + n ≤ 97) : W.there X o n := fun j hj => by
  refine ⟨?_, frozen_of_row W X _ _ _ h⟩
  rw [cell_of_row W X _ _ _ (0, 0) h, List.getElem?_toArray, List.getElem?_eq_getElem (by rw [length_cellsEnt]; omega)]; rfl
theorem EntRow.lt {W : World} {X : Nat} {e : Ent} (h : EntRow W X e) : X < W.heap.size := (Array.getElem?_eq_some_iff.1 h).1
theorem EntRow.set0 {W : World} {X : Nat} {e : Ent} (h : EntRow W X e) (s : Sum) : EntRow (W.setCells X 0 (cellsOf s)) X { e with leaf := s } := by
  have := heap_setCells X 113 (cellsOf s) 0 (cellsEnt e) W h (by rw [length_cellsOf, length_cellsEnt]; omega)
  rw [EntRow, this]
  simp [cellsEnt, cells3, List.drop_append, length_cellsOf, Ent.v]
theorem EntRow.set1 {W : World} {X : Nat} {e : Ent} (h : EntRow W X e) (s : Sum) : EntRow (W.setCells X 32 (cellsOf s)) X { e with mark := s } := by
  have := heap_setCells X 113 (cellsOf s) 32 (cellsEnt e) W h (by rw [length_cellsOf, length_cellsEnt]; omega)
  rw [EntRow, this]
  simp [cellsEnt, cells3, List.take_append, List.drop_append, length_cellsOf, Ent.v]
theorem EntRow.set2 {W : World} {X : Nat} {e : Ent} (h : EntRow W X e) (s : Sum) : EntRow (W.setCells X 64 (cellsOf s)) X { e with root := s } := by
  have := heap_setCells X 113 (cellsOf s) 64 (cellsEnt e) W h (by rw [length_cellsOf, length_cellsEnt]; omega)
  rw [EntRow, this]
  simp [cellsEnt, cells3, List.take_append, List.drop_append, length_cellsOf, Ent.v]
  rw [List.take_of_length_le (by rw [length_cellsOf]; omega), List.drop_of_length_le (by rw [length_cellsOf]; omega), List.drop_of_length_le (by rw [length_cellsOf]; omega)]
  rfl
theorem wpList_var_ent {ops : Array Oper} {rest : List Oper} {op : Oper} {a : Act} {w : World} {C : Array Value} {Q : Exit → Act → World → Prop} (hC : C.size = 97) (hgd : op.guard = none) (x y : Operand) (ho : op.op = .store 113 x y)
    (e : Ent) (hx : a.eval x = .pointer (some ⟨w.heap.size, 0, none⟩)) (hy : a.eval y = .agg (cellsEnt e).toArray)
    (h : ∀ W', Below w.heap.size w W' → EntRow W' w.heap.size e → wpList Try.prog ops Q rest (a.put op.dst undef) W') : wpList Try.prog ops Q (op :: rest) a (w.alloc (.cells C 113)) := by
  have ht : (w.alloc (.cells C 113)).there w.heap.size 0 97 := by rw [← hC]; exact there_new _ _ _
  have hr := heap_setCells_all (w.alloc (.cells C 113)) w.heap.size 113 C (cellsEnt e) (heap_alloc_new w _) (by rw [hC, length_cellsEnt])
  exact wpList_store_mid hgd _ x y ho w.heap.size 0 _ hx hy (by simpa [length_cellsEnt] using ht) (by simpa [length_cellsEnt] using infoEnt) (all_oneCell_toArray (oneCell_cellsEnt e)) (h _ (setCells_below _ (Nat.le_refl _) _ 0 _ _ (al (Below.refl _ _) _)) hr)
/-- append of one entry. -/
theorem wp_append_ent {w : World} {o : Oper} {a : Act} {K : Act → World → Prop} {Q : Exit → Act → World → Prop} (s x : Operand)
    (ho : o.op = .call { callee := .builtin .append, args := #[s, x], argTypes := #[56, 56] })
    (base : Nat) (v : Value) (l : List Ent) (n : Nat) (hn : l.length = n) (hs : a.eval s = v) (hown : w.ownsRow base 113 97 v n (cellsEnts l))
    (b off c : Nat) (y : Ent) (hx : a.eval x = .slice (some ⟨b, off, none⟩) 1 c) (hr : w.rangeAt b off (cellsEnt y)) (hl : n < 1000000000) (hB : base ≤ w.heap.size)
    (h : ∀ g cap w', w'.ownsRow base 113 97 (.slice (some ⟨g, 0, none⟩) (n + 1) cap) (n + 1) (cellsEnts (l ++ [y])) → w.grownBy w' v.ownBlock → (v.ownBlock = some g ∨ g = w.heap.size) → g < w'.heap.size → K (a.put o.dst (.slice (some ⟨g, 0, none⟩) (n + 1) cap)) w') : o.wp Try.prog a w K Q := by
  obtain ⟨i, z, hi, hz, h1, h2, h3⟩ := info_ent
  refine wp_append_lies w s x _ ho base _ i z 97 120 Try.underlying56 hi hz h1 h2 h3 (by omega) v n (cellsEnts l) hs hown ⟨b, off, none⟩ 1 c (cellsEnt y) hx (by rw [length_cellsEnt]) (fun j u hj => by rw [Addr.add_mid]; exact hr j u hj) (oneCell_cellsEnt y) (by omega) (by unfold maxLen; omega) (by omega) hB w.heap.size rfl ?_
  intro g cap w' ho' hg hat hlt
  refine h g cap w' ?_ hg hat hlt
  rw [cellsEnts_append, cellsEnts_one]; exact ho'
/-- A slice literal of one entry. -/
theorem wp_build_ents {w : World} {o : Oper} {a : Act} {K : Act → World → Prop} {Q : Exit → Act → World → Prop} (x : Operand) (ho : o.op = .buildSlice 56 1 #[(0, x)]) (e : Ent) (hx : a.eval x = .agg (cellsEnt e).toArray)
    (h : K (a.put o.dst (.slice (some ⟨w.heap.size, 0, none⟩) 1 1)) (w.alloc (.cells (cellsEnt e).toArray 113))) : o.wp Try.prog a w K Q := by
  obtain ⟨i, z, hi, hz, hs, hb, hzs⟩ := info_ent
  refine wp_buildSlice _ 113 1 _ ho (cellsEnt e).toArray i z Try.underlying56 hi hz (by rw [hs]; omega) (by rw [hs]; omega) ?_ h
  have hp : ((#[(0, x)] : Array (Nat × Operand)).toList.map fun (i, x) => (i, a.eval x)) = ([Value.agg (cellsEnt e).toArray].zipIdx 0).map fun x => (x.2, x.1) := by simp [hx]
  rw [Array.toList_map, hp, hs, Great.fill_whole (s := 97) (by omega) [Value.agg (cellsEnt e).toArray] _ (fun v hv => by rw [List.mem_singleton.1 hv]; simp [Value.cells, length_cellsEnt]) (by simp)]
  simp [Value.cells]
theorem wp_load_ent {op : Oper} {a : Act} {w : World} {K : Act → World → Prop} {Q : Exit → Act → World → Prop} (x : Operand) (ho : op.op = .load 113 x)
    (b o : Nat) (hx : a.eval x = .pointer (some ⟨b, o, none⟩)) (e : Ent) (hc : w.rangeAt b o (cellsEnt e)) (h : K (a.put op.dst (.agg (cellsEnt e).toArray)) w) : op.wp Try.prog a w K Q :=
  wp_load_mid _ x ho b o hx (cellsEnt e) _ hc Try.underlying113 rfl (by rw [length_cellsEnt]; exact infoEnt) h
end Go.Proofs.Ytdkcndgehgmadaa
-- Walks: chains: Add.
open Go Go.RowKit Alm
namespace Go.Proofs.Ytdkcndgehgmadaa
theorem parts_sums {w : World} {p q b : Nat} (x y : Sum) (hp : p < w.heap.size) (hq : q < w.heap.size) (t : TypeId) (hb : b = w.heap.size)
    (h1 : w.rangeAt p 0 (cellsOf x)) (h2 : w.rangeAt q 0 (cellsOf y)) :
    Parts2 (w.alloc (.cells #[.slice (some ⟨p, 0, none⟩) 32 32, .slice (some ⟨q, 0, none⟩) 32 32] t)) b 0 [.slice (some ⟨p, 0, none⟩) 32 32, .slice (some ⟨q, 0, none⟩) 32 32] [x.toList, y.toList] := by
  subst hb
  have hB := al (Below.refl w.heap.size w) (.cells #[.slice (some ⟨p, 0, none⟩) 32 32, .slice (some ⟨q, 0, none⟩) 32 32] t)
  refine ⟨range_new _ _ _ _ rfl, rfl, fun j hj => ?_⟩
  have hj' : j < 2 := hj
  match j, hj' with
  | 0, _ => exact ⟨_, _, _, rfl, by simp, by decide, .inr ⟨p, 0, rfl, range_below hB h1 hp, by simp; omega⟩⟩
  | 1, _ => exact ⟨_, _, _, rfl, by simp, by decide, .inr ⟨q, 0, rfl, range_below hB h2 hq, by simp; omega⟩⟩
theorem entrow_below {W W' : World} {X : Nat} {e : Ent} (h : EntRow W X e) (hb : Below W.heap.size W W') : EntRow W' X e := (hb.block X h.lt).trans h
theorem keeps_setCells_any (b : Nat) : ∀ (vs : List Value) (o : Nat) (w : World), Keeps (· = b) w (w.setCells b o vs)
  | [], _, w => Keeps.refl _ w
  | v :: r, o, w => by
    rw [World.setCells]
    exact ((Keeps.refl (fun k => k = b) w).setCell (p := ⟨b, o, none⟩) (.inl rfl) v).trans (keeps_setCells_any b r (o + 1) _)
/-- What stands while an entry is made, in variable X. -/
structure AddW (w W : World) (X : Nat) (e : Ent) (b : List UInt8) : Prop where
  below : Below w.heap.size w W
  row : EntRow W X e
  bytes : BytesAt W e.v b
  own : ∀ k, e.v.ownBlock = some k → w.heap.size ≤ k ∧ k ≠ X
  hx : w.heap.size ≤ X
  olt : ∀ k, e.v.ownBlock = some k → k < W.heap.size
theorem AddW.mem {w W W' : World} {X : Nat} {e : Ent} {b : List UInt8} (h : AddW w W X e b) (hb : Below W.heap.size W W') : AddW w W' X e b :=
  ⟨h.below.trans (hb.mono h.below.size), entrow_below h.row hb, bytes_below h.bytes hb (Nat.le_refl _), h.own, h.hx, fun k hk => Nat.lt_of_lt_of_le (h.olt k hk) hb.size⟩
theorem AddW.store {w W : World} {X : Nat} {e e' : Ent} {b : List UInt8} (h : AddW w W X e b) (o : Nat) (vs : List Value) (hr : EntRow (W.setCells X o vs) X e') (hv : e'.v = e.v) : AddW w (W.setCells X o vs) X e' b := by
  have hk := keeps_setCells_any X vs o W
  refine ⟨setCells_below X h.hx vs o w W h.below, hr, ?_, ?_, h.hx, ?_⟩
  · rw [hv]
    exact bytes_keep h.bytes hk (fun _ k ek => (h.own k ek).2)
  · rw [hv]; exact h.own
  · rw [hv, size_setCells]; exact h.olt
/-- What stands behind the front's Add. -/
structure AddV (w W : World) (f X : Nat) (vf vf' : Value) (fl : List Sum) (e : Ent) (b : List UInt8) : Prop where
  keeps : Keeps (fun k => (k = f ∨ vf.ownBlock = some k) ∨ w.heap.size ≤ k) w W
  row : EntRow W X e
  front : FrontAt W f vf' fl
  bytes : BytesAt W e.v b
  own : ∀ k, e.v.ownBlock = some k → w.heap.size ≤ k ∧ k < W.heap.size ∧ k ≠ X ∧ vf'.ownBlock ≠ some k
  hx : w.heap.size ≤ X
  fw : f < w.heap.size
  fresh : ∀ k, vf'.ownBlock = some k → k ≠ X ∧ (vf.ownBlock = some k ∨ w.heap.size ≤ k)
theorem AddV.mem {w W W' : World} {f X : Nat} {vf vf' : Value} {fl : List Sum} {e : Ent} {b : List UInt8} (h : AddV w W f X vf vf' fl e b) (hb : Below W.heap.size W W') : AddV w W' f X vf vf' fl e b :=
  ⟨h.keeps.trans' (Keeps.of_below (X := fun _ => False) hb) (fun _ h => h.elim), entrow_below h.row hb, h.front.below hb, bytes_below h.bytes hb (Nat.le_refl _), fun k hk => ⟨(h.own k hk).1, Nat.lt_of_lt_of_le (h.own k hk).2.1 hb.size, (h.own k hk).2.2⟩, h.hx, h.fw, h.fresh⟩
theorem AddV.store {w W : World} {f X : Nat} {vf vf' : Value} {fl : List Sum} {e e' : Ent} {b : List UInt8} (h : AddV w W f X vf vf' fl e b) (o : Nat) (vs : List Value) (hr : EntRow (W.setCells X o vs) X e') (hv : e'.v = e.v) : AddV w (W.setCells X o vs) f X vf vf' fl e' b := by
  have hk := keeps_setCells_any X vs o W
  refine ⟨h.keeps.trans' hk (fun i hi => by subst hi; exact .inl (.inr h.hx)), hr, h.front.keep hk (by have := h.fw; have := h.hx; omega) (fun k hk e => (h.fresh k hk).1 e), ?_, ?_, h.hx, h.fw, h.fresh⟩
  · rw [hv]; exact bytes_keep h.bytes hk (fun _ k ek => (h.own k ek).2.2.1)
  · rw [hv, size_setCells]; exact h.own
theorem AddV.start {w W W' : World} {f X : Nat} {vf vf' : Value} {fl : List Sum} {e : Ent} {b : List UInt8} (h : AddW w W X e b) (hf : FrontAt W' f vf' fl) (hfw : f < w.heap.size) (hvw : ∀ k, vf.ownBlock = some k → k < w.heap.size) (hk : Keeps (fun k => k = f ∨ vf.ownBlock = some k) W W') (hv : ∀ k, vf'.ownBlock = some k → vf.ownBlock = some k ∨ W.heap.size ≤ k) : AddV w W' f X vf vf' fl e b := by
  have hlt := h.olt
  have hXn : ¬ (X = f ∨ vf.ownBlock = some X) := fun hh => by
    have := h.hx
    rcases hh with rfl | h1
    · omega
    · have := hvw X h1; omega
  refine ⟨?_, hk.heap h.row hXn, hf, ?_, fun k ek => ⟨(h.own k ek).1, Nat.lt_of_lt_of_le (hlt k ek) hk.size, (h.own k ek).2, fun e1 => ?_⟩, h.hx, hfw, fun k ek => ⟨fun e1 => ?_, ?_⟩⟩
  · have h1 : Keeps (fun k => (k = f ∨ vf.ownBlock = some k) ∨ w.heap.size ≤ k) w W := Keeps.of_below h.below
    exact h1.trans' hk (fun i hi => .inl (.inl hi))
  · refine bytes_keep h.bytes hk (fun _ k ek e1 => ?_)
    have := (h.own k ek).1
    rcases e1 with rfl | h1
    · omega
    · have := hvw k h1; omega
  · have h0 := (h.own k ek).1
    rcases hv k e1 with h1 | h1
    · have := hvw k h1; omega
    · have := hlt k ek; omega
  · subst e1
    rcases hv k ek with h1 | h1
    · exact hXn (.inr h1)
    · have := h.row.lt; omega
  · rcases hv k ek with h1 | h1
    · exact .inl h1
    · exact .inr (Nat.le_trans h.below.size h1)
theorem bytes_lt {w : World} {v : Value} {b : List UInt8} (h : BytesAt w v b) (h0 : b ≠ []) {k : Nat} (hk : v.ownBlock = some k) : k < w.heap.size := by
  obtain ⟨a, cap, rfl, h1, h2, h3⟩ := h
  rcases h3 with h4 | ⟨g, o, rfl, hr⟩
  · exact (h0 h4).elim
  · simp only [Value.ownBlock, Option.some.injEq] at hk
    subst hk
    exact range_lt hr (by intro h5; have := congrArg List.length h5; rw [length_cells8] at this; exact h0 (List.length_eq_zero_iff.1 this))
theorem add_end {base : Nat} {w W W1 W2 : World} {c f X g m cap : Nat} {cv vf vf' : Value} {es : List Ent} {l : List (List UInt8)} {e : Ent} {b : List UInt8} {s : Sum} (h : ChainIn base w c f cv vf es l) (hA : AddV w W f X vf vf' (l.map lf ++ [s]) e b) (hB : base ≤ w.heap.size)
    (hs : lf b = s) (he : e.leaf = s) (hem : e.mark = mk (l ++ [b])) (her : e.root = rt ((l ++ [b]).map lf)) (hm : m = l.length)
    (hb1 : Below W.heap.size W W1) (ho : W2.ownsRow base 113 97 (.slice (some ⟨g, 0, none⟩) (m + 1) cap) (m + 1) (cellsEnts (es ++ [e]))) (hg : W1.grownBy W2 cv.ownBlock) (hat : cv.ownBlock = some g ∨ g = W1.heap.size) :
    ChainAt base (W2.setCell ⟨c, 1, none⟩ (.slice (some ⟨g, 0, none⟩) (m + 1) cap)) c (l ++ [b]) ∧ Keeps (fun k => base ≤ k) w (W2.setCell ⟨c, 1, none⟩ (.slice (some ⟨g, 0, none⟩) (m + 1) cap)) := by
  have hcw : c < w.heap.size := (Array.getElem?_eq_some_iff.1 h.head).1
  have hK : Keeps (fun k => cv.ownBlock = some k) W1 W2 := .of_grown hg (fun k hk => hk)
  have hcvw : ∀ k, cv.ownBlock = some k → k < w.heap.size := fun k hk => own_lt h.row hk
  have hvfw : ∀ k, vf.ownBlock = some k → k < w.heap.size := fun k hk => own_lt h.front.2.1 hk
  have hw1 : w.heap.size ≤ W1.heap.size := Nat.le_trans hA.keeps.size hb1.size
  have hcn : ¬ ((c = f ∨ vf.ownBlock = some c) ∨ w.heap.size ≤ c) := fun hh => by
    rcases hh with (h1 | h1) | h1
    · exact h.cf h1
    · exact h.fc h1
    · omega
  have hall : Keeps (fun k => ((k = f ∨ vf.ownBlock = some k) ∨ w.heap.size ≤ k) ∨ cv.ownBlock = some k) w W2 :=
    ((hA.keeps.mono (fun k hk => .inl hk)).trans' (Keeps.of_below (X := fun _ => False) hb1) (fun _ h => h.elim)).trans' hK (fun i hi => .inl (.inr hi))
  have hset : Keeps (· = c) W2 (W2.setCell ⟨c, 1, none⟩ (.slice (some ⟨g, 0, none⟩) (m + 1) cap)) := (Keeps.refl (fun k => k = c) W2).setCell (p := ⟨c, 1, none⟩) (.inl rfl) _
  have hgc : g ≠ c := by
    rintro rfl
    rcases hat with h1 | h1
    · exact h.vc h1
    · omega
  have hgf : g ≠ f := by
    rintro rfl
    rcases hat with h1 | h1
    · exact h.vf_ h1
    · have := hA.fw; omega
  have hvf'c : vf'.ownBlock ≠ some c := fun e1 => by
    rcases (hA.fresh c e1).2 with h1 | h1
    · exact h.fc h1
    · omega
  have hvv : ∀ k, vf'.ownBlock = some k → cv.ownBlock ≠ some k := fun k e1 e2 => by
    rcases (hA.fresh k e1).2 with h1 | h1
    · exact h.vv k e2 h1
    · have := hcvw k e2; omega
  have hf1 := hA.front.below hb1
  have hvflt : ∀ k, vf'.ownBlock = some k → k < W1.heap.size := fun k e1 => own_lt hf1.2.1 e1
  have hfr2 : FrontAt W2 f vf' ((l ++ [b]).map lf) := by
    rw [List.map_append, List.map_singleton, hs]
    exact hf1.keep hK (fun e1 => h.vf_ e1) (fun k e1 e2 => hvv k e1 e2)
  refine ⟨⟨f, .slice (some ⟨g, 0, none⟩) (m + 1) cap, vf', es ++ [e], ?_⟩, ?_⟩
  · refine { head := ?_, front := hfr2.keep hset (fun e1 => h.cf e1.symm) (fun k e1 e2 => by subst e2; exact hvf'c e1), row := ?_, nil := (fun e1 => by simp at e1), len := (by rw [List.length_append, List.length_append, h.len]; rfl), ents := ?_, hc := h.hc, hf := h.hf, hvf := ?_, cf := h.cf, vc := ?_, vf_ := ?_, fc := hvf'c, vv := ?_ }
    · have h1 : W2.heap[c]? = some (.cells #[.pointer (some ⟨f, 0, none⟩), cv] 58 (0, 0)) :=
        hall.heap h.head (fun hh => by rcases hh with h1 | h1; exact hcn h1; exact h.vc h1)
      have h2 := heap_setCell_same W2 c 1 _ _ (.slice (some ⟨g, 0, none⟩) (m + 1) cap) h1
      simpa using h2
    · rw [List.length_append, List.length_singleton, ← hm]
      exact hset.owns ho (fun k e1 => by cases e1; exact hgc)
    · intro i e0 b0 he0 hb0
      by_cases hi : i < l.length
      · have hie : i < es.length := by rw [h.len]; exact hi
        rw [List.getElem?_append_left hie] at he0
        rw [List.getElem?_append_left hi] at hb0
        rw [List.take_append_of_le_length (by omega)]
        have hE := h.ents i e0 b0 he0 hb0
        refine { leaf := hE.leaf, mark := hE.mark, root := hE.root, bytes := ?_, apart := ?_ }
        · refine bytes_keep (bytes_keep hE.bytes hall ?_) hset ?_
          · intro h0 k ek hh
            obtain ⟨a1, a2⟩ := hE.apart h0 k ek
            have hkw := bytes_lt hE.bytes h0 ek
            rcases hh with ((h1 | h1) | h1) | h1
            · exact a2 (.inr (.inl h1))
            · exact a2 (.inr (.inr (.inr h1)))
            · omega
            · exact a2 (.inr (.inr (.inl h1)))
          · intro h0 k ek hh
            exact (hE.apart h0 k ek).2 (.inl hh)
        · intro h0 k ek
          obtain ⟨a1, a2⟩ := hE.apart h0 k ek
          have hkw := bytes_lt hE.bytes h0 ek
          refine ⟨a1, fun hh => ?_⟩
          rcases hh with h1 | h1 | h1 | h1
          · exact a2 (.inl h1)
          · exact a2 (.inr (.inl h1))
          · obtain rfl : g = k := by simpa [Value.ownBlock] using h1
            rcases hat with h2 | h2
            · exact a2 (.inr (.inr (.inl h2)))
            · omega
          · rcases (hA.fresh k h1).2 with h2 | h2
            · exact a2 (.inr (.inr (.inr h2)))
            · omega
      · have hil : i = l.length := by
          have := (List.getElem?_eq_some_iff.1 hb0).1
          rw [List.length_append, List.length_singleton] at this
          omega
        subst hil
        have he1 : e0 = e := by
          rw [List.getElem?_append_right (by rw [h.len]; exact Nat.le_refl _), h.len, Nat.sub_self] at he0
          simpa using he0.symm
        have hb1' : b0 = b := by
          rw [List.getElem?_append_right (Nat.le_refl _), Nat.sub_self] at hb0
          simpa using hb0.symm
        subst he1 hb1'
        rw [List.take_left' rfl]
        have hke : ∀ k, e0.v.ownBlock = some k → k < W1.heap.size ∧ cv.ownBlock ≠ some k ∧ k ≠ c := fun k ek => by
          obtain ⟨o1, o2, o3, o4⟩ := hA.own k ek
          exact ⟨Nat.lt_of_lt_of_le o2 hb1.size, fun e2 => by have := hcvw k e2; omega, by omega⟩
        refine { leaf := he.trans hs.symm, mark := hem, root := her, bytes := ?_, apart := ?_ }
        · exact bytes_keep (bytes_keep (bytes_below hA.bytes hb1 (Nat.le_refl _)) hK (fun _ k ek => (hke k ek).2.1)) hset (fun _ k ek => (hke k ek).2.2)
        · intro h0 k ek
          obtain ⟨o1, o2, o3, o4⟩ := hA.own k ek
          refine ⟨by omega, fun hh => ?_⟩
          rcases hh with h1 | h1 | h1 | h1
          · exact (hke k ek).2.2 h1
          · have := hA.fw; omega
          · obtain rfl : g = k := by simpa [Value.ownBlock] using h1
            rcases hat with h2 | h2
            · exact (hke _ ek).2.1 h2
            · have := (hke _ ek).1; omega
          · exact o4 h1
    · intro k e1
      rcases (hA.fresh k e1).2 with h1 | h1
      · exact h.hvf k h1
      · omega
    · intro e1; cases e1; exact hgc rfl
    · intro e1; cases e1; exact hgf rfl
    · intro k e1 e2
      obtain rfl : g = k := by simpa [Value.ownBlock] using e1
      rcases hat with h1 | h1
      · exact hvv _ e2 h1
      · have := hvflt _ e2; omega
  · refine (hall.mono (fun k hk => ?_)).trans' hset (fun i hi => by subst hi; exact .inl h.hc)
    rcases hk with ((h1 | h1) | h1) | h1
    · rw [h1]; exact h.hf
    · exact h.hvf k h1
    · omega
    · exact own_base h.row k h1
set_option maxRecDepth 100000 in
set_option maxHeartbeats 1000000 in
theorem cadd_in {base : Nat} {w : World} {c f : Nat} {cv vf : Value} {es : List Ent} {l : List (List UInt8)} (h : ChainIn base w c f cv vf es l) (b : List UInt8) (v : Value) (hb : BytesAt w v b) (hB : base ≤ w.heap.size) (hl : l.length + 1 < 1000000) (hs : b.length ≤ 16384) :
    Calls Try.prog 43 #[.pointer (some ⟨c, 0, none⟩), v] w fun e w' => e = .returned (.int .i64 0) ∧ ChainAt base w' c (l ++ [b]) ∧ Keeps (fun k => base ≤ k) w w' := by
  have hc0 := h.c0
  have hc1 := h.c1
  obtain ⟨ca, cc, hcv, k1, k2, -⟩ := h.form
  have HC := Lib.hid h
  have HV := Lib.hid hb
  obtain ⟨va, vc, rfl, b1, b2, -⟩ := hb
  subst hcv
  have HS := Lib.hid hs
  obtain ⟨n, hn⟩ : ∃ n, n = b.length := ⟨_, rfl⟩
  obtain ⟨m, hm⟩ : ∃ m, m = l.length := ⟨_, rfl⟩
  rw [← hn] at HV b1 hs ⊢
  rw [← hm] at HC k1 hl hc1
  have HN := Lib.hid hn; clear hn
  have HM := Lib.hid hm; clear hm
  have HB := Lib.hid hB; clear hB
  clear h
  unfold maxLen at b2 k2
  have hs' : ¬ ((16384 : Int) < (n : Int)) := by omega
  have hbe := build_ent
  have hfm := field_mark
  go_enter Try.func43, Try.ntmps43
  go_wp2_with (go_at_call 75; refine (cnone_live _ c f hc0).mono ?_; rintro e w1 ⟨rfl, rfl⟩)
  refine (clone_bytes w _ b HV.out (by have := HS.out; omega)).mono ?_
  rintro e w1 ⟨u, rfl, hu, hb1⟩
  have HU1 := Lib.hid hu
  obtain ⟨⟨ua, uc, rfl, -, -, -⟩, -⟩ := hu
  rw [← HN.out] at HU1 ⊢
  have HB1 := Lib.hid hb1; clear hb1
  go_wp2_with (refine wpList_var_ent (by rfl) rfl _ _ rfl ⟨zeroSum, zeroSum, zeroSum, ua, n, uc⟩ rfl rfl ?_; intro W2 hb2 hE2)
  have hA : AddW w W2 w1.heap.size ⟨zeroSum, zeroSum, zeroSum, ua, n, uc⟩ b :=
    ⟨HB1.out.trans (hb2.mono HB1.out.size), hE2, bytes_below HU1.out.1 hb2 (Nat.le_refl _), fun k hk => ⟨(HU1.out.2 k hk).1, by have := (HU1.out.2 k hk).2; omega⟩, HB1.out.size, fun k hk => Nat.lt_of_lt_of_le (HU1.out.2 k hk).2 hb2.size⟩
  have HA2 := Lib.hid hA
  have HV2 := Lib.hid (bytes_below (bytes_below HV.out HB1.out (Nat.le_refl _)) hb2 (Nat.le_refl _))
  clear hb2 hE2 HB1 HU1 HV hA
  generalize w1.heap.size = X at *
  clear hbe
  refine (lf_any b _ W2 HV2.out (by have := HS.out; omega)).mono ?_
  rintro e w3 ⟨rfl, hb3⟩
  have HA3 := Lib.hid (HA2.out.mem hb3)
  clear hb3 HA2 HV2
  generalize hlf : lf b = s at *
  have HLF := Lib.hid hlf; clear hlf
  go_wp2_with (refine wpList_store_sum rfl _ _ rfl X 0 s rfl rfl (HA3.out.row.there 0 32 (by omega)) ?_; have HA4 := Lib.hid (HA3.out.store 0 (cellsOf s) (HA3.out.row.set0 s) rfl); generalize w3.setCells X 0 (cellsOf s) = w4 at *; clear HA3; have hc4 := (HA4.out.below.cell (p := ⟨c, 1, none⟩) (World.block_lt_of_cell? w _ hc1)).trans hc1)
  have HL4 := Lib.hid (last_at (HC.out.below HA4.out.below) m (by rw [HM.out]; exact Nat.le_refl _) ca cc (by rw [HM.out]))
  clear hc4
  refine HL4.out.mono ?_
  rintro e w5 ⟨⟨p0, r0, rfl, -⟩, hb5⟩
  have HA5 := Lib.hid (HA4.out.mem hb5)
  clear hb5 HA4 HL4
  have htk : l.take m = l := List.take_of_length_le (by rw [HM.out]; exact Nat.le_refl _)
  rw [htk]
  clear htk
  generalize hmk : mk l = mm at *
  have HMK := Lib.hid hmk; clear hmk
  go_wp2_with (refine wpList_var_sum (by rfl) rfl _ _ rfl mm rfl rfl ?_; intro W6 hb6 hr6 _ hlt6)
  have HA6 := Lib.hid (HA5.out.mem hb6)
  have HR6 := Lib.hid hr6
  have HMX := Lib.hid HA5.out.row.lt
  generalize w5.heap.size = M at *
  clear hb6 hr6 HA5 hfm
  refine wp_region_sched (fun _ => True) [.t 0, .t 1, .t 2, .t 3, .e 4 false, .e 5 false, .e 6 false, .t 7, .t 8, .e 9 false] (by kernel_rfl) (by kernel_rfl) (by intro c a d v w h; cases d <;> exact h) ?_
  iterate 4
    refine wpS_t rfl (v := ?_) (by rfl) (fun W => ?_) ?_
    rotate_left
    · go_simp
      try rfl
    try simp only [Act.put, List.setIfInBounds_toArray, List.set_cons_zero, List.set_cons_succ]
  refine wpS_e rfl (by rfl) (fun K hK => ?_)
  go_simp
  refine hK _ _ ?_; clear hK K
  try simp only [Act.put, List.setIfInBounds_toArray, List.set_cons_zero, List.set_cons_succ]
  have hD : Below W6.heap.size W6 W6.drew := (Below.refl _ _).drew
  have HP := Lib.hid (parts_sums (w := W6.drew) (p := M) (q := X) (b := W6.drew.heap.size) mm s hlt6 (Nat.lt_trans HMX.out hlt6) 50 rfl HR6.out (ent_leaf (HA6.out.row.range)))
  have HA7 := Lib.hid (HA6.out.mem (al hD (.cells #[.slice (some ⟨M, 0, none⟩) 32 32, .slice (some ⟨X, 0, none⟩) 32 32] 50)))
  clear hD HA6 HR6
  refine wpS_e rfl (by rfl) (fun K hK => ?_)
  go_simp
  refine (concat_all _ [mm.toList, s.toList] _ _ 2 _ HP.out (by simp) (by simp) (by simp) (by simp)).mono ?_
  rintro e w8 ⟨u8, rfl, hb8, hbw8⟩
  refine hK _ _ ?_; clear hK K
  try simp only [Act.put, List.setIfInBounds_toArray, List.set_cons_zero, List.set_cons_succ]
  have HA8 := Lib.hid (HA7.out.mem hbw8)
  have HB8 := Lib.hid hb8
  clear hb8 hbw8 HA7 HP
  refine wpS_e rfl (by rfl) (fun K hK => ?_)
  go_simp
  refine (sh_any _ _ _ HB8.out (by simp)).mono ?_
  have hsh : sh [mm.toList, s.toList].flatten = mk (l ++ [b]) := by rw [mk_snoc, HMK.out, HLF.out]; simp
  rw [hsh]
  clear hsh
  generalize hmk2 : mk (l ++ [b]) = m2 at *
  have HMK2 := Lib.hid hmk2; clear hmk2
  rintro e w9 ⟨rfl, hb9⟩
  refine hK _ _ ?_; clear hK K
  try simp only [Act.put, List.setIfInBounds_toArray, List.set_cons_zero, List.set_cons_succ]
  have HA9 := Lib.hid (HA8.out.mem hb9)
  clear hb9 HA8 HB8
  iterate 2
    refine wpS_t rfl (v := ?_) (by rfl) (fun W => ?_) ?_
    rotate_left
    · go_simp
      try rfl
    try simp only [Act.put, List.setIfInBounds_toArray, List.set_cons_zero, List.set_cons_succ]
  refine wpS_e rfl (by rfl) (fun K hK => ?_)
  refine wp_store_sum _ _ (by rfl) X 32 m2 (by rfl) (by rfl) (HA9.out.row.there 32 32 (by omega)) ?_
  refine hK _ _ ?_; clear hK K
  try simp only [Act.put, List.setIfInBounds_toArray, List.set_cons_zero, List.set_cons_succ]
  refine wpS_done ?_
  have HA10 := Lib.hid (HA9.out.store 32 (cellsOf m2) (HA9.out.row.set1 m2) rfl)
  generalize w9.setCells X 32 (cellsOf m2) = w10 at *
  clear HA9
  go_wp2_with fail
  have hS10 : w10.drew.cell? ⟨c, 0, none⟩ = some (.pointer (some ⟨f, 0, none⟩)) := (HA10.out.below.cell (p := ⟨c, 0, none⟩) (World.block_lt_of_cell? w _ hc0)).trans hc0
  have HS10 := Lib.hid hS10; clear hS10
  have HA11 := Lib.hid (HA10.out.mem (Below.refl _ w10).drew)
  refine wp_region_sched (fun W => W.cell? ⟨c, 0, none⟩ = some (.pointer (some ⟨f, 0, none⟩))) [.t 0, .t 1, .t 2, .t 4, .t 5, .s 3, .e 6 true, .e 7 false] (by kernel_rfl) (by kernel_rfl) (by intro c a d v w h; cases d <;> exact h) ?_
  generalize w10.drew = w11 at *
  clear HA10
  iterate 5
    refine wpS_t rfl (v := ?_) (by rfl) (fun W => ?_) ?_
    rotate_left
    · go_simp
      try rfl
    try simp only [Act.put, List.setIfInBounds_toArray, List.set_cons_zero, List.set_cons_succ]
  refine wpS_s (by exact HS10.out) rfl (v := ?_) (by rfl) (fun W hSW => ?_) ?_
  rotate_left
  · go_simp
    try rfl
  try simp only [Act.put, List.setIfInBounds_toArray, List.set_cons_zero, List.set_cons_succ]
  refine wpS_k rfl (by rfl) (fun K hK => ?_)
  refine wp_load_sum _ (by rfl) X 0 (by rfl) s (ent_leaf HA11.out.row.range) ?_
  refine hK _ _ ⟨by exact HS10.out, ?_⟩; clear hK K
  try simp only [Act.put, List.setIfInBounds_toArray, List.set_cons_zero, List.set_cons_succ]
  refine wpS_e rfl (by rfl) (fun K hK => ?_)
  go_simp
  refine (add_live w11 f vf (l.map lf) s (HC.out.below HA11.out.below).front (by rw [List.length_map, ← HM.out]; omega)).mono ?_
  rintro e w12 ⟨vf', rfl, hf12, hk12, hv12⟩
  refine hK _ _ ?_; clear hK K
  try simp only [Act.put, List.setIfInBounds_toArray, List.set_cons_zero, List.set_cons_succ]
  refine wpS_done ?_
  have HA12 := Lib.hid (AddV.start HA11.out hf12 HC.out.front.lt (fun k hk => own_lt HC.out.front.2.1 hk) hk12 hv12)
  clear hf12 hk12 hv12 HA11 HS10
  have hcw : c < w.heap.size := World.block_lt_of_cell? w _ hc0
  have hcn : ¬ ((c = f ∨ vf.ownBlock = some c) ∨ w.heap.size ≤ c) := fun hh => by
    rcases hh with (h1 | h1) | h1
    · exact HC.out.cf h1
    · exact HC.out.fc h1
    · omega
  have HCN := Lib.hid hcn; clear hcn
  have g0 := HA12.out.keeps.cell hc0 HCN.out
  go_wp2_with fail
  refine (root_live w12 f vf' _ HA12.out.front).mono ?_
  have hrt : rt (l.map lf ++ [s]) = rt ((l ++ [b]).map lf) := by rw [List.map_append, List.map_singleton, HLF.out]
  rw [hrt]
  clear hrt
  generalize hr2 : rt ((l ++ [b]).map lf) = r2 at *
  have HR2 := Lib.hid hr2; clear hr2
  rintro e w13 ⟨rfl, hb13⟩
  have HA13 := Lib.hid (HA12.out.mem hb13)
  clear hb13 HA12 g0
  go_wp2_with (refine wpList_store_sum rfl _ _ rfl X 64 r2 rfl rfl (HA13.out.row.there 64 32 (by omega)) ?_; have HA14 := Lib.hid (HA13.out.store 64 (cellsOf r2) (HA13.out.row.set2 r2) rfl); generalize w13.setCells X 64 (cellsOf r2) = w14 at *; clear HA13)
  have hS14 : w14.drew.cell? ⟨c, 1, none⟩ = some (.slice ca m cc) := HA14.out.keeps.cell hc1 HCN.out
  have HS14 := Lib.hid hS14; clear hS14
  have HA15 := Lib.hid (HA14.out.mem (Below.refl _ w14).drew)
  refine wp_region_sched (fun W => W.cell? ⟨c, 1, none⟩ = some (.slice ca m cc)) [.t 0, .t 1, .t 2, .t 3, .s 4, .e 5 true, .e 6 true, .e 7 false, .t 8, .t 9, .e 10 false] (by kernel_rfl) (by kernel_rfl) (by intro c a d v w h; cases d <;> exact h) ?_
  generalize w14.drew = w15 at *
  clear HA14
  iterate 4
    refine wpS_t rfl (v := ?_) (by rfl) (fun W => ?_) ?_
    rotate_left
    · go_simp
      try rfl
    try simp only [Act.put, List.setIfInBounds_toArray, List.set_cons_zero, List.set_cons_succ]
  refine wpS_s (by exact HS14.out) rfl (v := ?_) (by rfl) (fun W hSW => ?_) ?_
  rotate_left
  · go_simp
    try rfl
  try simp only [Act.put, List.setIfInBounds_toArray, List.set_cons_zero, List.set_cons_succ]
  refine wpS_k rfl (by rfl) (fun K hK => ?_)
  refine wp_load_ent _ (by rfl) X 0 (by rfl) _ HA15.out.row.range ?_
  refine hK _ _ ⟨by exact HS14.out, ?_⟩; clear hK K
  try simp only [Act.put, List.setIfInBounds_toArray, List.set_cons_zero, List.set_cons_succ]
  refine wpS_k rfl (by rfl) (fun K hK => ?_)
  refine wp_build_ents _ (by rfl) ⟨s, m2, r2, ua, n, uc⟩ (by rfl) ?_
  have hb16 := al (Below.refl _ w15) (.cells (cellsEnt ⟨s, m2, r2, ua, n, uc⟩).toArray 113)
  have hc16 := (hb16.cell (p := ⟨c, 1, none⟩) (World.block_lt_of_cell? w15 _ HS14.out)).trans HS14.out
  refine hK _ _ ⟨by exact hc16, ?_⟩; clear hK K
  try simp only [Act.put, List.setIfInBounds_toArray, List.set_cons_zero, List.set_cons_succ]
  have hrow := (HA15.out.mem hb16).keeps.owns HC.out.row (fun k ek hh => by
    have := own_lt HC.out.row ek
    rcases hh with (h1 | h1) | h1
    · subst h1; exact HC.out.vf_ ek
    · exact HC.out.vv k ek h1
    · omega)
  have hrn : (w15.alloc (.cells (cellsEnt ⟨s, m2, r2, ua, n, uc⟩).toArray 113)).rangeAt w15.heap.size 0 (cellsEnt ⟨s, m2, r2, ua, n, uc⟩) := range_new w15 _ _ _ rfl
  have HB16 := Lib.hid hb16; clear hb16
  have HRW := Lib.hid hrow; clear hrow
  have HRN := Lib.hid hrn; clear hrn
  clear hc16
  refine wpS_e rfl (by rfl) (fun K hK => ?_)
  refine wp_append_ent _ _ (by rfl) base _ es m (by rw [HC.out.len, HM.out]) (by rfl) (by rw [HM.out]; have := HRW.out; rw [HM.out] at this; exact this) w15.heap.size 0 1 ⟨s, m2, r2, ua, n, uc⟩ (by rfl) HRN.out (by omega) (Nat.le_trans HB.out (HA15.out.mem HB16.out).keeps.size) ?_
  intro g cap w17 ho17 hg17 hat17 hlt17
  refine hK _ _ ?_; clear hK K
  try simp only [Act.put, List.setIfInBounds_toArray, List.set_cons_zero, List.set_cons_succ]
  have hEND := add_end HC.out HA15.out HB.out HLF.out rfl HMK2.out.symm HR2.out.symm HM.out HB16.out ho17 hg17 hat17
  have hhead : w17.heap[c]? = some (.cells #[.pointer (some ⟨f, 0, none⟩), .slice ca m cc] 58 (0, 0)) := by
    have h1 := (HA15.out.mem HB16.out).keeps.heap HC.out.head HCN.out
    exact (Keeps.of_grown (X := fun k => (Value.slice ca m cc).ownBlock = some k) hg17 (fun k hk => hk)).heap h1 HC.out.vc
  clear ho17 hg17 hat17 HRW HRN HB16 HS14 HA15
  have HE := Lib.hid hEND; clear hEND
  have hc17 : w17.cell? ⟨c, 1, none⟩ = some (.slice ca m cc) := by rw [cell_of_row w17 c _ _ _ (0, 0) hhead]; rfl
  have hf17 : w17.frozen? ⟨c, 1, none⟩ = false := frozen_of_row w17 c _ _ _ hhead
  clear hhead
  iterate 2
    refine wpS_t rfl (v := ?_) (by rfl) (fun W => ?_) ?_
    rotate_left
    · go_simp
      try rfl
    try simp only [Act.put, List.setIfInBounds_toArray, List.set_cons_zero, List.set_cons_succ]
  refine wpS_e rfl (by rfl) (fun K hK => ?_)
  go_simp
  refine hK _ _ ?_; clear hK K
  try simp only [Act.put, List.setIfInBounds_toArray, List.set_cons_zero, List.set_cons_succ]
  refine wpS_done ?_
  go_wp2_with fail
  exact bodyPost_ret (results_tmp rfl _ _ _) rfl ⟨rfl, HE.out.1, HE.out.2⟩
end Go.Proofs.Ytdkcndgehgmadaa
-- Walks: chains: Mark, Root.
open Go Go.RowKit Alm
namespace Go.Proofs.Ytdkcndgehgmadaa
theorem ChainIn.short {base : Nat} {w : World} {c f : Nat} {v vf : Value} {es : List Ent} {l : List (List UInt8)} (h : ChainIn base w c f v vf es l) : l.length < 4000000000 := by
  have := h.front.2.2.2.1
  rwa [List.length_map] at this
theorem ChainIn.at_ {base : Nat} {w : World} {c f : Nat} {v vf : Value} {es : List Ent} {l : List (List UInt8)} (h : ChainIn base w c f v vf es l) : ChainAt base w c l := ⟨f, v, vf, es, h⟩
set_option maxRecDepth 100000 in
theorem mark1_at {base : Nat} {w : World} {c f : Nat} {v vf : Value} {es : List Ent} {l : List (List UInt8)} (h : ChainIn base w c f v vf es l) (k : Nat) (hk : k ≤ l.length) (a : Option Addr) (cap : Nat) (hv : v = .slice a l.length cap) :
    Calls Try.prog 79 #[.slice a k cap] w fun e w' => e = .returned (.tuple #[sv (mk (l.take k)), .int .i64 0]) ∧ Below w.heap.size w w' := by
  have R0 : Res w 32 (w.alloc (.cells (cells8 (List.replicate 32 0)).toArray 24)) := Res.start _ _ _ _ (by rfl)
  have HL := Lib.hid (last_at (h.below R0.below) k hk a cap hv)
  have HR := Lib.hid R0
  have hfm := field_mark
  clear h R0 hv
  generalize hs : mk (l.take k) = s at *
  clear hs
  go_enter Try.func79, Try.ntmps79
  go_wp2_with fail
  refine HL.out.mono ?_
  rintro e w1 ⟨⟨p, r, rfl, -⟩, hb⟩
  have R1 := HR.out.call (by omega) hb
  clear HL HR
  go_wp2_with (refine wpList_store_sum rfl _ _ rfl w.heap.size 0 s rfl rfl R1.there ?_)
  have RS := R1.store (cellsOf s)
  exact bodyPost_ret (results_cell_tmp Try.results79 _ _ w.heap.size 0 (cellsOf s) _ rfl (range_stored _ _ _ _ (by rw [length_cellsOf]; exact RS.there)) Try.underlying24 rfl (by rw [length_cellsOf]; exact infoSum)) rfl ⟨rfl, RS.below⟩
set_option maxRecDepth 100000 in
theorem root1_at {base : Nat} {w : World} {c f : Nat} {v vf : Value} {es : List Ent} {l : List (List UInt8)} (h : ChainIn base w c f v vf es l) (k : Nat) (hk : k ≤ l.length) (a : Option Addr) (cap : Nat) (hv : v = .slice a l.length cap) :
    Calls Try.prog 81 #[.slice a k cap] w fun e w' => e = .returned (.tuple #[sv (rt ((l.take k).map lf)), .int .i64 0]) ∧ Below w.heap.size w w' := by
  have R0 : Res w 32 (w.alloc (.cells (cells8 (List.replicate 32 0)).toArray 24)) := Res.start _ _ _ _ (by rfl)
  have HR := Lib.hid R0
  by_cases h0 : k = 0
  · subst h0
    rw [List.take_zero, List.map_nil]
    have hr := rt_any [] (.slice none 0 0) (w.alloc (.cells (cells8 (List.replicate 32 0)).toArray 24)) ⟨none, 0, rfl, Nat.le_refl _, by decide, .inl rfl⟩
    generalize rt [] = s at *
    have HL := Lib.hid hr
    clear hr h R0 hv
    go_enter Try.func81, Try.ntmps81
    go_wp2_with fail
    refine HL.out.mono ?_
    rintro e w1 ⟨rfl, hb⟩
    have R1 := HR.out.call (by omega) hb
    clear HL HR
    go_wp2_with (refine wpList_store_sum rfl _ _ rfl w.heap.size 0 s rfl rfl R1.there ?_)
    have RS := R1.store (cellsOf s)
    exact bodyPost_ret (results_cell_tmp Try.results81 _ _ w.heap.size 0 (cellsOf s) _ rfl (range_stored _ _ _ _ (by rw [length_cellsOf]; exact RS.there)) Try.underlying24 rfl (by rw [length_cellsOf]; exact infoSum)) rfl ⟨rfl, RS.below⟩
  · have HL := Lib.hid (last_at (h.below R0.below) k hk a cap hv)
    have hfm := field_root
    clear h R0 hv
    have hkz : ((k : Int) == 0) = false := by rw [beq_eq_false_iff_ne]; omega
    have H0 := Lib.hid h0
    clear h0 hk
    generalize hs : rt ((l.take k).map lf) = s at *
    clear hs
    go_enter Try.func81, Try.ntmps81
    go_wp2_with fail
    refine HL.out.mono ?_
    rintro e w1 ⟨⟨p, r, rfl, hr⟩, hb⟩
    obtain rfl := hr H0.out
    have R1 := HR.out.call (by omega) hb
    clear HL HR hr
    go_wp2_with (refine wpList_store_sum rfl _ _ rfl w.heap.size 0 r rfl rfl R1.there ?_)
    have RS := R1.store (cellsOf r)
    exact bodyPost_ret (results_cell_tmp Try.results81 _ _ w.heap.size 0 (cellsOf r) _ rfl (range_stored _ _ _ _ (by rw [length_cellsOf]; exact RS.there)) Try.underlying24 rfl (by rw [length_cellsOf]; exact infoSum)) rfl ⟨rfl, RS.below⟩
set_option maxRecDepth 100000 in
theorem first_mark (base : Nat) (w : World) (c : Nat) (l : List (List UInt8)) (h : ChainAt base w c l) (k : Nat) (hk : k ≤ l.length) :
    Calls Try.prog 78 #[.pointer (some ⟨c, 0, none⟩), .int .u64 (k : Int), .func (.func 79) #[] #[]] w fun e w' => e = .returned (.tuple #[sv (mk (l.take k)), .int .i64 0]) ∧ Below w.heap.size w w' := by
  have R0 : Res w 32 (w.alloc (.cells (cells8 (List.replicate 32 0)).toArray 24)) := Res.start _ _ _ _ (by rfl)
  obtain ⟨f, v, vf, es, h0⟩ := h
  have h2 := h0.below R0.below
  have HZ := Lib.hid (csize_at base _ c l h2.at_)
  have HC0 := Lib.hid h2.c0
  have hc1 : (w.alloc (.cells (cells8 [0, 0, 0, 0, 0, 0, 0, 0, 0, 0, 0, 0, 0, 0, 0, 0, 0, 0, 0, 0, 0, 0, 0, 0, 0, 0, 0, 0, 0, 0, 0, 0]).toArray 24)).cell? ⟨c, 1, none⟩ = some v := h2.c1
  have hsh := h2.short
  have hsh' : (l.length : Int) < 4000000000 := by omega
  have hkl : ¬ ((l.length : Int) < (k : Int)) := by omega
  have HR := Lib.hid R0
  obtain ⟨a, cap, rfl, k1, k2, k3⟩ := h2.form
  have HT := Lib.hid (mark1_at h2 k hk a cap rfl)
  clear h0 R0
  unfold maxLen at k2
  have b1 : (k : Int) ≤ (cap : Int) := by omega
  have b2 : (k : Int) < 4000000000 := by omega
  have h3 : (l = [] ∧ a = none ∧ cap = 0) ∨ ∃ g, a = some ⟨g, 0, none⟩ := by
    rcases k3 with h0 | ⟨g, hg, _⟩
    · left
      have := h2.nil h0
      simp only [Value.slice.injEq] at this
      exact ⟨h0, this.1, this.2.2⟩
    · exact .inr ⟨g, hg⟩
  clear h2 k3
  generalize hs : mk (l.take k) = s at *
  clear hs
  rcases h3 with ⟨rfl, rfl, rfl⟩ | ⟨g, rfl⟩
  · obtain rfl : k = 0 := by simpa using hk
    have hc1' : (w.alloc (.cells (cells8 [0, 0, 0, 0, 0, 0, 0, 0, 0, 0, 0, 0, 0, 0, 0, 0, 0, 0, 0, 0, 0, 0, 0, 0, 0, 0, 0, 0, 0, 0, 0, 0]).toArray 24)).cell? ⟨c, 1, none⟩ = some (.slice none 0 0) := hc1
    have HZ' : Hid (Calls Try.prog 44 #[.pointer (some ⟨c, 0, none⟩)] (w.alloc (.cells (cells8 (List.replicate 32 0)).toArray 24)) fun e w' => e = .returned (.int .u64 0) ∧ (w.alloc (.cells (cells8 (List.replicate 32 0)).toArray 24)) = w') := HZ
    clear hkl b1 b2 hsh hsh' hk k1 k2 hc1 HZ
    go_enter Try.func78, Try.ntmps78
    go_wp2_with (first
      | (go_at_call 75; refine (cnone_live _ c f HC0.out).mono ?_; rintro e w1 ⟨rfl, rfl⟩)
      | (go_at_call 44; refine HZ'.out.mono ?_; rintro e w1 ⟨rfl, rfl⟩))
    refine HT.out.mono ?_
    rintro e w1 ⟨rfl, hb⟩
    have R1 := HR.out.call (by omega) hb
    clear HT HR
    go_wp2_with (refine wpList_store_sum rfl _ _ rfl w.heap.size 0 s rfl rfl R1.there ?_)
    have RS := R1.store (cellsOf s)
    exact bodyPost_ret (results_cell_tmp Try.results78 _ _ w.heap.size 0 (cellsOf s) _ rfl (range_stored _ _ _ _ (by rw [length_cellsOf]; exact RS.there)) Try.underlying24 rfl (by rw [length_cellsOf]; exact infoSum)) rfl ⟨rfl, RS.below⟩
  · generalize l.length = n at *
    have hd : decide (n < k) = false := decide_eq_false (by omega)
    clear k2 k1 hsh hk hkl hsh' b2
    go_enter Try.func78, Try.ntmps78
    go_wp2_with (first
      | (go_at_call 75; refine (cnone_live _ c f HC0.out).mono ?_; rintro e w1 ⟨rfl, rfl⟩)
      | (go_at_call 44; refine HZ.out.mono ?_; rintro e w1 ⟨rfl, rfl⟩))
    refine HT.out.mono ?_
    rintro e w1 ⟨rfl, hb⟩
    have R1 := HR.out.call (by omega) hb
    clear HT HR
    go_wp2_with (refine wpList_store_sum rfl _ _ rfl w.heap.size 0 s rfl rfl R1.there ?_)
    have RS := R1.store (cellsOf s)
    exact bodyPost_ret (results_cell_tmp Try.results78 _ _ w.heap.size 0 (cellsOf s) _ rfl (range_stored _ _ _ _ (by rw [length_cellsOf]; exact RS.there)) Try.underlying24 rfl (by rw [length_cellsOf]; exact infoSum)) rfl ⟨rfl, RS.below⟩
set_option maxRecDepth 100000 in
theorem first_mark_arg (base : Nat) (w : World) (c : Nat) (l : List (List UInt8)) (h : ChainAt base w c l) (k : Nat) (hk : l.length < k) :
    Calls Try.prog 78 #[.pointer (some ⟨c, 0, none⟩), .int .u64 (k : Int), .func (.func 79) #[] #[]] w fun e w' => e = .returned (.tuple #[sv zeroSum, .int .i64 1]) ∧ Below w.heap.size w w' := by
  have R0 : Res w 32 (w.alloc (.cells (cells8 (List.replicate 32 0)).toArray 24)) := Res.start _ _ _ _ (by rfl)
  obtain ⟨f, v, vf, es, h0⟩ := h
  have h2 := h0.below R0.below
  have hz : (w.alloc (.cells (cells8 (List.replicate 32 0)).toArray 24)).rangeAt w.heap.size 0 (cellsOf zeroSum) := range_new w _ _ _ (by rw [cellsOf_zeroSum])
  have HZZ := Lib.hid hz; clear hz
  have HZ := Lib.hid (csize_at base _ c l h2.at_)
  have HC0 := Lib.hid h2.c0
  have hkl : ((l.length : Int) < (k : Int)) := by omega
  have HR := Lib.hid R0
  clear h0 R0 h2 hk
  generalize l.length = n at *
  go_enter Try.func78, Try.ntmps78
  go_wp2_with (first
    | (go_at_call 75; refine (cnone_live _ c f HC0.out).mono ?_; rintro e w1 ⟨rfl, rfl⟩)
    | (go_at_call 44; refine HZ.out.mono ?_; rintro e w1 ⟨rfl, rfl⟩)
    | (refine wpList_load_sum rfl _ rfl w.heap.size 0 rfl zeroSum HZZ.out ?_)
    | (refine wpList_store_sum rfl _ _ rfl w.heap.size 0 zeroSum rfl rfl HR.out.there ?_))
  exact bodyPost_ret (results_cell_tmp Try.results78 _ _ w.heap.size 0 (cellsOf zeroSum) _ rfl (range_stored _ _ _ _ (by rw [length_cellsOf]; exact World.there_setCells HR.out.there _ _ _)) Try.underlying24 rfl (by rw [length_cellsOf]; exact infoSum)) rfl ⟨rfl, (HR.out.store _).below⟩
theorem cmark_at (base : Nat) (w : World) (c : Nat) (l : List (List UInt8)) (h : ChainAt base w c l) (k : Nat) (hk : k ≤ l.length) :
    Calls Try.prog 39 #[.pointer (some ⟨c, 0, none⟩), .int .u64 (k : Int)] w fun e w' => e = .returned (.tuple #[sv (mk (l.take k)), .int .i64 0]) ∧ Below w.heap.size w w' := by
  have R0 : Res w 32 (w.alloc (.cells (cells8 (List.replicate 32 0)).toArray 24)) := Res.start _ _ _ _ (by rfl)
  have HT := Lib.hid (first_mark base _ c l (h.below R0.below) k hk)
  have HR := Lib.hid R0
  clear h R0
  generalize hs : mk (l.take k) = s at *
  clear hs
  go_enter Try.func39, Try.ntmps39
  go_wp2_with fail
  refine HT.out.mono ?_
  rintro e w1 ⟨rfl, hb⟩
  have R1 := HR.out.call (by omega) hb
  clear HT HR
  go_wp2_with (refine wpList_store_sum rfl _ _ rfl w.heap.size 0 s rfl rfl R1.there ?_)
  have RS := R1.store (cellsOf s)
  exact bodyPost_ret (results_cell_tmp Try.results39 _ _ w.heap.size 0 (cellsOf s) _ rfl (range_stored _ _ _ _ (by rw [length_cellsOf]; exact RS.there)) Try.underlying24 rfl (by rw [length_cellsOf]; exact infoSum)) rfl ⟨rfl, RS.below⟩
theorem cmark_arg (base : Nat) (w : World) (c : Nat) (l : List (List UInt8)) (h : ChainAt base w c l) (k : Nat) (hk : l.length < k) :
    Calls Try.prog 39 #[.pointer (some ⟨c, 0, none⟩), .int .u64 (k : Int)] w fun e w' => e = .returned (.tuple #[sv (zeroSum), .int .i64 1]) ∧ Below w.heap.size w w' := by
  have R0 : Res w 32 (w.alloc (.cells (cells8 (List.replicate 32 0)).toArray 24)) := Res.start _ _ _ _ (by rfl)
  have HT := Lib.hid (first_mark_arg base _ c l (h.below R0.below) k hk)
  have HR := Lib.hid R0
  clear h R0
  generalize hs : zeroSum = s at *
  clear hs
  go_enter Try.func39, Try.ntmps39
  go_wp2_with fail
  refine HT.out.mono ?_
  rintro e w1 ⟨rfl, hb⟩
  have R1 := HR.out.call (by omega) hb
  clear HT HR
  go_wp2_with (refine wpList_store_sum rfl _ _ rfl w.heap.size 0 s rfl rfl R1.there ?_)
  have RS := R1.store (cellsOf s)
  exact bodyPost_ret (results_cell_tmp Try.results39 _ _ w.heap.size 0 (cellsOf s) _ rfl (range_stored _ _ _ _ (by rw [length_cellsOf]; exact RS.there)) Try.underlying24 rfl (by rw [length_cellsOf]; exact infoSum)) rfl ⟨rfl, RS.below⟩
set_option maxRecDepth 100000 in
theorem first_root (base : Nat) (w : World) (c : Nat) (l : List (List UInt8)) (h : ChainAt base w c l) (k : Nat) (hk : k ≤ l.length) :
    Calls Try.prog 78 #[.pointer (some ⟨c, 0, none⟩), .int .u64 (k : Int), .func (.func 81) #[] #[]] w fun e w' => e = .returned (.tuple #[sv (rt ((l.take k).map lf)), .int .i64 0]) ∧ Below w.heap.size w w' := by
  have R0 : Res w 32 (w.alloc (.cells (cells8 (List.replicate 32 0)).toArray 24)) := Res.start _ _ _ _ (by rfl)
  obtain ⟨f, v, vf, es, h0⟩ := h
  have h2 := h0.below R0.below
  have HZ := Lib.hid (csize_at base _ c l h2.at_)
  have HC0 := Lib.hid h2.c0
  have hc1 : (w.alloc (.cells (cells8 [0, 0, 0, 0, 0, 0, 0, 0, 0, 0, 0, 0, 0, 0, 0, 0, 0, 0, 0, 0, 0, 0, 0, 0, 0, 0, 0, 0, 0, 0, 0, 0]).toArray 24)).cell? ⟨c, 1, none⟩ = some v := h2.c1
  have hsh := h2.short
  have hsh' : (l.length : Int) < 4000000000 := by omega
  have hkl : ¬ ((l.length : Int) < (k : Int)) := by omega
  have HR := Lib.hid R0
  obtain ⟨a, cap, rfl, k1, k2, k3⟩ := h2.form
  have HT := Lib.hid (root1_at h2 k hk a cap rfl)
  clear h0 R0
  unfold maxLen at k2
  have b1 : (k : Int) ≤ (cap : Int) := by omega
  have b2 : (k : Int) < 4000000000 := by omega
  have h3 : (l = [] ∧ a = none ∧ cap = 0) ∨ ∃ g, a = some ⟨g, 0, none⟩ := by
    rcases k3 with h0 | ⟨g, hg, _⟩
    · left
      have := h2.nil h0
      simp only [Value.slice.injEq] at this
      exact ⟨h0, this.1, this.2.2⟩
    · exact .inr ⟨g, hg⟩
  clear h2 k3
  generalize hs : rt ((l.take k).map lf) = s at *
  clear hs
  rcases h3 with ⟨rfl, rfl, rfl⟩ | ⟨g, rfl⟩
  · obtain rfl : k = 0 := by simpa using hk
    have hc1' : (w.alloc (.cells (cells8 [0, 0, 0, 0, 0, 0, 0, 0, 0, 0, 0, 0, 0, 0, 0, 0, 0, 0, 0, 0, 0, 0, 0, 0, 0, 0, 0, 0, 0, 0, 0, 0]).toArray 24)).cell? ⟨c, 1, none⟩ = some (.slice none 0 0) := hc1
    have HZ' : Hid (Calls Try.prog 44 #[.pointer (some ⟨c, 0, none⟩)] (w.alloc (.cells (cells8 (List.replicate 32 0)).toArray 24)) fun e w' => e = .returned (.int .u64 0) ∧ (w.alloc (.cells (cells8 (List.replicate 32 0)).toArray 24)) = w') := HZ
    clear hkl b1 b2 hsh hsh' hk k1 k2 hc1 HZ
    go_enter Try.func78, Try.ntmps78
    go_wp2_with (first
      | (go_at_call 75; refine (cnone_live _ c f HC0.out).mono ?_; rintro e w1 ⟨rfl, rfl⟩)
      | (go_at_call 44; refine HZ'.out.mono ?_; rintro e w1 ⟨rfl, rfl⟩))
    refine HT.out.mono ?_
    rintro e w1 ⟨rfl, hb⟩
    have R1 := HR.out.call (by omega) hb
    clear HT HR
    go_wp2_with (refine wpList_store_sum rfl _ _ rfl w.heap.size 0 s rfl rfl R1.there ?_)
    have RS := R1.store (cellsOf s)
    exact bodyPost_ret (results_cell_tmp Try.results78 _ _ w.heap.size 0 (cellsOf s) _ rfl (range_stored _ _ _ _ (by rw [length_cellsOf]; exact RS.there)) Try.underlying24 rfl (by rw [length_cellsOf]; exact infoSum)) rfl ⟨rfl, RS.below⟩
  · generalize l.length = n at *
    have hd : decide (n < k) = false := decide_eq_false (by omega)
    clear k2 k1 hsh hk hkl hsh' b2
    go_enter Try.func78, Try.ntmps78
    go_wp2_with (first
      | (go_at_call 75; refine (cnone_live _ c f HC0.out).mono ?_; rintro e w1 ⟨rfl, rfl⟩)
      | (go_at_call 44; refine HZ.out.mono ?_; rintro e w1 ⟨rfl, rfl⟩))
    refine HT.out.mono ?_
    rintro e w1 ⟨rfl, hb⟩
    have R1 := HR.out.call (by omega) hb
    clear HT HR
    go_wp2_with (refine wpList_store_sum rfl _ _ rfl w.heap.size 0 s rfl rfl R1.there ?_)
    have RS := R1.store (cellsOf s)
    exact bodyPost_ret (results_cell_tmp Try.results78 _ _ w.heap.size 0 (cellsOf s) _ rfl (range_stored _ _ _ _ (by rw [length_cellsOf]; exact RS.there)) Try.underlying24 rfl (by rw [length_cellsOf]; exact infoSum)) rfl ⟨rfl, RS.below⟩
set_option maxRecDepth 100000 in
theorem first_root_arg (base : Nat) (w : World) (c : Nat) (l : List (List UInt8)) (h : ChainAt base w c l) (k : Nat) (hk : l.length < k) :
    Calls Try.prog 78 #[.pointer (some ⟨c, 0, none⟩), .int .u64 (k : Int), .func (.func 81) #[] #[]] w fun e w' => e = .returned (.tuple #[sv zeroSum, .int .i64 1]) ∧ Below w.heap.size w w' := by
  have R0 : Res w 32 (w.alloc (.cells (cells8 (List.replicate 32 0)).toArray 24)) := Res.start _ _ _ _ (by rfl)
  obtain ⟨f, v, vf, es, h0⟩ := h
  have h2 := h0.below R0.below
  have hz : (w.alloc (.cells (cells8 (List.replicate 32 0)).toArray 24)).rangeAt w.heap.size 0 (cellsOf zeroSum) := range_new w _ _ _ (by rw [cellsOf_zeroSum])
  have HZZ := Lib.hid hz; clear hz
  have HZ := Lib.hid (csize_at base _ c l h2.at_)
  have HC0 := Lib.hid h2.c0
  have hkl : ((l.length : Int) < (k : Int)) := by omega
  have HR := Lib.hid R0
  clear h0 R0 h2 hk
  generalize l.length = n at *
  go_enter Try.func78, Try.ntmps78
  go_wp2_with (first
    | (go_at_call 75; refine (cnone_live _ c f HC0.out).mono ?_; rintro e w1 ⟨rfl, rfl⟩)
    | (go_at_call 44; refine HZ.out.mono ?_; rintro e w1 ⟨rfl, rfl⟩)
    | (refine wpList_load_sum rfl _ rfl w.heap.size 0 rfl zeroSum HZZ.out ?_)
    | (refine wpList_store_sum rfl _ _ rfl w.heap.size 0 zeroSum rfl rfl HR.out.there ?_))
  exact bodyPost_ret (results_cell_tmp Try.results78 _ _ w.heap.size 0 (cellsOf zeroSum) _ rfl (range_stored _ _ _ _ (by rw [length_cellsOf]; exact World.there_setCells HR.out.there _ _ _)) Try.underlying24 rfl (by rw [length_cellsOf]; exact infoSum)) rfl ⟨rfl, (HR.out.store _).below⟩
theorem croot_at (base : Nat) (w : World) (c : Nat) (l : List (List UInt8)) (h : ChainAt base w c l) (k : Nat) (hk : k ≤ l.length) :
    Calls Try.prog 40 #[.pointer (some ⟨c, 0, none⟩), .int .u64 (k : Int)] w fun e w' => e = .returned (.tuple #[sv (rt ((l.take k).map lf)), .int .i64 0]) ∧ Below w.heap.size w w' := by
  have R0 : Res w 32 (w.alloc (.cells (cells8 (List.replicate 32 0)).toArray 24)) := Res.start _ _ _ _ (by rfl)
  have HT := Lib.hid (first_root base _ c l (h.below R0.below) k hk)
  have HR := Lib.hid R0
  clear h R0
  generalize hs : rt ((l.take k).map lf) = s at *
  clear hs
  go_enter Try.func40, Try.ntmps40
  go_wp2_with fail
  refine HT.out.mono ?_
  rintro e w1 ⟨rfl, hb⟩
  have R1 := HR.out.call (by omega) hb
  clear HT HR
  go_wp2_with (refine wpList_store_sum rfl _ _ rfl w.heap.size 0 s rfl rfl R1.there ?_)
  have RS := R1.store (cellsOf s)
  exact bodyPost_ret (results_cell_tmp Try.results40 _ _ w.heap.size 0 (cellsOf s) _ rfl (range_stored _ _ _ _ (by rw [length_cellsOf]; exact RS.there)) Try.underlying24 rfl (by rw [length_cellsOf]; exact infoSum)) rfl ⟨rfl, RS.below⟩
theorem croot_arg (base : Nat) (w : World) (c : Nat) (l : List (List UInt8)) (h : ChainAt base w c l) (k : Nat) (hk : l.length < k) :
    Calls Try.prog 40 #[.pointer (some ⟨c, 0, none⟩), .int .u64 (k : Int)] w fun e w' => e = .returned (.tuple #[sv (zeroSum), .int .i64 1]) ∧ Below w.heap.size w w' := by
  have R0 : Res w 32 (w.alloc (.cells (cells8 (List.replicate 32 0)).toArray 24)) := Res.start _ _ _ _ (by rfl)
  have HT := Lib.hid (first_root_arg base _ c l (h.below R0.below) k hk)
  have HR := Lib.hid R0
  clear h R0
  generalize hs : zeroSum = s at *
  clear hs
  go_enter Try.func40, Try.ntmps40
  go_wp2_with fail
  refine HT.out.mono ?_
  rintro e w1 ⟨rfl, hb⟩
  have R1 := HR.out.call (by omega) hb
  clear HT HR
  go_wp2_with (refine wpList_store_sum rfl _ _ rfl w.heap.size 0 s rfl rfl R1.there ?_)
  have RS := R1.store (cellsOf s)
  exact bodyPost_ret (results_cell_tmp Try.results40 _ _ w.heap.size 0 (cellsOf s) _ rfl (range_stored _ _ _ _ (by rw [length_cellsOf]; exact RS.there)) Try.underlying24 rfl (by rw [length_cellsOf]; exact infoSum)) rfl ⟨rfl, RS.below⟩
end Go.Proofs.Ytdkcndgehgmadaa
