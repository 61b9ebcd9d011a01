/-
  Joined: U3, U4, SortShelf.
-/
import Derived.Test.YtfmgoehnbaiamaaGreatDoorU2
import Derived.Maps.RangeWalk
import Derived.DeepKeys4
import Derived.Lib.SliceRun
import Derived.Shelf.SlSortCmp.WholeK
import Derived.Test.YtfmgoehnbaiamaaGreatDoorProg
-- Maps by keys that are sums: what a key reads as; what a map's block holds; slices.Clone and Clip of bytes.
open Go Go.RowKit Alm
namespace Go.Proofs.YtfmgoehnbaiamaaGreatDoor
open Go.Maps (Keyed)
open Go.ChangeMaps (notKey putKey delKey)
theorem laid_ : laidOutB Tryz.prog = true := by kernel_rfl
theorem keyRow : (24 : TypeId) < Tryz.prog.types.size := of_decide_eq_true (by kernel_rfl)
theorem keyWide : (match Tryz.prog.underlying 24 with | some (.array _ _) | some (.struct _) => true | _ => false) = true := by kernel_rfl
theorem keyAt2 : Tryz.prog.keyTypeAt 2 24 = true := by kernel_rfl
set_option maxRecDepth 100000 in
theorem keyLaw : Keyed Tryz.prog 24 := Keyed.of_law (deep_law_laid laid_ (m := 2) (by omega) keyRow keyAt2 keyWide)
theorem cellsSum : Tryz.prog.cellsOf 24 = 32 := by kernel_rfl
theorem cellsU8 : Tryz.prog.cellsOf 5 = 1 := by kernel_rfl
theorem keyType_ : Tryz.prog.keyType 24 = true := by kernel_rfl
theorem types_two : ∃ m, Tryz.prog.types.size = m + 1 := by
  have h : 0 < Tryz.prog.types.size := Nat.lt_of_le_of_lt (Nat.zero_le _) keyRow
  exact ⟨Tryz.prog.types.size - 1, by omega⟩
theorem mapM_some {α β : Type} {f : α → Option β} {g : α → β} : ∀ (l : List α), (∀ x ∈ l, f x = some (g x)) → l.mapM f = some (l.map g)
  | [], _ => rfl
  | a :: l, h => by
    rw [List.mapM_cons, h a List.mem_cons_self, mapM_some l fun x hx => h x (List.mem_cons_of_mem _ hx)]; rfl
theorem mapM_inv {α β : Type} {f : α → Option β} : ∀ (l : List α) {r : List β}, l.mapM f = some r → ∀ x ∈ l, ∃ y, f x = some y
  | [], _, _, _, hx => by cases hx
  | a :: l, r, h, x, hx => by
    rw [List.mapM_cons] at h
    cases ha : f a with
    | none => rw [ha] at h; cases h
    | some y =>
      rw [ha] at h
      cases hl : l.mapM f with
      | none => rw [hl] at h; cases h
      | some r' =>
        rcases List.mem_cons.1 hx with rfl | hx
        · exact ⟨y, ha⟩
        · exact mapM_inv l hl x hx
theorem lits_byte (m : Nat) (b : UInt8) : Tryz.prog.keyLits (m + 1) 5 [u8v b] = some [.int .u8 (b.toNat : Int)] := by
  have hb : b.toNat < 256 := b.toNat_lt
  have hw : (Lit.int .u8 ((b.toNat : Nat) : Int)).wf = true := by
    simp [Lit.wf, IntKind.min, IntKind.max, IntKind.signed, IntKind.bits]; omega
  unfold Program.keyLits
  rw [Tryz.underlying5]
  simp only [u8v, hw]
  rfl
theorem take_cell {l : List Value} {i : Nat} {v : Value} (h : l[i]? = some v) : (l.drop i).take 1 = [v] := by
  obtain ⟨hi, he⟩ := List.getElem?_eq_some_iff.1 h
  rw [List.drop_eq_getElem_cons hi, he]; rfl
theorem cell_key (k : Sum) {i : Nat} (hi : i < 32) : (cellsOf k)[i]? = some (u8v (k.toList.getD i 0)) := by
  unfold cellsOf
  rw [List.getElem?_map, List.getD_eq_getElem?_getD, List.getElem?_eq_getElem (by simpa using hi)]; rfl
theorem keyBytes_byte (b : UInt8) : Lit.keyBytes (.int .u8 (b.toNat : Int)) = [b] := by
  have hb : b.toNat < 256 := b.toNat_lt
  have e : ((b.toNat : Int) % 2 ^ IntKind.u8.bits).toNat = b.toNat := by
    show ((b.toNat : Int) % 256).toNat = b.toNat
    omega
  show bytesBE (IntKind.u8.bits / 8) _ = _
  rw [e]
  show (bytesLE 1 b.toNat).reverse = [b]
  simp only [bytesLE, List.reverse_cons, List.reverse_nil, List.nil_append, List.cons.injEq, and_true]
  rw [Nat.mod_eq_of_lt hb]; simp
theorem flat_keyBytes : ∀ (l : List UInt8), keyBytes ((l.map fun b => [Lit.int .u8 (b.toNat : Int)]).flatten) = l
  | [] => rfl
  | b :: l => by
    have ih := flat_keyBytes l
    unfold keyBytes at ih ⊢
    rw [List.map_cons, List.flatten_cons, List.flatMap_append, ih, List.flatMap_cons, List.flatMap_nil, List.append_nil, keyBytes_byte]; rfl
theorem range_bytes (l : List UInt8) (h : l.length = 32) : ((List.range 32).map fun i => [Lit.int .u8 ((l.getD i 0).toNat : Int)]) = l.map fun b => [Lit.int .u8 (b.toNat : Int)] := by
  apply List.ext_getElem
  · simp [h]
  · intro i h1 h2
    have : i < l.length := by simpa using h2
    simp [List.getD_eq_getElem?_getD, List.getElem?_eq_getElem this]
set_option maxRecDepth 100000 in
/-- What a sum reads as, as a key. -/
theorem keyOf_sv (k : Sum) : keyOf Tryz.prog 24 (sv k) = some (.string k.toList) := by
  obtain ⟨m, hm⟩ := types_two
  have hf : (sv k).formed Tryz.prog 24 = true := by
    simp only [Value.formed, Tryz.underlying24, cellsSum, size_cellsOf]; rfl
  have hl : Tryz.prog.keyLits (Tryz.prog.types.size + 1) 24 (cellsOf k) = some ((k.toList.map fun b => [Lit.int .u8 (b.toNat : Int)]).flatten) := by
    unfold Program.keyLits
    rw [Tryz.underlying24]
    simp only [cellsSum, cellsU8, length_cellsOf, if_true, Nat.mul_one]
    rw [hm, mapM_some (g := fun i => [Lit.int .u8 ((k.toList.getD i 0).toNat : Int)]) _ (fun i hi => by rw [take_cell (cell_key k (List.mem_range.1 hi)), lits_byte]), range_bytes _ (by simp)]
    rfl
  unfold keyOf
  rw [Tryz.underlying24]
  simp only [keyType_, hf, Bool.and_self, if_true]
  show (Tryz.prog.keyLits (Tryz.prog.types.size + 1) 24 (cellsOf k)).map _ = _
  rw [hl]
  simp only [Option.map_some, flat_keyBytes]
set_option maxRecDepth 100000 in
/-- Whatever reads as a key is a sum. -/
theorem keyOf_inv {v : Value} {l : Lit} (h : keyOf Tryz.prog 24 v = some l) : ∃ k : Sum, v = sv k ∧ l = .string k.toList := by
  have h0 := h
  unfold keyOf at h
  rw [Tryz.underlying24] at h
  simp only [keyType_, Bool.true_and] at h
  split at h
  · rename_i hf
    cases v <;> simp only [Value.formed, Tryz.underlying24, cellsSum, Bool.false_eq_true] at hf
    rename_i cs
    obtain ⟨ls, hls, rfl⟩ := Option.map_eq_some_iff.1 h
    have hlen : cs.toList.length = 32 := by simpa using hf
    obtain ⟨m, hm⟩ := types_two
    rw [show (Value.agg cs).cells = cs from rfl] at hls
    unfold Program.keyLits at hls
    rw [Tryz.underlying24] at hls
    simp only [cellsSum, cellsU8, hlen, if_true, Nat.mul_one] at hls
    obtain ⟨r, hr, _⟩ := Option.map_eq_some_iff.1 hls
    have one : ∀ i, i < 32 → ∃ b : UInt8, cs.toList[i]? = some (u8v b) := fun i hi => by
      obtain ⟨y, hy⟩ := mapM_inv _ hr i (List.mem_range.2 hi)
      rw [hm, List.drop_eq_getElem_cons (by omega : i < cs.toList.length)] at hy
      unfold Program.keyLits at hy
      rw [Tryz.underlying5] at hy
      rw [List.getElem?_eq_getElem (by omega)]
      generalize cs.toList[i] = c at hy
      cases c <;> simp only [List.take_succ_cons, List.take_zero] at hy
      all_goals try (cases hy)
      rename_i q n
      split at hy
      · rename_i hc
        obtain ⟨rfl, hw⟩ := hc
        have hb : 0 ≤ n ∧ n ≤ 255 := by simpa [Lit.wf, IntKind.min, IntKind.max, IntKind.signed, IntKind.bits] using hw
        refine ⟨UInt8.ofNat n.toNat, ?_⟩
        rw [u8v, UInt8.toNat_ofNat']
        congr 2; omega
      · cases hy
    have hch := fun i : Fin 32 => one i.1 i.2
    have hk : cs.toList = cellsOf (Vector.ofFn fun i => Classical.choose (hch i)) := by
      refine List.ext_getElem? fun i => ?_
      by_cases hi : i < 32
      · rw [Classical.choose_spec (hch ⟨i, hi⟩)]
        simp [cellsOf, hi]
      · rw [List.getElem?_eq_none (by omega), List.getElem?_eq_none (by rw [length_cellsOf]; omega)]
    have hv : Value.agg cs = sv (Vector.ofFn fun i => Classical.choose (hch i)) := by
      show Value.agg cs = Value.agg (cellsOf _).toArray
      rw [← hk]
    refine ⟨_, hv, ?_⟩
    rw [hv, keyOf_sv] at h0
    exact (Option.some.inj h0).symm
  · cases h
/-! ### what a map's block holds -/
/-- An element: a slice, as it stands. -/
def rEl : Value → Option (DataW Value × List MemPlace)
  | .slice a n c => some (.held (.slice a n c), [])
  | _ => none
theorem rEl_inv {v : Value} {y : DataW Value × List MemPlace} (h : rEl v = some y) : ∃ c : Option Addr × Nat × Nat, v = .slice c.1 c.2.1 c.2.2 := by
  cases v <;> simp only [rEl] at h
  all_goals try (cases h)
  rename_i a n c
  exact ⟨(a, n, c), rfl⟩
theorem rEl_held {v u : Value} {ps : List MemPlace} (h : rEl v = some (.held u, ps)) : v = u := by
  cases v <;> simp only [rEl] at h
  all_goals try (cases h)
  rfl
/-- An entry: a key, the slice that stands there, its bytes. -/
abbrev Ent := Sum × Value × List UInt8
/-- What entries read as. -/
def encE (p : Ent) : Lit × DataW Value := (.string p.1.toList, .held p.2.1)
def encD (l : List Ent) : DataW Value := .map (l.map encE)
theorem toList_inj {a b : Sum} (h : a.toList = b.toList) : a = b := Vector.toList_inj.1 h
theorem notKey_enc (k : Sum) (p : Ent) : notKey (.string k.toList) (encE p) = decide (p.1 ≠ k) := by
  show (!(p.1.toList == k.toList)) = _
  by_cases h : p.1 = k
  · rw [h]; simp
  · have : p.1.toList ≠ k.toList := fun e => h (toList_inj e)
    simp [h]
theorem filter_enc (k : Sum) (l : List Ent) : (l.map encE).filter (notKey (.string k.toList)) = (Keys.del k l).map encE := by
  unfold Keys.del
  rw [List.filter_map]
  congr 1
  apply List.filter_congr
  intro p _
  exact notKey_enc k p
theorem before_enc (k : Sum) (v : Value × List UInt8) (p : Ent) : (encE (k, v)).1.before (encE p).1 = decide (Keys.kn k < Keys.kn p.1) := Keys.before_kn k p.1
theorem insert_enc (k : Sum) (v : Value × List UInt8) : ∀ {l : List Ent}, Keys.Rise l → (∀ p ∈ l, p.1 ≠ k) → DataW.insert (encE (k, v)) (l.map encE) = (Keys.put k v l).map encE
  | [], _, _ => rfl
  | p :: r, h, hne => by
    rw [List.map_cons, DataW.insert, before_enc, Keys.put]
    by_cases hl : Keys.kn k < Keys.kn p.1
    · simp [hl]
    · have hn : ¬ k = p.1 := fun e => hne p List.mem_cons_self e.symm
      simp only [hl, decide_false, Bool.false_eq_true, if_false, if_neg hn, List.map_cons]
      rw [insert_enc k v (List.pairwise_cons.1 h).2 fun q hq => hne q (List.mem_cons_of_mem _ hq)]
theorem put_del (k : Sum) (v : Value × List UInt8) {l : List Ent} (h : Keys.Rise l) : Keys.put k v (Keys.del k l) = Keys.put k v l := by
  refine Keys.rise_ext (Keys.rise_put (Keys.rise_del h)) (Keys.rise_put h) fun p => ?_
  rw [Keys.mem_put (Keys.rise_del h), Keys.mem_put h, Keys.mem_del]
  constructor
  · rintro (e | ⟨⟨h1, _⟩, h2⟩)
    · exact .inl e
    · exact .inr ⟨h1, h2⟩
  · rintro (e | ⟨h1, h2⟩)
    · exact .inl e
    · exact .inr ⟨⟨h1, h2⟩, h2⟩
theorem put_enc (k : Sum) (v : Value × List UInt8) {l : List Ent} (h : Keys.Rise l) : (encD l).put (.string k.toList) (.held v.1) = encD (Keys.put k v l) := by
  unfold encD
  rw [DataW.put_eq]
  unfold putKey
  rw [filter_enc, show ((Lit.string k.toList, DataW.held v.1) : Lit × DataW Value) = encE (k, v) from rfl, insert_enc k v (Keys.rise_del h) (fun p hp => (Keys.mem_del.1 hp).2), put_del k v h]
theorem del_enc (k : Sum) (l : List Ent) : (encD l).del (.string k.toList) = encD (Keys.del k l) := by
  unfold encD
  rw [DataW.del_eq]
  unfold delKey
  rw [filter_enc]
/-- The slice that stands at a key. -/
def getE (l : List Ent) (k : Sum) : Value × List UInt8 := match l.find? (fun p => decide (p.1 = k)) with | some p => p.2 | none => (.slice none 0 0, [])
theorem at_enc (k : Sum) (l : List Ent) : (encD l).atKey (.string k.toList) (.held (.slice none 0 0)) = .held (getE l k).1 := by
  unfold encD DataW.atKey getE
  simp only
  rw [List.find?_map]
  have e : ((fun p : Lit × DataW Value => p.1.sameKey (.string k.toList)) ∘ encE) = fun p : Ent => decide (p.1 = k) := by
    funext p
    have := notKey_enc k p
    unfold notKey at this
    show (encE p).1.sameKey (.string k.toList) = _
    have h2 : (encE p).1.sameKey (.string k.toList) = !decide (p.1 ≠ k) := by rw [← this]; simp
    rw [h2]; simp
  rw [e]
  cases l.find? (fun p => decide (p.1 = k)) <;> rfl
/-- A map, and its block. -/
structure MapIn (w : World) (p b n : Nat) (l : List Ent) : Prop where
  cell : w.cell? ⟨p, 0, none⟩ = some (.map (some b))
  map : w.ownsMap Tryz.prog 24 rEl b n (encD l)
  rise : Keys.Rise l
  vals : ∀ e ∈ l, BytesAt w e.2.1 e.2.2 ∧ e.2.2 ≠ [] ∧ e.2.2.length ≤ 256
theorem MapIn.isMap {w : World} {p b n : Nat} {l : List Ent} (h : MapIn w p b n l) : ∃ es c, w.heap[b]? = some (.map es c) := by
  obtain ⟨es, c, hb, _⟩ := h.map
  exact ⟨es, c, hb⟩
theorem bytes_block {w : World} {v : Value} {l : List UInt8} (h : BytesAt w v l) (hl : l ≠ []) {b : Nat} {es : Array MapEntry} {c : Nat} (hb : w.heap[b]? = some (.map es c)) : v.ownBlock ≠ some b := by
  obtain ⟨a, cap, rfl, _, _, h3⟩ := h
  obtain ⟨b', o, rfl, hr⟩ := h3.resolve_left hl
  intro e
  simp only [Value.ownBlock, Option.some.injEq] at e
  subst e
  have hpos : cells8 l ≠ [] := by intro h; have := length_cells8 l; rw [h] at this; exact hl (List.length_eq_zero_iff.1 this.symm)
  obtain ⟨v, r, hv⟩ := List.exists_cons_of_ne_nil hpos
  have := hr 0 v (by rw [hv]; rfl)
  unfold World.cell? at this
  simp only [hb] at this
  cases this
theorem MapIn.lt {w : World} {p b n : Nat} {l : List Ent} (h : MapIn w p b n l) : p < w.heap.size ∧ b < w.heap.size := ⟨World.block_lt_of_cell? w _ h.cell, h.map.lt⟩
theorem bytes_keep {X : Nat → Prop} {w w' : World} (hk : Keeps X w w') {v : Value} {l : List UInt8} (h : BytesAt w v l) (hx : ∀ k, v.ownBlock = some k → ¬ X k) : BytesAt w' v l := by
  obtain ⟨a, cap, rfl, h1, h2, h3⟩ := h
  refine ⟨a, cap, rfl, h1, h2, ?_⟩
  rcases h3 with h3 | ⟨b, o, rfl, hr⟩
  · exact .inl h3
  · exact .inr ⟨b, o, rfl, hk.range hr (hx b rfl)⟩
theorem MapIn.keep {X : Nat → Prop} {w w' : World} {p b n : Nat} {l : List Ent} (h : MapIn w p b n l) (hk : Keeps X w w') (hp : ¬ X p) (hb : ¬ X b) (hv : ∀ e ∈ l, ∀ k, e.2.1.ownBlock = some k → ¬ X k) : MapIn w' p b n l := by
  refine ⟨hk.cell h.cell hp, ?_, h.rise, fun e he => ⟨bytes_keep hk (h.vals e he).1 (hv e he), (h.vals e he).2⟩⟩
  obtain ⟨es, c, h1, h2⟩ := h.map
  exact ⟨es, c, hk.heap h1 hb, h2⟩
theorem MapIn.below {w w' : World} {p b n : Nat} {l : List Ent} (h : MapIn w p b n l) (hb : Below w.heap.size w w') : MapIn w' p b n l :=
  h.keep (Keeps.of_below (X := fun _ => False) hb) (fun h => h) (fun h => h) (fun _ _ _ _ h => h)
theorem zeroE (w : World) : (zeroValue 39).run Tryz.prog w = .ok (.slice none 0 0) w := by kernel_rfl
theorem wp_lookup_map {w : World} {o : Oper} {a : Act} {K : Act → World → Prop} {Q : Exit → Act → World → Prop} (m x : Operand) (ho : o.op = .lookup 91 m x false) (p b n : Nat) (l : List Ent) (hm : a.eval m = .map (some b)) (h : MapIn w p b n l) (k : Sum) (hx : a.eval x = sv k)
    (hK : K (a.put o.dst (getE l k).1) w) : o.wp Tryz.prog a w K Q := by
  obtain ⟨v, ps, hrun, hv⟩ := h.map.lookup keyLaw Tryz.underlying91 (zeroE w) (zd := .held (.slice none 0 0)) (zp := []) rfl (keyOf_sv k)
  rw [at_enc] at hv
  have e := rEl_held hv
  subst e
  unfold Oper.wp
  simp [execOp, ho, hm, hx, hrun, Result.andThen]
  exact hK
theorem wp_update_map {w : World} {o : Oper} {a : Act} {K : Act → World → Prop} {Q : Exit → Act → World → Prop} (m x y : Operand) (ho : o.op = .mapUpdate 91 m x y) (p b n : Nat) (l : List Ent) (hm : a.eval m = .map (some b)) (h : MapIn w p b n l) (hn : n < 1000000) (k : Sum) (hx : a.eval x = sv k)
    (v : Value) (bs : List UInt8) (hy : a.eval y = v) (hv : BytesAt w v bs) (hne : bs ≠ []) (hle : bs.length ≤ 256)
    (hK : ∀ w', MapIn w' p b (n + 1) (Keys.put k (v, bs) l) → Keeps (fun i => i = b) w w' → K (a.put o.dst undef) w') : o.wp Tryz.prog a w K Q := by
  obtain ⟨ad, cap, hvs, _⟩ := id hv
  obtain ⟨w', hrun, hmap, ht⟩ := h.map.store keyLaw Tryz.underlying91 (by unfold maxLen; omega) (keyOf_sv k) (val := v) (d := .held v) (ps := []) (by rw [hvs]; rfl)
  rw [put_enc k (v, bs) h.rise] at hmap
  have hk : Keeps (fun i => i = b) w w' := Keeps.of_grown ht.grown (fun k hk => by cases hk; rfl)
  obtain ⟨es, c, hbm⟩ := h.isMap
  have hpb : p ≠ b := by
    intro e
    have := h.cell
    rw [e] at this
    unfold World.cell? at this
    simp only [hbm] at this
    cases this
  unfold Oper.wp
  simp [execOp, ho, hm, hx, hy, hrun, Result.andThen]
  refine hK w' ⟨hk.cell h.cell hpb, hmap, Keys.rise_put h.rise, fun e he => ?_⟩ hk
  rcases (Keys.mem_put h.rise).1 he with rfl | ⟨he, _⟩
  · exact ⟨bytes_keep hk hv (fun i hi e => bytes_block hv hne hbm (by rw [hi, e])), hne, hle⟩
  · obtain ⟨h1, h2, h3⟩ := h.vals e he
    exact ⟨bytes_keep hk h1 (fun i hi e => bytes_block h1 h2 hbm (by rw [hi, e])), h2, h3⟩
theorem wp_delete_map {w : World} {o : Oper} {a : Act} {K : Act → World → Prop} {Q : Exit → Act → World → Prop} (m x : Operand) (ho : o.op = Op.call { callee := Callee.builtin Builtin.delete, args := #[m, x], argTypes := #[91, 24] }) (p b n : Nat) (l : List Ent) (hm : a.eval m = .map (some b)) (h : MapIn w p b n l) (k : Sum) (hx : a.eval x = sv k)
    (hK : ∀ w', MapIn w' p b n (Keys.del k l) → Keeps (fun i => i = b) w w' → K (a.put o.dst (.tuple #[])) w') : o.wp Tryz.prog a w K Q := by
  obtain ⟨w', hrun, hmap, ht⟩ := h.map.drop keyLaw Tryz.underlying91 (keyOf_sv k) o.type
  rw [del_enc] at hmap
  have hk : Keeps (fun i => i = b) w w' := Keeps.of_grown ht.grown (fun k hk => by cases hk; rfl)
  obtain ⟨es, c, hbm⟩ := h.isMap
  have hpb : p ≠ b := by
    intro e
    have := h.cell
    rw [e] at this
    unfold World.cell? at this
    simp only [hbm] at this
    cases this
  unfold Oper.wp
  simp [execOp, ho, resolve, invoke, builtin, hm, hx, hrun, Result.andThen]
  refine hK w' ⟨hk.cell h.cell hpb, hmap, Keys.rise_del h.rise, fun e he => ?_⟩ hk
  obtain ⟨h1, h2, h3⟩ := h.vals e (Keys.mem_del.1 he).1
  exact ⟨bytes_keep hk h1 (fun i hi e => bytes_block h1 h2 hbm (by rw [hi, e])), h2, h3⟩
end Go.Proofs.YtfmgoehnbaiamaaGreatDoor
-- Walks: slices.Clone and Clip of bytes; maps: none, New, Put, Get.
namespace Go.Proofs.YtfmgoehnbaiamaaGreatDoor
/-- Bytes of one's own: no older memory. -/
def BytesNew (w : World) (base : Nat) (v : Value) (l : List UInt8) : Prop := BytesAt w v l ∧ ∀ k, v.ownBlock = some k → base ≤ k ∧ k < w.heap.size
set_option maxRecDepth 100000 in
theorem clone_bytes (w : World) (v : Value) (l : List UInt8) (h : BytesAt w v l) (hl : l.length < 4000000000) : Calls Tryz.prog 49 #[v] w fun e w' => ∃ v', e = .returned v' ∧ BytesNew w' w.heap.size v' l ∧ Below w.heap.size w w' := by
  have e1 := @Lib.run_eql_slice_nil Tryz.prog
  obtain ⟨i0, hi0, hz0⟩ := Option.map_eq_some_iff.1 infoByteZ
  simp only [Prod.mk.injEq] at hz0
  have HI := Lib.hid hi0
  have HZ := Lib.hid hz0
  clear hi0 hz0
  obtain ⟨a, cap, rfl, h1, h2, h3⟩ := h
  by_cases hn : l = []
  · subst hn
    cases a with
    | none =>
      go_enter Tryz.func49, Tryz.ntmps49
      go_wp2_with fail
      refine bodyPost_ret (results_tmp rfl _ _ _) rfl ?_
      exact ⟨_, rfl, ⟨⟨none, 0, rfl, by simp, by decide, .inl rfl⟩, fun k hk => by cases hk⟩, Below.refl _ _⟩
    | some a =>
      go_enter Tryz.func49, Tryz.ntmps49
      have hown : (w.alloc (.cells #[] 5)).ownsRow w.heap.size 5 1 (.slice (some ⟨w.heap.size, 0, none⟩) 0 0) 0 [] := World.ownsRow_made w #[] 0 (Nat.le_refl _) (by unfold maxLen; omega) rfl
      go_wp2_with (at_builtin; refine wpList_append_zero rfl _ _ rfl w.heap.size i0 HI.out _ _ _ rfl hown _ _ rfl ?_)
      refine bodyPost_ret (results_tmp rfl _ _ _) rfl ?_
      exact ⟨_, rfl, ⟨⟨_, 0, rfl, by simp, by decide, .inl rfl⟩, fun k hk => by cases hk; exact ⟨Nat.le_refl _, by simp⟩⟩, (al (Below.refl _ _) _)⟩
  · obtain ⟨b, o, rfl, hr⟩ := h3.resolve_left hn
    go_enter Tryz.func49, Tryz.ntmps49
    have hr1 := range_below (al (Below.refl _ _) (.cells #[] 5)) hr (range_lt hr (by intro h; have := length_cells8 l; rw [h] at this; exact hn (List.length_eq_zero_iff.1 (by simp at this; omega))))
    have hown : (w.alloc (.cells #[] 5)).ownsRow w.heap.size 5 1 (.slice (some ⟨w.heap.size, 0, none⟩) 0 0) 0 (cells8 []) := World.ownsRow_made w #[] 0 (Nat.le_refl _) (by unfold maxLen; omega) rfl
    have hB := al (Below.refl w.heap.size w) (.cells #[] 5)
    have hpos : 0 < l.length := List.length_pos_iff.2 hn
    obtain ⟨n, hnl⟩ : ∃ n, n = l.length := ⟨_, rfl⟩
    have HN := Lib.hid hnl
    rw [← hnl] at h1 hpos hl ⊢
    clear hnl h3 hr
    go_wp2_with (at_builtin; refine wpList_append_own _ rfl _ _ _ rfl w.heap.size 5 i0 (.int .u8 0) 1 1 Tryz.underlying39 HI.out HZ.out.1 HZ.out.2.1 HZ.out.2.2 rfl (by decide) _ _ _ rfl hown ⟨b, o, none⟩ n cap (cells8 l) rfl (by rw [length_cells8, HN.out]; omega) (fun j u hj => by rw [Addr.add_mid]; exact hr1 j u hj) (oneCell_cells8 _) (by unfold maxLen; omega) (by omega) (by simp) ?_; intro v' w2 ho3 hg3 hat3)
    have ho4 : w2.ownsRow w.heap.size 5 1 v' l.length (cells8 l) := by
      have := ho3
      rw [Nat.zero_add, HN.out] at this
      exact this
    refine bodyPost_ret (results_tmp rfl _ _ _) rfl ?_
    exact ⟨_, rfl, ⟨bytes_own ho4 (by have := HN.out; omega), fun k hk => ⟨own_base ho4 k hk, own_lt ho4 hk⟩⟩, hB.grown hg3 (by simp) (fun k hk => by cases hk; exact Nat.le_refl _)⟩
theorem clip_bytes (w : World) (base : Nat) (v : Value) (l : List UInt8) (h : BytesNew w base v l) : Calls Tryz.prog 52 #[v] w fun e w' => ∃ v', e = .returned v' ∧ BytesNew w base v' l ∧ w = w' := by
  obtain ⟨⟨a, cap, rfl, h1, h2, h3⟩, h4⟩ := h
  have hn : BytesNew w base (.slice a l.length l.length) l := ⟨⟨a, l.length, rfl, Nat.le_refl _, by omega, h3⟩, fun k hk => h4 k (by cases a <;> exact hk)⟩
  have HN := Lib.hid hn; clear hn h3 h4
  obtain ⟨n, hn⟩ : ∃ n, n = l.length := ⟨_, rfl⟩
  rw [← hn] at HN h1 ⊢
  clear hn
  have k1 : (n : Int) ≤ (cap : Int) := by omega
  unfold maxLen at h2
  cases a with
  | none =>
    have h0 : (none : Option Addr) = none := rfl
    go_enter Tryz.func52, Tryz.ntmps52
    go_wp2_with fail
    refine bodyPost_ret (results_tmp rfl _ _ _) rfl ?_
    exact ⟨_, rfl, HN.out, rfl⟩
  | some a =>
    go_enter Tryz.func52, Tryz.ntmps52
    go_wp2_with fail
    refine bodyPost_ret (results_tmp rfl _ _ _) rfl ?_
    exact ⟨_, rfl, HN.out, rfl⟩
/-- The pairs of entries. -/
def prs (l : List Ent) : List Keys.Pr := l.map fun e => (e.1, e.2.2)
theorem prs_rise {l : List Ent} (h : Keys.Rise l) : Keys.Rise (prs l) := Keys.rise_map _ h
theorem prs_put (k : Sum) (v : Value) (bs : List UInt8) (l : List Ent) : prs (Keys.put k (v, bs) l) = Keys.put k bs (prs l) := Keys.put_map (fun x : Value × List UInt8 => x.2) k (v, bs) l
theorem prs_del (k : Sum) (l : List Ent) : prs (Keys.del k l) = Keys.del k (prs l) := Keys.del_map (fun x : Value × List UInt8 => x.2) k l
theorem getE_prs (l : List Ent) (k : Sum) : (getE l k).2 = Keys.get (prs l) k := by
  unfold getE Keys.get prs
  rw [List.find?_map]
  have e : ((fun p : Keys.Pr => decide (p.1 = k)) ∘ fun e : Ent => (e.1, e.2.2)) = fun p : Ent => decide (p.1 = k) := rfl
  rw [e]
  cases l.find? (fun p => decide (p.1 = k)) <;> rfl
theorem getE_bytes {w : World} {p b n : Nat} {l : List Ent} (h : MapIn w p b n l) (k : Sum) : BytesAt w (getE l k).1 (Keys.get (prs l) k) ∧ (Keys.get (prs l) k).length ≤ 256 := by
  rw [← getE_prs]
  unfold getE
  cases hf : l.find? (fun p => decide (p.1 = k)) with
  | none => exact ⟨⟨none, 0, rfl, Nat.le_refl _, by unfold maxLen; omega, .inl rfl⟩, by simp⟩
  | some e =>
    have he := List.mem_of_find?_eq_some hf
    obtain ⟨h1, _, h3⟩ := h.vals e he
    exact ⟨h1, h3⟩
theorem map_some (W : World) (b : Nat) : (binOp .eql 91 (.map (some b)) (.map none)).run Tryz.prog W = .ok (.bool false) W := by kernel_rfl
theorem mnone_live (w : World) (p b : Nat) (hc : w.cell? ⟨p, 0, none⟩ = some (.map (some b))) : Calls Tryz.prog 48 #[.pointer (some ⟨p, 0, none⟩)] w fun e w' => e = .returned (.bool false) ∧ w = w' := by
  have hmap := map_some
  go_enter Tryz.func48, Tryz.ntmps48
  go_wp2_with fail
  exact bodyPost_ret (results_tmp rfl _ _ _) rfl ⟨rfl, rfl⟩
theorem mapIn_made (w : World) : MapIn ((w.alloc (.map #[] 0)).alloc (.cells #[.map (some w.heap.size)] 93)) (w.heap.size + 1) w.heap.size 0 [] := by
  have hz : (w.alloc (.map #[] 0)).heap.size = w.heap.size + 1 := by rw [World.size_alloc]
  refine ⟨?_, (World.ownsMap_made w _ _ _).alloc _, List.Pairwise.nil, fun e he => by cases he⟩
  have := range_new (w.alloc (.map #[] 0)) #[.map (some w.heap.size)] 93 _ rfl 0 _ rfl
  rw [hz] at this
  exact this
theorem mnew_any (w : World) : Calls Tryz.prog 7 #[] w fun e w' => e = .returned (.pointer (some ⟨w.heap.size + 1, 0, none⟩)) ∧ MapIn w' (w.heap.size + 1) w.heap.size 0 [] ∧ Below w.heap.size w w' := by
  have hmm := @run_makeMap Tryz.prog
  have H := Lib.hid (mapIn_made w)
  have HB := Lib.hid (al (al (Below.refl _ w) (.map #[] 0)) (.cells #[.map (some w.heap.size)] 93))
  go_enter Tryz.func7, Tryz.ntmps7
  go_wp2_with fail
  exact bodyPost_ret (results_tmp rfl _ _ _) rfl ⟨rfl, H.out, HB.out⟩
/-- What Get has in hand. -/
structure GS (w : World) (p b n : Nat) (l : List Ent) (k : Sum) (V : World) : Prop where
  cell : V.cell? ⟨p, 0, none⟩ = some (.map (some b))
  map : MapIn V p b n l
  key : V.rangeAt w.heap.size 0 (cellsOf k)
  below : Below w.heap.size w V
theorem GS.drew {w : World} {p b n : Nat} {l : List Ent} {k : Sum} {V : World} (h : GS w p b n l k V) : GS w p b n l k V.drew := ⟨h.cell, h.map.below (Below.refl _ _).drew, h.key, h.below.drew⟩
theorem GS.next {w : World} {p b n : Nat} {l : List Ent} {k : Sum} {V V' : World} (h : GS w p b n l k V) (hb : Below V.heap.size V V') : GS w p b n l k V' :=
  ⟨(h.map.below hb).cell, h.map.below hb, (Keeps.of_below (X := fun _ => False) hb).range h.key (fun h => h), h.below.trans (hb.mono h.below.size)⟩
theorem GS.start {w : World} {p b n : Nat} {l : List Ent} (h : MapIn w p b n l) (k : Sum) : GS w p b n l k (w.alloc (.cells (cellsOf k).toArray 24)) :=
  have hb := al (Below.refl _ w) (.cells (cellsOf k).toArray 24)
  ⟨(h.below hb).cell, h.below hb, range_new w (cellsOf k).toArray 24 _ rfl, hb⟩
theorem MapIn.mono {w : World} {p b n n' : Nat} {l : List Ent} (h : MapIn w p b n l) (hn : n ≤ n') : MapIn w p b n' l := ⟨h.cell, h.map.mono hn, h.rise, h.vals⟩
end Go.Proofs.YtfmgoehnbaiamaaGreatDoor
-- DERIVED: THE SHELF's CONTRACTS AT THIS DUMP, IN PLAIN WORDS (tools/lay-plain.mjs out of 'TrySortShelf.lean', which tools/lay-shelf.mjs wrote): THE SAME DECLARATIONS UNDER THE SAME NAMES: 'import', 'namespace', 'open', 'def', 'theorem' AND NOTHING ELSE: no command of the shelf's: FOR A HAND-IN. Each laying: the table of numbers ('.._ren') and one theorem, a field a fact of the dump's own or the kernel's comparison; each contract: ONE APPLICATION.
namespace Go.Proofs
open Go.Shelf
def Tryz.sortPair_ren : Go.Shelf.Ren := ⟨fun | 6 => 53 | 15 => 120 | 14 => 119 | 28 => 169 | 29 => 170 | 20 => 161 | 21 => 162 | 22 => 163 | 23 => 164 | 24 => 165 | 25 => 166 | 26 => 167 | 27 => 168 | 46 => 180 | 47 => 181 | 48 => 182 | 49 => 183 | 50 => 184 | 57 => 189 | n => n, fun | 22 => 22 | 24 => 41 | 25 => 98 | 3 => 3 | 39 => 115 | 0 => 0 | 53 => 160 | 55 => 161 | 4 => 4 | 46 => 208 | 45 => 207 | 50 => 212 | 5 => 5 | 9 => 9 | 66 => 224 | 70 => 228 | 76 => 238 | 77 => 239 | n => n, fun | n => n⟩
theorem Tryz.sortPair : Go.Proofs.SlLaysF0.n6 Tryz.prog Tryz.sortPair_ren := {
  mixed := by kernel_rfl
  f6 := ⟨Tryz.f53.name, by decide, Tryz.func53.trans (congrArg some (by kernel_rfl))⟩
  f14 := ⟨Tryz.f119.name, by decide, Tryz.func119.trans (congrArg some (by kernel_rfl))⟩
  f15 := Tryz.func120.trans (congrArg some (by kernel_rfl))
  f20 := ⟨Tryz.f161.name, by decide, Tryz.func161.trans (congrArg some (by kernel_rfl))⟩
  f21 := ⟨Tryz.f162.name, by decide, Tryz.func162.trans (congrArg some (by kernel_rfl))⟩
  f22 := ⟨Tryz.f163.name, by decide, Tryz.func163.trans (congrArg some (by kernel_rfl))⟩
  f23 := ⟨Tryz.f164.name, by decide, Tryz.func164.trans (congrArg some (by kernel_rfl))⟩
  f24 := ⟨Tryz.f165.name, by decide, Tryz.func165.trans (congrArg some (by kernel_rfl))⟩
  f25 := ⟨Tryz.f166.name, by decide, Tryz.func166.trans (congrArg some (by kernel_rfl))⟩
  f26 := ⟨Tryz.f167.name, by decide, Tryz.func167.trans (congrArg some (by kernel_rfl))⟩
  f27 := ⟨Tryz.f168.name, by decide, Tryz.func168.trans (congrArg some (by kernel_rfl))⟩
  f28 := Tryz.func169.trans (congrArg some (by kernel_rfl))
  f29 := Tryz.func170.trans (congrArg some (by kernel_rfl))
  f46 := ⟨Tryz.f180.name, by decide, Tryz.func180.trans (congrArg some (by kernel_rfl))⟩
  f47 := Tryz.func181.trans (congrArg some (by kernel_rfl))
  f48 := Tryz.func182.trans (congrArg some (by kernel_rfl))
  f49 := ⟨Tryz.f183.name, by decide, Tryz.func183.trans (congrArg some (by kernel_rfl))⟩
  f50 := ⟨Tryz.f184.name, by decide, Tryz.func184.trans (congrArg some (by kernel_rfl))⟩
  f57 := ⟨Tryz.f189.name, by decide, Tryz.func189.trans (congrArg some (by kernel_rfl))⟩
  t0 := Tryz.underlying0
  a0 := Tryz.isAgg0
  z0 := Tryz.sizeOf0
  v0 := Tryz.zeroValue0
  t3 := Tryz.underlying3
  a3 := Tryz.isAgg3
  z3 := Tryz.sizeOf3
  v3 := Tryz.zeroValue3
  t4 := Tryz.underlying4
  a4 := Tryz.isAgg4
  z4 := Tryz.sizeOf4
  v4 := Tryz.zeroValue4
  t5 := Tryz.underlying5
  a5 := Tryz.isAgg5
  z5 := Tryz.sizeOf5
  v5 := Tryz.zeroValue5
  t9 := Tryz.underlying9
  a9 := Tryz.isAgg9
  z9 := Tryz.sizeOf9
  v9 := Tryz.zeroValue9
  t22 := Tryz.underlying22
  a22 := Tryz.isAgg22
  z22 := Tryz.sizeOf22
  v22 := Tryz.zeroValue22
  t25 := Tryz.underlying98
  a25 := Tryz.isAgg98
  z25 := Tryz.sizeOf98
  v25 := Tryz.zeroValue98
  t39 := Tryz.underlying115
  a39 := Tryz.isAgg115
  z39 := Tryz.sizeOf115
  v39 := Tryz.zeroValue115
  t45 := Tryz.underlying207
  a45 := Tryz.isAgg207
  z45 := Tryz.sizeOf207
  v45 := Tryz.zeroValue207
  t46 := Tryz.underlying208
  a46 := Tryz.isAgg208
  z46 := Tryz.sizeOf208
  v46 := Tryz.zeroValue208
  t50 := Tryz.underlying212
  a50 := Tryz.isAgg212
  z50 := Tryz.sizeOf212
  v50 := Tryz.zeroValue212
  t53 := Tryz.underlying160
  a53 := Tryz.isAgg160
  z53 := Tryz.sizeOf160
  v53 := Tryz.zeroValue160
  t55 := Tryz.underlying161
  a55 := Tryz.isAgg161
  z55 := Tryz.sizeOf161
  v55 := Tryz.zeroValue161
  t66 := Tryz.underlying224
  a66 := Tryz.isAgg224
  z66 := Tryz.sizeOf224
  v66 := Tryz.zeroValue224
  t70 := Tryz.underlying228
  a70 := Tryz.isAgg228
  z70 := Tryz.sizeOf228
  v70 := Tryz.zeroValue228
  t76 := Tryz.underlying238
  a76 := Tryz.isAgg238
  z76 := Tryz.sizeOf238
  v76 := Tryz.zeroValue238
  t77 := Tryz.underlying239
  a77 := Tryz.isAgg239
  z77 := Tryz.sizeOf239
  v77 := Tryz.zeroValue239 }
end Go.Proofs
