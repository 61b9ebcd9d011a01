/-
  Walks: append of pairs; parts of a list of pairs.
-/
import Derived.Test.YtfmgoehnbaiamaaU16
open Go Go.RowKit Alm
namespace Go.Proofs.Ytfmgoehnbaiamaa
theorem one_cellsP (l : List PE) : ∀ v ∈ cellsP l, v.oneCell' = true := fun v hv => by
  unfold cellsP at hv
  obtain ⟨x, _, hx⟩ := List.mem_flatMap.1 hv
  exact one_encP x v hx
theorem pairs_own {W0 w : World} {base : Nat} {v : Value} {cs : List (PE × List UInt8)} {P : List Keys.Pr} (ho : w.ownsRow base 36 33 v cs.length (cellsP (cs.map Prod.fst))) (hE : ∀ c ∈ cs, BytesAt W0 (peV c.1) c.2) (hb : Below W0.heap.size W0 w) (hP : cs.map (fun c => (c.1.1, c.2)) = P) : PairsAt w v P := by
  have hl : P.length = cs.length := by rw [← hP, List.length_map]
  by_cases h0 : P = []
  · have hc : cs = [] := List.length_eq_zero_iff.1 (by rw [← hl, h0]; rfl)
    subst h0
    subst hc
    rcases ho.2 with ⟨rfl, _⟩ | ⟨g, cap, cur, rfl, _, _, hnc, hcm, _⟩
    · exact ⟨none, 0, [], rfl, Nat.le_refl _, by decide, rfl, (fun c hc => by cases hc), .inl rfl⟩
    · exact ⟨_, cap, [], rfl, hnc, hcm, rfl, (fun c hc => by cases hc), .inl rfl⟩
  · obtain ⟨g, cap, rfl, h1, h2, _, hr⟩ := own_range ho (by rw [← hl]; exact List.length_pos_iff.2 h0)
    exact ⟨_, cap, cs, by rw [hl], by rw [hl]; exact h1, h2, hP, fun c hc => bytes_below (hE c hc) hb (Nat.le_refl _), .inr ⟨g, 0, rfl, hr⟩⟩
theorem PairsAt.drop {w : World} {b o cap i : Nat} {P : List Keys.Pr} (h : PairsAt w (.slice (some ⟨b, o, none⟩) P.length cap) P) (hi : i ≤ P.length) : PairsAt w (.slice (some ⟨b, o + i * 33, none⟩) (P.length - i) (cap - i)) (P.drop i) := by
  obtain ⟨a, cap', cs, he, h1, h2, h3, h4, h5⟩ := h
  simp only [Value.slice.injEq, true_and] at he
  obtain ⟨rfl, rfl⟩ := he
  have hl : cs.length = P.length := by rw [← h3, List.length_map]
  refine ⟨_, cap - i, cs.drop i, by rw [List.length_drop], by rw [List.length_drop]; omega, by omega, by rw [List.map_drop, h3], fun c hc => h4 c (List.mem_of_mem_drop hc), ?_⟩
  by_cases h0 : P.drop i = []
  · exact .inl h0
  · right
    have hP : P ≠ [] := by intro e; rw [e] at h0; simp at h0
    obtain ⟨b', o', he, hr⟩ := h5.resolve_left hP
    simp only [Option.some.injEq, Addr.mk.injEq, and_true] at he
    obtain ⟨rfl, rfl⟩ := he
    refine ⟨_, _, rfl, ?_⟩
    have e : cellsP (cs.map Prod.fst) = cellsP ((cs.take i).map Prod.fst) ++ cellsP ((cs.drop i).map Prod.fst) := by
      rw [← cellsP_append, ← List.map_append, List.take_append_drop]
    rw [e] at hr
    have := (range_append.1 hr).2
    rw [length_cellsP, List.length_map, List.length_take, Nat.min_eq_left (by omega), Nat.mul_comm] at this
    exact this
theorem PairsAt.take {w : World} {a : Option Addr} {cap i : Nat} {P : List Keys.Pr} (h : PairsAt w (.slice a P.length cap) P) (hi : i ≤ P.length) : PairsAt w (.slice a i cap) (P.take i) := by
  obtain ⟨a', cap', cs, he, h1, h2, h3, h4, h5⟩ := h
  simp only [Value.slice.injEq, true_and] at he
  obtain ⟨rfl, rfl⟩ := he
  have hl : cs.length = P.length := by rw [← h3, List.length_map]
  have hi2 : (P.take i).length = i := by rw [List.length_take, Nat.min_eq_left hi]
  refine ⟨_, cap, cs.take i, by rw [hi2], by omega, by omega, by rw [List.map_take, h3], fun c hc => h4 c (List.mem_of_mem_take hc), ?_⟩
  by_cases h0 : P.take i = []
  · exact .inl h0
  · right
    have hP : P ≠ [] := by intro e; rw [e] at h0; simp at h0
    obtain ⟨b', o', rfl, hr⟩ := h5.resolve_left hP
    refine ⟨_, _, rfl, ?_⟩
    have e : cellsP (cs.map Prod.fst) = cellsP ((cs.take i).map Prod.fst) ++ cellsP ((cs.drop i).map Prod.fst) := by
      rw [← cellsP_append, ← List.map_append, List.take_append_drop]
    rw [e] at hr
    exact (range_append.1 hr).1
theorem run_app_pairs_none {w : World} {ty : TypeId} {base : Nat} {v : Value} {n : Nat} {xs : List Value} (hown : w.ownsRow base 36 33 v n xs) (ad : Option Addr) (c : Nat) : (Builtin.append_ #[22, 22] ty #[v, .slice ad 0 c]).run Try.prog w = .ok v w := by
  obtain ⟨i, z, hi, hz, h1, h2, h3⟩ := info_pair
  rcases hown.2 with ⟨rfl, rfl⟩ | ⟨g, cap, cur, rfl, _, _, hnc, _⟩
  · cases ad <;> simp [Builtin.append_, run_underlying Try.underlying22, sizeOf, typeInfo, hi, Builtin.lenOf, Builtin.firstCells, loadCells, loadCellsFrom]
  · cases ad <;> simp [Builtin.append_, run_underlying Try.underlying22, sizeOf, typeInfo, hi, Builtin.lenOf, Builtin.firstCells, loadCells, loadCellsFrom, hnc, storeCells]
theorem wp_app_pairs {W0 w : World} {o : Oper} {a : Act} {K : Act → World → Prop} {Q : Exit → Act → World → Prop} (s x : Operand)
    (ho : o.op = .call { callee := .builtin .append, args := #[s, x], argTypes := #[22, 22] })
    (hW0 : Below W0.heap.size W0 w) (v vx : Value) (cs : List (PE × List UInt8)) (xs : List Keys.Pr) (hs : a.eval s = v) (hown : w.ownsRow W0.heap.size 36 33 v cs.length (cellsP (cs.map Prod.fst))) (hE : ∀ c ∈ cs, BytesAt W0 (peV c.1) c.2)
    (hx : a.eval x = vx) (hl : PairsAt W0 vx xs) (hlen : cs.length + xs.length < 1000000)
    (h : ∀ (a' : Option Addr) (c' : Nat) (w' : World) (cs' : List (PE × List UInt8)), w'.ownsRow W0.heap.size 36 33 (.slice a' cs'.length c') cs'.length (cellsP (cs'.map Prod.fst)) → (∀ c ∈ cs', BytesAt W0 (peV c.1) c.2) → cs'.map (fun c => (c.1.1, c.2)) = cs.map (fun c => (c.1.1, c.2)) ++ xs → Below W0.heap.size W0 w' → K (a.put o.dst (.slice a' cs'.length c')) w') : o.wp Try.prog a w K Q := by
  obtain ⟨i, z, hi, hz, h1, h2, h3⟩ := info_pair
  by_cases h0 : xs = []
  · subst h0
    obtain ⟨ax, cx, cs0, rfl, _⟩ := hl
    have hform : ∃ a' c', v = .slice a' cs.length c' := by
      rcases hown.2 with ⟨rfl, e0⟩ | ⟨g, cap, cur, rfl, _⟩
      · exact ⟨none, 0, by rw [e0]⟩
      · exact ⟨_, _, rfl⟩
    obtain ⟨a', c', rfl⟩ := hform
    have hrun := run_app_pairs_none (ty := o.type) hown ax cx
    unfold Oper.wp
    simp [execOp, ho, resolve, invoke, builtin, hs, hx, hrun, Result.andThen]
    exact h a' c' w cs hown hE (by simp) hW0
  · obtain ⟨ax, cap, ds, rfl, g1, g2, g3, g4, g5⟩ := hl
    obtain ⟨b, off, rfl, hr⟩ := g5.resolve_left h0
    have hr' : w.rangeAt b off (cellsP (ds.map Prod.fst)) := (Keeps.of_below (X := fun _ => False) hW0).range hr (fun h => h)
    have hdl : ds.length = xs.length := by rw [← g3, List.length_map]
    refine wp_append_own w s x _ ho W0.heap.size _ i z 33 56 Try.underlying22 hi hz h1 h2 h3 (by omega) v cs.length _ hs hown ⟨b, off, none⟩ xs.length cap (cellsP (ds.map Prod.fst)) hx (by rw [length_cellsP, List.length_map, hdl, Nat.mul_comm]) (fun j u hj => by rw [Addr.add_mid]; exact hr' j u hj) (one_cellsP _) (by unfold maxLen; omega) (by omega) hW0.size ?_
    intro v' w' ho' hg _
    have e1 : cellsP (cs.map Prod.fst) ++ cellsP (ds.map Prod.fst) = cellsP ((cs ++ ds).map Prod.fst) := by rw [List.map_append, cellsP_append]
    have e2 : cs.length + xs.length = (cs ++ ds).length := by rw [List.length_append, hdl]
    rw [e1, e2] at ho'
    have hform : ∃ a' c', v' = .slice a' (cs ++ ds).length c' := by
      rcases ho'.2 with ⟨rfl, e0⟩ | ⟨g, cap, cur, rfl, _⟩
      · exact ⟨none, 0, by rw [e0]⟩
      · exact ⟨_, _, rfl⟩
    obtain ⟨a', c', rfl⟩ := hform
    refine h a' c' w' (cs ++ ds) ho' (fun c hc => ?_) (by rw [List.map_append, g3]) ?_
    · rcases List.mem_append.1 hc with hc | hc
      · exact hE c hc
      · exact g4 c hc
    · exact ((Keeps.of_below (X := fun k => W0.heap.size ≤ k) hW0).trans (Keeps.of_grown (X := fun k => W0.heap.size ≤ k) hg (fun k hk => own_base hown k hk))).below (Nat.le_refl _) (fun k h => h)
theorem wpList_app_pairs {W0 w : World} {ops : Array Oper} {rest : List Oper} {o : Oper} {a : Act} {Q : Exit → Act → World → Prop} (hgd : o.guard = none) (s x : Operand)
    (ho : o.op = .call { callee := .builtin .append, args := #[s, x], argTypes := #[22, 22] })
    (hW0 : Below W0.heap.size W0 w) (v vx : Value) (cs : List (PE × List UInt8)) (xs : List Keys.Pr) (hs : a.eval s = v) (hown : w.ownsRow W0.heap.size 36 33 v cs.length (cellsP (cs.map Prod.fst))) (hE : ∀ c ∈ cs, BytesAt W0 (peV c.1) c.2)
    (hx : a.eval x = vx) (hl : PairsAt W0 vx xs) (hlen : cs.length + xs.length < 1000000)
    (h : ∀ (a' : Option Addr) (c' : Nat) (w' : World) (cs' : List (PE × List UInt8)), w'.ownsRow W0.heap.size 36 33 (.slice a' cs'.length c') cs'.length (cellsP (cs'.map Prod.fst)) → (∀ c ∈ cs', BytesAt W0 (peV c.1) c.2) → cs'.map (fun c => (c.1.1, c.2)) = cs.map (fun c => (c.1.1, c.2)) ++ xs → Below W0.heap.size W0 w' → wpList Try.prog ops Q rest (a.put o.dst (.slice a' cs'.length c')) w') : wpList Try.prog ops Q (o :: rest) a w :=
  wpList_plain hgd fun _ hK => wp_app_pairs s x ho hW0 v vx cs xs hs hown hE hx hl hlen fun a' c' w' cs' h1 h2 h3 h4 => hK _ _ (h a' c' w' cs' h1 h2 h3 h4)
theorem pairs_nil (w : World) (base : Nat) : w.ownsRow base 36 33 (.slice none 0 0) ([] : List (PE × List UInt8)).length (cellsP (([] : List (PE × List UInt8)).map Prod.fst)) := World.ownsRow_nil w base 36 33
end Go.Proofs.Ytfmgoehnbaiamaa
