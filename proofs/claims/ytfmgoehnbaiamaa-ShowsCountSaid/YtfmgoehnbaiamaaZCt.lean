/-
  Merged: S19, S20.
-/
import Derived.Test.YtfmgoehnbaiamaaZS3
import Derived.Test.YtfmgoehnbaiamaaV3
import Derived.Test.YtfmgoehnbaiamaaSched4
-- A show put together, in any order.
open Go Go.RowKit Alm
namespace Go.Proofs.Ytfmgoehnbaiamaa
set_option maxRecDepth 100000 in
theorem build_sh (b0 b1 b2 b3 b4 b5 b6 b7 b8 b9 b10 b11 b12 b13 b14 b15 b16 b17 b18 b19 b20 b21 b22 b23 b24 b25 b26 b27 b28 b29 b30 b31 : UInt8) (a : Option Addr) (n c : Nat) (w : World) : (Instr.build 59 #[(0, .agg #[.int .u8 ((b0.toNat : Nat) : Int), .int .u8 ((b1.toNat : Nat) : Int), .int .u8 ((b2.toNat : Nat) : Int), .int .u8 ((b3.toNat : Nat) : Int), .int .u8 ((b4.toNat : Nat) : Int), .int .u8 ((b5.toNat : Nat) : Int), .int .u8 ((b6.toNat : Nat) : Int), .int .u8 ((b7.toNat : Nat) : Int), .int .u8 ((b8.toNat : Nat) : Int), .int .u8 ((b9.toNat : Nat) : Int), .int .u8 ((b10.toNat : Nat) : Int), .int .u8 ((b11.toNat : Nat) : Int), .int .u8 ((b12.toNat : Nat) : Int), .int .u8 ((b13.toNat : Nat) : Int), .int .u8 ((b14.toNat : Nat) : Int), .int .u8 ((b15.toNat : Nat) : Int), .int .u8 ((b16.toNat : Nat) : Int), .int .u8 ((b17.toNat : Nat) : Int), .int .u8 ((b18.toNat : Nat) : Int), .int .u8 ((b19.toNat : Nat) : Int), .int .u8 ((b20.toNat : Nat) : Int), .int .u8 ((b21.toNat : Nat) : Int), .int .u8 ((b22.toNat : Nat) : Int), .int .u8 ((b23.toNat : Nat) : Int), .int .u8 ((b24.toNat : Nat) : Int), .int .u8 ((b25.toNat : Nat) : Int), .int .u8 ((b26.toNat : Nat) : Int), .int .u8 ((b27.toNat : Nat) : Int), .int .u8 ((b28.toNat : Nat) : Int), .int .u8 ((b29.toNat : Nat) : Int), .int .u8 ((b30.toNat : Nat) : Int), .int .u8 ((b31.toNat : Nat) : Int)]), (1, .slice a n c)]).run Try.prog w = .ok (.agg #[.int .u8 ((b0.toNat : Nat) : Int), .int .u8 ((b1.toNat : Nat) : Int), .int .u8 ((b2.toNat : Nat) : Int), .int .u8 ((b3.toNat : Nat) : Int), .int .u8 ((b4.toNat : Nat) : Int), .int .u8 ((b5.toNat : Nat) : Int), .int .u8 ((b6.toNat : Nat) : Int), .int .u8 ((b7.toNat : Nat) : Int), .int .u8 ((b8.toNat : Nat) : Int), .int .u8 ((b9.toNat : Nat) : Int), .int .u8 ((b10.toNat : Nat) : Int), .int .u8 ((b11.toNat : Nat) : Int), .int .u8 ((b12.toNat : Nat) : Int), .int .u8 ((b13.toNat : Nat) : Int), .int .u8 ((b14.toNat : Nat) : Int), .int .u8 ((b15.toNat : Nat) : Int), .int .u8 ((b16.toNat : Nat) : Int), .int .u8 ((b17.toNat : Nat) : Int), .int .u8 ((b18.toNat : Nat) : Int), .int .u8 ((b19.toNat : Nat) : Int), .int .u8 ((b20.toNat : Nat) : Int), .int .u8 ((b21.toNat : Nat) : Int), .int .u8 ((b22.toNat : Nat) : Int), .int .u8 ((b23.toNat : Nat) : Int), .int .u8 ((b24.toNat : Nat) : Int), .int .u8 ((b25.toNat : Nat) : Int), .int .u8 ((b26.toNat : Nat) : Int), .int .u8 ((b27.toNat : Nat) : Int), .int .u8 ((b28.toNat : Nat) : Int), .int .u8 ((b29.toNat : Nat) : Int), .int .u8 ((b30.toNat : Nat) : Int), .int .u8 ((b31.toNat : Nat) : Int), .slice a n c]) w := by kernel_rfl
theorem build_show (which : Sum) (ad : Option Addr) (n c : Nat) (w : World) : (Instr.build 59 #[(0, sv which), (1, .slice ad n c)]).run Try.prog w = .ok (shV which (.slice ad n c)) w := by
  obtain ⟨b0, b1, b2, b3, b4, b5, b6, b7, b8, b9, b10, b11, b12, b13, b14, b15, b16, b17, b18, b19, b20, b21, b22, b23, b24, b25, b26, b27, b28, b29, b30, b31, h⟩ := list32x which.toList (by simp)
  have h1 : cellsOf which = [.int .u8 ((b0.toNat : Nat) : Int), .int .u8 ((b1.toNat : Nat) : Int), .int .u8 ((b2.toNat : Nat) : Int), .int .u8 ((b3.toNat : Nat) : Int), .int .u8 ((b4.toNat : Nat) : Int), .int .u8 ((b5.toNat : Nat) : Int), .int .u8 ((b6.toNat : Nat) : Int), .int .u8 ((b7.toNat : Nat) : Int), .int .u8 ((b8.toNat : Nat) : Int), .int .u8 ((b9.toNat : Nat) : Int), .int .u8 ((b10.toNat : Nat) : Int), .int .u8 ((b11.toNat : Nat) : Int), .int .u8 ((b12.toNat : Nat) : Int), .int .u8 ((b13.toNat : Nat) : Int), .int .u8 ((b14.toNat : Nat) : Int), .int .u8 ((b15.toNat : Nat) : Int), .int .u8 ((b16.toNat : Nat) : Int), .int .u8 ((b17.toNat : Nat) : Int), .int .u8 ((b18.toNat : Nat) : Int), .int .u8 ((b19.toNat : Nat) : Int), .int .u8 ((b20.toNat : Nat) : Int), .int .u8 ((b21.toNat : Nat) : Int), .int .u8 ((b22.toNat : Nat) : Int), .int .u8 ((b23.toNat : Nat) : Int), .int .u8 ((b24.toNat : Nat) : Int), .int .u8 ((b25.toNat : Nat) : Int), .int .u8 ((b26.toNat : Nat) : Int), .int .u8 ((b27.toNat : Nat) : Int), .int .u8 ((b28.toNat : Nat) : Int), .int .u8 ((b29.toNat : Nat) : Int), .int .u8 ((b30.toNat : Nat) : Int), .int .u8 ((b31.toNat : Nat) : Int)] := by unfold cellsOf; rw [h]; rfl
  show (Instr.build 59 #[(0, .agg (cellsOf which).toArray), (1, .slice ad n c)]).run Try.prog w = .ok (.agg (cellsOf which ++ [Value.slice ad n c]).toArray) w
  rw [h1]
  exact build_sh b0 b1 b2 b3 b4 b5 b6 b7 b8 b9 b10 b11 b12 b13 b14 b15 b16 b17 b18 b19 b20 b21 b22 b23 b24 b25 b26 b27 b28 b29 b30 b31 _ _ _ w
theorem exec_build_show {f : Operand → Value} {o : Oper} (parts : Array (Nat × Operand)) (ho : o.op = .build 59 parts) (which : Sum) (ad : Option Addr) (n c : Nat) (hp : (parts.toList.map fun (i, y) => (i, f y)) = [(0, sv which), (1, .slice ad n c)]) (W : World) :
    (execOp f o).run Try.prog W = .ok (.value (shV which (.slice ad n c))) W := by
  have : (parts.map fun (i, y) => (i, f y)) = #[(0, sv which), (1, .slice ad n c)] := by
    apply Array.toList_inj.1
    rw [Array.toList_map]; exact hp
  unfold execOp
  simp only [ho, Sem.run_bind, Sem.run_pure, Result.andThen_ok, this, build_show which ad n c W]
theorem wp_store_show {op : Oper} {a : Act} {w : World} {K : Act → World → Prop} {Q : Exit → Act → World → Prop} (x y : Operand) (ho : op.op = .store 59 x y)
    (b o : Nat) (which : Sum) (v : Value) (hv : v.oneCell' = true) (hx : a.eval x = .pointer (some ⟨b, o, none⟩)) (hy : a.eval y = shV which v) (ht : w.there b o 33) (h : K (a.put op.dst undef) (w.setCells b o (cellsShow which v))) : op.wp Try.prog a w K Q := by
  have hsz : (cellsShow which v).toArray.size = 33 := by rw [List.size_toArray, length_cellsShow]
  exact wp_store_mid _ x y ho b o _ hx hy (by rw [hsz]; exact ht) (by rw [hsz]; exact infoShow) (one_cellsShow which hv) h
theorem own_one {w : World} {base : Nat} {e : TypeId} {size : Nat} {v : Value} {n : Nat} {xs : List Value} (h : w.ownsRow base e size v n xs) : v.oneCell' = true := by
  rcases h.2 with ⟨rfl, _⟩ | ⟨g, cap, cur, rfl, _⟩ <;> rfl
/-- append(nil, s...) of sums. -/
theorem wp_app_nil_sums {w : World} {o : Oper} {a : Act} {K : Act → World → Prop} {Q : Exit → Act → World → Prop} (s x : Operand)
    (ho : o.op = .call { callee := .builtin .append, args := #[s, x], argTypes := #[57, 57] }) (hs : a.eval s = .slice none 0 0) (v : Value) (S : List Sum) (hx : a.eval x = v) (hv : SumsAt w v S) (hl : S.length < 4000000000) (base : Nat) (hB : base ≤ w.heap.size)
    (h : ∀ (v' : Value) (w' : World), w'.ownsRow base 29 32 v' S.length (cellsAll S) → Below w.heap.size w w' → (∀ g, v'.ownBlock = some g → g = w.heap.size) → K (a.put o.dst v') w') : o.wp Try.prog a w K Q := by
  obtain ⟨i0, z0, hi0, _, _, _, _⟩ := info_sum
  obtain ⟨ad, cap, rfl, h1, h2, h3⟩ := hv
  by_cases hb : S = []
  · subst hb
    have hrun : (Builtin.append_ #[57, 57] o.type #[.slice none 0 0, .slice ad 0 cap]).run Try.prog w = .ok (.slice none 0 0) w := by
      cases ad <;> simp [Builtin.append_, run_underlying Try.underlying57, sizeOf, typeInfo, hi0, Builtin.lenOf, Builtin.firstCells, loadCells, loadCellsFrom]
    unfold Oper.wp
    simp [execOp, ho, resolve, invoke, builtin, hs, hx, hrun, Result.andThen]
    exact h _ w (World.ownsRow_nil _ _ _ _) (Below.refl _ _) (fun g hg => by cases hg)
  · obtain ⟨b, off, rfl, hr⟩ := h3.resolve_left hb
    refine wp_append_sums s x ho base (.slice none 0 0) [] S 0 S.length rfl rfl hs (World.ownsRow_nil _ _ _ _) b off cap hx hr (List.length_pos_iff.2 hb) (by omega) hB ?_
    intro g' cap' w' ho' hg' hat _
    rw [Nat.zero_add, List.nil_append] at ho'
    rw [Nat.zero_add]
    refine h _ w' ho' (Keeps.below (B := w.heap.size) (Keeps.of_grown (X := fun _ => False) hg' (fun k hk => by cases hk)) (Nat.le_refl _) (fun _ h => h.elim)) (fun q hq => ?_)
    simp only [Value.ownBlock, Option.some.injEq] at hq
    rw [← hq]
    rcases hat with h | h
    · cases h
    · exact h
def pt (b : Bool) (a : Act) (t : Nat) (x : Value) : Act := if b = true then a.put (some t) x else a
/-- What stands while a show is put together. -/
structure CI (V W : World) (S : List Sum) (mo : Sum) (d4 d6 d7 d9 : Bool) (x4 x6 x7 x9 : Value) : Prop where
  bw : Below V.heap.size V W
  i4 : d4 = true → d7 = false → W.ownsRow V.heap.size 29 32 x4 S.length (cellsAll S)
  i6 : d6 = true → d7 = false → ∃ g, x6 = .slice (some ⟨g, 0, none⟩) 1 1 ∧ W.rangeAt g 0 (cellsOf mo)
  i7 : d7 = true → W.ownsRow V.heap.size 29 32 x7 (S.length + 1) (cellsAll (S ++ [mo]))
  i9 : d9 = true → ∃ g, x9 = .pointer (some ⟨g, 0, none⟩) ∧ W.there g 0 33 ∧ V.heap.size ≤ g ∧ (d4 = true → d7 = false → ∀ k, x4.ownBlock = some k → k ≠ g) ∧ (d7 = true → ∀ k, x7.ownBlock = some k → k ≠ g)
theorem CI.t4 {V W W' : World} {S : List Sum} {mo : Sum} {d6 d7 d9 : Bool} {x4 x6 x7 x9 v : Value} (h : CI V W S mo false d6 d7 d9 x4 x6 x7 x9) (ho : W'.ownsRow V.heap.size 29 32 v S.length (cellsAll S)) (hb : Below W.heap.size W W') (hg : ∀ g, v.ownBlock = some g → g = W.heap.size) : CI V W' S mo true d6 d7 d9 v x6 x7 x9 :=
  have kk := Keeps.of_below (X := fun _ => False) hb
  ⟨h.bw.trans (hb.mono h.bw.size), fun _ _ => ho, fun h1 h2 => by obtain ⟨g, e, r⟩ := h.i6 h1 h2; exact ⟨g, e, kk.range r (fun h => h)⟩, fun h1 => kk.owns (h.i7 h1) (fun _ _ h => h), fun h1 => by
    obtain ⟨g, e, t, l, _, r⟩ := h.i9 h1
    exact ⟨g, e, kk.there t (by decide) (fun h => h), l, fun _ _ k hk => by have := hg k hk; have := there_lt t (by decide); omega, r⟩⟩
theorem CI.t6 {V W W' : World} {S : List Sum} {mo : Sum} {d4 d7 d9 : Bool} {x4 x6 x7 x9 : Value} (h : CI V W S mo d4 false d7 d9 x4 x6 x7 x9) (hb : Below W.heap.size W W') {g : Nat} (hr : W'.rangeAt g 0 (cellsOf mo)) : CI V W' S mo d4 true d7 d9 x4 (.slice (some ⟨g, 0, none⟩) 1 1) x7 x9 :=
  have kk := Keeps.of_below (X := fun _ => False) hb
  ⟨h.bw.trans (hb.mono h.bw.size), fun h1 h2 => kk.owns (h.i4 h1 h2) (fun _ _ h => h), fun _ _ => ⟨g, rfl, hr⟩, fun h1 => kk.owns (h.i7 h1) (fun _ _ h => h), fun h1 => by
    obtain ⟨g, e, t, l, q, r⟩ := h.i9 h1
    exact ⟨g, e, kk.there t (by decide) (fun h => h), l, q, r⟩⟩
theorem CI.t9 {V W : World} {S : List Sum} {mo : Sum} {d4 d6 d7 : Bool} {x4 x6 x7 x9 : Value} (h : CI V W S mo d4 d6 d7 false x4 x6 x7 x9) {C : Array Value} {t : TypeId} (hC : C.size = 33) : CI V (W.alloc (.cells C t)) S mo d4 d6 d7 true x4 x6 x7 (.pointer (some ⟨W.heap.size, 0, none⟩)) :=
  have hb : Below W.heap.size W (W.alloc (.cells C t)) := al (Below.refl _ _) _
  have kk := Keeps.of_below (X := fun _ => False) hb
  ⟨h.bw.trans (hb.mono h.bw.size), fun h1 h2 => kk.owns (h.i4 h1 h2) (fun _ _ h => h), fun h1 h2 => by obtain ⟨g, e, r⟩ := h.i6 h1 h2; exact ⟨g, e, kk.range r (fun h => h)⟩, fun h1 => kk.owns (h.i7 h1) (fun _ _ h => h), fun _ =>
    ⟨W.heap.size, rfl, by rw [← hC]; exact there_new _ _ _, h.bw.size, fun h1 h2 k hk => by have := own_lt (h.i4 h1 h2) hk; omega, fun h1 k hk => by have := own_lt (h.i7 h1) hk; omega⟩⟩
theorem CI.t7 {V W W' : World} {S : List Sum} {mo : Sum} {d9 : Bool} {x4 x6 x7 x9 : Value} {g cap : Nat} (h : CI V W S mo true true false d9 x4 x6 x7 x9) (ho : W'.ownsRow V.heap.size 29 32 (.slice (some ⟨g, 0, none⟩) (S.length + 1) cap) (S.length + 1) (cellsAll (S ++ [mo]))) (hg : W.grownBy W' x4.ownBlock) (hat : x4.ownBlock = some g ∨ g = W.heap.size) : CI V W' S mo true true true d9 x4 x6 (.slice (some ⟨g, 0, none⟩) (S.length + 1) cap) x9 :=
  have kk := Keeps.of_grown (X := fun i => x4.ownBlock = some i) hg (fun k hk => hk)
  ⟨h.bw.trans (kk.below h.bw.size (fun i hi => own_base (h.i4 rfl rfl) i hi)), fun _ h => (by cases h), fun _ h => (by cases h), fun _ => ho, fun h1 => by
    obtain ⟨q, e, t, l, q4, _⟩ := h.i9 h1
    refine ⟨q, e, kk.there t (by decide) (fun hx => q4 rfl rfl q hx rfl), l, fun _ h => (by cases h), fun _ k hk => ?_⟩
    simp only [Value.ownBlock, Option.some.injEq] at hk
    rw [← hk]
    rcases hat with h | h
    · exact q4 rfl rfl g h
    · have := there_lt t (by decide)
      omega⟩
def FI (V : World) (S : List Sum) (mo which : Sum) (a0 : Act) (b4 b6 b7 b8 b9 : Bool) (a' : Act) (W : World) : Prop :=
  ∃ x4 x6 x7 x8 x9, a' = pt b9 (pt b8 (pt b7 (pt b6 (pt b4 a0 44 x4) 46 x6) 47 x7) 48 x8) 13 x9 ∧ CI V W S mo b4 b6 b7 b9 x4 x6 x7 x9 ∧ (b8 = true → b7 = true ∧ x8 = shV which x7)
theorem wp_build_show {op : Oper} {a : Act} {w : World} {K : Act → World → Prop} {Q : Exit → Act → World → Prop} (parts : Array (Nat × Operand)) (ho : op.op = .build 59 parts) (which : Sum) (ad : Option Addr) (n c : Nat) (hp : (parts.toList.map fun (i, y) => (i, a.eval y)) = [(0, sv which), (1, .slice ad n c)])
    (h : K (a.put op.dst (shV which (.slice ad n c))) w) : op.wp Try.prog a w K Q := by
  have hr := exec_build_show (f := a.eval) parts ho which ad n c hp w
  unfold Oper.wp
  rw [hr]
  exact h
theorem alloc_show (w : World) : (Instr.alloc 59 true (.tuple #[])).run Try.prog w = .ok (.pointer (some ⟨w.heap.size, 0, none⟩)) (w.alloc (.cells (cellsShow zeroSum (.slice none 0 0)).toArray 59)) := by kernel_rfl
theorem wp_alloc_show {op : Oper} {a : Act} {w : World} {K : Act → World → Prop} {Q : Exit → Act → World → Prop} (ho : op.op = .alloc 59)
    (h : K (a.put op.dst (.pointer (some ⟨w.heap.size, 0, none⟩))) (w.alloc (.cells (cellsShow zeroSum (.slice none 0 0)).toArray 59))) : op.wp Try.prog a w K Q := by
  unfold Oper.wp
  simp only [execOp, ho, Sem.run_bind, Sem.run_pure, Result.andThen_ok, alloc_show, Result.andThen]
  exact h
theorem fork8 {md : Region.Mode} {SS : World → Prop} {l : List Oper} {Q : Exit → Act → World → Prop} {r : List MvU} {a : Act} {V : World} (S : List Sum) (mo which : Sum) (hV : ∀ W, Below V.heap.size V W → SS W)
    (h4 : ∀ b6 b7 b8 b9 a' W, FI V S mo which a false b6 b7 b8 b9 a' W → wpOp Try.prog l.toArray Q 4 (FI V S mo which a true b6 b7 b8 b9) a' W)
    (h6 : ∀ b4 b7 b8 b9 a' W, FI V S mo which a b4 false b7 b8 b9 a' W → wpOp Try.prog l.toArray Q 6 (FI V S mo which a b4 true b7 b8 b9) a' W)
    (h7 : ∀ b8 b9 a' W, FI V S mo which a true true false b8 b9 a' W → wpOp Try.prog l.toArray Q 7 (FI V S mo which a true true true b8 b9) a' W)
    (h8 : ∀ b9 a' W, FI V S mo which a true true true false b9 a' W → wpOp Try.prog l.toArray Q 8 (FI V S mo which a true true true true b9) a' W)
    (h9 : ∀ b4 b6 b7 b8 a' W, FI V S mo which a b4 b6 b7 b8 false a' W → wpOp Try.prog l.toArray Q 9 (FI V S mo which a b4 b6 b7 b8 true) a' W)
    (he : ∀ a' W, FI V S mo which a true true true true true a' W → wpU Try.prog md l.toArray Q SS r a' W) : wpU Try.prog md l.toArray Q SS (.n [4, 6, 7, 8, 9] [(7, [4, 6]), (8, [4, 6, 7])] true :: r) a V := by
  refine wpU_n (fun d a' W => FI V S mo which a (d 4) (d 6) (d 7) (d 8) (d 9) a' W) ⟨undef, undef, undef, undef, undef, rfl, ⟨Below.refl _ _, fun h => (by cases h), fun h => (by cases h), fun h => (by cases h), fun h => (by cases h)⟩, fun h => (by cases h)⟩ (fun d a w h => ?_) (fun i hi d a' W hd hx h => ?_) (fun d a' W hd h => ?_)
  · obtain ⟨_, _, _, _, _, _, hc, _⟩ := h
    exact hV _ hc.bw
  · simp only [List.mem_cons, List.not_mem_nil, or_false] at hi
    rcases hi with rfl | rfl | rfl | rfl | rfl
    · rw [hd] at h
      exact h4 _ _ _ _ _ _ h
    · rw [hd] at h
      exact h6 _ _ _ _ _ _ h
    · have e4 : d 4 = true := hx 4 (by decide)
      have e6 : d 6 = true := hx 6 (by decide)
      rw [hd, e4, e6] at h
      have := h7 _ _ _ _ h
      show wpOp _ _ _ _ (fun a' w' => FI V S mo which a (d 4) (d 6) true (d 8) (d 9) a' w') _ _
      rw [e4, e6]
      exact this
    · have e4 : d 4 = true := hx 4 (by decide)
      have e6 : d 6 = true := hx 6 (by decide)
      have e7 : d 7 = true := hx 7 (by decide)
      rw [hd, e4, e6, e7] at h
      have := h8 _ _ _ h
      show wpOp _ _ _ _ (fun a' w' => FI V S mo which a (d 4) (d 6) (d 7) true (d 9) a' w') _ _
      rw [e4, e6, e7]
      exact this
    · rw [hd] at h
      exact h9 _ _ _ _ _ _ h
  · rw [hd 4 (by simp), hd 6 (by simp), hd 7 (by simp), hd 8 (by simp), hd 9 (by simp)] at h
    exact he _ _ h
end Go.Proofs.Ytfmgoehnbaiamaa
-- Walk: ShowsCount.
open Go Go.RowKit Alm
namespace Go.Proofs.Ytfmgoehnbaiamaa
theorem get_len {l : List Keys.Pr} (h : Full l) (k : Sum) : (Keys.get l k).length ≤ 256 := by
  unfold Keys.get
  split
  · rename_i p hp
    exact (h p (List.mem_of_find?_eq_some hp)).2
  · simp
theorem wpU_load_sum {md : Region.Mode} {S : World → Prop} {ops : List Oper} {Q : Exit → Act → World → Prop} {r : List MvU} {a : Act} {w : World} {o : Oper} {i : Nat} (hS : S w) (ho : ops[i]? = some o) (hg : Region.wanted o (yielded ops.toArray a.tmps) = true) (x : Operand) (hop : o.op = .load 29 x) (b off : Nat) (hx : a.eval x = .pointer (some ⟨b, off, none⟩)) (s : Sum)
    (hc : ∀ W, S W → W.rangeAt b off (cellsOf s)) (h : wpU Try.prog md ops.toArray Q S r (a.put o.dst (sv s)) w) : wpU Try.prog md ops.toArray Q S (.s i :: r) a w :=
  wpU_load_mid hS ho hg _ x hop b off hx (cellsOf s) _ hc Try.underlying29 rfl (by rw [length_cellsOf]; exact infoSum) h
set_option maxRecDepth 100000 in
set_option maxHeartbeats 4000000 in
theorem showsCount_any (P : List Keys.Pr) (v : Value) (k : Sum) (mo : Sum) (w : World) (hv : PairsAt w v P) : Calls Try.prog 11 #[v, sv k, sv mo] w fun e w' => e = .returned (.bool true) ∧ Below w.heap.size w w' := by
  have hs1 : (w.alloc (.cells (cellsOf k).toArray 29)).heap.size = w.heap.size + 1 := Array.size_push _
  have hb0 := al (al (Below.refl _ w) (.cells (cellsOf k).toArray 29)) (.cells (cellsOf mo).toArray 29)
  have r1 := World.rangeAt_alloc (range_new w (cellsOf k).toArray 29 _ rfl) (.cells (cellsOf mo).toArray 29)
  have r2 := range_new (w.alloc (.cells (cellsOf k).toArray 29)) (cellsOf mo).toArray 29 _ rfl
  rw [hs1] at r2
  obtain ⟨z, hz⟩ : ∃ z, z = w.heap.size := ⟨_, rfl⟩
  obtain ⟨zm, hzm⟩ : ∃ z, z = w.heap.size + 1 := ⟨_, rfl⟩
  rw [← hz] at r1
  rw [← hzm] at r2
  have H0 := Lib.hid (And.intro hb0 (And.intro (And.intro r1 r2) (hv.below hb0)))
  have HZ := Lib.hid (And.intro hz hzm)
  clear r1 r2 hz hzm hs1
  clear hb0
  obtain ⟨a, cap, rfl, h1, h2⟩ := pairs_form hv
  obtain ⟨N, hN⟩ : ∃ N, N = P.length := ⟨_, rfl⟩
  rw [← hN] at H0 h1
  rw [← hN]
  have HN := Lib.hid hN
  clear hv hN h2
  go_enter Try.func11, Try.ntmps11
  go_wp2_with fail
  rw [← HZ.out.2, ← HZ.out.1]
  generalize (w.alloc (.cells (cellsOf k).toArray 29)).alloc (.cells (cellsOf mo).toArray 29) = W0 at *
  refine (great16_any P _ W0 H0.out.2.2).mono ?_
  rintro e W1 ⟨r, rfl, hr, hb⟩
  have HB1 := Lib.hid (H0.out.1.trans (hb.mono H0.out.1.size))
  have HR1 := Lib.hid (And.intro ((Keeps.of_below (X := fun _ => False) hb).range H0.out.2.1.1 (fun h => h)) (And.intro ((Keeps.of_below (X := fun _ => False) hb).range H0.out.2.1.2 (fun h => h)) (H0.out.2.2.below hb)))
  clear hb H0 HZ
  cases r with
  | true =>
    clear hr HR1
    go_wp2_with fail
    refine (alive16_any W1).mono ?_
    rintro e W2 ⟨rfl, hb2⟩
    have HB2 := Lib.hid (HB1.out.trans (hb2.mono HB1.out.size))
    clear hb2
    go_wp2_with fail
    exact bodyPost_ret (results_tmp rfl _ _ _) rfl ⟨rfl, HB2.out⟩
  | false =>
    have HP := Lib.hid (hr rfl)
    clear hr
    go_wp2_with fail
    refine (of16_any P _ W1 HR1.out.2.2 (by have := HP.out; omega)).mono ?_
    rintro e W2 ⟨p, b, l, x, rfl, hm, hp, _, hbb, _, hb⟩
    rw [← HN.out] at hm
    have H2 := Lib.hid (show LW w W2 p b N l [(z, k), (zm, mo)] [] [] from ⟨HB1.out.trans (hb.mono HB1.out.size), hm, by have := HB1.out.size; omega, fun q hq => by
      rcases List.mem_cons.1 hq with rfl | hq
      · exact (Keeps.of_below (X := fun _ => False) hb).range HR1.out.1 (fun h => h)
      · rw [List.mem_singleton.1 hq]; exact (Keeps.of_below (X := fun _ => False) hb).range HR1.out.2.1 (fun h => h), by simp, by simp⟩)
    have hl := puts_few hp HP.out
    have HL := Lib.hid (And.intro hp (And.intro hl (sides_few k hp HP.out)))
    clear hm hp hb HB1 HR1 hl hbb
    go_wp2_with (refine wpList_load_sum rfl _ rfl z 0 rfl k (H2.out.r (z, k) (by simp)) ?_)
    refine (mget_any k W2 p b N l H2.out.map).mono ?_
    rintro e W3 ⟨v3, rfl, hN3, hb⟩
    obtain ⟨bs3, hbs3⟩ : ∃ x, x = Keys.get (prs l) k := ⟨_, rfl⟩
    rw [← hbs3] at hN3
    have H3 := Lib.hid ((H2.out.below hb).addY hN3.1)
    have HBS := Lib.hid hbs3
    have hbl : bs3.length ≤ 256 := by
      rw [hbs3]
      exact get_len (vals_full H2.out.map) k
    have HBL := Lib.hid hbl
    clear hb hN3 H2 hbs3 hbl
    go_wp2_with (refine wpList_load_sum rfl _ rfl z 0 rfl k (H3.out.r (z, k) (by simp)) ?_)
    refine (sof_any k W3 p b N l H3.out.map (by have := HL.out.2.1; omega)).mono ?_
    rintro e W4 ⟨which, vS, rfl, hS4, hB4, hb⟩
    obtain ⟨S, hS⟩ : ∃ S, S = sidesOf (tells k 256 (prs l)) := ⟨_, rfl⟩
    have hcn := cnt_sides hB4
    have hsf := HL.out.2.2
    rw [← hS] at hcn hsf
    have hsm := hS4.sums
    rw [← hS] at hsm
    have HBT := Lib.hid (And.intro hS hB4)
    obtain ⟨aS, cS, rfl, hf1, hf2⟩ := sums_form hsm
    obtain ⟨M, hM⟩ : ∃ M, M = S.length := ⟨_, rfl⟩
    rw [← hM] at hcn hsf hf1 hsm
    rw [← hM]
    have H4 := Lib.hid (And.intro (H3.out.below hb) hsm)
    have HK := Lib.hid (And.intro hcn (And.intro hM (And.intro hsf hf2)))
    clear hS4 hB4 hb hcn hS hM H3 hsf hsm hf2
    have k1 : (M : Int) ≤ (cS : Int) := by omega
    have HG := Lib.hid trivial
    go_wp2_with (have _ := HG; refine wpList_var_show (by rfl) rfl _ _ rfl which (.slice aS M cS) (by rfl) rfl rfl ?_; intro W5 hb hr; obtain ⟨z9, hz9⟩ : ∃ x, x = W4.heap.size := ⟨_, rfl⟩; rw [← hz9] at hr ⊢; have H5 := Lib.hid ((H4.out.1.below hb).addS hr (H4.out.2.below hb (Nat.le_refl _))); clear HG hb hr hz9 H4)
    refine wp_region_schedU (fun V => LW w V p b N l [(z, k), (zm, mo)] [(v3, bs3)] [(z9, which, .slice aS M cS, S)]) [.t 0, .t 2, .s 1, .s 3, .s 5, .n [4, 6, 7, 8, 9] [(7, [4, 6]), (8, [4, 6, 7])] true, .e 10 false] (by kernel_rfl) (by kernel_rfl) (by intro c a d v w h; cases d <;> exact h) ?_
    have HS := Lib.hid (H5.out.below (Below.refl _ _).drew)
    clear H5
    generalize W5.drew = V at *
    iterate 2
      refine wpU_t rfl (v := ?_) (by rfl) (fun W => ?_) ?_
      rotate_left
      · go_simp
        try rfl
      try simp only [Act.put, List.setIfInBounds_toArray, List.set_cons_zero, List.set_cons_succ]
    refine wpU_load_sum (by exact HS.out) rfl (by rfl) _ (by rfl) z9 0 (by rfl) which (fun W hW => which_show (hW.s (z9, which, .slice aS M cS, S) (by simp)).1) ?_
    try simp only [Act.put, List.setIfInBounds_toArray, List.set_cons_zero, List.set_cons_succ]
    refine wpU_s (by exact HS.out) rfl (v := .slice aS M cS) (by rfl) (fun W hW => ?_) ?_
    · have g := cell_show (hW.s (z9, which, .slice aS M cS, S) (by simp)).1
      go_simp
    try simp only [Act.put, List.setIfInBounds_toArray, List.set_cons_zero, List.set_cons_succ]
    refine wpU_load_sum (by exact HS.out) rfl (by rfl) _ (by rfl) zm 0 (by rfl) mo (fun W hW => hW.r (zm, mo) (by simp)) ?_
    try simp only [Act.put, List.setIfInBounds_toArray, List.set_cons_zero, List.set_cons_succ]
    refine fork8 S mo which (fun W hb => HS.out.below hb) ?_ ?_ ?_ ?_ ?_ ?_
    · rintro b6 b7 b8 b9 a' W ⟨x4, x6, x7, x8, x9, rfl, hC, h8⟩
      cases b6 <;> cases b7 <;> cases b8 <;> cases b9 <;>
        (refine wpOp_of rfl (by rfl) (fun K hK => ?_)
         refine wp_app_nil_sums _ _ (by rfl) (by rfl) (.slice aS M cS) S (by rfl) ((HS.out.below hC.bw).s (z9, which, .slice aS M cS, S) (by simp)).2 (by have := HK.out; omega) V.heap.size hC.bw.size ?_
         intro v' w' ho hb hg
         exact hK _ _ ⟨v', x6, x7, x8, x9, by rfl, hC.t4 ho hb hg, h8⟩)
    · rintro b4 b7 b8 b9 a' W ⟨x4, x6, x7, x8, x9, rfl, hC, h8⟩
      cases b4 <;> cases b7 <;> cases b8 <;> cases b9 <;>
        (refine wpOp_of rfl (by rfl) (fun K hK => ?_)
         refine wp_build_sums 1 _ (by rfl) [mo] rfl (by omega) (by omega) (by rfl) ?_
         have hr : (W.alloc (.cells (cellsAll [mo]).toArray 29)).rangeAt W.heap.size 0 (cellsOf mo) := fun j u hj => range_new W (cellsAll [mo]).toArray 29 _ rfl j u (by rw [cellsAll_one]; exact hj)
         exact hK _ _ ⟨x4, _, x7, x8, x9, by rfl, hC.t6 (al (Below.refl _ W) _) hr, h8⟩)
    · rintro b8 b9 a' W ⟨x4, x6, x7, x8, x9, rfl, hC, h8⟩
      obtain ⟨g6, rfl, hr6⟩ := hC.i6 rfl rfl
      cases b8 <;> cases b9 <;>
        (refine wpOp_of rfl (by rfl) (fun K hK => ?_)
         refine wp_append_sums _ _ (by rfl) V.heap.size x4 S [mo] S.length 1 rfl rfl (by rfl) (hC.i4 rfl rfl) g6 0 1 (by rfl) (by rw [cellsAll_one]; exact hr6) (by omega) (by have := HK.out; omega) hC.bw.size ?_
         intro g cap w' ho hg hat _
         exact hK _ _ ⟨x4, _, _, x8, x9, by rfl, hC.t7 ho hg hat, fun h => by cases (h8 h).1⟩)
    · rintro b9 a' W ⟨x4, x6, x7, x8, x9, rfl, hC, h8⟩
      rcases (hC.i7 rfl).2 with ⟨_, h⟩ | ⟨g7, c7, cur, rfl, _⟩
      · omega
      cases b9 <;>
        (refine wpOp_of rfl (by rfl) (fun K hK => ?_)
         refine wp_build_show _ (by rfl) which (some ⟨g7, 0, none⟩) (S.length + 1) c7 (by rfl) ?_
         exact hK _ _ ⟨x4, x6, _, _, x9, by rfl, hC, fun _ => ⟨rfl, rfl⟩⟩)
    · rintro b4 b6 b7 b8 a' W ⟨x4, x6, x7, x8, x9, rfl, hC, h8⟩
      cases b4 <;> cases b6 <;> cases b7 <;> cases b8 <;>
        (refine wpOp_of rfl (by rfl) (fun K hK => ?_)
         refine wp_alloc_show (by rfl) ?_
         exact hK _ _ ⟨x4, x6, x7, x8, _, by rfl, hC.t9 (by rw [List.size_toArray, length_cellsShow]), h8⟩)
    · rintro a' W ⟨x4, x6, x7, x8, x9, rfl, hC, h8⟩
      obtain ⟨_, rfl⟩ := h8 rfl
      have ho7 := hC.i7 rfl
      obtain ⟨gX, rfl, ht, hge, _, hne⟩ := hC.i9 rfl
      have hne := hne rfl
      have hsm7 := sums_own (l := S ++ [mo]) (by rw [List.length_append, List.length_singleton]; exact ho7)
      rcases ho7.2 with ⟨_, h⟩ | ⟨g7, c7, cur, rfl, _⟩
      · omega
      rw [← HK.out.2.1] at hsm7 hC hne ho7 ⊢
      have hgn : g7 ≠ gX := hne g7 rfl
      have HF := Lib.hid (And.intro (HS.out.below hC.bw) (And.intro hsm7 (And.intro ht (And.intro hge (And.intro hgn hC.bw)))))
      clear hC ho7 hne hsm7 ht hge hgn
      simp only [pt, if_true]
      try simp only [Act.put, List.setIfInBounds_toArray, List.set_cons_zero, List.set_cons_succ]
      refine wpU_e rfl (by rfl) (fun K hK => ?_)
      refine wp_store_show _ _ (by rfl) gX 0 which (.slice (some ⟨g7, 0, none⟩) (M + 1) c7) (by rfl) (by rfl) (by rfl) HF.out.2.2.1 ?_
      have kk := keeps_setCells_ gX (cellsShow which (.slice (some ⟨g7, 0, none⟩) (M + 1) c7)) 0 W
      have hbv : Below V.heap.size V (W.setCells gX 0 (cellsShow which (.slice (some ⟨g7, 0, none⟩) (M + 1) c7))) := HF.out.2.2.2.2.2.trans (kk.below HF.out.2.2.2.2.2.size (fun i hi => by rw [hi]; exact HF.out.2.2.2.1))
      have hr := range_stored gX (cellsShow which (.slice (some ⟨g7, 0, none⟩) (M + 1) c7)) 0 W (by rw [length_cellsShow]; exact World.there_setCells HF.out.2.2.1 _ _ _)
      have hsm := kk.sums HF.out.2.1 (fun k hk => by
        simp only [Value.ownBlock, Option.some.injEq] at hk
        rw [← hk]; exact HF.out.2.2.2.2.1)
      have H8 := Lib.hid ((HS.out.below hbv).addS hr hsm)
      clear kk hbv hr hsm HF HS
      refine hK _ _ ?_; clear hK K
      try simp only [Act.put, List.setIfInBounds_toArray, List.set_cons_zero, List.set_cons_succ]
      change wpU _ _ _ _ _ _ _ (W.setCells gX 0 (cellsShow which (.slice (some ⟨g7, 0, none⟩) (M + 1) c7)))
      generalize W.setCells gX 0 (cellsShow which (.slice (some ⟨g7, 0, none⟩) (M + 1) c7)) = W9 at *
      refine wpU_done ?_
      have hck1 : checkOf (rootOf (prs l)) k bs3 which (S ++ [mo]) = false := by
        rw [Bool.eq_false_iff]
        intro h
        have h1 := check_count h
        have h2 := HK.out.1
        have h3 := HK.out.2.1
        simp at h1
        omega
      have HC1 := Lib.hid hck1
      clear hck1
      go_wp2_with fail
      refine wp_region_sched (fun V => LW w V p b N l [(z, k), (zm, mo)] [(v3, bs3)] [(gX, which, .slice (some ⟨g7, 0, none⟩) (M + 1) c7, S ++ [mo]), (z9, which, .slice aS M cS, S)]) [.t 0, .t 3, .s 2, .s 4, .e 1 true, .e 5 false] (by kernel_rfl) (by kernel_rfl) (by intro c a d v w h; cases d <;> exact h) ?_
      have HS := Lib.hid (H8.out.below (Below.refl _ _).drew)
      clear H8
      generalize W9.drew = V at *
      iterate 2
        refine wpS_t rfl (v := ?_) (by rfl) (fun W => ?_) ?_
        rotate_left
        · go_simp
          try rfl
        try simp only [Act.put, List.setIfInBounds_toArray, List.set_cons_zero, List.set_cons_succ]
      refine wpS_load_sum (by exact HS.out) rfl (by rfl) _ (by rfl) z 0 (by rfl) k (fun W hW => hW.r (z, k) (by simp)) ?_
      try simp only [Act.put, List.setIfInBounds_toArray, List.set_cons_zero, List.set_cons_succ]
      refine wpS_load_show (by exact HS.out) rfl (by rfl) _ (by rfl) gX 0 (by rfl) which (.slice (some ⟨g7, 0, none⟩) (M + 1) c7) (fun W hW => (hW.s (gX, which, .slice (some ⟨g7, 0, none⟩) (M + 1) c7, S ++ [mo]) (by simp)).1) ?_
      try simp only [Act.put, List.setIfInBounds_toArray, List.set_cons_zero, List.set_cons_succ]
      refine wpS_k rfl (by rfl) (fun K hK => ?_)
      go_simp
      refine (mroot_any V p b N l HS.out.map (by have := HL.out.2.1; omega)).mono ?_
      rintro e V2 ⟨rfl, hb⟩
      have HS2 := Lib.hid (HS.out.below hb)
      clear hb HS
      refine hK _ _ ⟨by exact HS2.out, ?_⟩; clear hK K
      try simp only [Act.put, List.setIfInBounds_toArray, List.set_cons_zero, List.set_cons_succ]
      refine wpS_e rfl (by rfl) (fun K hK => ?_)
      go_simp
      refine (scheck_any (rootOf (prs l)) k which v3 (.slice (some ⟨g7, 0, none⟩) (M + 1) c7) bs3 (S ++ [mo]) V2 (HS2.out.y (v3, bs3) (by simp)) (HS2.out.s (gX, which, .slice (some ⟨g7, 0, none⟩) (M + 1) c7, S ++ [mo]) (by simp)).2 (by have h1 := HK.out.2.1; have h2 := HK.out.2.2.1; simp; omega) (by have := HBL.out; omega)).mono ?_
      rw [HC1.out]
      rintro e V3 ⟨rfl, hb⟩
      have HS3 := Lib.hid (HS2.out.below hb)
      clear hb HS2 HC1
      refine hK _ _ ?_; clear hK K
      try simp only [Act.put, List.setIfInBounds_toArray, List.set_cons_zero, List.set_cons_succ]
      refine wpS_done ?_
      by_cases hM0 : M = 0
      · subst hM0
        go_wp2_with fail
        refine wp_region_sched (fun V => LW w V p b N l [(z, k), (zm, mo)] [(v3, bs3)] [(gX, which, .slice (some ⟨g7, 0, none⟩) (0 + 1) c7, S ++ [mo]), (z9, which, .slice aS 0 cS, S)]) [.e 0 true, .t 1, .t 2, .e 3 true, .t 4, .t 5, .t 6, .t 7, .t 10, .t 11, .t 13, .s 9, .s 12, .s 14, .t 15, .t 16, .e 8 true, .e 17 false, .t 18, .t 19, .t 20, .t 21] (by kernel_rfl) (by kernel_rfl) (by intro c a d v w h; cases d <;> exact h) ?_
        have HS4 := Lib.hid (HS3.out.below (Below.refl _ _).drew)
        clear HS3
        generalize V3.drew = V4 at *
        refine wpS_k rfl (by rfl) (fun K hK => ?_)
        go_simp
        refine (alive16_any V4).mono ?_
        rintro e V5 ⟨rfl, hb⟩
        have HS5 := Lib.hid (HS4.out.below hb)
        clear hb HS4
        refine hK _ _ ⟨by exact HS5.out, ?_⟩; clear hK K
        try simp only [Act.put, List.setIfInBounds_toArray, List.set_cons_zero, List.set_cons_succ]
        iterate 2
          refine wpS_t rfl (v := ?_) (by rfl) (fun W => ?_) ?_
          rotate_left
          · go_simp
            try rfl
          try simp only [Act.put, List.setIfInBounds_toArray, List.set_cons_zero, List.set_cons_succ]
        refine wpS_k rfl (by rfl) (fun K hK => ?_)
        have g := cell_show (HS5.out.s (z9, which, .slice aS 0 cS, S) (by simp)).1
        go_simp
        refine hK _ _ ⟨by exact HS5.out, ?_⟩; clear hK K
        try simp only [Act.put, List.setIfInBounds_toArray, List.set_cons_zero, List.set_cons_succ]
        clear g
        iterate 3
          refine wpS_t rfl (v := ?_) (by rfl) (fun W => ?_) ?_
          rotate_left
          · go_simp
            try rfl
          try simp only [Act.put, List.setIfInBounds_toArray, List.set_cons_zero, List.set_cons_succ]
        iterate 4
          refine wpS_t_skip rfl (by rfl) ?_
          try simp only [Act.put, List.setIfInBounds_toArray, List.set_cons_zero, List.set_cons_succ]
        iterate 3
          refine wpS_s_skip (by exact HS5.out) rfl (by rfl) ?_
          try simp only [Act.put, List.setIfInBounds_toArray, List.set_cons_zero, List.set_cons_succ]
        iterate 2
          refine wpS_t_skip rfl (by rfl) ?_
          try simp only [Act.put, List.setIfInBounds_toArray, List.set_cons_zero, List.set_cons_succ]
        refine wpS_k_skip (by exact HS5.out) rfl (by rfl) ?_
        try simp only [Act.put, List.setIfInBounds_toArray, List.set_cons_zero, List.set_cons_succ]
        refine wpS_e_skip rfl (by rfl) ?_
        try simp only [Act.put, List.setIfInBounds_toArray, List.set_cons_zero, List.set_cons_succ]
        iterate 1
          refine wpS_t_skip rfl (by rfl) ?_
          try simp only [Act.put, List.setIfInBounds_toArray, List.set_cons_zero, List.set_cons_succ]
        iterate 3
          refine wpS_t rfl (v := ?_) (by rfl) (fun W => ?_) ?_
          rotate_left
          · go_simp
            try rfl
          try simp only [Act.put, List.setIfInBounds_toArray, List.set_cons_zero, List.set_cons_succ]
        refine wpS_done ?_
        go_wp2_with fail
        exact bodyPost_ret (results_tmp rfl _ _ _) rfl ⟨rfl, HS5.out.bw⟩
      · have m1 : decide (M = 0) = false := by simpa using hM0
        have m1' : decide ((M : Int) = 0) = false := by simp; omega
        have m1'' : ((M : Int) == 0) = false := by rw [beq_eq_false_iff_ne]; omega
        obtain ⟨bS, oS, rfl⟩ : ∃ b o, aS = some ⟨b, o, none⟩ := by
          obtain ⟨a', c', he, _, _, h3⟩ := (HS3.out.s (z9, which, .slice aS M cS, S) (by simp)).2
          simp only [Value.slice.injEq] at he
          obtain ⟨rfl, -, -⟩ := he
          have hlen : M = S.length := HK.out.2.1
          obtain ⟨b', o', hb, _⟩ := h3.resolve_left (fun e => hM0 (by rw [hlen, show S = [] from e]; rfl))
          exact ⟨b', o', hb⟩
        have hck2 : checkOf (rootOf (prs l)) k bs3 which (S.drop 1) = false := by
          rw [Bool.eq_false_iff]
          intro h
          have h1 := check_count h
          have h2 := HK.out.1
          have h3 := HK.out.2.1
          simp at h1
          omega
        have HC2 := Lib.hid (And.intro hck2 hM0)
        have hM1 : (1 : Int) ≤ (M : Int) := by omega
        have hM1' : 1 ≤ M := by omega
        clear hck2 hM0
        go_wp2_with fail
        refine wp_region_sched (fun V => LW w V p b N l [(z, k), (zm, mo)] [(v3, bs3)] [(gX, which, .slice (some ⟨g7, 0, none⟩) (M + 1) c7, S ++ [mo]), (z9, which, .slice (some ⟨bS, oS, none⟩) M cS, S)]) [.e 0 true, .t 1, .t 2, .e 3 true, .t 4, .t 5, .t 6, .t 7, .t 10, .t 11, .t 13, .s 9, .s 12, .s 14, .t 15, .t 16, .e 8 true, .e 17 false, .t 18, .t 19, .t 20, .t 21] (by kernel_rfl) (by kernel_rfl) (by intro c a d v w h; cases d <;> exact h) ?_
        have HS4 := Lib.hid (HS3.out.below (Below.refl _ _).drew)
        clear HS3
        generalize V3.drew = V4 at *
        refine wpS_k rfl (by rfl) (fun K hK => ?_)
        go_simp
        refine (alive16_any V4).mono ?_
        rintro e V5 ⟨rfl, hb⟩
        have HS5 := Lib.hid (HS4.out.below hb)
        clear hb HS4
        refine hK _ _ ⟨by exact HS5.out, ?_⟩; clear hK K
        try simp only [Act.put, List.setIfInBounds_toArray, List.set_cons_zero, List.set_cons_succ]
        iterate 2
          refine wpS_t rfl (v := ?_) (by rfl) (fun W => ?_) ?_
          rotate_left
          · go_simp
            try rfl
          try simp only [Act.put, List.setIfInBounds_toArray, List.set_cons_zero, List.set_cons_succ]
        refine wpS_k rfl (by rfl) (fun K hK => ?_)
        have g := cell_show (HS5.out.s (z9, which, .slice (some ⟨bS, oS, none⟩) M cS, S) (by simp)).1
        go_simp
        refine hK _ _ ⟨by exact HS5.out, ?_⟩; clear hK K
        try simp only [Act.put, List.setIfInBounds_toArray, List.set_cons_zero, List.set_cons_succ]
        clear g
        iterate 7
          refine wpS_t rfl (v := ?_) (by rfl) (fun W => ?_) ?_
          rotate_left
          · go_simp
            try rfl
          try simp only [Act.put, List.setIfInBounds_toArray, List.set_cons_zero, List.set_cons_succ]
        refine wpS_load_sum (by exact HS5.out) rfl (by rfl) _ (by rfl) z 0 (by rfl) k (fun W hW => hW.r (z, k) (by simp)) ?_
        try simp only [Act.put, List.setIfInBounds_toArray, List.set_cons_zero, List.set_cons_succ]
        refine wpS_load_sum (by exact HS5.out) rfl (by rfl) _ (by rfl) z9 0 (by rfl) which (fun W hW => which_show (hW.s (z9, which, .slice (some ⟨bS, oS, none⟩) M cS, S) (by simp)).1) ?_
        try simp only [Act.put, List.setIfInBounds_toArray, List.set_cons_zero, List.set_cons_succ]
        refine wpS_s (by exact HS5.out) rfl (v := .slice (some ⟨bS, oS, none⟩) M cS) (by rfl) (fun W hW => ?_) ?_
        · have g := cell_show (hW.s (z9, which, .slice (some ⟨bS, oS, none⟩) M cS, S) (by simp)).1
          go_simp
        try simp only [Act.put, List.setIfInBounds_toArray, List.set_cons_zero, List.set_cons_succ]
        obtain ⟨o2, ho2⟩ : ∃ o2, o2 = if cS = 1 then oS else oS + 32 := ⟨_, rfl⟩
        have HO2 := Lib.hid ho2
        clear ho2
        refine wpS_t rfl (v := .slice (some ⟨bS, o2, none⟩) (M - 1) (cS - 1)) (by rfl) (fun W => ?_) ?_
        · have ho2 := HO2.out
          by_cases hc : cS = 1
          · rw [if_pos hc] at ho2
            subst ho2
            go_simp
            try rfl
          · rw [if_neg hc] at ho2
            subst ho2
            go_simp
            try rfl
        try simp only [Act.put, List.setIfInBounds_toArray, List.set_cons_zero, List.set_cons_succ]
        refine wpS_t rfl (v := shV which (.slice (some ⟨bS, o2, none⟩) (M - 1) (cS - 1))) (by rfl) (fun W => exec_build_show _ rfl which (some ⟨bS, o2, none⟩) (M - 1) (cS - 1) (by rfl) W) ?_
        try simp only [Act.put, List.setIfInBounds_toArray, List.set_cons_zero, List.set_cons_succ]
        refine wpS_k rfl (by rfl) (fun K hK => ?_)
        go_simp
        refine (mroot_any V5 p b N l HS5.out.map (by have := HL.out.2.1; omega)).mono ?_
        rintro e V6 ⟨rfl, hb⟩
        have HS6 := Lib.hid (HS5.out.below hb)
        clear hb HS5
        refine hK _ _ ⟨by exact HS6.out, ?_⟩; clear hK K
        try simp only [Act.put, List.setIfInBounds_toArray, List.set_cons_zero, List.set_cons_succ]
        have hD : SumsAt V6 (.slice (some ⟨bS, o2, none⟩) (M - 1) (cS - 1)) (S.drop 1) := by
          obtain ⟨a', c', he, h1, h2, h3⟩ := (HS6.out.s (z9, which, .slice (some ⟨bS, oS, none⟩) M cS, S) (by simp)).2
          simp only [Value.slice.injEq] at he
          obtain ⟨rfl, -, rfl⟩ := he
          obtain ⟨b', o', hb', hr'⟩ := h3.resolve_left (fun e => HC2.out.2 (by rw [HK.out.2.1, show S = [] from e]; rfl))
          simp only [Option.some.injEq, Addr.mk.injEq, and_true] at hb'
          obtain ⟨rfl, rfl⟩ := hb'
          have hm : M = S.length := HK.out.2.1
          have h1' : S.length ≤ cS := h1
          by_cases hc : cS = 1
          · exact ⟨_, cS - 1, by rw [List.length_drop, ← hm], by rw [List.length_drop]; omega, by omega, .inl (List.drop_eq_nil_of_le (by omega))⟩
          · have ho2 := HO2.out
            rw [if_neg hc] at ho2
            have hx := sums_drop (k := 1) (cap := cS - 1) (l := S) hr' (by omega) (by omega) (by omega)
            rw [← hm] at hx
            rw [ho2]
            exact hx
        have HD := Lib.hid hD
        clear hD
        refine wpS_e rfl (by rfl) (fun K hK => ?_)
        go_simp
        refine (scheck_any (rootOf (prs l)) k which v3 (.slice (some ⟨bS, o2, none⟩) (M - 1) (cS - 1)) bs3 (S.drop 1) V6 (HS6.out.y (v3, bs3) (by simp)) HD.out (by have h1 := HK.out.2.1; have h2 := HK.out.2.2.1; simp; omega) (by have := HBL.out; omega)).mono ?_
        rw [HC2.out.1]
        rintro e V7 ⟨rfl, hb⟩
        have HS7 := Lib.hid (HS6.out.below hb)
        clear hb HS6 HD HC2
        refine hK _ _ ?_; clear hK K
        try simp only [Act.put, List.setIfInBounds_toArray, List.set_cons_zero, List.set_cons_succ]
        iterate 4
          refine wpS_t rfl (v := ?_) (by rfl) (fun W => ?_) ?_
          rotate_left
          · go_simp
            try rfl
          try simp only [Act.put, List.setIfInBounds_toArray, List.set_cons_zero, List.set_cons_succ]
        refine wpS_done ?_
        go_wp2_with fail
        exact bodyPost_ret (results_tmp rfl _ _ _) rfl ⟨rfl, HS7.out.bw⟩
end Go.Proofs.Ytfmgoehnbaiamaa
