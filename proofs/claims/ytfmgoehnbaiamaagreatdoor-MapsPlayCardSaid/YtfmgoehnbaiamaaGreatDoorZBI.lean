/-
  Joined: S5, S6, S7, S8, S9, S10, S11, S12.
-/
import Derived.Test.YtfmgoehnbaiamaaGreatDoorZBH
import Derived.Laws.CopyOwn
-- Walk: shows.told.tell.
open Go Go.RowKit Alm
namespace Go.Proofs.YtfmgoehnbaiamaaGreatDoor
/-- A sum with one bit more. -/
def setBit (k : Sum) (d : Nat) : Sum := Vector.ofFn fun i : Fin 32 => if i.1 = d / 8 then k[i] ||| UInt8.ofNat (2 ^ (7 - d % 8)) else k[i]
theorem setBit_get (k : Sum) (d j : Nat) (hj : j < 32) : (setBit k d).toList.getD j 0 = if j = d / 8 then k.toList.getD j 0 ||| UInt8.ofNat (2 ^ (7 - d % 8)) else k.toList.getD j 0 := by
  have e1 : (setBit k d).toList.getD j 0 = (setBit k d)[j] := by simp [List.getD_eq_getElem?_getD, hj]
  have e2 : k.toList.getD j 0 = k[j] := by simp [List.getD_eq_getElem?_getD, hj]
  rw [e1, e2]
  simp [setBit]
/-- What has been told so far. -/
structure ToldAt (W : World) (t : Nat) (which : Sum) (v : Value) (S : List Sum) (base : Nat) : Prop where
  row : W.rangeAt t 0 (cellsOf which ++ [v])
  th : W.there t 0 33
  own : W.ownsRow base 24 32 v S.length (cellsAll S)
  ne : ∀ g, v.ownBlock = some g → g ≠ t
theorem ToldAt.below {W W' : World} {t : Nat} {which : Sum} {v : Value} {S : List Sum} {base : Nat} (h : ToldAt W t which v S base) (hb : Below W.heap.size W W') : ToldAt W' t which v S base :=
  have kk := Keeps.of_below (X := fun _ => False) hb
  ⟨kk.range h.row (fun h => h), kk.there h.th (by decide) (fun h => h), kk.owns h.own (fun _ _ h => h), h.ne⟩
theorem ToldAt.byte {W : World} {t : Nat} {which : Sum} {v : Value} {S : List Sum} {base : Nat} (h : ToldAt W t which v S base) {i : Nat} (hi : i < 32) : W.cell? ⟨t, i, none⟩ = some (.int .u8 (((which.toList.getD i 0).toNat : Nat) : Int)) := by
  have := h.row i (u8v (which.toList.getD i 0)) (by rw [List.getElem?_append_left (by rw [length_cellsOf]; exact hi)]; exact cell_key which hi)
  rwa [Nat.zero_add] at this
theorem ToldAt.slice {W : World} {t : Nat} {which : Sum} {v : Value} {S : List Sum} {base : Nat} (h : ToldAt W t which v S base) : W.cell? ⟨t, 32, none⟩ = some v := by
  have := h.row 32 v (by rw [List.getElem?_append_right (by rw [length_cellsOf]; omega), length_cellsOf]; rfl)
  rwa [Nat.zero_add] at this
theorem there_setCell {W : World} {b o n : Nat} (h : W.there b o n) (c p : Nat) (x : Value) : (W.setCell ⟨c, p, none⟩ x).there b o n := by
  have := World.there_setCells h c p [x]
  exact this
theorem ToldAt.lt {W : World} {t : Nat} {which : Sum} {v : Value} {S : List Sum} {base : Nat} (h : ToldAt W t which v S base) : t < W.heap.size := there_lt h.th (by decide)
theorem ToldAt.mark {W : World} {t : Nat} {which : Sum} {v : Value} {S : List Sum} {base d C R : Nat} (h : ToldAt W t which v S base) (hd : d < 256) (hC : C = (which.toList.getD (d / 8) 0).toNat) (hR : R = (UInt8.ofNat C ||| UInt8.ofNat (2 ^ (7 - d % 8))).toNat) :
    ToldAt (W.setCell ⟨t, d / 8, none⟩ (.int .u8 (R : Int))) t (setBit which d) v S base := by
  have kk : Keeps (· = t) W (W.setCell ⟨t, d / 8, none⟩ (.int .u8 (R : Int))) := (Keeps.refl (· = t) W).setCell (p := ⟨t, d / 8, none⟩) (.inl rfl) _
  refine ⟨fun j u hj => ?_, there_setCell h.th _ _ _, kk.owns h.own (fun k hk e => h.ne k hk e), h.ne⟩
  have hl : (cellsOf (setBit which d)).length = 32 := length_cellsOf _
  by_cases hjd : j = d / 8
  · subst hjd
    rw [List.getElem?_append_left (by rw [hl]; omega), cell_key _ (by omega), Option.some.injEq] at hj
    rw [Nat.zero_add, World.cell?_setCell_same _ _ _ (h.byte (i := d / 8) (by omega)), ← hj, setBit_get which d (d / 8) (by omega), if_pos rfl, hR, hC, UInt8.ofNat_toNat]
    rfl
  · have hne : (⟨t, d / 8, none⟩ : Addr) ≠ ⟨t, 0 + j, none⟩ := fun e => hjd (by have := congrArg Addr.off e; simp at this; exact this.symm)
    rw [World.cell?_setCell_other _ _ _ _ hne]
    refine h.row j u ?_
    by_cases hj32 : j < 32
    · rw [List.getElem?_append_left (by rw [hl]; exact hj32), cell_key _ hj32, setBit_get which d j hj32, if_neg hjd] at hj
      rw [List.getElem?_append_left (by rw [length_cellsOf]; exact hj32), cell_key _ hj32]
      exact hj
    · rw [List.getElem?_append_right (by rw [hl]; omega), hl] at hj
      rw [List.getElem?_append_right (by rw [length_cellsOf]; omega), length_cellsOf]
      exact hj
/-- A list of sides, laid anew. -/
theorem ToldAt.lay {W : World} {t : Nat} {which : Sum} {v v' : Value} {S' : List Sum} {base : Nat} (h : W.rangeAt t 0 (cellsOf which ++ [v])) (ht : W.there t 0 33) (ho : W.ownsRow base 24 32 v' S'.length (cellsAll S')) (hne : ∀ g, v'.ownBlock = some g → g ≠ t) :
    ToldAt (W.setCell ⟨t, 32, none⟩ v') t which v' S' base := by
  have kk : Keeps (· = t) W (W.setCell ⟨t, 32, none⟩ v') := (Keeps.refl (· = t) W).setCell (p := ⟨t, 32, none⟩) (.inl rfl) _
  refine ⟨fun j u hj => ?_, there_setCell ht _ _ _, kk.owns ho (fun k hk e => hne k hk e), hne⟩
  have hl : (cellsOf which).length = 32 := length_cellsOf _
  by_cases hj32 : j = 32
  · subst hj32
    rw [List.getElem?_append_right (by rw [hl]; omega), hl] at hj
    simp only [Nat.sub_self, List.getElem?_cons_zero, Option.some.injEq] at hj
    have h0 := h 32 v (by rw [List.getElem?_append_right (by rw [hl]; omega), hl]; rfl)
    rw [Nat.zero_add] at h0 ⊢
    rw [World.cell?_setCell_same _ _ _ h0, hj]
  · have hne2 : (⟨t, 32, none⟩ : Addr) ≠ ⟨t, 0 + j, none⟩ := fun e => hj32 (by have := congrArg Addr.off e; simp at this; exact this.symm)
    rw [World.cell?_setCell_other _ _ _ _ hne2]
    refine h j u ?_
    have hjl : j < 32 := by
      have := (List.getElem?_eq_some_iff.1 hj).1
      rw [List.length_append, hl] at this
      simp at this
      omega
    rw [List.getElem?_append_left (by rw [hl]; exact hjl)] at hj ⊢
    exact hj
end Go.Proofs.YtfmgoehnbaiamaaGreatDoor
-- Walk: maps: Pairs, and that they stand in a row of their own.
namespace Go.Proofs.YtfmgoehnbaiamaaGreatDoor
open Go.Maps (Keyed)
end Go.Proofs.YtfmgoehnbaiamaaGreatDoor
-- Walk: shows.Of.
namespace Go.Proofs.YtfmgoehnbaiamaaGreatDoor
theorem ToldAt.new {W : World} {t : Nat} {which : Sum} {v : Value} {S : List Sum} (h : ToldAt W t which v S t) (hn : S = [] → v = .slice none 0 0) : SumsNew W (t + 1) v S := by
  rcases own_new' h.own hn with h1 | ⟨g, cap, rfl, h0, h1, h2, h3, h4, h5⟩
  · exact .inl h1
  · exact .inr ⟨g, cap, rfl, h0, h1, h2, by have := h.ne g rfl; omega, h4, h5⟩
/-- What the loop of Of has in hand. -/
structure OS (W0 W : World) (t : Nat) (k : Sum) (L0 : List Keys.Pr) (D : Nat) (v : Value) (Ld : List Keys.Pr) (which : Sum) (S : List Sum) (vS : Value) : Prop where
  bw : Below W0.heap.size W0 W
  prs : PairsAt W0 v Ld
  rise : Keys.Rise Ld
  near : Near k (256 - D) Ld
  full : Full Ld
  len : Ld.length < 100000
  told : ToldAt W t which vS S t
  nil : S = [] → vS = .slice none 0 0
  sides : sidesOf (tells k 256 L0) = S ++ sidesOf (tells k (256 - D) Ld)
  tl : (tells k 256 L0).drop D = tells k (256 - D) Ld
  bits : ∀ j, j < 256 → (Keys.kn which).testBit (255 - j) = (decide (j < D) && ((tells k 256 L0).getD j none).isSome)
theorem OS.below {W0 W W' : World} {t : Nat} {k : Sum} {L0 : List Keys.Pr} {D : Nat} {v : Value} {Ld : List Keys.Pr} {which : Sum} {S : List Sum} {vS : Value} (h : OS W0 W t k L0 D v Ld which S vS) (hb : Below W.heap.size W W') : OS W0 W' t k L0 D v Ld which S vS :=
  ⟨h.bw.trans (hb.mono h.bw.size), h.prs, h.rise, h.near, h.full, h.len, h.told.below hb, h.nil, h.sides, h.tl, h.bits⟩
end Go.Proofs.YtfmgoehnbaiamaaGreatDoor
-- Walk: shows.Check's last: the last side that is left.
namespace Go.Proofs.YtfmgoehnbaiamaaGreatDoor
/-- A variable of one cell. -/
def VarAt (W : World) (f : Nat) (x : Value) : Prop := W.rangeAt f 0 [x] ∧ W.there f 0 1
theorem VarAt.cell {W : World} {f : Nat} {x : Value} (h : VarAt W f x) : W.cell? ⟨f, 0, none⟩ = some x := h.1 0 x rfl
theorem VarAt.free {W : World} {f : Nat} {x : Value} (h : VarAt W f x) : W.frozen? ⟨f, 0, none⟩ = false := (h.2 0 (by decide)).2
theorem VarAt.keep {X : Nat → Prop} {W W' : World} {f : Nat} {x : Value} (h : VarAt W f x) (hk : Keeps X W W') (hx : ¬ X f) : VarAt W' f x := ⟨hk.range h.1 hx, hk.there h.2 (by decide) hx⟩
theorem VarAt.below {W W' : World} {f : Nat} {x : Value} (h : VarAt W f x) (hb : Below W.heap.size W W') : VarAt W' f x := h.keep (Keeps.of_below (X := fun _ => False) hb) (fun h => h)
theorem VarAt.set {W : World} {f : Nat} {x : Value} (h : VarAt W f x) (y : Value) : VarAt (W.setCell ⟨f, 0, none⟩ y) f y := by
  refine ⟨fun j u hj => ?_, there_setCell h.2 _ _ _⟩
  have hj0 : j = 0 := by have := (List.getElem?_eq_some_iff.1 hj).1; simpa using this
  subst hj0
  simp only [List.getElem?_cons_zero, Option.some.injEq] at hj
  rw [← hj]
  exact World.cell?_setCell_same _ _ _ h.cell
theorem VarAt.lt {W : World} {f : Nat} {x : Value} (h : VarAt W f x) : f < W.heap.size := there_lt h.2 (by decide)
end Go.Proofs.YtfmgoehnbaiamaaGreatDoor
-- Walk: shows.Check.
namespace Go.Proofs.YtfmgoehnbaiamaaGreatDoor
/-- What Check has in hand. -/
structure CW (w W : World) (z4 z5 z7 z9 z10 z12 z13 : Nat) (root k which : Sum) (fb : Bool) (vL : Value) (L : List Sum) (x e : Sum) : Prop where
  bw : Below w.heap.size w W
  r4 : W.rangeAt z4 0 (cellsOf root)
  r5 : W.rangeAt z5 0 (cellsOf k)
  r7 : W.rangeAt z7 0 (cellsOf which)
  f10 : VarAt W z10 (.bool fb)
  c9 : VarAt W z9 vL
  sL : SumsAt W vL L
  own : ∀ g, vL.ownBlock = some g → z7 < g ∧ g < z9
  r12 : W.rangeAt z12 0 (cellsOf x)
  t12 : W.there z12 0 32
  r13 : W.rangeAt z13 0 (cellsOf e)
  t13 : W.there z13 0 32
  ord : w.heap.size ≤ z4 ∧ z4 < z5 ∧ z5 < z7 ∧ z7 < z9 ∧ z9 < z10 ∧ z10 < z12 ∧ z12 < z13
theorem CW.below {w W W' : World} {z4 z5 z7 z9 z10 z12 z13 : Nat} {root k which : Sum} {fb : Bool} {vL : Value} {L : List Sum} {x e : Sum} (h : CW w W z4 z5 z7 z9 z10 z12 z13 root k which fb vL L x e) (hb : Below W.heap.size W W') : CW w W' z4 z5 z7 z9 z10 z12 z13 root k which fb vL L x e :=
  have kk := Keeps.of_below (X := fun _ => False) hb
  ⟨h.bw.trans (hb.mono h.bw.size), kk.range h.r4 (fun h => h), kk.range h.r5 (fun h => h), kk.range h.r7 (fun h => h), h.f10.below hb, h.c9.below hb, h.sL.below hb (Nat.le_refl _), h.own, kk.range h.r12 (fun h => h), kk.there h.t12 (by decide) (fun h => h), kk.range h.r13 (fun h => h), kk.there h.t13 (by decide) (fun h => h), h.ord⟩
theorem CW.last {w W W' : World} {z4 z5 z7 z9 z10 z12 z13 : Nat} {root k which : Sum} {fb fb' : Bool} {vL vL' : Value} {L L' : List Sum} {x e : Sum} (h : CW w W z4 z5 z7 z9 z10 z12 z13 root k which fb vL L x e)
    (h1 : VarAt W' z10 (.bool fb')) (h2 : VarAt W' z9 vL') (h3 : SumsAt W vL' L') (ho : ∀ g, vL'.ownBlock = some g → z7 < g ∧ g < z9) (hk : Keeps (fun i => i = z10 ∨ i = z9) W W') : CW w W' z4 z5 z7 z9 z10 z12 z13 root k which fb' vL' L' x e := by
  have o := h.ord
  exact ⟨h.bw.trans (hk.below h.bw.size (fun i hi => by omega)), hk.range h.r4 (by omega), hk.range h.r5 (by omega), hk.range h.r7 (by omega), h1, h2, hk.sums h3 (fun g hg hx => by have := ho g hg; omega), ho, hk.range h.r12 (by omega), hk.there h.t12 (by decide) (by omega), hk.range h.r13 (by omega), hk.there h.t13 (by decide) (by omega), o⟩
theorem CW.sides {w W : World} {z4 z5 z7 z9 z10 z12 z13 : Nat} {root k which : Sum} {fb : Bool} {vL : Value} {L : List Sum} {x e : Sum} (h : CW w W z4 z5 z7 z9 z10 z12 z13 root k which fb vL L x e) (x' e' : Sum) :
    CW w ((W.setCells z12 0 (cellsOf x')).setCells z13 0 (cellsOf e')) z4 z5 z7 z9 z10 z12 z13 root k which fb vL L x' e' := by
  have o := h.ord
  have k1 := keeps_setCells_ z12 (cellsOf x') 0 W
  have k2 := keeps_setCells_ z13 (cellsOf e') 0 (W.setCells z12 0 (cellsOf x'))
  have kk : Keeps (fun i => i = z12 ∨ i = z13) W ((W.setCells z12 0 (cellsOf x')).setCells z13 0 (cellsOf e')) := (k1.mono fun i hi => .inl hi).trans (k2.mono fun i hi => .inr hi)
  have t12 := World.there_setCells h.t12 z12 0 (cellsOf x')
  have t13 := World.there_setCells (k1.there h.t13 (by decide) (by omega)) z13 0 (cellsOf e')
  exact ⟨h.bw.trans (kk.below h.bw.size (fun i hi => by omega)), kk.range h.r4 (by omega), kk.range h.r5 (by omega), kk.range h.r7 (by omega), h.f10.keep kk (by omega), h.c9.keep kk (by omega), kk.sums h.sL (fun g hg hx => by have := h.own g hg; omega), h.own,
    k2.range (range_stored _ _ _ _ (by rw [length_cellsOf]; exact t12)) (by omega), k2.there t12 (by decide) (by omega), range_stored _ _ _ _ (by rw [length_cellsOf]; exact t13), t13, o⟩
theorem wpList_want {P : Program} {ops : Array Oper} {rest : List Oper} {o : Oper} {a : Act} {w : World} {Q : Exit → Act → World → Prop} (hw : Region.wanted o (yielded ops a.tmps) = true) (h : ∀ K : Act → World → Prop, (∀ a' w', wpList P ops Q rest a' w' → K a' w') → o.wp P a w K Q) : wpList P ops Q (o :: rest) a w := by
  unfold wpList
  rw [if_pos hw]
  exact .inl (h _ fun _ _ h => h)
theorem wpList_load_sum_g {ops : Array Oper} {rest : List Oper} {op : Oper} {a : Act} {w : World} {Q : Exit → Act → World → Prop} (hw : Region.wanted op (yielded ops a.tmps) = true) (x : Operand) (ho : op.op = .load 24 x)
    (b o : Nat) (hx : a.eval x = .pointer (some ⟨b, o, none⟩)) (s : Sum) (hc : w.rangeAt b o (cellsOf s)) (h : wpList Tryz.prog ops Q rest (a.put op.dst (sv s)) w) : wpList Tryz.prog ops Q (op :: rest) a w :=
  wpList_want hw fun K hK => wp_load_mid _ x ho b o hx (cellsOf s) _ hc Tryz.underlying24 rfl (by rw [length_cellsOf]; exact infoSum) (hK _ _ h)
theorem CW.apart {w W W' : World} {z4 z5 z7 z9 z10 z12 z13 z : Nat} {root k which : Sum} {fb : Bool} {vL : Value} {L : List Sum} {x e : Sum} (h : CW w W z4 z5 z7 z9 z10 z12 z13 root k which fb vL L x e) (hk : Keeps (· = z) W W') (hz : z13 < z) : CW w W' z4 z5 z7 z9 z10 z12 z13 root k which fb vL L x e := by
  have o := h.ord
  exact ⟨h.bw.trans (hk.below h.bw.size (fun i hi => by omega)), hk.range h.r4 (by omega), hk.range h.r5 (by omega), hk.range h.r7 (by omega), h.f10.keep hk (by omega), h.c9.keep hk (by omega), hk.sums h.sL (fun g hg hx => by have := h.own g hg; omega), h.own, hk.range h.r12 (by omega), hk.there h.t12 (by decide) (by omega), hk.range h.r13 (by omega), hk.there h.t13 (by decide) (by omega), o⟩
end Go.Proofs.YtfmgoehnbaiamaaGreatDoor
-- Walk: shows.Check.
namespace Go.Proofs.YtfmgoehnbaiamaaGreatDoor
end Go.Proofs.YtfmgoehnbaiamaaGreatDoor
-- Walk: shows.Check, whole.
namespace Go.Proofs.YtfmgoehnbaiamaaGreatDoor
/-- What Check has in hand ahead of its loop. -/
structure CV (w W : World) (z4 z5 z7 z9 : Nat) (root k which : Sum) (v0 : Value) (bs : List UInt8) (vL : Value) (L : List Sum) : Prop where
  bw : Below w.heap.size w W
  r4 : W.rangeAt z4 0 (cellsOf root)
  r5 : W.rangeAt z5 0 (cellsOf k)
  r7 : W.rangeAt z7 0 (cellsOf which)
  c9 : VarAt W z9 vL
  sL : SumsAt W vL L
  val : BytesAt W v0 bs
  own : ∀ g, vL.ownBlock = some g → z7 < g ∧ g < z9
  ord : w.heap.size ≤ z4 ∧ z4 < z5 ∧ z5 < z7 ∧ z7 < z9
theorem CV.below {w W W' : World} {z4 z5 z7 z9 : Nat} {root k which : Sum} {v0 : Value} {bs : List UInt8} {vL : Value} {L : List Sum} (h : CV w W z4 z5 z7 z9 root k which v0 bs vL L) (hb : Below W.heap.size W W') : CV w W' z4 z5 z7 z9 root k which v0 bs vL L :=
  have kk := Keeps.of_below (X := fun _ => False) hb
  ⟨h.bw.trans (hb.mono h.bw.size), kk.range h.r4 (fun h => h), kk.range h.r5 (fun h => h), kk.range h.r7 (fun h => h), h.c9.below hb, h.sL.below hb (Nat.le_refl _), bytes_below h.val hb (Nat.le_refl _), h.own, h.ord⟩
end Go.Proofs.YtfmgoehnbaiamaaGreatDoor
-- Walks: almonerref15.less, Put (that it comes to an end, with one pair more at most).
namespace Go.Proofs.YtfmgoehnbaiamaaGreatDoor
theorem less_bytes : ∀ x y : List UInt8, Op.bytesLess x y = Go.bytesBefore x y
  | [], [] => rfl
  | _ :: _, [] => rfl
  | [], _ :: _ => rfl
  | a :: x, b :: y => by rw [Op.bytesLess, Go.bytesBefore, less_bytes x y]
def strOf (k : Sum) : ByteArray := ⟨k.toList.toArray⟩
theorem size_strOf (k : Sum) : (strOf k).size = 32 := by show k.toList.toArray.size = 32; simp
theorem conv_key {w : World} {b o : Nat} {k : Sum} (h : w.rangeAt b o (cellsOf k)) : (convert 39 9 (.slice (some ⟨b, o, none⟩) 32 32)).run Tryz.prog w = .ok (.string (strOf k)) w := by
  have h2 := Lib.run_convert_whole (P := Tryz.prog) w 39 5 9 Tryz.underlying39 Tryz.underlying5 Tryz.underlying9 b o (strOf k) (fun i hi => by
    have hi' : i < 32 := by rw [size_strOf] at hi; exact hi
    have := h i _ (cell_key k hi')
    rw [this]
    congr 2
    show k.toList.getD i 0 = (k.toList.toArray)[i]'_
    simp [List.getD_eq_getElem?_getD, hi']
    rfl) 32
  rw [size_strOf] at h2
  exact h2
theorem lss_keys (a b : Sum) (w : World) : (binOp .lss 9 (.string (strOf a)) (.string (strOf b))).run Tryz.prog w = .ok (.bool (decide (Keys.kn a < Keys.kn b))) w := by
  have e : ∀ k : Sum, (strOf k).toList = k.toList := fun k => by rw [Lib.toList_data]; show k.toList.toArray.toList = _; simp
  have hb : Op.bytesLess (strOf a).toList (strOf b).toList = decide (Keys.kn a < Keys.kn b) := by
    rw [e, e, less_bytes, Keys.before_kn]
  simp [binOp, Op.stringOp, hb]
theorem less_strs (a b : Sum) : Op.bytesLess (strOf a).toList (strOf b).toList = decide (Keys.kn a < Keys.kn b) := by
  have e : ∀ k : Sum, (strOf k).toList = k.toList := fun k => by rw [Lib.toList_data]; show k.toList.toArray.toList = _; simp
  rw [e, e, less_bytes, Keys.before_kn]
set_option maxRecDepth 100000 in
theorem less_any (a b : Sum) (w : World) : Calls Tryz.prog 50 #[sv a, sv b] w fun e w' => e = .returned (.bool (decide (Keys.kn a < Keys.kn b))) ∧ Below w.heap.size w w' := by
  have hs1 : (w.alloc (.cells (cellsOf a).toArray 24)).heap.size = w.heap.size + 1 := Array.size_push _
  have hb0 := al (al (Below.refl _ w) (.cells (cellsOf a).toArray 24)) (.cells (cellsOf b).toArray 24)
  have r1 := World.rangeAt_alloc (range_new w (cellsOf a).toArray 24 _ rfl) (.cells (cellsOf b).toArray 24)
  have r2 := range_new (w.alloc (.cells (cellsOf a).toArray 24)) (cellsOf b).toArray 24 _ rfl
  rw [hs1] at r2
  have H0 := Lib.hid (And.intro hb0 (And.intro r1 r2))
  have hlt := lss_keys a b
  obtain ⟨s1, hs1'⟩ : ∃ s, s = strOf a := ⟨_, rfl⟩
  obtain ⟨s2, hs2'⟩ : ∃ s, s = strOf b := ⟨_, rfl⟩
  obtain ⟨r, hr⟩ : ∃ r, r = decide (Keys.kn a < Keys.kn b) := ⟨_, rfl⟩
  rw [← hs1', ← hs2', ← hr] at hlt
  rw [← hr]
  have HR := Lib.hid (show Op.bytesLess s1.toList s2.toList = r by rw [hs1', hs2', hr]; exact less_strs a b)
  have HS := Lib.hid (And.intro hs1' hs2')
  clear hs1 hb0 r1 r2 hs1' hs2' hr
  go_enter Tryz.func50, Tryz.ntmps50
  go_wp2_with fail
  have HD := Lib.hid (show ((w.alloc (.cells (cellsOf a).toArray 24)).alloc (.cells (cellsOf b).toArray 24)).drew.rangeAt w.heap.size 0 (cellsOf a) ∧ ((w.alloc (.cells (cellsOf a).toArray 24)).alloc (.cells (cellsOf b).toArray 24)).drew.rangeAt (w.heap.size + 1) 0 (cellsOf b) from ⟨H0.out.2.1, H0.out.2.2⟩)
  refine wp_region_sched (fun V => V.rangeAt w.heap.size 0 (cellsOf a) ∧ V.rangeAt (w.heap.size + 1) 0 (cellsOf b)) [.t 0, .s 1, .t 2, .s 3, .t 4, .t 5] (by kernel_rfl) (by kernel_rfl) (by intro c a d v w h; cases d <;> exact h) ?_
  have HBD := Lib.hid H0.out.1.drew
  clear H0
  generalize World.drew _ = V at *
  iterate 1
    refine wpS_t rfl (v := ?_) (by rfl) (fun W => ?_) ?_
    rotate_left
    · go_simp
      try rfl
    try simp only [Act.put, List.setIfInBounds_toArray, List.set_cons_zero, List.set_cons_succ]
  refine wpS_s (by exact HD.out) rfl (v := .string s1) (by rfl) (fun W hW => ?_) ?_
  · have hk := conv_key hW.1
    rw [← HS.out.1] at hk
    go_simp
  try simp only [Act.put, List.setIfInBounds_toArray, List.set_cons_zero, List.set_cons_succ]
  iterate 1
    refine wpS_t rfl (v := ?_) (by rfl) (fun W => ?_) ?_
    rotate_left
    · go_simp
      try rfl
    try simp only [Act.put, List.setIfInBounds_toArray, List.set_cons_zero, List.set_cons_succ]
  refine wpS_s (by exact HD.out) rfl (v := .string s2) (by rfl) (fun W hW => ?_) ?_
  · have hk := conv_key hW.2
    rw [← HS.out.2] at hk
    go_simp
  try simp only [Act.put, List.setIfInBounds_toArray, List.set_cons_zero, List.set_cons_succ]
  iterate 2
    refine wpS_t rfl (v := ?_) (by rfl) (fun W => ?_) ?_
    rotate_left
    · go_simp
      try rfl
    try simp only [Act.put, List.setIfInBounds_toArray, List.set_cons_zero, List.set_cons_succ]
  refine wpS_done ?_
  go_wp2_with fail
  refine bodyPost_ret (results_tmp rfl _ _ _) rfl ⟨?_, HBD.out⟩
  exact congrArg (fun x => Ending.returned (.bool x)) HR.out
/-- Pairs in memory, whatever their bytes. -/
def RawAt (w : World) (v : Value) (n : Nat) : Prop := ∃ (a : Option Addr) (cap : Nat) (cs : List PE), v = .slice a n cap ∧ n ≤ cap ∧ cap ≤ maxLen ∧ cs.length = n ∧ (n = 0 ∨ ∃ b o, a = some ⟨b, o, none⟩ ∧ w.rangeAt b o (cellsP cs))
theorem RawAt.below {w w' : World} {v : Value} {n : Nat} (h : RawAt w v n) (hb : Below w.heap.size w w') : RawAt w' v n := by
  obtain ⟨a, cap, cs, rfl, h1, h2, h3, h4⟩ := h
  refine ⟨a, cap, cs, rfl, h1, h2, h3, ?_⟩
  rcases h4 with h4 | ⟨b, o, rfl, hr⟩
  · exact .inl h4
  · exact .inr ⟨b, o, rfl, (Keeps.of_below (X := fun _ => False) hb).range hr (fun h => h)⟩
end Go.Proofs.YtfmgoehnbaiamaaGreatDoor
