/-
  Plain: what stands when law MapsPlay has gone through some pairs: a map, what the document has of it, a Book.
-/
import Derived.Test.YtfmgoehnbaiamaaGreatDoorZBH
import Derived.Test.YtfmgoehnbaiamaaGreatDoorZBM
import Derived.Test.YtfmgoehnbaiamaaGreatDoorZBS
import Derived.Test.YtfmgoehnbaiamaaGreatDoorZBT
open Go Go.RowKit Alm
namespace Go.Proofs.YtfmgoehnbaiamaaGreatDoor
/-- Blocks that telling a Book bytes leaves as they are. -/
def offB (q : Nat) (F : Nat → Value) (k : Nat) : Prop := k ≠ q ∧ (F 1).ownBlock ≠ some k
structure MPW (w W : World) (k : Sum) (q ib : Nat) (F : Nat → Value) (H : Nat → List Held) (S : Nat → Nat → List (List Value)) (p b n : Nat) (lm : List Ent) (L : List Keys.Pr) (xv : Value) (X : List Keys.Pr) : Prop where
  bw : Below w.heap.size w W
  rk : W.rangeAt w.heap.size 0 (cellsOf k)
  bk : GBook W (w.heap.size + 1) q ib F H S
  len : (H 1).length = ib
  oth : ∀ j, j ≠ 1 → H j = []
  mp : MapIn W p b n lm
  eq : prs lm = L
  xs : PairsZ (offB q F) W xv X
  mz : MapZ (offB q F) lm
  np : ¬ OfG q F H p
  nb : ¬ OfG q F H b
  hb : w.heap.size < b
  hp : w.heap.size ≤ p
theorem MPW.below {w W W' : World} {k : Sum} {q ib : Nat} {F : Nat → Value} {H : Nat → List Held} {S : Nat → Nat → List (List Value)} {p b n : Nat} {lm : List Ent} {L : List Keys.Pr} {xv : Value} {X : List Keys.Pr} (h : MPW w W k q ib F H S p b n lm L xv X) (hb : Below W.heap.size W W') : MPW w W' k q ib F H S p b n lm L xv X :=
  ⟨h.bw.trans (hb.mono h.bw.size), (Keeps.of_below (X := fun _ => False) hb).range h.rk (fun h => h), h.bk.below hb, h.len, h.oth, h.mp.below hb, h.eq, h.xs.below hb, h.mz, h.np, h.nb, h.hb, h.hp⟩
theorem MPW.new {w W : World} {k : Sum} {q ib : Nat} {F : Nat → Value} {H : Nat → List Held} {S : Nat → Nat → List (List Value)} {p b n : Nat} {lm : List Ent} {L : List Keys.Pr} {xv : Value} {X : List Keys.Pr} (h : MPW w W k q ib F H S p b n lm L xv X) : ∀ i, W.heap.size ≤ i → offB q F i := fun i hi => by
  have h1 := h.bk.bk.lt
  refine ⟨by omega, fun e => ?_⟩
  have := (h.bk.k 1 (by decide) (by decide)).lt (.inl e)
  omega
theorem MPW.bm {w W : World} {k : Sum} {q ib : Nat} {F : Nat → Value} {H : Nat → List Held} {S : Nat → Nat → List (List Value)} {p b n : Nat} {lm : List Ent} {L : List Keys.Pr} {xv : Value} {X : List Keys.Pr} (h : MPW w W k q ib F H S p b n lm L xv X) {W' : World} (hk : Keeps (fun i => i = b) W W') : Below w.heap.size w W' :=
  h.bw.trans (hk.below h.bw.size (fun i hi => by have := h.hb; omega))
/-- Something was put in its map. -/
theorem MPW.puts {w W W' : World} {k : Sum} {q ib : Nat} {F : Nat → Value} {H : Nat → List Held} {S : Nat → Nat → List (List Value)} {p b n : Nat} {lm : List Ent} {L : List Keys.Pr} {xv : Value} {X : List Keys.Pr} (h : MPW w W k q ib F H S p b n lm L xv X) {k2 : Sum} {bs : List UInt8} (hp : PutZ (offB q F) W p b n lm k2 bs W') :
    ∃ lm', MPW w W' k q ib F H S p b (n + 1) lm' (Keys.putB L k2 bs) xv X := by
  obtain ⟨l', h1, h2, h3, h4⟩ := hp
  refine ⟨l', h.bm h3, h3.range h.rk (fun e => by have := h.hb; omega), h.bk.keep h3 (fun i hi e => h.nb (by rw [← e]; exact hi)), h.len, h.oth, h1, by rw [h2, h.eq], h.xs.maps h.mp.on h3, h4, h.np, h.nb, h.hb, h.hp⟩
/-- What the document has is another list. -/
theorem MPW.setx {w W W' : World} {k : Sum} {q ib : Nat} {F : Nat → Value} {H : Nat → List Held} {S : Nat → Nat → List (List Value)} {p b n : Nat} {lm : List Ent} {L : List Keys.Pr} {xv : Value} {X : List Keys.Pr} (h : MPW w W k q ib F H S p b n lm L xv X) (hb : Below W.heap.size W W') {xv' : Value} {X' : List Keys.Pr} (hx : PairsZ (offB q F) W' xv' X') : MPW w W' k q ib F H S p b n lm L xv' X' :=
  have h' := h.below hb
  ⟨h'.bw, h'.rk, h'.bk, h'.len, h'.oth, h'.mp, h'.eq, hx, h'.mz, h'.np, h'.nb, h'.hb, h'.hp⟩
/-- Its Book was told bytes. -/
theorem MPW.told {w W W' : World} {k : Sum} {q ib : Nat} {F : Nat → Value} {H : Nat → List Held} {S S' : Nat → Nat → List (List Value)} {p b n : Nat} {lm : List Ent} {L : List Keys.Pr} {xv : Value} {X : List Keys.Pr} (h : MPW w W k q ib F H S p b n lm L xv X) {v' x : Value}
    (hg : GBook W' (w.heap.size + 1) q (ib + 1) (put F 1 v') (putK H 1 (H 1 ++ [(x, .slice none 0 0, ib + 1)])) S') (hblk : ∀ k, v'.ownBlock = some k → (F 1).ownBlock = some k ∨ W.heap.size ≤ k) (hk : Keeps (fun i => i = q ∨ (F 1).ownBlock = some i) W W')
    (hxp : ∀ i, x.ownBlock = some i → i ≠ p ∧ i ≠ b) : MPW w W' k q (ib + 1) (put F 1 v') (putK H 1 (H 1 ++ [(x, .slice none 0 0, ib + 1)])) S' p b n lm L xv X := by
  have hof : ∀ i, (i = q ∨ (F 1).ownBlock = some i) → OfG q F H i := fun i hi => by
    rcases hi with rfl | hi
    · exact .inl rfl
    · exact .inr ⟨1, by decide, by decide, .inl hi⟩
  have hz : ∀ i, offB q F i → i < W.heap.size → offB q (put F 1 v') i := fun i hi hl => ⟨hi.1, fun e => by
    rw [put_self] at e
    rcases hblk i e with e | e
    · exact hi.2 e
    · omega⟩
  have hval : ∀ e ∈ lm, ∀ i, e.2.1.ownBlock = some i → i < W.heap.size := fun e he i hi => bytes_lt (h.mp.vals e he).1 (h.mp.vals e he).2.1 hi
  refine ⟨h.bw.trans (hk.below h.bw.size (fun i hi => by have := (h.bk.lt (hof i hi)).1; omega)), hk.range h.rk (fun e => by have := (h.bk.lt (hof _ e)).1; omega), hg, by rw [putK_self, List.length_append, h.len]; rfl, fun j hj => by rw [putK_other _ _ hj]; exact h.oth j hj, ?_, h.eq, h.xs.keep hk (fun i hi _ e => ?_) hz, fun e he i hi => hz i (h.mz e he i hi) (hval e he i hi), fun e => ?_, fun e => ?_, h.hb, h.hp⟩
  · exact h.mp.keep hk (fun e => h.np (hof _ e)) (fun e => h.nb (hof _ e)) (fun e he i hi e2 => by
      have := h.mz e he i hi
      rcases e2 with e2 | e2
      · exact this.1 e2
      · exact this.2 e2)
  · rcases e with e | e
    · exact hi.1 e
    · exact hi.2 e
  · rcases ofG_told (N := W.heap.size) (by decide) (by decide) hblk e with e | e | e
    · exact h.np e
    · have := h.mp.lt.1; omega
    · exact (hxp _ e).1 rfl
  · rcases ofG_told (N := W.heap.size) (by decide) (by decide) hblk e with e | e | e
    · exact h.nb e
    · have := h.mp.lt.2; omega
    · exact (hxp _ e).2 rfl
/-- Another map, a copy, stands in its place. -/
theorem MPW.copy {w W W' : World} {k : Sum} {q ib : Nat} {F : Nat → Value} {H : Nat → List Held} {S : Nat → Nat → List (List Value)} {p b n : Nat} {lm : List Ent} {L : List Keys.Pr} {xv : Value} {X : List Keys.Pr} (h : MPW w W k q ib F H S p b n lm L xv X) {p2 b2 n2 : Nat} (hm : MapIn W' p2 b2 n2 lm) (hp : W.heap.size ≤ p2) (hb : W.heap.size ≤ b2) (hB : Below W.heap.size W W') : MPW w W' k q ib F H S p2 b2 n2 lm L xv X := by
  have h' := h.below hB
  have hs := h.bw.size
  have h1 := h.mp.lt.2
  have h2 := h.hb
  exact ⟨h'.bw, h'.rk, h'.bk, h'.len, h'.oth, hm, h'.eq, h'.xs, h'.mz, fun e => by have := (h.bk.lt e).2; omega, fun e => by have := (h.bk.lt e).2; omega, by omega, by omega⟩
/-- Something was put in a map that stands beside it. -/
theorem MPW.beside {w W W' : World} {k : Sum} {q ib : Nat} {F : Nat → Value} {H : Nat → List Held} {S : Nat → Nat → List (List Value)} {p b n : Nat} {lm : List Ent} {L : List Keys.Pr} {xv : Value} {X : List Keys.Pr} (h : MPW w W k q ib F H S p b n lm L xv X) {p1 b1 n1 : Nat} {l1 : List Ent} (hm : MapIn W p1 b1 n1 l1) (hk : Keeps (fun i => i = b1) W W') (hb : w.heap.size < b1) (hne : b ≠ b1) (hnb : ¬ OfG q F H b1) : MPW w W' k q ib F H S p b n lm L xv X :=
  ⟨h.bw.trans (hk.below h.bw.size (fun i hi => by omega)), hk.range h.rk (fun e => by omega), h.bk.keep hk (fun i hi e => hnb (by rw [← e]; exact hi)), h.len, h.oth, h.mp.maps hm.on hk hne, h.eq, h.xs.maps hm.on hk, h.mz, h.np, h.nb, h.hb, h.hp⟩
/-- What stands within a round: beside it the pair's copy. -/
structure MPI (w W : World) (k : Sum) (q ib : Nat) (F : Nat → Value) (H : Nat → List Held) (S : Nat → Nat → List (List Value)) (p b n : Nat) (lm : List Ent) (L : List Keys.Pr) (xv : Value) (X : List Keys.Pr) (g c z9 : Nat) (ky : Sum) (bs : List UInt8) : Prop where
  m : MPW w W k q ib F H S p b n lm L xv X
  t : TwinB W (w.heap.size + 1) (.slice (some ⟨g, 0, none⟩) bs.length c) bs
  r : W.rangeAt z9 0 (encP (ky, some ⟨g, 0, none⟩, bs.length, c))
  ng : ¬ OfG q F H g
  lt : b < g ∧ p < g ∧ b < z9
theorem MPI.below {w W W' : World} {k : Sum} {q ib : Nat} {F : Nat → Value} {H : Nat → List Held} {S : Nat → Nat → List (List Value)} {p b n : Nat} {lm : List Ent} {L : List Keys.Pr} {xv : Value} {X : List Keys.Pr} {g c z9 : Nat} {ky : Sum} {bs : List UInt8} (h : MPI w W k q ib F H S p b n lm L xv X g c z9 ky bs) (hb : Below W.heap.size W W') : MPI w W' k q ib F H S p b n lm L xv X g c z9 ky bs :=
  ⟨h.m.below hb, h.t.below hb, (Keeps.of_below (X := fun _ => False) hb).range h.r (fun h => h), h.ng, h.lt⟩
theorem MPI.puts {w W W' : World} {k : Sum} {q ib : Nat} {F : Nat → Value} {H : Nat → List Held} {S : Nat → Nat → List (List Value)} {p b n : Nat} {lm : List Ent} {L : List Keys.Pr} {xv : Value} {X : List Keys.Pr} {g c z9 : Nat} {ky : Sum} {bs : List UInt8} (h : MPI w W k q ib F H S p b n lm L xv X g c z9 ky bs) {k2 : Sum} {bs2 : List UInt8} (hp : PutZ (offB q F) W p b n lm k2 bs2 W') :
    ∃ lm', MPI w W' k q ib F H S p b (n + 1) lm' (Keys.putB L k2 bs2) xv X g c z9 ky bs := by
  obtain ⟨lm', hm⟩ := h.m.puts hp
  obtain ⟨_, _, _, hk, _⟩ := hp
  have hl := h.lt
  exact ⟨lm', hm, h.t.keep hk (fun i hi e => by
    obtain rfl : g = i := by simpa [Value.ownBlock] using hi
    omega), hk.range h.r (fun e => by omega), h.ng, hl⟩
theorem MPI.setx {w W W' : World} {k : Sum} {q ib : Nat} {F : Nat → Value} {H : Nat → List Held} {S : Nat → Nat → List (List Value)} {p b n : Nat} {lm : List Ent} {L : List Keys.Pr} {xv : Value} {X : List Keys.Pr} {g c z9 : Nat} {ky : Sum} {bs : List UInt8} (h : MPI w W k q ib F H S p b n lm L xv X g c z9 ky bs) (hb : Below W.heap.size W W') {xv' : Value} {X' : List Keys.Pr} (hx : PairsZ (offB q F) W' xv' X') : MPI w W' k q ib F H S p b n lm L xv' X' g c z9 ky bs :=
  have h' := h.below hb
  ⟨h.m.setx hb hx, h'.t, h'.r, h'.ng, h'.lt⟩
theorem MPI.cell {w W : World} {k : Sum} {q ib : Nat} {F : Nat → Value} {H : Nat → List Held} {S : Nat → Nat → List (List Value)} {p b n : Nat} {lm : List Ent} {L : List Keys.Pr} {xv : Value} {X : List Keys.Pr} {g c z9 : Nat} {ky : Sum} {bs : List UInt8} (h : MPI w W k q ib F H S p b n lm L xv X g c z9 ky bs) : W.cell? ⟨z9, 32, none⟩ = some (.slice (some ⟨g, 0, none⟩) bs.length c) := encP_cell h.r
theorem puts_same9 {P : List Keys.Pr} {i : Nat} {k : Sum} {bs : List UInt8} (h : P[i]? = some (k, bs)) (hb : bs.length > 256) : puts [] (P.take (i + 1)) = puts [] (P.take i) := by
  rw [puts_take [] P h]
  unfold Keys.putB
  rw [if_pos hb]
theorem puts_next {P : List Keys.Pr} {i : Nat} {k : Sum} {bs : List UInt8} (h : P[i]? = some (k, bs)) (hr : Keys.Rise (puts [] (P.take i))) (hb : ¬ bs.length > 256) : rp k bs (puts [] (P.take i)) = puts [] (P.take (i + 1)) := by
  rw [puts_take [] P h, rp_eq hr (by omega)]
theorem puts_len (P : List Keys.Pr) (i : Nat) : (puts [] (P.take i)).length ≤ i := by
  have h1 := length_puts (P.take i) []
  have h2 := List.length_take_le i P
  simp only [List.length_nil] at h1
  omega
theorem PairsL.mono {W : World} {base base' : Nat} {v : Value} {cs : List (PE × List UInt8)} (h : PairsL W base v cs) (hb : base' ≤ base) : PairsL W base' v cs := ⟨h.row.mono hb, fun c hc => (h.each c hc).mono hb, h.apart, h.off⟩
theorem ents_short {W : World} {p b n : Nat} {lm : List Ent} (h : MapIn W p b n lm) : ∀ x ∈ prs lm, x.2.length ≤ 256 := fun x hx => by
  obtain ⟨e, he, rfl⟩ := List.mem_map.1 hx
  exact (h.vals e he).2.2
/-- What stands at the end. -/
structure MPE (w W : World) (k : Sum) (p b n : Nat) (lm : List Ent) (xv : Value) (X : List Keys.Pr) (v : Value) (B : List UInt8) (vy : Value) (cs : List (PE × List UInt8)) : Prop where
  bw : Below w.heap.size w W
  rk : W.rangeAt w.heap.size 0 (cellsOf k)
  mp : MapIn W p b n lm
  xs : PairsAt W xv X
  vb : BytesAt W v B
  ys : PairsL W (w.heap.size + 1) vy cs
theorem MPE.below {w W W' : World} {k : Sum} {p b n : Nat} {lm : List Ent} {xv : Value} {X : List Keys.Pr} {v : Value} {B : List UInt8} {vy : Value} {cs : List (PE × List UInt8)} (h : MPE w W k p b n lm xv X v B vy cs) (hb : Below W.heap.size W W') : MPE w W' k p b n lm xv X v B vy cs :=
  ⟨h.bw.trans (hb.mono h.bw.size), (Keeps.of_below (X := fun _ => False) hb).range h.rk (fun h => h), h.mp.below hb, h.xs.below hb, bytes_below h.vb hb (Nat.le_refl _), h.ys.below hb⟩
theorem MPW.ends {w W W' : World} {k : Sum} {q ib : Nat} {F : Nat → Value} {H : Nat → List Held} {S : Nat → Nat → List (List Value)} {p b n : Nat} {lm : List Ent} {L : List Keys.Pr} {xv : Value} {X : List Keys.Pr} (h : MPW w W k q ib F H S p b n lm L xv X) (hk : Keeps (fun i => i = q ∨ (F 1).ownBlock = some i ∨ (F 6).ownBlock = some i) W W')
    {v : Value} {B : List UInt8} (hv : Lie W (w.heap.size + 1) 1 v (ones B)) (hvn : ∀ j, v.ownBlock = some j → j ≠ q ∧ (F 1).ownBlock ≠ some j) {vy : Value} {cs : List (PE × List UInt8)} (hy : PairsL W (w.heap.size + 1) vy cs) (hy1 : ∀ j, vy.ownBlock = some j → ¬ OfG q F H j) (hy2 : ∀ c ∈ cs, ∀ j, (peV c.1).ownBlock = some j → ¬ OfG q F H j) : MPE w W' k p b n lm xv X v B vy cs := by
  have hF6 : (F 6).ownBlock = none := by rw [h.bk.nul 6 (h.oth 6 (by decide))]; rfl
  have hoff : ∀ j, j ≠ q ∧ (F 1).ownBlock ≠ some j → ¬ (j = q ∨ (F 1).ownBlock = some j ∨ (F 6).ownBlock = some j) := fun j hj e => by
    rcases e with e | e | e
    · exact hj.1 e
    · exact hj.2 e
    · rw [hF6] at e; cases e
  have hofq : ∀ j, (j = q ∨ (F 1).ownBlock = some j ∨ (F 6).ownBlock = some j) → OfG q F H j := fun j e => by
    rcases e with rfl | e | e
    · exact .inl rfl
    · exact .inr ⟨1, by decide, by decide, .inl e⟩
    · rw [hF6] at e; cases e
  have hxs : PairsZ (fun _ => True) W' xv X := h.xs.keep hk (fun j hj _ => hoff j hj) (fun _ _ _ => trivial)
  exact ⟨h.bw.trans (hk.below h.bw.size (fun j e => by have := (h.bk.lt (hofq _ e)).1; omega)), hk.range h.rk (fun e => by have := (h.bk.lt (hofq _ e)).1; omega), h.mp.keep hk (fun e => h.np (hofq _ e)) (fun e => h.nb (hofq _ e)) (fun e he j hj => hoff j (h.mz e he j hj)), hxs.at, lie_bytes (hv.keep hk (fun j hj => hoff j (hvn j hj))), hy.keep hk (fun j hj e => hy1 j hj (hofq _ e)) (fun c hc j hj e => hy2 c hc j hj (hofq _ e))⟩
end Go.Proofs.YtfmgoehnbaiamaaGreatDoor
