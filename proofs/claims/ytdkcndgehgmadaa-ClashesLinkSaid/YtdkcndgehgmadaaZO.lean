/-
  Merged: N6, N7, N8.
-/
import Derived.Test.YtdkcndgehgmadaaZN
import Derived.Test.YtdkcndgehgmadaaZB1
import Derived.Test.YtdkcndgehgmadaaZM
-- Walks: clashes.Path's way down.
open Go Go.RowKit Alm
namespace Go.Proofs.Ytdkcndgehgmadaa
/-- The variables of the way down. -/
structure PW (W0 W : World) (L M P B : Nat) (vl vp vb : Value) (mj : Nat) : Prop where
  vl : W.heap[L]? = some (.cells #[vl] 67 (0, 0))
  vm : W.heap[M]? = some (.cells #[.int .i64 (mj : Int)] 3 (0, 0))
  vp : W.cell? ⟨P, 0, none⟩ = some vp
  vb : W.cell? ⟨B, 0, none⟩ = some vb
  k : Keeps (fun k => k = L ∨ k = M) W0 W
/-- Where they lie. -/
structure PL (w0 W0 : World) (L M P B : Nat) : Prop where
  lm : L ≠ M
  lp : P ≠ L
  lb : B ≠ L
  mp : P ≠ M
  mb : B ≠ M
  l : L < W0.heap.size
  m : M < W0.heap.size
  p : P < W0.heap.size
  b : B < W0.heap.size
  l0 : w0.heap.size ≤ L
  m0 : w0.heap.size ≤ M
  w : Below w0.heap.size w0 W0
theorem PW.base {w0 W0 W : World} {L M P B : Nat} {vl vp vb : Value} {mj : Nat} (h : PW W0 W L M P B vl vp vb mj) (p : PL w0 W0 L M P B) : Below w0.heap.size w0 W :=
  p.w.trans (h.k.below p.w.size (fun k hk => by rcases hk with rfl | rfl; exact p.l0; exact p.m0))
theorem PW.keep {w0 W0 W W' : World} {L M P B : Nat} {vl vp vb : Value} {mj : Nat} {Y : Nat → Prop} (h : PW W0 W L M P B vl vp vb mj) (p : PL w0 W0 L M P B) (hk : Keeps Y W W') (hy : ∀ k, Y k → W0.heap.size ≤ k) : PW W0 W' L M P B vl vp vb mj :=
  ⟨hk.heap h.vl (fun e => by have := hy _ e; have := p.l; omega), hk.heap h.vm (fun e => by have := hy _ e; have := p.m; omega), hk.cell h.vp (fun e => by have h1 := hy _ e; have h2 := p.p; exact absurd h1 (Nat.not_le_of_lt h2)), hk.cell h.vb (fun e => by have h1 := hy _ e; have h2 := p.b; exact absurd h1 (Nat.not_le_of_lt h2)), h.k.trans' hk (fun i hi => .inr (hy i hi))⟩
theorem PW.below {w0 W0 W W' : World} {L M P B : Nat} {vl vp vb : Value} {mj : Nat} (h : PW W0 W L M P B vl vp vb mj) (p : PL w0 W0 L M P B) (hb : Below W.heap.size W W') : PW W0 W' L M P B vl vp vb mj :=
  h.keep p (Keeps.of_below (X := fun _ => False) hb) (fun _ h => h.elim)
theorem PW.setL {w0 W0 W : World} {L M P B : Nat} {vl vp vb : Value} {mj : Nat} (h : PW W0 W L M P B vl vp vb mj) (p : PL w0 W0 L M P B) (v : Value) : PW W0 (W.setCell ⟨L, 0, none⟩ v) L M P B v vp vb mj := by
  have hk : Keeps (fun k => k = L) W (W.setCell ⟨L, 0, none⟩ v) := (Keeps.refl (fun k => k = L) W).setCell (p := ⟨L, 0, none⟩) (.inl rfl) v
  exact ⟨heap_setCell_same W L 0 _ _ v h.vl, hk.heap h.vm (fun e => p.lm e.symm), hk.cell h.vp p.lp, hk.cell h.vb p.lb, h.k.trans (hk.mono (fun k e => .inl e))⟩
theorem PW.setM {w0 W0 W : World} {L M P B : Nat} {vl vp vb : Value} {mj : Nat} (h : PW W0 W L M P B vl vp vb mj) (p : PL w0 W0 L M P B) (n : Nat) : PW W0 (W.setCell ⟨M, 0, none⟩ (.int .i64 (n : Int))) L M P B vl vp vb n := by
  have hk : Keeps (fun k => k = M) W (W.setCell ⟨M, 0, none⟩ (.int .i64 (n : Int))) := (Keeps.refl (fun k => k = M) W).setCell (p := ⟨M, 0, none⟩) (.inl rfl) _
  exact ⟨hk.heap h.vl p.lm, heap_setCell_same W M 0 _ _ _ h.vm, hk.cell h.vp p.mp, hk.cell h.vb p.mb, h.k.trans (hk.mono (fun k e => .inr e))⟩
theorem PW.cl {W0 W : World} {L M P B : Nat} {vl vp vb : Value} {mj : Nat} (h : PW W0 W L M P B vl vp vb mj) : W.cell? ⟨L, 0, none⟩ = some vl ∧ W.frozen? ⟨L, 0, none⟩ = false := ⟨by rw [cell_of_row W L _ _ _ (0, 0) h.vl]; rfl, frozen_of_row W L _ _ _ h.vl⟩
theorem PW.cm {W0 W : World} {L M P B : Nat} {vl vp vb : Value} {mj : Nat} (h : PW W0 W L M P B vl vp vb mj) : W.cell? ⟨M, 0, none⟩ = some (.int .i64 (mj : Int)) ∧ W.frozen? ⟨M, 0, none⟩ = false := ⟨by rw [cell_of_row W M _ _ _ (0, 0) h.vm]; rfl, frozen_of_row W M _ _ _ h.vm⟩
/-- The two rows that grow. -/
structure TR (b : Nat) (W : World) (v4 v5 : Value) (T : List (Bool × Sum)) (th : List (Sum × Sum)) : Prop where
  s : W.ownsRow b 135 33 v4 T.length (cfA cellsS T)
  t : W.ownsRow b 132 64 v5 th.length (cfA cellsQ th)
  sn : T = [] → v4 = .slice none 0 0
  tn : th = [] → v5 = .slice none 0 0
  d : ∀ k, v4.ownBlock = some k → ¬ v5.ownBlock = some k
theorem TR.keep {b : Nat} {W W' : World} {v4 v5 : Value} {T : List (Bool × Sum)} {th : List (Sum × Sum)} {Y : Nat → Prop} (h : TR b W v4 v5 T th) (hk : Keeps Y W W') (hy : ∀ k, Y k → k < b) : TR b W' v4 v5 T th :=
  ⟨hk.owns h.s (fun k e y => by have := (h.s.lt k e).1; have := hy k y; omega), hk.owns h.t (fun k e y => by have := (h.t.lt k e).1; have := hy k y; omega), h.sn, h.tn, h.d⟩
theorem TR.below {b : Nat} {W W' : World} {v4 v5 : Value} {T : List (Bool × Sum)} {th : List (Sum × Sum)} (h : TR b W v4 v5 T th) (hb : Below W.heap.size W W') : TR b W' v4 v5 T th :=
  h.keep (Keeps.of_below (X := fun _ => False) hb) (fun _ h => h.elim)
theorem TR.growS {b : Nat} {W W' : World} {v4 v5 : Value} {T : List (Bool × Sum)} {th : List (Sum × Sum)} {n g cap : Nat} {s : Bool × Sum} (h : TR b W v4 v5 T th) (hn : T.length = n) (hg : W.grownBy W' v4.ownBlock) (hat : v4.ownBlock = some g ∨ g = W.heap.size)
    (ho : W'.ownsRow b 135 33 (.slice (some ⟨g, 0, none⟩) (n + 1) cap) (n + 1) (cfA cellsS (T ++ [s]))) : TR b W' (.slice (some ⟨g, 0, none⟩) (n + 1) cap) v5 (T ++ [s]) th := by
  have hk : Keeps (fun k => v4.ownBlock = some k) W W' := Keeps.of_grown hg (fun k h => h)
  refine ⟨by rw [List.length_append, hn]; exact ho, hk.owns h.t (fun k e y => h.d k y e), fun e => by simp at e, h.tn, fun k e y => ?_⟩
  simp only [Value.ownBlock, Option.some.injEq] at e
  rcases hat with h1 | h1
  · exact h.d g h1 (by rw [e]; exact y)
  · have := (h.t.lt k y).2; omega
theorem TR.growT {b : Nat} {W W' : World} {v4 v5 : Value} {T : List (Bool × Sum)} {th : List (Sum × Sum)} {n g cap : Nat} {s : Sum × Sum} (h : TR b W v4 v5 T th) (hn : th.length = n) (hg : W.grownBy W' v5.ownBlock) (hat : v5.ownBlock = some g ∨ g = W.heap.size)
    (ho : W'.ownsRow b 132 64 (.slice (some ⟨g, 0, none⟩) (n + 1) cap) (n + 1) (cfA cellsQ (th ++ [s]))) : TR b W' v4 (.slice (some ⟨g, 0, none⟩) (n + 1) cap) T (th ++ [s]) := by
  have hk : Keeps (fun k => v5.ownBlock = some k) W W' := Keeps.of_grown hg (fun k h => h)
  refine ⟨hk.owns h.s (fun k e y => h.d k e y), by rw [List.length_append, hn]; exact ho, h.sn, fun e => by simp at e, fun k e y => ?_⟩
  simp only [Value.ownBlock, Option.some.injEq] at y
  rcases hat with h1 | h1
  · exact h.d k e (by rw [← y]; exact h1)
  · have := (h.s.lt k e).2; omega
theorem exec_build_step {f : Operand → Value} {o : Oper} (x y : Operand) (ho : o.op = .build 135 #[(0, x), (1, y)]) (b : Bool) (s : Sum) (hx : f x = .bool b) (hy : f y = sv s) (W : World) :
    (execOp f o).run Try.prog W = .ok (.value (stv (b, s))) W := by
  unfold execOp
  simp [ho, Sem.run_bind, Sem.run_pure, Result.andThen_ok, hx, hy, build_step]
set_option maxRecDepth 100000 in
set_option maxHeartbeats 4000000 in
theorem pathway_any (l : List (List UInt8)) (m : Nat) (b : List UInt8) (p : List Sum) (vl vp vb : Value) (w0 W0 : World) (L M P B : Nat) (hp : PL w0 W0 L M P B) (h0 : PW W0 W0 L M P B vl vp vb m)
    (hl : ListsAt w0 vl l) (hpa : SumsAt w0 vp p) (hba : BytesAt w0 vb b) (hbe : pathBe (lf b) m l.length p (sd l) = true) (hlb : ¬ l[m]? = some b) (hn : l.length < 1000000) (hs : SZ l) (hsb : b.length < 900000) :
    Calls Try.prog 96 #[.pointer (some ⟨P, 0, none⟩), .pointer (some ⟨L, 0, none⟩), .pointer (some ⟨M, 0, none⟩), .pointer (some ⟨B, 0, none⟩)] W0 (ClashK (fun k => k = L ∨ k = M) W0) := by
  have HP := Lib.hid hp
  have HL := Lib.hid hl
  have HPA := Lib.hid hpa
  have HBA := Lib.hid hba
  have HST : Hid (PathSt (lf b) l m p l m p.reverse [] []) := Lib.hid (PathSt.start hbe)
  have HX := Lib.hid (And.intro hlb (And.intro hn (And.intro hs hsb)))
  have H0 := Lib.hid h0
  have hc3 := h0.vp
  obtain ⟨pa, pc, rfl, _, _, hz1⟩ := hpa
  clear hz1 hp h0 hl hba hbe hlb hn hs hsb
  have HQL : Hid (p.reverse.length = p.length) := Lib.hid (List.length_reverse)
  obtain ⟨np, hnp⟩ : ∃ n, n = p.length := ⟨_, rfl⟩
  rename_i hp1 hp2
  rw [← hnp] at hp1 HQL hc3 H0 HPA
  have HNP := Lib.hid hnp; clear hnp
  unfold maxLen at hp2
  have hw6 : wrap64 ((np : Int) - 1) = (np : Int) - 1 := by unfold wrap64; omega
  have HCP := Lib.hid (And.intro hp1 hp2)
  go_enter Try.func96, Try.ntmps96
  go_wp2_with fail
  clear hw6 hp1 hp2 hc3
  go_loopw [4, 5, 6] (fun v4 v5 i W => ∃ (lj : List (List UInt8)) (mj : Nat) (q : List Sum) (T : List (Bool × Sum)) (th : List (Sum × Sum)) (vj : Value), i = .int .i64 ((q.length : Int) - 1) ∧ PathSt (lf b) l m p lj mj q T th ∧ ListsAt w0 vj lj ∧ PW W0 W L M P B vj (.slice pa np pc) vb mj ∧ TR W0.heap.size W v4 v5 T th) (fun _ _ i _ => (intOf i + 1).toNat)
  case atStart => exact ⟨l, m, p.reverse, [], [], vl, by rw [HQL.out], HST.out, HL.out, H0.out, ⟨World.ownsRow_nil _ _ _ _, World.ownsRow_nil _ _ _ _, fun _ => rfl, fun _ => rfl, fun k e => by cases e⟩⟩
  case round =>
    obtain ⟨lj, mj, q, T, th, vj, rfl, hst, hlj, hpw, htr⟩ := hrel
    have HST := Lib.hid hst
    have HLJ := Lib.hid hlj
    have HPW := Lib.hid hpw
    have HTR := Lib.hid htr
    have hc1 := hpw.cl.1
    obtain ⟨bj, oj, cj, rfl, hj1, hj2⟩ := hlj.form (by intro h; have := hst.pm; rw [h] at this; simp at this)
    clear hlj hst hpw htr
    obtain ⟨nj, hnj⟩ : ∃ n, n = lj.length := ⟨_, rfl⟩
    rw [← hnj] at hc1 HLJ HPW hj1
    have HNJ := Lib.hid hnj; clear hnj
    have HNL : Hid (nj ≤ l.length ∧ l.length < 1000000) := Lib.hid ⟨by rw [HNJ.out]; exact HST.out.pn, HX.out.2.1⟩
    by_cases h2 : 1 < nj
    · have h2' : (1 : Int) < (nj : Int) := by omega
      obtain ⟨k, hk⟩ : ∃ k, k = cut nj := ⟨_, rfl⟩
      have hk1 : 1 ≤ k := by rw [hk]; exact cut_pos nj
      have hkn : k < nj := by rw [hk]; exact cut_lt (by omega)
      have HK := Lib.hid (And.intro hk (And.intro hk1 hkn))
      clear hk hk1 hkn
      obtain ⟨x, r, hq, hpx, hrl, hL, hR⟩ := HST.out.step (by rw [← HNJ.out]; exact h2)
      rw [← HNJ.out, ← HK.out.1] at hL hR
      subst hq
      obtain ⟨nr, hnr⟩ : ∃ n, n = r.length := ⟨_, rfl⟩
      have hqi : (((x :: r).length : Nat) : Int) - 1 = (nr : Int) := by rw [List.length_cons, hnr]; omega
      rw [hqi]
      rw [← hnr] at hpx hrl
      rw [← HNP.out] at hrl
      have hfm : ∃ pb po, pa = some ⟨pb, po, none⟩ ∧ w0.rangeAt pb (po + nr * 32) (cellsOf x) := by
        obtain ⟨a, c, h1, _, _, h4⟩ := HPA.out
        have hpn : p ≠ [] := by intro h; have := HNP.out; rw [h] at this; simp at this; omega
        obtain ⟨pb, po, ha, hr⟩ := h4.resolve_left hpn
        simp only [Value.slice.injEq] at h1
        have hi : nr < p.length := by rw [← HNP.out]; exact hrl
        have h5 := range_at hr hi
        have h6 : p[nr] = x := by rw [List.getElem?_eq_getElem hi] at hpx; simpa using hpx
        rw [h6] at h5
        exact ⟨pb, po, by rw [h1.1, ha], h5⟩
      obtain ⟨pb, po, rfl, hpr⟩ := hfm
      have HPR := Lib.hid hpr
      have HLR := Lib.hid (And.intro hL hR)
      have HR := Lib.hid (And.intro hnr hrl)
      have hr0 : (0 : Int) ≤ (nr : Int) := by omega
      have hr1 : (nr : Int) < (np : Int) := by omega
      have HM := Lib.hid HST.out.pm
      rw [← HNJ.out] at HM
      have HSM : Hid (1 ≤ k ∧ k < nj ∧ mj < nj ∧ nj < 1000000) := Lib.hid ⟨HK.out.2.1, HK.out.2.2, HM.out, by have := HNL.out; omega⟩
      clear hpr hL hR hpx hrl hqi hnr
      go_wp2_with fail
      refine (ccut_any nj wr (by omega) (by have := HNL.out; omega)).mono ?_
      rw [← HK.out.1]
      rintro e V1 ⟨rfl, rfl⟩
      go_wp2_with fail
      have hsd := sides_any lj k bj oj cj wr (by rw [← HNJ.out]; exact HLJ.out.below (HPW.out.base HP.out)) HK.out.2.1 (by rw [← HNJ.out]; exact HK.out.2.2) (by rw [← HNJ.out]; have := HNL.out; omega) (fun x hx => by have := HX.out.2.2.1 x (HST.out.pz x hx); omega)
      rw [← HNJ.out] at hsd
      refine hsd.mono ?_
      rintro e V1 ⟨rfl, hb⟩
      have HW1 := Lib.hid (And.intro (HPW.out.below HP.out hb) (HTR.out.below hb))
      have HLR2 := Lib.hid (And.intro HLR.out.1 HLR.out.2)
      obtain ⟨sl_, hsl⟩ : ∃ s, s = rt ((lj.take k).map lf) := ⟨_, rfl⟩
      obtain ⟨sr_, hsr⟩ : ∃ s, s = rt ((lj.drop k).map lf) := ⟨_, rfl⟩
      unfold sd at HLR2
      rw [← hsl, ← hsr] at HLR2 ⊢
      clear hsd hb HPW HTR HLR hsl hsr hc1
      obtain ⟨nt, hnt⟩ : ∃ n, n = th.length := ⟨_, rfl⟩
      obtain ⟨ns, hns⟩ : ∃ n, n = T.length := ⟨_, rfl⟩
      have HNT := Lib.hid (And.intro hnt.symm hns.symm)
      have hsz : ns < 1000000 := by rw [hns, HST.out.pd.lens]; have := HST.out.pd.short; have := HNL.out; omega
      have hsz2 : nt < 1000000 := by rw [hnt]; have := HST.out.pd.short; have := HNL.out; omega
      clear hnt hns
      have hown := HW1.out.2.t
      have hownS := HW1.out.2.s
      rw [HNT.out.1] at hown
      have HOWN := Lib.hid hown
      clear hown hownS
      have HSZ := Lib.hid (And.intro hsz hsz2)
      go_wp2_with (first
        | (refine wpList_lit_pq rfl _ rfl (sl_, sr_) rfl ?_; have hb2 := al (Below.refl V1.heap.size V1) (.cells (cellsQ (sl_, sr_)).toArray 132); have HL1 := Lib.hid (And.intro (HW1.out.1.below HP.out hb2) (And.intro (HW1.out.2.below hb2) (range_new V1 _ _ _ rfl : (V1.alloc (.cells (cellsQ (sl_, sr_)).toArray 132)).rangeAt V1.heap.size 0 (cellsQ (sl_, sr_))))); clear hb2; generalize V1.alloc (.cells (cellsQ (sl_, sr_)).toArray 132) = V2 at *; generalize V1.heap.size = z9 at *)
        | (at_builtin; refine wpList_append_pq rfl _ _ rfl W0.heap.size _ th (sl_, sr_) nt HNT.out.1 rfl (by have := HL1.out.2.1.t; rw [HNT.out.1] at this; exact this) z9 0 1 rfl HL1.out.2.2 (by omega) (HL1.out.1.k.size) ?_; intro g4 c4 w4 ho4 hg4 hat4 _; have HW4 := Lib.hid (And.intro (HL1.out.1.keep HP.out (Keeps.of_grown (X := fun k => u5.ownBlock = some k) hg4 (fun k h => h)) (fun k hk => (HL1.out.2.1.t.lt k hk).1)) (HL1.out.2.1.growT HNT.out.1 hg4 hat4 ho4)); clear ho4 hg4 hat4))
      by_cases hmk : mj < k
      · have hmk' : (mj : Int) < (k : Int) := by omega
        refine wp_region_sched (fun V => V.cell? ⟨M, 0, none⟩ = some (.int .i64 (mj : Int)) ∧ V.cell? ⟨P, 0, none⟩ = some (.slice (some ⟨pb, po, none⟩) np pc) ∧ V.rangeAt pb (po + nr * 32) (cellsOf x)) [.t 0, .t 2, .t 5, .s 1, .t 3, .e 4 true, .t 6, .e 7 true, .t 8, .e 9 false, .e 10 false, .t 11] (by kernel_rfl) (by kernel_rfl) (by intro c a d v w h; cases d <;> exact h) ?_
        have HW5 := Lib.hid (And.intro (HW4.out.1.below HP.out (Below.refl w4.heap.size w4).drew) (HW4.out.2.below (Below.refl w4.heap.size w4).drew))
        clear HW4
        generalize w4.drew = V at *
        have HS := Lib.hid (show V.cell? ⟨M, 0, none⟩ = some (.int .i64 (mj : Int)) ∧ V.cell? ⟨P, 0, none⟩ = some (.slice (some ⟨pb, po, none⟩) np pc) ∧ V.rangeAt pb (po + nr * 32) (cellsOf x) from ⟨HW5.out.1.cm.1, HW5.out.1.vp, br (HW5.out.1.base HP.out) HPR.out⟩)
        iterate 3
          refine wpS_t rfl (v := ?_) (by rfl) (fun W => ?_) ?_
          rotate_left
          · go_simp
            try rfl
          try simp only [Act.put, List.setIfInBounds_toArray, List.set_cons_zero, List.set_cons_succ]
        refine wpS_s (by exact HS.out) rfl (v := ?_) (by rfl) (fun W hSW => ?_) ?_
        rotate_left
        · go_simp
          try rfl
        try simp only [Act.put, List.setIfInBounds_toArray, List.set_cons_zero, List.set_cons_succ]
        iterate 1
          refine wpS_t rfl (v := ?_) (by rfl) (fun W => ?_) ?_
          rotate_left
          · go_simp
            try rfl
          try simp only [Act.put, List.setIfInBounds_toArray, List.set_cons_zero, List.set_cons_succ]
        have g := HS.out.2.1
        refine wpS_k rfl (by rfl) (fun K hK => ?_)
        go_simp
        refine hK _ _ ⟨by exact HS.out, ?_⟩; clear hK K
        try simp only [Act.put, List.setIfInBounds_toArray, List.set_cons_zero, List.set_cons_succ]
        clear g
        iterate 1
          refine wpS_t rfl (v := ?_) (by rfl) (fun W => ?_) ?_
          rotate_left
          · go_simp
            try rfl
          try simp only [Act.put, List.setIfInBounds_toArray, List.set_cons_zero, List.set_cons_succ]
        refine wpS_k rfl (by rfl) (fun K hK => ?_)
        refine wp_load_sum _ (by rfl) pb (po + nr * 32) (by rfl) x HS.out.2.2 ?_
        refine hK _ _ ⟨by exact HS.out, ?_⟩; clear hK K
        try simp only [Act.put, List.setIfInBounds_toArray, List.set_cons_zero, List.set_cons_succ]
        refine wpS_t rfl (v := stv (true, x)) (by rfl) (fun W => exec_build_step _ _ rfl true x (by rfl) (by rfl) W) ?_
        try simp only [Act.put, List.setIfInBounds_toArray, List.set_cons_zero, List.set_cons_succ]
        refine wpS_e rfl (by rfl) (fun K hK => ?_)
        refine wp_lit_st _ (by rfl) (true, x) (by rfl) ?_
        have hb2 := al (Below.refl V.heap.size V) (.cells (cellsS (true, x)).toArray 135)
        have HL2 := Lib.hid (And.intro (HW5.out.1.below HP.out hb2) (And.intro (HW5.out.2.below hb2) (range_new V _ _ _ rfl : (V.alloc (.cells (cellsS (true, x)).toArray 135)).rangeAt V.heap.size 0 (cellsS (true, x)))))
        clear hb2 HS HW5
        refine hK _ _ ?_; clear hK K
        try simp only [Act.put, List.setIfInBounds_toArray, List.set_cons_zero, List.set_cons_succ]
        generalize V.alloc (.cells (cellsS (true, x)).toArray 135) = V3 at *
        generalize V.heap.size = z8 at *
        refine wpS_e rfl (by rfl) (fun K hK => ?_)
        refine wp_append_st _ _ (by rfl) W0.heap.size _ T (true, x) ns HNT.out.2 (by rfl) (by have := HL2.out.2.1.s; rw [HNT.out.2] at this; exact this) z8 0 1 (by rfl) HL2.out.2.2 (by have := HSZ.out; omega) (HL2.out.1.k.size) ?_
        intro g5 c5 w5 ho5 hg5 hat5 _
        have HW6 := Lib.hid (And.intro (HL2.out.1.keep HP.out (Keeps.of_grown (X := fun k => u4.ownBlock = some k) hg5 (fun k h => h)) (fun k hk => (HL2.out.2.1.s.lt k hk).1)) (HL2.out.2.1.growS HNT.out.2 hg5 hat5 ho5))
        clear ho5 hg5 hat5 HL2
        refine hK _ _ ?_; clear hK K
        try simp only [Act.put, List.setIfInBounds_toArray, List.set_cons_zero, List.set_cons_succ]
        iterate 1
          refine wpS_t rfl (v := ?_) (by rfl) (fun W => ?_) ?_
          rotate_left
          · go_simp
            try rfl
          try simp only [Act.put, List.setIfInBounds_toArray, List.set_cons_zero, List.set_cons_succ]
        refine wpS_done ?_
        clear HW1 HL1 HOWN
        have e5 := HW6.out.1.cm.1
        have e6 := HW6.out.1.cl.1
        have e7 := HW6.out.1.cl.2
        have k0 : (0 : Int) ≤ (k : Int) := by omega
        have k1 : (k : Int) ≤ (nj : Int) := by have := HSM.out; omega
        have k2 : (k : Int) ≤ (cj : Int) := by omega
        have k3 : k ≤ cj := by omega
        have k4 : ¬ (cj = k) := by have := HSM.out; omega
        have k6 : ¬ (k = cj) := by have := HSM.out; omega
        have hw9 : wrap64 ((nr : Int) - 1) = (nr : Int) - 1 := by have := HR.out.2; have := HCP.out; unfold wrap64; omega
        go_wp2_with fail
        refine ⟨⟨lj.take k, mj, r, T ++ [(true, x)], th ++ [(sl_, sr_)], _, by rw [← HR.out.1, hw9], HLR2.out.1 hmk, HLJ.out.take k (by rw [← HNJ.out]; exact Nat.le_of_lt HSM.out.2.1), HW6.out.1.setL HP.out _, HW6.out.2.keep ((Keeps.refl (fun k => k = L) w5).setCell (p := ⟨L, 0, none⟩) (.inl rfl) _) (fun k hk => by rw [hk]; exact HP.out.l)⟩, by simp [intOf]; omega⟩
      · have hmk' : ¬ (mj : Int) < (k : Int) := by omega
        refine wp_region_sched (fun V => V.cell? ⟨M, 0, none⟩ = some (.int .i64 (mj : Int)) ∧ V.cell? ⟨P, 0, none⟩ = some (.slice (some ⟨pb, po, none⟩) np pc) ∧ V.rangeAt pb (po + nr * 32) (cellsOf x)) [.t 0, .t 2, .t 5, .s 1, .t 3, .e 4 true, .t 6, .e 7 true, .t 8, .e 9 false, .e 10 false, .t 11] (by kernel_rfl) (by kernel_rfl) (by intro c a d v w h; cases d <;> exact h) ?_
        have HW5 := Lib.hid (And.intro (HW4.out.1.below HP.out (Below.refl w4.heap.size w4).drew) (HW4.out.2.below (Below.refl w4.heap.size w4).drew))
        clear HW4
        generalize w4.drew = V at *
        have HS := Lib.hid (show V.cell? ⟨M, 0, none⟩ = some (.int .i64 (mj : Int)) ∧ V.cell? ⟨P, 0, none⟩ = some (.slice (some ⟨pb, po, none⟩) np pc) ∧ V.rangeAt pb (po + nr * 32) (cellsOf x) from ⟨HW5.out.1.cm.1, HW5.out.1.vp, br (HW5.out.1.base HP.out) HPR.out⟩)
        iterate 3
          refine wpS_t rfl (v := ?_) (by rfl) (fun W => ?_) ?_
          rotate_left
          · go_simp
            try rfl
          try simp only [Act.put, List.setIfInBounds_toArray, List.set_cons_zero, List.set_cons_succ]
        refine wpS_s (by exact HS.out) rfl (v := ?_) (by rfl) (fun W hSW => ?_) ?_
        rotate_left
        · go_simp
          try rfl
        try simp only [Act.put, List.setIfInBounds_toArray, List.set_cons_zero, List.set_cons_succ]
        iterate 1
          refine wpS_t rfl (v := ?_) (by rfl) (fun W => ?_) ?_
          rotate_left
          · go_simp
            try rfl
          try simp only [Act.put, List.setIfInBounds_toArray, List.set_cons_zero, List.set_cons_succ]
        have g := HS.out.2.1
        refine wpS_k rfl (by rfl) (fun K hK => ?_)
        go_simp
        refine hK _ _ ⟨by exact HS.out, ?_⟩; clear hK K
        try simp only [Act.put, List.setIfInBounds_toArray, List.set_cons_zero, List.set_cons_succ]
        clear g
        iterate 1
          refine wpS_t rfl (v := ?_) (by rfl) (fun W => ?_) ?_
          rotate_left
          · go_simp
            try rfl
          try simp only [Act.put, List.setIfInBounds_toArray, List.set_cons_zero, List.set_cons_succ]
        refine wpS_k rfl (by rfl) (fun K hK => ?_)
        refine wp_load_sum _ (by rfl) pb (po + nr * 32) (by rfl) x HS.out.2.2 ?_
        refine hK _ _ ⟨by exact HS.out, ?_⟩; clear hK K
        try simp only [Act.put, List.setIfInBounds_toArray, List.set_cons_zero, List.set_cons_succ]
        refine wpS_t rfl (v := stv (false, x)) (by rfl) (fun W => exec_build_step _ _ rfl false x (by rfl) (by rfl) W) ?_
        try simp only [Act.put, List.setIfInBounds_toArray, List.set_cons_zero, List.set_cons_succ]
        refine wpS_e rfl (by rfl) (fun K hK => ?_)
        refine wp_lit_st _ (by rfl) (false, x) (by rfl) ?_
        have hb2 := al (Below.refl V.heap.size V) (.cells (cellsS (false, x)).toArray 135)
        have HL2 := Lib.hid (And.intro (HW5.out.1.below HP.out hb2) (And.intro (HW5.out.2.below hb2) (range_new V _ _ _ rfl : (V.alloc (.cells (cellsS (false, x)).toArray 135)).rangeAt V.heap.size 0 (cellsS (false, x)))))
        clear hb2 HS HW5
        refine hK _ _ ?_; clear hK K
        try simp only [Act.put, List.setIfInBounds_toArray, List.set_cons_zero, List.set_cons_succ]
        generalize V.alloc (.cells (cellsS (false, x)).toArray 135) = V3 at *
        generalize V.heap.size = z8 at *
        refine wpS_e rfl (by rfl) (fun K hK => ?_)
        refine wp_append_st _ _ (by rfl) W0.heap.size _ T (false, x) ns HNT.out.2 (by rfl) (by have := HL2.out.2.1.s; rw [HNT.out.2] at this; exact this) z8 0 1 (by rfl) HL2.out.2.2 (by have := HSZ.out; omega) (HL2.out.1.k.size) ?_
        intro g5 c5 w5 ho5 hg5 hat5 _
        have HW6 := Lib.hid (And.intro (HL2.out.1.keep HP.out (Keeps.of_grown (X := fun k => u4.ownBlock = some k) hg5 (fun k h => h)) (fun k hk => (HL2.out.2.1.s.lt k hk).1)) (HL2.out.2.1.growS HNT.out.2 hg5 hat5 ho5))
        clear ho5 hg5 hat5 HL2
        refine hK _ _ ?_; clear hK K
        try simp only [Act.put, List.setIfInBounds_toArray, List.set_cons_zero, List.set_cons_succ]
        iterate 1
          refine wpS_t rfl (v := ?_) (by rfl) (fun W => ?_) ?_
          rotate_left
          · go_simp
            try rfl
          try simp only [Act.put, List.setIfInBounds_toArray, List.set_cons_zero, List.set_cons_succ]
        refine wpS_done ?_
        clear HW1 HL1 HOWN
        have e5 := HW6.out.1.cm.1
        have e6 := HW6.out.1.cl.1
        have e7 := HW6.out.1.cl.2
        have k0 : (0 : Int) ≤ (k : Int) := by omega
        have k1 : (k : Int) ≤ (nj : Int) := by have := HSM.out; omega
        have k2 : (k : Int) ≤ (cj : Int) := by omega
        have k3 : k ≤ cj := by omega
        have k4 : ¬ (cj = k) := by have := HSM.out; omega
        have k6 : ¬ (k = cj) := by have := HSM.out; omega
        have hw9 : wrap64 ((nr : Int) - 1) = (nr : Int) - 1 := by have := HR.out.2; have := HCP.out; unfold wrap64; omega
        have k8 : (k : Int) ≤ (mj : Int) := by omega
        have hw8 : wrap64 ((mj : Int) - (k : Int)) = (((mj - k : Nat)) : Int) := by have := HSM.out; unfold wrap64; omega
        go_wp2_with fail
        refine wp_region_sched (fun V => V.cell? ⟨L, 0, none⟩ = some (.slice (some ⟨bj, oj, none⟩) nj cj) ∧ V.cell? ⟨M, 0, none⟩ = some (.int .i64 (mj : Int))) [.t 1, .t 4, .s 0, .t 2, .e 3 true, .t 5, .e 6 false, .e 7 false] (by kernel_rfl) (by kernel_rfl) (by intro c a d v w h; cases d <;> exact h) ?_
        clear e5 e6 e7
        have HW7 := Lib.hid (And.intro (HW6.out.1.below HP.out (Below.refl w5.heap.size w5).drew) (HW6.out.2.below (Below.refl w5.heap.size w5).drew))
        clear HW6
        generalize w5.drew = V9 at *
        have HS := Lib.hid (show V9.cell? ⟨L, 0, none⟩ = some (.slice (some ⟨bj, oj, none⟩) nj cj) ∧ V9.cell? ⟨M, 0, none⟩ = some (.int .i64 (mj : Int)) from ⟨HW7.out.1.cl.1, HW7.out.1.cm.1⟩)
        iterate 2
          refine wpS_t rfl (v := ?_) (by rfl) (fun W => ?_) ?_
          rotate_left
          · go_simp
            try rfl
          try simp only [Act.put, List.setIfInBounds_toArray, List.set_cons_zero, List.set_cons_succ]
        refine wpS_s (by exact HS.out) rfl (v := ?_) (by rfl) (fun W hSW => ?_) ?_
        rotate_left
        · go_simp
          try rfl
        try simp only [Act.put, List.setIfInBounds_toArray, List.set_cons_zero, List.set_cons_succ]
        iterate 1
          refine wpS_t rfl (v := ?_) (by rfl) (fun W => ?_) ?_
          rotate_left
          · go_simp
            try rfl
          try simp only [Act.put, List.setIfInBounds_toArray, List.set_cons_zero, List.set_cons_succ]
        have g := HS.out.2
        refine wpS_k rfl (by rfl) (fun K hK => ?_)
        go_simp
        refine hK _ _ ⟨by exact HS.out, ?_⟩; clear hK K
        try simp only [Act.put, List.setIfInBounds_toArray, List.set_cons_zero, List.set_cons_succ]
        iterate 1
          refine wpS_t rfl (v := ?_) (by rfl) (fun W => ?_) ?_
          rotate_left
          · go_simp
            try rfl
          try simp only [Act.put, List.setIfInBounds_toArray, List.set_cons_zero, List.set_cons_succ]
        have g6 := HS.out.1
        have g7 := HW7.out.1.cl.2
        have hw8' := hw8
        refine wpS_e rfl (by rfl) (fun K hK => ?_)
        go_simp
        have HW8 := Lib.hid (And.intro (HW7.out.1.setL HP.out (.slice (some ⟨bj, oj + k, none⟩) (nj - k) (cj - k))) (HW7.out.2.keep ((Keeps.refl (fun k => k = L) V9).setCell (p := ⟨L, 0, none⟩) (.inl rfl) (.slice (some ⟨bj, oj + k, none⟩) (nj - k) (cj - k))) (fun k hk => by rw [hk]; exact HP.out.l)))
        refine hK _ _ ?_; clear hK K
        try simp only [Act.put, List.setIfInBounds_toArray, List.set_cons_zero, List.set_cons_succ]
        clear g g6 g7 hw8' HW7 HS
        generalize V9.setCell ⟨L, 0, none⟩ (.slice (some ⟨bj, oj + k, none⟩) (nj - k) (cj - k)) = V10 at *
        have g8 := HW8.out.1.cm.1
        have g9 := HW8.out.1.cm.2
        refine wpS_e rfl (by rfl) (fun K hK => ?_)
        go_simp
        refine hK _ _ ?_; clear hK K
        try simp only [Act.put, List.setIfInBounds_toArray, List.set_cons_zero, List.set_cons_succ]
        have HW9 := Lib.hid (And.intro (HW8.out.1.setM HP.out (mj - k)) (HW8.out.2.keep ((Keeps.refl (fun k => k = M) V10).setCell (p := ⟨M, 0, none⟩) (.inl rfl) (.int .i64 ((mj - k : Nat) : Int))) (fun k hk => by rw [hk]; exact HP.out.m)))
        clear g8 g9 HW8
        rw [show IntKind.i64.wrap ((mj : Int) - (k : Int)) = ((mj - k : Nat) : Int) from by have := HSM.out; rw [IntKind.wrap_i64]; omega]
        generalize V10.setCell ⟨M, 0, none⟩ (.int .i64 ((mj - k : Nat) : Int)) = V11 at *
        refine wpS_done ?_
        go_wp2_with fail
        refine ⟨⟨lj.drop k, mj - k, r, T ++ [(false, x)], th ++ [(sl_, sr_)], _, by rw [← HR.out.1, hw9], HLR2.out.2 hmk, ?_, HW9.out.1, HW9.out.2⟩, by simp [intOf]; omega⟩
        have := HLJ.out.drop k (cj - k) (by rw [← HNJ.out]; exact Nat.le_of_lt HSM.out.2.1) (by rw [← HNJ.out]; omega) (by omega)
        rw [← HNJ.out] at this
        exact this
    · have h2' : ¬ (1 : Int) < (nj : Int) := by omega
      obtain ⟨hq0, hside, xe, hlx, hlm⟩ := HST.out.fin (by rw [← HNJ.out]; omega)
      have HSD := Lib.hid (And.intro hside (And.intro hlx hlm))
      have hsh : th.length < 1000000 ∧ T.length = th.length := ⟨by have := HST.out.pd.short; have := HNL.out; omega, HST.out.pd.lens⟩
      have HSH := Lib.hid hsh
      clear hq0 hside hlx hlm hsh HST HQL HCP
      have HRT := Lib.hid (rowG_new length_cellsS HTR.out.s HTR.out.sn)
      go_wp2_with fail
      refine (reverse_st wr _ _ T HRT.out (by have := HSH.out; omega)).mono ?_
      rintro e w1 ⟨rfl, hrow, hk⟩
      have HW1 := Lib.hid (And.intro (HPW.out.keep HP.out hk (fun k e => (HTR.out.s.lt k e).1)) (And.intro (rowG_new length_cellsQ (hk.owns HTR.out.t (fun k e y => HTR.out.d k y e)) HTR.out.tn) hrow))
      clear hk hrow HPW HTR HRT hc1
      have hc3 := HW1.out.1.vb
      obtain ⟨ba, bc_, rfl, _, _, hz2⟩ := id HBA.out
      clear hz2
      go_wp2_with fail
      refine (lf_any b _ w1 (bytes_below HBA.out (HW1.out.1.base HP.out) (Nat.le_refl _)) (by have := HX.out.2.2.2; omega)).mono ?_
      rintro e w2 ⟨rfl, hb⟩
      have hkb := Keeps.of_below (X := fun _ => False) hb
      have HW2 := Lib.hid (And.intro (HW1.out.1.below HP.out hb) (And.intro (HW1.out.2.1.keep (by omega) hkb (fun _ _ h => h)) (HW1.out.2.2.keep (by omega) hkb (fun _ _ h => h))))
      clear hb hkb HW1 hc3
      obtain ⟨lfb, hlfb⟩ : ∃ s, s = lf b := ⟨_, rfl⟩
      have HLB := Lib.hid hlfb
      rw [← hlfb] at HSD ⊢
      clear hlfb
      go_wp2_with fail
      refine (up_any lfb T.reverse _ _ w2 HW2.out.2.2 (by rw [List.length_reverse]; have := HSH.out; omega)).mono ?_
      rintro e w3 ⟨u, rfl, hu, hb⟩
      have hkb := Keeps.of_below (X := fun _ => False) hb
      rw [(upM_reverse lfb T).1] at hu
      have HW3 := Lib.hid (And.intro (HW2.out.1.below HP.out hb) (And.intro (HW2.out.2.1.keep (by omega) hkb (fun _ _ h => h)) (And.intro hu (show ∀ k, u5.ownBlock = some k → ¬ u.ownBlock = some k from fun k e y => by
        have h1 := hu.own k y
        have h2 : k < w2.heap.size := by
          rcases HW2.out.2.1 with ⟨rfl, _⟩ | ⟨g, cap, rfl, h0, _, _, _, h4, _⟩
          · cases e
          · simp only [Value.ownBlock, Option.some.injEq] at e
            subst e
            exact range_lt h4 (by intro h; have h6 := length_cfA length_cellsQ th; rw [h] at h6; have h7 := List.length_pos_iff.2 h0; rw [List.length_nil] at h6; omega)
        omega))))
      have HSZ3 := Lib.hid (HW2.out.1.k.size)
      clear hu hb hkb HW2
      go_wp2_with fail
      refine (reverse_pq w3 _ _ _ HW3.out.2.2.1 (by rw [List.length_reverse, length_saidT]; have := HSH.out; omega)).mono ?_
      rintro e w4 ⟨rfl, hrow, hk⟩
      rw [List.reverse_reverse] at hrow
      have HW4 := Lib.hid (And.intro (HW3.out.1.keep HP.out hk (fun k e => by have := HW3.out.2.2.1.own k e; have := HSZ3.out; omega)) (And.intro (HW3.out.2.1.keep (by omega) hk (fun k e y => HW3.out.2.2.2 k e y)) hrow))
      clear hk hrow HW3
      have hv5 : ∃ a c, u5 = .slice a th.length c := by
        rcases HW4.out.2.1 with ⟨h1, h2⟩ | ⟨g, cap, h1, _⟩
        · exact ⟨none, 0, by rw [h1, h2]; rfl⟩
        · exact ⟨_, cap, h1⟩
      obtain ⟨a5, c5, rfl⟩ := hv5
      have hv8 : ∃ a c, u = .slice a th.length c := by
        rcases HW4.out.2.2 with ⟨h1, h2⟩ | ⟨g, cap, h1, _⟩
        · refine ⟨none, 0, ?_⟩
          have := length_saidT lfb T
          rw [h2] at this
          have h9 := HSH.out.2
          rw [h1, ← h9, ← this]; rfl
        · exact ⟨_, cap, by rw [h1, length_saidT, HSH.out.2]⟩
      obtain ⟨a8, c8, rfl⟩ := hv8
      obtain ⟨nt, hnt⟩ : ∃ n, n = th.length := ⟨_, rfl⟩
      rw [← hnt] at HW4 HSH ⊢
      have HNT := Lib.hid hnt
      clear hnt
      have hnt6 : (nt : Int) < 1000000 := by have := HSH.out.1; omega
      go_wp2_with fail
      go_loopw [61] (fun i W => ∃ j : Nat, j ≤ nt ∧ i = .int .i64 (j : Int) ∧ Side lfb lj (T.drop j) (th.drop j) ∧ (saidT lfb T).drop j = saidT lfb (T.drop j) ∧ Below w4.heap.size w4 W) (fun i _ => nt - (intOf i).toNat)
      case atStart => exact ⟨0, by omega, rfl, HSD.out.1, rfl, Below.refl _ _⟩
      case round =>
        obtain ⟨j, hj, rfl, hside, hsaid, hB⟩ := hrel
        have HSI := Lib.hid (And.intro hside hsaid)
        have HW := Lib.hid (HW4.out.1.below HP.out hB)
        have HB := Lib.hid hB
        have HRW := Lib.hid (And.intro (HW4.out.2.1.keep (by omega) (Keeps.of_below (X := fun _ => False) hB) (fun _ _ h => h)) (HW4.out.2.2.keep (by omega) (Keeps.of_below (X := fun _ => False) hB) (fun _ _ h => h)))
        clear hside hsaid hB
        by_cases hlt : j < nt
        · have hlt' : (j : Int) < (nt : Int) := by omega
          have hj0 : (0 : Int) ≤ (j : Int) := by omega
          have hjt : j < th.length := by rw [← HNT.out]; exact hlt
          have hjs : j < (saidT lfb T).length := by rw [length_saidT, HSH.out.2]; exact hlt
          have hr1 : ∃ g, a5 = some ⟨g, 0, none⟩ ∧ wr.rangeAt g (0 + j * 64) (cellsQ th[j]) := by
            rcases HRW.out.1 with ⟨h1, h2⟩ | ⟨g, cap, h1, _, _, _, _, h4, _⟩
            · rw [h2] at hjt; simp at hjt
            · simp only [Value.slice.injEq] at h1
              exact ⟨g, h1.1, rangeG_at length_cellsQ h4 hjt⟩
          have hr2 : ∃ g, a8 = some ⟨g, 0, none⟩ ∧ wr.rangeAt g (0 + j * 64) (cellsQ (saidT lfb T)[j]) := by
            rcases HRW.out.2 with ⟨h1, h2⟩ | ⟨g, cap, h1, _, _, _, _, h4, _⟩
            · rw [h2] at hjs; simp at hjs
            · simp only [Value.slice.injEq] at h1
              exact ⟨g, h1.1, rangeG_at length_cellsQ h4 hjs⟩
          obtain ⟨g6, rfl, hr1⟩ := hr1
          obtain ⟨g8, rfl, hr2⟩ := hr2
          have hd1 : th.drop j = th[j] :: th.drop (j + 1) := List.drop_eq_getElem_cons hjt
          have hd2 : saidT lfb (T.drop j) = (saidT lfb T)[j] :: (saidT lfb T).drop (j + 1) := by rw [← HSI.out.2]; exact List.drop_eq_getElem_cons hjs
          rw [Nat.zero_add] at hr1 hr2
          have HD := Lib.hid (And.intro hd1 hd2)
          have HRR := Lib.hid (And.intro hr1 hr2)
          clear hd1 hd2 hr1 hr2
          generalize th[j] = p1 at *
          generalize (saidT lfb T)[j] = p2 at *
          clear hjt hjs
          go_wp2_with (first
            | (refine wpList_load_pq rfl _ rfl g6 (j * 64) rfl p1 HRR.out.1 ?_)
            | (refine wpList_alloc_pq rfl rfl ?_)
            | (refine wpList_var_pq (by rfl) rfl _ _ rfl p1 rfl rfl ?_; intro W5 z5 hz5 hb5 hr5 _ _; have HW5 := Lib.hid (And.intro (HW.out.below HP.out hb5) (And.intro (HB.out.trans (hb5.mono HB.out.size)) (And.intro hr5 (br hb5 HRR.out.2)))); rw [← hz5]; clear hz5 hb5 hr5))
          refine wp_region_sched (fun V => V.rangeAt z5 0 (cellsQ p1) ∧ V.rangeAt g8 (j * 64) (cellsQ p2)) [.t 1, .t 2, .t 3, .s 0, .e 4 true, .e 5 false] (by kernel_rfl) (by kernel_rfl) (by intro c a d v w h; cases d <;> exact h) ?_
          have hbd := (Below.refl W5.heap.size W5).drew
          have HW6 := Lib.hid (And.intro (HW5.out.1.below HP.out hbd) (HW5.out.2.1.trans (hbd.mono HW5.out.2.1.size)))
          have HS := Lib.hid (show W5.drew.rangeAt z5 0 (cellsQ p1) ∧ W5.drew.rangeAt g8 (j * 64) (cellsQ p2) from HW5.out.2.2)
          clear hbd HW5 HRR HW
          generalize W5.drew = V at *
          iterate 3
            refine wpS_t rfl (v := ?_) (by rfl) (fun W => ?_) ?_
            rotate_left
            · go_simp
              try rfl
            try simp only [Act.put, List.setIfInBounds_toArray, List.set_cons_zero, List.set_cons_succ]
          refine wpS_load_pq (by exact HS.out) rfl (by rfl) _ (by rfl) z5 0 (by rfl) p1 (fun V hV => hV.1) ?_
          try simp only [Act.put, List.setIfInBounds_toArray, List.set_cons_zero, List.set_cons_succ]
          refine wpS_k rfl (by rfl) (fun K hK => ?_)
          refine wp_load_pq _ (by rfl) g8 (j * 64) (by rfl) p2 HS.out.2 ?_
          refine hK _ _ ⟨by exact HS.out, ?_⟩; clear hK K
          try simp only [Act.put, List.setIfInBounds_toArray, List.set_cons_zero, List.set_cons_succ]
          refine wpS_e rfl (by rfl) (fun K hK => ?_)
          go_simp
          by_cases hpp : p1 = p2
          · subst hpp
            obtain ⟨s', T', hT, hs2, hside⟩ := HSI.out.1.step HD.out.1 HD.out.2
            have hT2 : T.drop (j + 1) = T' := by
              have := congrArg (List.drop 1) hT
              rw [List.drop_drop] at this
              simpa using this
            have HSJ := Lib.hid (show Side lfb lj (T.drop (j + 1)) (th.drop (j + 1)) ∧ (saidT lfb T).drop (j + 1) = saidT lfb (T.drop (j + 1)) from by rw [hT2]; exact ⟨hside, hs2⟩)
            clear hT hs2 hside hT2
            refine (apart_same p1.1 p1.2 V).mono ?_
            rintro e V1 ⟨rfl, hb⟩
            have HF := Lib.hid (HW6.out.2.trans (hb.mono HW6.out.2.size))
            clear hb
            refine hK _ _ ?_; clear hK K
            try simp only [Act.put, List.setIfInBounds_toArray, List.set_cons_zero, List.set_cons_succ]
            refine wpS_done ?_
            go_wp2_with fail
            exact ⟨⟨j + 1, by omega, by simp, HSJ.out.1, HSJ.out.2, HF.out⟩, by simp [intOf]; omega⟩
          · refine (apart_clash p1.1 p1.2 p2.1 p2.2 V (fun h => hpp (Prod.ext h.1 h.2)) (HSI.out.1.clash HD.out.1 HD.out.2)).mono ?_
            intro e w9 h
            have hF := h.k HW6.out.1.k
            obtain ⟨va, vb, A, B, rfl, _⟩ := h
            exact ⟨rfl, hF⟩
        · have hjn : j = nt := by omega
          subst hjn
          have hend := HSI.out.1.end_ (List.drop_eq_nil_of_le (by rw [← HNT.out]; exact Nat.le_refl _))
          rw [HSD.out.2.1] at hend
          have hend2 : lf xe = lf b := by
            have h1 : rt [lf xe] = lfb := hend
            rw [rt_one] at h1
            rw [h1, HLB.out]
          have hxb : ¬ xe = b := fun h => HX.out.1 (by rw [HSD.out.2.2, h])
          have hn1 : nj = 1 := by rw [HNJ.out, HSD.out.2.1]; rfl
          subst hn1
          have hLJ := HLJ.out.below (HW.out.base HP.out)
          rw [HSD.out.2.1] at hLJ
          obtain ⟨ux, hux, hxe⟩ := hLJ.cell (sp := none) (j := 0) (by simp)
          rw [Nat.add_zero] at hux
          have hxs : xe.length < 900000 := HX.out.2.2.1 xe (by have := List.mem_of_getElem? HSD.out.2.2; exact this)
          have HE := Lib.hid (And.intro hend2 (And.intro hxb (And.intro hxs (And.intro hux hxe))))
          clear hend hend2 hxb hLJ hux hxe hxs
          go_wp2_with fail
          refine wp_region_sched (fun V => V.cell? ⟨L, 0, none⟩ = some (.slice (some ⟨bj, oj, none⟩) 1 cj) ∧ V.cell? ⟨bj, oj, none⟩ = some ux ∧ V.cell? ⟨B, 0, none⟩ = some (.slice ba b.length bc_)) [.s 0, .t 1, .s 2, .e 3 true, .e 4 false] (by kernel_rfl) (by kernel_rfl) (by intro c a d v w h; cases d <;> exact h) ?_
          have hbd := (Below.refl wr.heap.size wr).drew
          have HW6 := Lib.hid (And.intro (HW.out.below HP.out hbd) (And.intro (bytes_below HE.out.2.2.2.2 hbd (Nat.le_refl _)) (bc HE.out.2.2.2.1 hbd)))
          clear hbd HW HRW
          generalize wr.drew = V at *
          have HS := Lib.hid (show V.cell? ⟨L, 0, none⟩ = some (.slice (some ⟨bj, oj, none⟩) 1 cj) ∧ V.cell? ⟨bj, oj, none⟩ = some ux ∧ V.cell? ⟨B, 0, none⟩ = some (.slice ba b.length bc_) from ⟨HW6.out.1.cl.1, HW6.out.2.2, HW6.out.1.vb⟩)
          refine wpS_s (by exact HS.out) rfl (v := ?_) (by rfl) (fun W hSW => ?_) ?_
          rotate_left
          · go_simp
            try rfl
          try simp only [Act.put, List.setIfInBounds_toArray, List.set_cons_zero, List.set_cons_succ]
          iterate 1
            refine wpS_t rfl (v := ?_) (by rfl) (fun W => ?_) ?_
            rotate_left
            · go_simp
              try rfl
            try simp only [Act.put, List.setIfInBounds_toArray, List.set_cons_zero, List.set_cons_succ]
          refine wpS_s (by exact HS.out) rfl (v := ?_) (by rfl) (fun W hSW => ?_) ?_
          rotate_left
          · go_simp
            try rfl
          try simp only [Act.put, List.setIfInBounds_toArray, List.set_cons_zero, List.set_cons_succ]
          have g := HS.out.2.2
          refine wpS_k rfl (by rfl) (fun K hK => ?_)
          go_simp
          refine hK _ _ ⟨by exact HS.out, ?_⟩; clear hK K
          try simp only [Act.put, List.setIfInBounds_toArray, List.set_cons_zero, List.set_cons_succ]
          clear g
          refine wpS_e rfl (by rfl) (fun K hK => ?_)
          go_simp
          refine (ends_any xe b _ _ V HW6.out.2.1 (bytes_below HBA.out (HW6.out.1.base HP.out) (Nat.le_refl _)) HE.out.2.2.1 HX.out.2.2.2 HE.out.2.1 HE.out.1).mono ?_
          intro e w9 h
          have hF := h.k HW6.out.1.k
          obtain ⟨va, vb, A, B, rfl, _⟩ := h
          exact ⟨rfl, hF⟩
end Go.Proofs.Ytdkcndgehgmadaa
-- Walks: clashes.Path.
open Go Go.RowKit Alm
namespace Go.Proofs.Ytdkcndgehgmadaa
theorem row_here (w : World) (o : Obj) : (w.alloc o).heap[w.heap.size]? = some o := Array.getElem?_push_size
theorem row_old {w : World} {k : Nat} {o : Obj} (p : Obj) (h : w.heap[k]? = some o) : (w.alloc p).heap[k]? = some o := (Below.heap_alloc w p k (Array.getElem?_eq_some_iff.1 h).1).trans h
theorem five_rows (w : World) (A B C D E : Obj) : (((((w.alloc A).alloc B).alloc C).alloc D).alloc E).heap[w.heap.size]? = some A ∧ (((((w.alloc A).alloc B).alloc C).alloc D).alloc E).heap[w.heap.size + 1]? = some B ∧ (((((w.alloc A).alloc B).alloc C).alloc D).alloc E).heap[w.heap.size + 1 + 1 + 1 + 1]? = some E := by
  refine ⟨row_old _ (row_old _ (row_old _ (row_old _ (row_here w A)))), ?_, ?_⟩
  · have := row_here (w.alloc A) B
    rw [World.size_alloc] at this
    exact row_old _ (row_old _ (row_old _ this))
  · have := row_here ((((w.alloc A).alloc B).alloc C).alloc D) E
    simp only [World.size_alloc] at this
    exact this
set_option maxRecDepth 100000 in
set_option maxHeartbeats 1000000 in
theorem path_out (l : List (List UInt8)) (a : Int) (vl vb vp : Value) (w : World) (hl : ListsAt w vl l) (ha : a < 0 ∨ (l.length : Int) ≤ a) (hb : ∃ a n c, vb = .slice a n c) (hp : ∃ a n c, vp = .slice a n c) : Calls Try.prog 57 #[vl, .int .i64 a, vb, vp] w fun e w' => e = .returned (.tuple #[cv (.slice none 0 0) (.slice none 0 0), .bool false]) ∧ Below w.heap.size w w' := by
  obtain ⟨pa, pn, pc, rfl⟩ := hp
  obtain ⟨ba, bn, bcap, rfl⟩ := hb
  obtain ⟨al_, cl, rfl, c1, c2, _⟩ := hl
  have HBX := Lib.hid (box_five w (.slice al_ l.length cl) (.int .i64 a) (.slice ba bn bcap) (.slice pa pn pc) 67 3 50 22 75 #[.slice none 0 0, .slice none 0 0] _ rfl)
  obtain ⟨n, hna⟩ : ∃ n, n = l.length := ⟨_, rfl⟩
  rw [← hna] at HBX c1 ha ⊢
  clear hna
  by_cases h0 : a < 0
  · go_enter Try.func57, Try.ntmps57
    go_wp2_with fail
    obtain ⟨z, hz⟩ : ∃ z, z = w.heap.size := ⟨_, rfl⟩
    rw [← hz] at HBX ⊢
    have HZ := Lib.hid hz; clear hz
    have HBW := Lib.hid (HZ.out ▸ HBX.out.2.2.2.2.2 : Below w.heap.size w _)
    generalize ((((w.alloc (.cells #[.slice al_ n cl] 67)).alloc (.cells #[.int .i64 a] 3)).alloc (.cells #[.slice ba bn bcap] 50)).alloc (.cells #[.slice pa pn pc] 22)).alloc (.cells #[.slice none 0 0, .slice none 0 0] 75) = W at *
    refine wp_region_sched (fun V => V.cell? ⟨z, 0, none⟩ = some (.slice al_ n cl) ∧ V.cell? ⟨z + 1, 0, none⟩ = some (.int .i64 a) ∧ V.cell? ⟨z + 1 + 1, 0, none⟩ = some (.slice ba bn bcap) ∧ V.cell? ⟨z + 1 + 1 + 1, 0, none⟩ = some (.slice pa pn pc) ∧ Below W.heap.size W V) [.e 0 true, .t 1, .t 2, .s 3, .e 4 true, .t 5, .t 6, .t 7, .t 8, .s 9, .s 10, .t 11, .s 12, .e 13 true, .e 14 true, .t 15, .t 16, .s 17, .s 19, .t 20, .s 21, .t 22, .t 23, .s 24, .s 25, .e 18 true, .e 26 true, .e 27 true, .t 28, .t 29] (by kernel_rfl) (by kernel_rfl) (by intro c a d v w h; cases d <;> exact h) ?_
    have HSS : Hid (∀ V, Below W.heap.size W V → V.cell? ⟨z, 0, none⟩ = some (.slice al_ n cl) ∧ V.cell? ⟨z + 1, 0, none⟩ = some (.int .i64 a) ∧ V.cell? ⟨z + 1 + 1, 0, none⟩ = some (.slice ba bn bcap) ∧ V.cell? ⟨z + 1 + 1 + 1, 0, none⟩ = some (.slice pa pn pc) ∧ Below W.heap.size W V) := Lib.hid (fun V hV => ⟨bc HBX.out.1 hV, bc HBX.out.2.1 hV, bc HBX.out.2.2.1 hV, bc HBX.out.2.2.2.1 hV, hV⟩)
    have HS := Lib.hid (Below.refl W.heap.size W).drew
    generalize W.drew = V at *
    have g := (HSS.out _ HS.out).2.1
    refine wpS_k rfl (by rfl) (fun K hK => ?_)
    go_simp
    refine hK _ _ ⟨by exact HSS.out _ HS.out, ?_⟩; clear hK K
    try simp only [Act.put, List.setIfInBounds_toArray, List.set_cons_zero, List.set_cons_succ]
    clear g
    iterate 2
      refine wpS_t rfl (v := ?_) (by rfl) (fun W => ?_) ?_
      rotate_left
      · go_simp
        try rfl
      try simp only [Act.put, List.setIfInBounds_toArray, List.set_cons_zero, List.set_cons_succ]
    iterate 1
      refine wpS_s_skip (by exact HSS.out _ HS.out) rfl (by rfl) ?_
      try simp only [Act.put, List.setIfInBounds_toArray, List.set_cons_zero, List.set_cons_succ]
    refine wpS_k_skip (by exact HSS.out _ HS.out) rfl (by rfl) ?_
    try simp only [Act.put, List.setIfInBounds_toArray, List.set_cons_zero, List.set_cons_succ]
    iterate 2
      refine wpS_t_skip rfl (by rfl) ?_
      try simp only [Act.put, List.setIfInBounds_toArray, List.set_cons_zero, List.set_cons_succ]
    iterate 2
      refine wpS_t rfl (v := ?_) (by rfl) (fun W => ?_) ?_
      rotate_left
      · go_simp
        try rfl
      try simp only [Act.put, List.setIfInBounds_toArray, List.set_cons_zero, List.set_cons_succ]
    iterate 2
      refine wpS_s_skip (by exact HSS.out _ HS.out) rfl (by rfl) ?_
      try simp only [Act.put, List.setIfInBounds_toArray, List.set_cons_zero, List.set_cons_succ]
    iterate 1
      refine wpS_t_skip rfl (by rfl) ?_
      try simp only [Act.put, List.setIfInBounds_toArray, List.set_cons_zero, List.set_cons_succ]
    iterate 1
      refine wpS_s_skip (by exact HSS.out _ HS.out) rfl (by rfl) ?_
      try simp only [Act.put, List.setIfInBounds_toArray, List.set_cons_zero, List.set_cons_succ]
    refine wpS_k_skip (by exact HSS.out _ HS.out) rfl (by rfl) ?_
    try simp only [Act.put, List.setIfInBounds_toArray, List.set_cons_zero, List.set_cons_succ]
    refine wpS_k_skip (by exact HSS.out _ HS.out) rfl (by rfl) ?_
    try simp only [Act.put, List.setIfInBounds_toArray, List.set_cons_zero, List.set_cons_succ]
    iterate 2
      refine wpS_t rfl (v := ?_) (by rfl) (fun W => ?_) ?_
      rotate_left
      · go_simp
        try rfl
      try simp only [Act.put, List.setIfInBounds_toArray, List.set_cons_zero, List.set_cons_succ]
    iterate 2
      refine wpS_s_skip (by exact HSS.out _ HS.out) rfl (by rfl) ?_
      try simp only [Act.put, List.setIfInBounds_toArray, List.set_cons_zero, List.set_cons_succ]
    iterate 1
      refine wpS_t_skip rfl (by rfl) ?_
      try simp only [Act.put, List.setIfInBounds_toArray, List.set_cons_zero, List.set_cons_succ]
    iterate 1
      refine wpS_s_skip (by exact HSS.out _ HS.out) rfl (by rfl) ?_
      try simp only [Act.put, List.setIfInBounds_toArray, List.set_cons_zero, List.set_cons_succ]
    iterate 2
      refine wpS_t_skip rfl (by rfl) ?_
      try simp only [Act.put, List.setIfInBounds_toArray, List.set_cons_zero, List.set_cons_succ]
    iterate 2
      refine wpS_s_skip (by exact HSS.out _ HS.out) rfl (by rfl) ?_
      try simp only [Act.put, List.setIfInBounds_toArray, List.set_cons_zero, List.set_cons_succ]
    refine wpS_k_skip (by exact HSS.out _ HS.out) rfl (by rfl) ?_
    try simp only [Act.put, List.setIfInBounds_toArray, List.set_cons_zero, List.set_cons_succ]
    refine wpS_k_skip (by exact HSS.out _ HS.out) rfl (by rfl) ?_
    try simp only [Act.put, List.setIfInBounds_toArray, List.set_cons_zero, List.set_cons_succ]
    refine wpS_k_skip (by exact HSS.out _ HS.out) rfl (by rfl) ?_
    try simp only [Act.put, List.setIfInBounds_toArray, List.set_cons_zero, List.set_cons_succ]
    iterate 1
      refine wpS_t_skip rfl (by rfl) ?_
      try simp only [Act.put, List.setIfInBounds_toArray, List.set_cons_zero, List.set_cons_succ]
    iterate 1
      refine wpS_t rfl (v := ?_) (by rfl) (fun W => ?_) ?_
      rotate_left
      · go_simp
        try rfl
      try simp only [Act.put, List.setIfInBounds_toArray, List.set_cons_zero, List.set_cons_succ]
    refine wpS_done ?_
    have HTV := Lib.hid ((Keeps.of_below (X := fun _ => False) HS.out).there HBX.out.2.2.2.2.1 (by decide) (fun h => h))
    have HBV := Lib.hid (HBW.out.trans (HS.out.mono HBW.out.size))
    go_wp2_with (refine wpList_store_clash rfl _ _ rfl (z + 1 + 1 + 1 + 1) 0 rfl rfl HTV.out ?_)
    exact bodyPost_ret (results_cell_tmp Try.results57 _ _ (z + 1 + 1 + 1 + 1) 0 cnil _ rfl (range_stored _ _ _ _ (by exact World.there_setCells HTV.out _ _ _)) Try.underlying75 rfl infoClash) rfl ⟨rfl, setCells_below _ (by have := HZ.out; omega) _ _ _ _ HBV.out⟩
  · obtain ⟨k, rfl⟩ : ∃ k : Nat, a = (k : Int) := ⟨a.toNat, by omega⟩
    have h1 : (n : Int) ≤ (k : Int) := by omega
    have k0 : (0 : Int) ≤ (k : Int) := by omega
    have k2 : decide (n ≤ k) = true := decide_eq_true (by omega)
    have k3 : n ≤ k := by omega
    go_enter Try.func57, Try.ntmps57
    go_wp2_with fail
    obtain ⟨z, hz⟩ : ∃ z, z = w.heap.size := ⟨_, rfl⟩
    rw [← hz] at HBX ⊢
    have HZ := Lib.hid hz; clear hz
    have HBW := Lib.hid (HZ.out ▸ HBX.out.2.2.2.2.2 : Below w.heap.size w _)
    generalize ((((w.alloc (.cells #[.slice al_ n cl] 67)).alloc (.cells #[.int .i64 (k : Int)] 3)).alloc (.cells #[.slice ba bn bcap] 50)).alloc (.cells #[.slice pa pn pc] 22)).alloc (.cells #[.slice none 0 0, .slice none 0 0] 75) = W at *
    refine wp_region_sched (fun V => V.cell? ⟨z, 0, none⟩ = some (.slice al_ n cl) ∧ V.cell? ⟨z + 1, 0, none⟩ = some (.int .i64 (k : Int)) ∧ V.cell? ⟨z + 1 + 1, 0, none⟩ = some (.slice ba bn bcap) ∧ V.cell? ⟨z + 1 + 1 + 1, 0, none⟩ = some (.slice pa pn pc) ∧ Below W.heap.size W V) [.e 0 true, .t 1, .t 2, .s 3, .e 4 true, .t 5, .t 6, .t 7, .t 8, .s 9, .s 10, .t 11, .s 12, .e 13 true, .e 14 true, .t 15, .t 16, .s 17, .s 19, .t 20, .s 21, .t 22, .t 23, .s 24, .s 25, .e 18 true, .e 26 true, .e 27 true, .t 28, .t 29] (by kernel_rfl) (by kernel_rfl) (by intro c a d v w h; cases d <;> exact h) ?_
    have HSS : Hid (∀ V, Below W.heap.size W V → V.cell? ⟨z, 0, none⟩ = some (.slice al_ n cl) ∧ V.cell? ⟨z + 1, 0, none⟩ = some (.int .i64 (k : Int)) ∧ V.cell? ⟨z + 1 + 1, 0, none⟩ = some (.slice ba bn bcap) ∧ V.cell? ⟨z + 1 + 1 + 1, 0, none⟩ = some (.slice pa pn pc) ∧ Below W.heap.size W V) := Lib.hid (fun V hV => ⟨bc HBX.out.1 hV, bc HBX.out.2.1 hV, bc HBX.out.2.2.1 hV, bc HBX.out.2.2.2.1 hV, hV⟩)
    have HS := Lib.hid (Below.refl W.heap.size W).drew
    generalize W.drew = V at *
    have g := (HSS.out _ HS.out).2.1
    refine wpS_k rfl (by rfl) (fun K hK => ?_)
    go_simp
    refine hK _ _ ⟨by exact HSS.out _ HS.out, ?_⟩; clear hK K
    try simp only [Act.put, List.setIfInBounds_toArray, List.set_cons_zero, List.set_cons_succ]
    clear g
    iterate 2
      refine wpS_t rfl (v := ?_) (by rfl) (fun W => ?_) ?_
      rotate_left
      · go_simp
        try rfl
      try simp only [Act.put, List.setIfInBounds_toArray, List.set_cons_zero, List.set_cons_succ]
    refine wpS_s (by exact HSS.out _ HS.out) rfl (v := ?_) (by rfl) (fun W hSW => ?_) ?_
    rotate_left
    · go_simp
      try rfl
    try simp only [Act.put, List.setIfInBounds_toArray, List.set_cons_zero, List.set_cons_succ]
    have g := (HSS.out _ HS.out).1
    refine wpS_k rfl (by rfl) (fun K hK => ?_)
    go_simp
    refine hK _ _ ⟨by exact HSS.out _ HS.out, ?_⟩; clear hK K
    try simp only [Act.put, List.setIfInBounds_toArray, List.set_cons_zero, List.set_cons_succ]
    clear g
    iterate 4
      refine wpS_t rfl (v := ?_) (by rfl) (fun W => ?_) ?_
      rotate_left
      · go_simp
        try rfl
      try simp only [Act.put, List.setIfInBounds_toArray, List.set_cons_zero, List.set_cons_succ]
    iterate 2
      refine wpS_s_skip (by exact HSS.out _ HS.out) rfl (by rfl) ?_
      try simp only [Act.put, List.setIfInBounds_toArray, List.set_cons_zero, List.set_cons_succ]
    iterate 1
      refine wpS_t_skip rfl (by rfl) ?_
      try simp only [Act.put, List.setIfInBounds_toArray, List.set_cons_zero, List.set_cons_succ]
    iterate 1
      refine wpS_s_skip (by exact HSS.out _ HS.out) rfl (by rfl) ?_
      try simp only [Act.put, List.setIfInBounds_toArray, List.set_cons_zero, List.set_cons_succ]
    refine wpS_k_skip (by exact HSS.out _ HS.out) rfl (by rfl) ?_
    try simp only [Act.put, List.setIfInBounds_toArray, List.set_cons_zero, List.set_cons_succ]
    refine wpS_k_skip (by exact HSS.out _ HS.out) rfl (by rfl) ?_
    try simp only [Act.put, List.setIfInBounds_toArray, List.set_cons_zero, List.set_cons_succ]
    iterate 2
      refine wpS_t rfl (v := ?_) (by rfl) (fun W => ?_) ?_
      rotate_left
      · go_simp
        try rfl
      try simp only [Act.put, List.setIfInBounds_toArray, List.set_cons_zero, List.set_cons_succ]
    iterate 2
      refine wpS_s_skip (by exact HSS.out _ HS.out) rfl (by rfl) ?_
      try simp only [Act.put, List.setIfInBounds_toArray, List.set_cons_zero, List.set_cons_succ]
    iterate 1
      refine wpS_t_skip rfl (by rfl) ?_
      try simp only [Act.put, List.setIfInBounds_toArray, List.set_cons_zero, List.set_cons_succ]
    iterate 1
      refine wpS_s_skip (by exact HSS.out _ HS.out) rfl (by rfl) ?_
      try simp only [Act.put, List.setIfInBounds_toArray, List.set_cons_zero, List.set_cons_succ]
    iterate 2
      refine wpS_t_skip rfl (by rfl) ?_
      try simp only [Act.put, List.setIfInBounds_toArray, List.set_cons_zero, List.set_cons_succ]
    iterate 2
      refine wpS_s_skip (by exact HSS.out _ HS.out) rfl (by rfl) ?_
      try simp only [Act.put, List.setIfInBounds_toArray, List.set_cons_zero, List.set_cons_succ]
    refine wpS_k_skip (by exact HSS.out _ HS.out) rfl (by rfl) ?_
    try simp only [Act.put, List.setIfInBounds_toArray, List.set_cons_zero, List.set_cons_succ]
    refine wpS_k_skip (by exact HSS.out _ HS.out) rfl (by rfl) ?_
    try simp only [Act.put, List.setIfInBounds_toArray, List.set_cons_zero, List.set_cons_succ]
    refine wpS_k_skip (by exact HSS.out _ HS.out) rfl (by rfl) ?_
    try simp only [Act.put, List.setIfInBounds_toArray, List.set_cons_zero, List.set_cons_succ]
    iterate 1
      refine wpS_t_skip rfl (by rfl) ?_
      try simp only [Act.put, List.setIfInBounds_toArray, List.set_cons_zero, List.set_cons_succ]
    iterate 1
      refine wpS_t rfl (v := ?_) (by rfl) (fun W => ?_) ?_
      rotate_left
      · go_simp
        try rfl
      try simp only [Act.put, List.setIfInBounds_toArray, List.set_cons_zero, List.set_cons_succ]
    refine wpS_done ?_
    have HTV := Lib.hid ((Keeps.of_below (X := fun _ => False) HS.out).there HBX.out.2.2.2.2.1 (by decide) (fun h => h))
    have HBV := Lib.hid (HBW.out.trans (HS.out.mono HBW.out.size))
    go_wp2_with (refine wpList_store_clash rfl _ _ rfl (z + 1 + 1 + 1 + 1) 0 rfl rfl HTV.out ?_)
    exact bodyPost_ret (results_cell_tmp Try.results57 _ _ (z + 1 + 1 + 1 + 1) 0 cnil _ rfl (range_stored _ _ _ _ (by exact World.there_setCells HTV.out _ _ _)) Try.underlying75 rfl infoClash) rfl ⟨rfl, setCells_below _ (by have := HZ.out; omega) _ _ _ _ HBV.out⟩
set_option maxRecDepth 100000 in
set_option maxHeartbeats 1000000 in
theorem path_not (l : List (List UInt8)) (k : Nat) (b : List UInt8) (p : List Sum) (vl vb vp : Value) (w : World) (hl : ListsAt w vl l) (hk : k < l.length) (hx : ¬ l[k]? = some b) (hb : BytesAt w vb b) (hn : l.length < 1000000) (hp : SumsAt w vp p) (hs : SZ l) (hsb : b.length < 900000) (hpb : pathBe (lf b) k l.length p (sd l) = false) : Calls Try.prog 57 #[vl, .int .i64 (k : Int), vb, vp] w fun e w' => e = .returned (.tuple #[cv (.slice none 0 0) (.slice none 0 0), .bool false]) ∧ Below w.heap.size w w' := by
  have HLW := Lib.hid hl
  have HPW := Lib.hid hp
  have HX := Lib.hid (And.intro hx (And.intro hk (And.intro hn (And.intro hs (And.intro hsb hpb)))))
  obtain ⟨pa, pc, rfl, _, _, hz1⟩ := hp
  clear hz1
  have hb' := hb
  obtain ⟨ba, bcap, rfl, _, _, _⟩ := hb'
  have HBX := box_five w vl (.int .i64 (k : Int)) (.slice ba b.length bcap) (.slice pa p.length pc) 67 3 50 22 75 #[.slice none 0 0, .slice none 0 0] _ rfl
  have HR5 := Lib.hid (five_rows w (.cells #[vl] 67) (.cells #[.int .i64 (k : Int)] 3) (.cells #[.slice ba b.length bcap] 50) (.cells #[.slice pa p.length pc] 22) (.cells #[.slice none 0 0, .slice none 0 0] 75))
  have hbw := HBX.2.2.2.2.2
  replace HBX := Lib.hid HBX
  have hl0 : l ≠ [] := by intro h; rw [h] at hk; simp at hk
  obtain ⟨bl, ol, cl, rfl, c1, c2⟩ := hl.form hl0
  obtain ⟨u, hcu, hu⟩ := hl.cell (sp := none) hk
  have HBY := Lib.hid hb
  have hne : ¬ l[k] = b := fun h => hx (by rw [List.getElem?_eq_getElem hk, h])
  have HU := Lib.hid (And.intro (bc hcu hbw) (And.intro (bytes_below hu hbw (Nat.le_refl _)) (bytes_below hb hbw (Nat.le_refl _))))
  have HNE := Lib.hid hne
  generalize l[k] = x at *
  clear hcu hu hbw hb hl hl0 hx hs hsb hpb hne
  obtain ⟨n, hna⟩ : ∃ n, n = l.length := ⟨_, rfl⟩
  rw [← hna] at HBX HR5 HU HLW c1 hn hk ⊢
  have HNA := Lib.hid hna; clear hna
  obtain ⟨np, hnp⟩ : ∃ n, n = p.length := ⟨_, rfl⟩
  rw [← hnp] at HBX HR5 HU HPW ⊢
  clear hnp
  obtain ⟨nb, hnb⟩ : ∃ n, n = b.length := ⟨_, rfl⟩
  rw [← hnb] at HBX HR5 HBY HU ⊢
  clear hnb
  unfold maxLen at c2
  have k0 : (0 : Int) ≤ (k : Int) := by omega
  have k1 : (k : Int) < (n : Int) := by omega
  have k2 : decide (n ≤ k) = false := decide_eq_false (by omega)
  have k3 : ¬ n ≤ k := by omega
  have w1 : IntKind.u64.wrap (k : Int) = (k : Int) := by rw [IntKind.wrap_u64]; omega
  have w2 : IntKind.u64.wrap (n : Int) = (n : Int) := by rw [IntKind.wrap_u64]; omega
  go_enter Try.func57, Try.ntmps57
  go_wp2_with fail
  obtain ⟨z, hz⟩ : ∃ z, z = w.heap.size := ⟨_, rfl⟩
  rw [← hz] at HBX HR5 ⊢
  have HZ := Lib.hid hz; clear hz
  have HBW := Lib.hid (HZ.out ▸ HBX.out.2.2.2.2.2 : Below w.heap.size w _)
  generalize ((((w.alloc (.cells #[.slice (some ⟨bl, ol, none⟩) n cl] 67)).alloc (.cells #[.int .i64 (k : Int)] 3)).alloc (.cells #[.slice ba nb bcap] 50)).alloc (.cells #[.slice pa np pc] 22)).alloc (.cells #[.slice none 0 0, .slice none 0 0] 75) = W at *
  refine wp_region_sched (fun V => V.cell? ⟨z, 0, none⟩ = some (.slice (some ⟨bl, ol, none⟩) n cl) ∧ V.cell? ⟨z + 1, 0, none⟩ = some (.int .i64 (k : Int)) ∧ V.cell? ⟨z + 1 + 1, 0, none⟩ = some (.slice ba nb bcap) ∧ V.cell? ⟨z + 1 + 1 + 1, 0, none⟩ = some (.slice pa np pc) ∧ V.cell? ⟨bl, ol + k, none⟩ = some u ∧ Below W.heap.size W V) [.e 0 true, .t 1, .t 2, .s 3, .e 4 true, .t 5, .t 6, .t 7, .t 8, .s 9, .s 10, .t 11, .s 12, .e 13 true, .e 14 true, .t 15, .t 16, .s 17, .s 19, .t 20, .s 21, .t 22, .t 23, .s 24, .s 25, .e 18 true, .e 26 true, .e 27 true, .t 28, .t 29] (by kernel_rfl) (by kernel_rfl) (by intro c a d v w h; cases d <;> exact h) ?_
  have HSS : Hid (∀ V, Below W.heap.size W V → V.cell? ⟨z, 0, none⟩ = some (.slice (some ⟨bl, ol, none⟩) n cl) ∧ V.cell? ⟨z + 1, 0, none⟩ = some (.int .i64 (k : Int)) ∧ V.cell? ⟨z + 1 + 1, 0, none⟩ = some (.slice ba nb bcap) ∧ V.cell? ⟨z + 1 + 1 + 1, 0, none⟩ = some (.slice pa np pc) ∧ V.cell? ⟨bl, ol + k, none⟩ = some u ∧ Below W.heap.size W V) := Lib.hid (fun V hV => ⟨bc HBX.out.1 hV, bc HBX.out.2.1 hV, bc HBX.out.2.2.1 hV, bc HBX.out.2.2.2.1 hV, bc HU.out.1 hV, hV⟩)
  have HS := Lib.hid (Below.refl W.heap.size W).drew
  generalize W.drew = V at *
  have g := (HSS.out _ HS.out).2.1
  refine wpS_k rfl (by rfl) (fun K hK => ?_)
  go_simp
  refine hK _ _ ⟨by exact HSS.out _ HS.out, ?_⟩; clear hK K
  try simp only [Act.put, List.setIfInBounds_toArray, List.set_cons_zero, List.set_cons_succ]
  clear g
  iterate 2
    refine wpS_t rfl (v := ?_) (by rfl) (fun W => ?_) ?_
    rotate_left
    · go_simp
      try rfl
    try simp only [Act.put, List.setIfInBounds_toArray, List.set_cons_zero, List.set_cons_succ]
  refine wpS_s (by exact HSS.out _ HS.out) rfl (v := ?_) (by rfl) (fun W hSW => ?_) ?_
  rotate_left
  · go_simp
    try rfl
  try simp only [Act.put, List.setIfInBounds_toArray, List.set_cons_zero, List.set_cons_succ]
  have g := (HSS.out _ HS.out).1
  refine wpS_k rfl (by rfl) (fun K hK => ?_)
  go_simp
  refine hK _ _ ⟨by exact HSS.out _ HS.out, ?_⟩; clear hK K
  try simp only [Act.put, List.setIfInBounds_toArray, List.set_cons_zero, List.set_cons_succ]
  clear g
  iterate 4
    refine wpS_t rfl (v := ?_) (by rfl) (fun W => ?_) ?_
    rotate_left
    · go_simp
      try rfl
    try simp only [Act.put, List.setIfInBounds_toArray, List.set_cons_zero, List.set_cons_succ]
  refine wpS_s (by exact HSS.out _ HS.out) rfl (v := ?_) (by rfl) (fun W hSW => ?_) ?_
  rotate_left
  · go_simp
    try rfl
  try simp only [Act.put, List.setIfInBounds_toArray, List.set_cons_zero, List.set_cons_succ]
  refine wpS_s (by exact HSS.out _ HS.out) rfl (v := ?_) (by rfl) (fun W hSW => ?_) ?_
  rotate_left
  · go_simp
    try rfl
  try simp only [Act.put, List.setIfInBounds_toArray, List.set_cons_zero, List.set_cons_succ]
  iterate 1
    refine wpS_t rfl (v := ?_) (by rfl) (fun W => ?_) ?_
    rotate_left
    · go_simp
      try rfl
    try simp only [Act.put, List.setIfInBounds_toArray, List.set_cons_zero, List.set_cons_succ]
  refine wpS_s (by exact HSS.out _ HS.out) rfl (v := ?_) (by rfl) (fun W hSW => ?_) ?_
  rotate_left
  · go_simp
    try rfl
  try simp only [Act.put, List.setIfInBounds_toArray, List.set_cons_zero, List.set_cons_succ]
  have g := (HSS.out _ HS.out).2.2.1
  refine wpS_k rfl (by rfl) (fun K hK => ?_)
  go_simp
  refine hK _ _ ⟨by exact HSS.out _ HS.out, ?_⟩; clear hK K
  try simp only [Act.put, List.setIfInBounds_toArray, List.set_cons_zero, List.set_cons_succ]
  clear g
  refine wpS_k rfl (by rfl) (fun K hK => ?_)
  go_simp
  refine (eqb_any x b u (.slice ba nb bcap) V (bytes_below HU.out.2.1 HS.out (Nat.le_refl _)) (bytes_below HU.out.2.2 HS.out (Nat.le_refl _))).mono ?_
  rw [decide_eq_false HNE.out]
  rintro e V1 ⟨rfl, rfl⟩
  refine hK _ _ ⟨by exact HSS.out _ HS.out, ?_⟩; clear hK K
  try simp only [Act.put, List.setIfInBounds_toArray, List.set_cons_zero, List.set_cons_succ]
  iterate 2
    refine wpS_t rfl (v := ?_) (by rfl) (fun W => ?_) ?_
    rotate_left
    · go_simp
      try rfl
    try simp only [Act.put, List.setIfInBounds_toArray, List.set_cons_zero, List.set_cons_succ]
  refine wpS_s (by exact HSS.out _ HS.out) rfl (v := ?_) (by rfl) (fun W hSW => ?_) ?_
  rotate_left
  · go_simp
    try rfl
  try simp only [Act.put, List.setIfInBounds_toArray, List.set_cons_zero, List.set_cons_succ]
  refine wpS_s (by exact HSS.out _ HS.out) rfl (v := ?_) (by rfl) (fun W hSW => ?_) ?_
  rotate_left
  · go_simp
    try rfl
  try simp only [Act.put, List.setIfInBounds_toArray, List.set_cons_zero, List.set_cons_succ]
  iterate 1
    refine wpS_t rfl (v := ?_) (by rfl) (fun W => ?_) ?_
    rotate_left
    · go_simp
      try rfl
    try simp only [Act.put, List.setIfInBounds_toArray, List.set_cons_zero, List.set_cons_succ]
  refine wpS_s (by exact HSS.out _ HS.out) rfl (v := ?_) (by rfl) (fun W hSW => ?_) ?_
  rotate_left
  · go_simp
    try rfl
  try simp only [Act.put, List.setIfInBounds_toArray, List.set_cons_zero, List.set_cons_succ]
  iterate 2
    refine wpS_t rfl (v := ?_) (by rfl) (fun W => ?_) ?_
    rotate_left
    · go_simp
      try rfl
    try simp only [Act.put, List.setIfInBounds_toArray, List.set_cons_zero, List.set_cons_succ]
  refine wpS_s (by exact HSS.out _ HS.out) rfl (v := ?_) (by rfl) (fun W hSW => ?_) ?_
  rotate_left
  · go_simp
    try rfl
  try simp only [Act.put, List.setIfInBounds_toArray, List.set_cons_zero, List.set_cons_succ]
  refine wpS_s (by exact HSS.out _ HS.out) rfl (v := ?_) (by rfl) (fun W hSW => ?_) ?_
  rotate_left
  · go_simp
    try rfl
  try simp only [Act.put, List.setIfInBounds_toArray, List.set_cons_zero, List.set_cons_succ]
  refine wpS_k rfl (by rfl) (fun K hK => ?_)
  go_simp
  refine (lf_any b _ V (bytes_below HU.out.2.2 HS.out (Nat.le_refl _)) (by have := HX.out.2.2.2.2.1; omega)).mono ?_
  rintro e V1 ⟨rfl, hb⟩
  replace HS := Lib.hid (HS.out.trans (hb.mono HS.out.size)); clear hb
  refine hK _ _ ⟨by exact HSS.out _ HS.out, ?_⟩; clear hK K
  try simp only [Act.put, List.setIfInBounds_toArray, List.set_cons_zero, List.set_cons_succ]
  refine wpS_k rfl (by rfl) (fun K hK => ?_)
  go_simp
  refine (croot_any l _ V1 (HLW.out.below (HBW.out.trans (HS.out.mono HBW.out.size))) HX.out.2.2.1 (fun x hx => Nat.lt_trans (HX.out.2.2.2.1 x hx) (by decide))).mono ?_
  rintro e V2 ⟨rfl, hb⟩
  replace HS := Lib.hid (HS.out.trans (hb.mono HS.out.size)); clear hb
  refine hK _ _ ⟨by exact HSS.out _ HS.out, ?_⟩; clear hK K
  try simp only [Act.put, List.setIfInBounds_toArray, List.set_cons_zero, List.set_cons_succ]
  refine wpS_k rfl (by rfl) (fun K hK => ?_)
  go_simp
  have hck := pcheck_in (lf b) k n _ p (sd l) V2 (HPW.out.below (HBW.out.trans (HS.out.mono HBW.out.size)) (Nat.le_refl _)) hk (by omega)
  rw [HNA.out, HX.out.2.2.2.2.2, ← HNA.out] at hck
  refine hck.mono ?_
  rintro e V3 ⟨rfl, hb⟩
  clear hck
  replace HS := Lib.hid (HS.out.trans (hb.mono HS.out.size)); clear hb
  refine hK _ _ ⟨by exact HSS.out _ HS.out, ?_⟩; clear hK K
  try simp only [Act.put, List.setIfInBounds_toArray, List.set_cons_zero, List.set_cons_succ]
  iterate 2
    refine wpS_t rfl (v := ?_) (by rfl) (fun W => ?_) ?_
    rotate_left
    · go_simp
      try rfl
    try simp only [Act.put, List.setIfInBounds_toArray, List.set_cons_zero, List.set_cons_succ]
  clear HR5
  refine wpS_done ?_
  have HTV := Lib.hid ((Keeps.of_below (X := fun _ => False) HS.out).there HBX.out.2.2.2.2.1 (by decide) (fun h => h))
  have HBV := Lib.hid (HBW.out.trans (HS.out.mono HBW.out.size))
  go_wp2_with (refine wpList_store_clash rfl _ _ rfl (z + 1 + 1 + 1 + 1) 0 rfl rfl HTV.out ?_)
  exact bodyPost_ret (results_cell_tmp Try.results57 _ _ (z + 1 + 1 + 1 + 1) 0 cnil _ rfl (range_stored _ _ _ _ (by exact World.there_setCells HTV.out _ _ _)) Try.underlying75 rfl infoClash) rfl ⟨rfl, setCells_below _ (by have := HZ.out; omega) _ _ _ _ HBV.out⟩
theorem enters96 (cap : Array Value) (W : World) : (callFunc 96 cap).run Try.prog W = .ok (.enter 96 cap) W :=
  enters _ cap Try.f96 Try.func96 (by intro h; cases h) (by decide +kernel) W
set_option maxRecDepth 100000 in
set_option maxHeartbeats 1000000 in
theorem path_told (l : List (List UInt8)) (k : Nat) (b : List UInt8) (p : List Sum) (vl vb vp : Value) (w : World) (hl : ListsAt w vl l) (hk : k < l.length) (hx : ¬ l[k]? = some b) (hb : BytesAt w vb b) (hn : l.length < 1000000) (hp : SumsAt w vp p) (hs : SZ l) (hsb : b.length < 900000) (hpb : pathBe (lf b) k l.length p (sd l) = true) : Calls Try.prog 57 #[vl, .int .i64 (k : Int), vb, vp] w (FoundOf w) := by
  have HLW := Lib.hid hl
  have HPW := Lib.hid hp
  have HX := Lib.hid (And.intro hx (And.intro hk (And.intro hn (And.intro hs (And.intro hsb hpb)))))
  obtain ⟨pa, pc, rfl, _, _, hz1⟩ := hp
  clear hz1
  have hb' := hb
  obtain ⟨ba, bcap, rfl, _, _, _⟩ := hb'
  have HBX := box_five w vl (.int .i64 (k : Int)) (.slice ba b.length bcap) (.slice pa p.length pc) 67 3 50 22 75 #[.slice none 0 0, .slice none 0 0] _ rfl
  have HR5 := Lib.hid (five_rows w (.cells #[vl] 67) (.cells #[.int .i64 (k : Int)] 3) (.cells #[.slice ba b.length bcap] 50) (.cells #[.slice pa p.length pc] 22) (.cells #[.slice none 0 0, .slice none 0 0] 75))
  have hbw := HBX.2.2.2.2.2
  replace HBX := Lib.hid HBX
  have hl0 : l ≠ [] := by intro h; rw [h] at hk; simp at hk
  obtain ⟨bl, ol, cl, rfl, c1, c2⟩ := hl.form hl0
  obtain ⟨u, hcu, hu⟩ := hl.cell (sp := none) hk
  have HBY := Lib.hid hb
  have hne : ¬ l[k] = b := fun h => hx (by rw [List.getElem?_eq_getElem hk, h])
  have HU := Lib.hid (And.intro (bc hcu hbw) (And.intro (bytes_below hu hbw (Nat.le_refl _)) (bytes_below hb hbw (Nat.le_refl _))))
  have HNE := Lib.hid hne
  generalize l[k] = x at *
  clear hcu hu hbw hb hl hl0 hx hs hsb hpb hne
  obtain ⟨n, hna⟩ : ∃ n, n = l.length := ⟨_, rfl⟩
  rw [← hna] at HBX HR5 HU HLW c1 hn hk ⊢
  have HNA := Lib.hid hna; clear hna
  obtain ⟨np, hnp⟩ : ∃ n, n = p.length := ⟨_, rfl⟩
  rw [← hnp] at HBX HR5 HU HPW ⊢
  clear hnp
  obtain ⟨nb, hnb⟩ : ∃ n, n = b.length := ⟨_, rfl⟩
  rw [← hnb] at HBX HR5 HBY HU ⊢
  clear hnb
  unfold maxLen at c2
  have k0 : (0 : Int) ≤ (k : Int) := by omega
  have k1 : (k : Int) < (n : Int) := by omega
  have k2 : decide (n ≤ k) = false := decide_eq_false (by omega)
  have k3 : ¬ n ≤ k := by omega
  have w1 : IntKind.u64.wrap (k : Int) = (k : Int) := by rw [IntKind.wrap_u64]; omega
  have w2 : IntKind.u64.wrap (n : Int) = (n : Int) := by rw [IntKind.wrap_u64]; omega
  go_enter Try.func57, Try.ntmps57
  go_wp2_with fail
  obtain ⟨z, hz⟩ : ∃ z, z = w.heap.size := ⟨_, rfl⟩
  rw [← hz] at HBX HR5 ⊢
  have HZ := Lib.hid hz; clear hz
  have HBW := Lib.hid (HZ.out ▸ HBX.out.2.2.2.2.2 : Below w.heap.size w _)
  generalize ((((w.alloc (.cells #[.slice (some ⟨bl, ol, none⟩) n cl] 67)).alloc (.cells #[.int .i64 (k : Int)] 3)).alloc (.cells #[.slice ba nb bcap] 50)).alloc (.cells #[.slice pa np pc] 22)).alloc (.cells #[.slice none 0 0, .slice none 0 0] 75) = W at *
  refine wp_region_sched (fun V => V.cell? ⟨z, 0, none⟩ = some (.slice (some ⟨bl, ol, none⟩) n cl) ∧ V.cell? ⟨z + 1, 0, none⟩ = some (.int .i64 (k : Int)) ∧ V.cell? ⟨z + 1 + 1, 0, none⟩ = some (.slice ba nb bcap) ∧ V.cell? ⟨z + 1 + 1 + 1, 0, none⟩ = some (.slice pa np pc) ∧ V.cell? ⟨bl, ol + k, none⟩ = some u ∧ Below W.heap.size W V) [.e 0 true, .t 1, .t 2, .s 3, .e 4 true, .t 5, .t 6, .t 7, .t 8, .s 9, .s 10, .t 11, .s 12, .e 13 true, .e 14 true, .t 15, .t 16, .s 17, .s 19, .t 20, .s 21, .t 22, .t 23, .s 24, .s 25, .e 18 true, .e 26 true, .e 27 true, .t 28, .t 29] (by kernel_rfl) (by kernel_rfl) (by intro c a d v w h; cases d <;> exact h) ?_
  have HSS : Hid (∀ V, Below W.heap.size W V → V.cell? ⟨z, 0, none⟩ = some (.slice (some ⟨bl, ol, none⟩) n cl) ∧ V.cell? ⟨z + 1, 0, none⟩ = some (.int .i64 (k : Int)) ∧ V.cell? ⟨z + 1 + 1, 0, none⟩ = some (.slice ba nb bcap) ∧ V.cell? ⟨z + 1 + 1 + 1, 0, none⟩ = some (.slice pa np pc) ∧ V.cell? ⟨bl, ol + k, none⟩ = some u ∧ Below W.heap.size W V) := Lib.hid (fun V hV => ⟨bc HBX.out.1 hV, bc HBX.out.2.1 hV, bc HBX.out.2.2.1 hV, bc HBX.out.2.2.2.1 hV, bc HU.out.1 hV, hV⟩)
  have HS := Lib.hid (Below.refl W.heap.size W).drew
  generalize W.drew = V at *
  have g := (HSS.out _ HS.out).2.1
  refine wpS_k rfl (by rfl) (fun K hK => ?_)
  go_simp
  refine hK _ _ ⟨by exact HSS.out _ HS.out, ?_⟩; clear hK K
  try simp only [Act.put, List.setIfInBounds_toArray, List.set_cons_zero, List.set_cons_succ]
  clear g
  iterate 2
    refine wpS_t rfl (v := ?_) (by rfl) (fun W => ?_) ?_
    rotate_left
    · go_simp
      try rfl
    try simp only [Act.put, List.setIfInBounds_toArray, List.set_cons_zero, List.set_cons_succ]
  refine wpS_s (by exact HSS.out _ HS.out) rfl (v := ?_) (by rfl) (fun W hSW => ?_) ?_
  rotate_left
  · go_simp
    try rfl
  try simp only [Act.put, List.setIfInBounds_toArray, List.set_cons_zero, List.set_cons_succ]
  have g := (HSS.out _ HS.out).1
  refine wpS_k rfl (by rfl) (fun K hK => ?_)
  go_simp
  refine hK _ _ ⟨by exact HSS.out _ HS.out, ?_⟩; clear hK K
  try simp only [Act.put, List.setIfInBounds_toArray, List.set_cons_zero, List.set_cons_succ]
  clear g
  iterate 4
    refine wpS_t rfl (v := ?_) (by rfl) (fun W => ?_) ?_
    rotate_left
    · go_simp
      try rfl
    try simp only [Act.put, List.setIfInBounds_toArray, List.set_cons_zero, List.set_cons_succ]
  refine wpS_s (by exact HSS.out _ HS.out) rfl (v := ?_) (by rfl) (fun W hSW => ?_) ?_
  rotate_left
  · go_simp
    try rfl
  try simp only [Act.put, List.setIfInBounds_toArray, List.set_cons_zero, List.set_cons_succ]
  refine wpS_s (by exact HSS.out _ HS.out) rfl (v := ?_) (by rfl) (fun W hSW => ?_) ?_
  rotate_left
  · go_simp
    try rfl
  try simp only [Act.put, List.setIfInBounds_toArray, List.set_cons_zero, List.set_cons_succ]
  iterate 1
    refine wpS_t rfl (v := ?_) (by rfl) (fun W => ?_) ?_
    rotate_left
    · go_simp
      try rfl
    try simp only [Act.put, List.setIfInBounds_toArray, List.set_cons_zero, List.set_cons_succ]
  refine wpS_s (by exact HSS.out _ HS.out) rfl (v := ?_) (by rfl) (fun W hSW => ?_) ?_
  rotate_left
  · go_simp
    try rfl
  try simp only [Act.put, List.setIfInBounds_toArray, List.set_cons_zero, List.set_cons_succ]
  have g := (HSS.out _ HS.out).2.2.1
  refine wpS_k rfl (by rfl) (fun K hK => ?_)
  go_simp
  refine hK _ _ ⟨by exact HSS.out _ HS.out, ?_⟩; clear hK K
  try simp only [Act.put, List.setIfInBounds_toArray, List.set_cons_zero, List.set_cons_succ]
  clear g
  refine wpS_k rfl (by rfl) (fun K hK => ?_)
  go_simp
  refine (eqb_any x b u (.slice ba nb bcap) V (bytes_below HU.out.2.1 HS.out (Nat.le_refl _)) (bytes_below HU.out.2.2 HS.out (Nat.le_refl _))).mono ?_
  rw [decide_eq_false HNE.out]
  rintro e V1 ⟨rfl, rfl⟩
  refine hK _ _ ⟨by exact HSS.out _ HS.out, ?_⟩; clear hK K
  try simp only [Act.put, List.setIfInBounds_toArray, List.set_cons_zero, List.set_cons_succ]
  iterate 2
    refine wpS_t rfl (v := ?_) (by rfl) (fun W => ?_) ?_
    rotate_left
    · go_simp
      try rfl
    try simp only [Act.put, List.setIfInBounds_toArray, List.set_cons_zero, List.set_cons_succ]
  refine wpS_s (by exact HSS.out _ HS.out) rfl (v := ?_) (by rfl) (fun W hSW => ?_) ?_
  rotate_left
  · go_simp
    try rfl
  try simp only [Act.put, List.setIfInBounds_toArray, List.set_cons_zero, List.set_cons_succ]
  refine wpS_s (by exact HSS.out _ HS.out) rfl (v := ?_) (by rfl) (fun W hSW => ?_) ?_
  rotate_left
  · go_simp
    try rfl
  try simp only [Act.put, List.setIfInBounds_toArray, List.set_cons_zero, List.set_cons_succ]
  iterate 1
    refine wpS_t rfl (v := ?_) (by rfl) (fun W => ?_) ?_
    rotate_left
    · go_simp
      try rfl
    try simp only [Act.put, List.setIfInBounds_toArray, List.set_cons_zero, List.set_cons_succ]
  refine wpS_s (by exact HSS.out _ HS.out) rfl (v := ?_) (by rfl) (fun W hSW => ?_) ?_
  rotate_left
  · go_simp
    try rfl
  try simp only [Act.put, List.setIfInBounds_toArray, List.set_cons_zero, List.set_cons_succ]
  iterate 2
    refine wpS_t rfl (v := ?_) (by rfl) (fun W => ?_) ?_
    rotate_left
    · go_simp
      try rfl
    try simp only [Act.put, List.setIfInBounds_toArray, List.set_cons_zero, List.set_cons_succ]
  refine wpS_s (by exact HSS.out _ HS.out) rfl (v := ?_) (by rfl) (fun W hSW => ?_) ?_
  rotate_left
  · go_simp
    try rfl
  try simp only [Act.put, List.setIfInBounds_toArray, List.set_cons_zero, List.set_cons_succ]
  refine wpS_s (by exact HSS.out _ HS.out) rfl (v := ?_) (by rfl) (fun W hSW => ?_) ?_
  rotate_left
  · go_simp
    try rfl
  try simp only [Act.put, List.setIfInBounds_toArray, List.set_cons_zero, List.set_cons_succ]
  refine wpS_k rfl (by rfl) (fun K hK => ?_)
  go_simp
  refine (lf_any b _ V (bytes_below HU.out.2.2 HS.out (Nat.le_refl _)) (by have := HX.out.2.2.2.2.1; omega)).mono ?_
  rintro e V1 ⟨rfl, hb⟩
  replace HS := Lib.hid (HS.out.trans (hb.mono HS.out.size)); clear hb
  refine hK _ _ ⟨by exact HSS.out _ HS.out, ?_⟩; clear hK K
  try simp only [Act.put, List.setIfInBounds_toArray, List.set_cons_zero, List.set_cons_succ]
  refine wpS_k rfl (by rfl) (fun K hK => ?_)
  go_simp
  refine (croot_any l _ V1 (HLW.out.below (HBW.out.trans (HS.out.mono HBW.out.size))) HX.out.2.2.1 (fun x hx => Nat.lt_trans (HX.out.2.2.2.1 x hx) (by decide))).mono ?_
  rintro e V2 ⟨rfl, hb⟩
  replace HS := Lib.hid (HS.out.trans (hb.mono HS.out.size)); clear hb
  refine hK _ _ ⟨by exact HSS.out _ HS.out, ?_⟩; clear hK K
  try simp only [Act.put, List.setIfInBounds_toArray, List.set_cons_zero, List.set_cons_succ]
  refine wpS_k rfl (by rfl) (fun K hK => ?_)
  go_simp
  have hck := pcheck_in (lf b) k n _ p (sd l) V2 (HPW.out.below (HBW.out.trans (HS.out.mono HBW.out.size)) (Nat.le_refl _)) hk (by omega)
  rw [HNA.out, HX.out.2.2.2.2.2, ← HNA.out] at hck
  refine hck.mono ?_
  rintro e V3 ⟨rfl, hb⟩
  clear hck
  replace HS := Lib.hid (HS.out.trans (hb.mono HS.out.size)); clear hb
  refine hK _ _ ⟨by exact HSS.out _ HS.out, ?_⟩; clear hK K
  try simp only [Act.put, List.setIfInBounds_toArray, List.set_cons_zero, List.set_cons_succ]
  iterate 2
    refine wpS_t rfl (v := ?_) (by rfl) (fun W => ?_) ?_
    rotate_left
    · go_simp
      try rfl
    try simp only [Act.put, List.setIfInBounds_toArray, List.set_cons_zero, List.set_cons_succ]
  refine wpS_done ?_
  have hmf : ∀ (fn : Fn) (first cap : Array Value) (w : World), (Instr.makeFunc fn first cap).run Try.prog w = .ok (.func fn first cap) w := fun _ _ _ _ => rfl
  have HTV := Lib.hid ((Keeps.of_below (X := fun _ => False) HS.out).there HBX.out.2.2.2.2.1 (by decide) (fun h => h))
  have HBV := Lib.hid (HBW.out.trans (HS.out.mono HBW.out.size))
  have hkS := Keeps.of_below (X := fun _ => False) HS.out
  have HRV := Lib.hid (And.intro (hkS.heap HR5.out.1 (fun h => h)) (And.intro (hkS.heap HR5.out.2.1 (fun h => h)) (hkS.heap HR5.out.2.2 (fun h => h))))
  clear hkS
  go_wp2_with fail
  refine (finds_keeps (fun k => k = z ∨ k = z + 1) 96 #[.pointer (some ⟨z + 1 + 1 + 1, 0, none⟩), .pointer (some ⟨z, 0, none⟩), .pointer (some ⟨z + 1, 0, none⟩), .pointer (some ⟨z + 1 + 1, 0, none⟩)] V3 (fun k hk => ?_) (enters96 _) (fun W2 hb2 => ?_)).mono ?_
  · have h1 := (Array.getElem?_eq_some_iff.1 HRV.out.1).1
    have h2 := (Array.getElem?_eq_some_iff.1 HRV.out.2.1).1
    rcases hk with rfl | rfl
    · exact h1
    · exact h2
  · have hS2 := HSS.out _ (HS.out.trans (hb2.mono HS.out.size))
    have hk2 := Keeps.of_below (X := fun _ => False) hb2
    have hBW2 := HBV.out.trans (hb2.mono HBV.out.size)
    have hp2 := World.block_lt_of_cell? W2 _ hS2.2.2.1
    have hp3 := World.block_lt_of_cell? W2 _ hS2.2.2.2.1
    have hp1 := World.block_lt_of_cell? W2 _ hS2.2.1
    have hp0 := World.block_lt_of_cell? W2 _ hS2.1
    exact pathway_any l k b p _ _ _ w W2 z (z + 1) (z + 1 + 1 + 1) (z + 1 + 1) ⟨by omega, by omega, by omega, by omega, by omega, hp0, hp1, hp3, hp2, by have := HZ.out; omega, by have := HZ.out; omega, hBW2⟩ ⟨hk2.heap HRV.out.1 (fun h => h), hk2.heap HRV.out.2.1 (fun h => h), hS2.2.2.2.1, hS2.2.2.1, Keeps.refl _ _⟩ HLW.out HPW.out HBY.out HX.out.2.2.2.2.2 HX.out.1 HX.out.2.2.1 HX.out.2.2.2.1 HX.out.2.2.2.2.1
  rintro e V4 ⟨va, vb, A, B, rfl, hA, hB, hI, hla, hlb, hk⟩
  have HRW := Lib.hid (hk.heap HRV.out.2.2 (fun h => by omega))
  have HTW := Lib.hid (hk.there HTV.out (by decide) (fun h => by omega))
  have HBW4 := Lib.hid (HBV.out.trans (hk.below HBV.out.size (fun k hk => by have := HZ.out; omega)))
  obtain ⟨x1, c1', rfl, _, _, g1⟩ := id hA
  obtain ⟨x2, c2', rfl, _, _, g2⟩ := id hB
  have HP := Lib.hid (And.intro hA (And.intro hB (And.intro hI (And.intro hla hlb))))
  clear hA hB hI hla hlb g1 g2 hk
  go_wp2_with (refine wpList_store_cv rfl _ _ rfl (z + 1 + 1 + 1 + 1) 0 _ _ _ _ _ _ rfl rfl HTW.out ?_)
  have hk := keeps_setCells_ (z + 1 + 1 + 1 + 1) [.slice x1 A.length c1', .slice x2 B.length c2'] 0 V4
  exact bodyPost_ret (results_cell_tmp Try.results57 _ _ (z + 1 + 1 + 1 + 1) 0 [.slice x1 A.length c1', .slice x2 B.length c2'] _ rfl (range_stored _ _ _ _ (by exact World.there_setCells HTW.out _ _ _)) Try.underlying75 rfl infoClash) rfl
    ⟨_, _, A, B, rfl, hk.bytes HP.out.1 (no_byte2 V4 _ HRW.out), hk.bytes HP.out.2.1 (no_byte2 V4 _ HRW.out), HP.out.2.2.1, HP.out.2.2.2.1, HP.out.2.2.2.2, setCells_below _ (by have := HZ.out; omega) _ _ _ _ HBW4.out⟩
end Go.Proofs.Ytdkcndgehgmadaa
-- Walks: the law ClashesPath.
open Go Go.RowKit Alm
namespace Go.Proofs.Ytdkcndgehgmadaa
theorem path_all (l : List (List UInt8)) (a : Int) (b : List UInt8) (p : List Sum) (vl vb vp : Value) (w : World) (hl : ListsAt w vl l) (hb : BytesAt w vb b) (hp : SumsAt w vp p) (hn : l.length < 1000000) (hs : SZ l) (hsb : b.length < 900000) :
    Calls Try.prog 57 #[vl, .int .i64 a, vb, vp] w (ToldOf w (decide (0 ≤ a ∧ a < (l.length : Int)) && pathBe (lf b) a.toNat l.length p (sd l) && !decide (l[a.toNat]? = some b))) := by
  have hvb : ∃ a n c, vb = .slice a n c := by obtain ⟨a, c, h, _⟩ := hb; exact ⟨a, _, c, h⟩
  have hvp : ∃ a n c, vp = .slice a n c := by obtain ⟨a, c, h, _⟩ := hp; exact ⟨a, _, c, h⟩
  by_cases hr : 0 ≤ a ∧ a < (l.length : Int)
  · obtain ⟨k, rfl⟩ : ∃ k : Nat, a = (k : Int) := ⟨a.toNat, by omega⟩
    have hk : k < l.length := by omega
    rw [Int.toNat_natCast, decide_eq_true hr]
    by_cases hx : l[k]? = some b
    · exact (path_same l k b vl vb vp w hl hk hx hb hn hvp).mono fun e w' h => (told_none h).eq (by simp [hx])
    · rcases hpb : pathBe (lf b) k l.length p (sd l) with _ | _
      · exact (path_not l k b p vl vb vp w hl hk hx hb hn hp hs hsb hpb).mono fun e w' h => (told_none h).eq (by simp)
      · exact (path_told l k b p vl vb vp w hl hk hx hb hn hp hs hsb hpb).mono fun e w' h => (told_found h).eq (by simp [hx])
  · exact (path_out l a vl vb vp w hl (by omega) hvb hvp).mono fun e w' h => (told_none h).eq (by simp [hr])
theorem infoSaid13 : (Try.prog.info? 80).map (·.size) = some 5 := by kernel_rfl
theorem wpList_load_said13 {ops : Array Oper} {rest : List Oper} {op : Oper} {a : Act} {w : World} {Q : Exit → Act → World → Prop} (hgd : op.guard = none) (x : Operand) (ho : op.op = .load 80 x)
    (z : Nat) (hx : a.eval x = .pointer (some ⟨z, 0, none⟩)) (c0 c1 c2 c3 c4 : Value) (hc : w.rangeAt z 0 [c0, c1, c2, c3, c4]) (h : wpList Try.prog ops Q rest (a.put op.dst (.agg #[c0, c1, c2, c3, c4])) w) : wpList Try.prog ops Q (op :: rest) a w :=
  wpList_load_mid hgd _ x ho z 0 hx [c0, c1, c2, c3, c4] _ hc Try.underlying80 rfl infoSaid13 h
theorem wp_load_cv {op : Oper} {a : Act} {w : World} {K : Act → World → Prop} {Q : Exit → Act → World → Prop} (x : Operand) (ho : op.op = .load 75 x)
    (z : Nat) (hx : a.eval x = .pointer (some ⟨z, 0, none⟩)) (va vb : Value) (ht : TwoAt w z va vb) (h : K (a.put op.dst (cv va vb)) w) : op.wp Try.prog a w K Q := by
  refine wp_load_mid _ x ho z 0 hx [va, vb] _ (fun j v hv => ?_) Try.underlying75 rfl infoClash h
  match j, hv with
  | 0, hv => simp at hv; subst hv; exact ht.1
  | 1, hv => simp at hv; subst hv; exact ht.2
/-- What is said, in a variable. -/
def Said5 (V : World) (z : Nat) (vL vM : Value) (at_ : Int) (vB vS : Value) : Prop := V.cell? ⟨z, 0, none⟩ = some vL ∧ V.cell? ⟨z, 1, none⟩ = some vM ∧ V.cell? ⟨z, 2, none⟩ = some (.int .i64 at_) ∧ V.cell? ⟨z, 3, none⟩ = some vB ∧ V.cell? ⟨z, 4, none⟩ = some vS
theorem said5_new (w : World) (vL vM : Value) (at_ : Int) (vB vS : Value) (t : TypeId) : Said5 (w.alloc (.cells #[vL, vM, .int .i64 at_, vB, vS] t)) w.heap.size vL vM at_ vB vS := by
  have h := range_new w #[vL, vM, .int .i64 at_, vB, vS] t _ rfl
  exact ⟨h 0 _ rfl, h 1 _ rfl, h 2 _ rfl, h 3 _ rfl, h 4 _ rfl⟩
theorem Said5.below {V V' : World} {z : Nat} {vL vM : Value} {at_ : Int} {vB vS : Value} (h : Said5 V z vL vM at_ vB vS) (hb : Below V.heap.size V V') : Said5 V' z vL vM at_ vB vS :=
  ⟨bc h.1 hb, bc h.2.1 hb, bc h.2.2.1 hb, bc h.2.2.2.1 hb, bc h.2.2.2.2 hb⟩
theorem Said5.range {V : World} {z : Nat} {vL vM : Value} {at_ : Int} {vB vS : Value} (h : Said5 V z vL vM at_ vB vS) : V.rangeAt z 0 [vL, vM, .int .i64 at_, vB, vS] := fun j v hv => by
  match j, hv with
  | 0, hv => simp at hv; subst hv; exact h.1
  | 1, hv => simp at hv; subst hv; exact h.2.1
  | 2, hv => simp at hv; subst hv; exact h.2.2.1
  | 3, hv => simp at hv; subst hv; exact h.2.2.2.1
  | 4, hv => simp at hv; subst hv; exact h.2.2.2.2
set_option maxRecDepth 100000 in
set_option maxHeartbeats 4000000 in
theorem clashesPath_any (L M : List (List UInt8)) (at_ : Int) (B : List UInt8) (S : List Sum) (vL vM vB vS : Value) (w : World) (hL : ListsAt w vL L) (hM : ListsAt w vM M) (hB : BytesAt w vB B) (hS : SumsAt w vS S)
    (hz : (L.length ≤ LIM ∧ ∀ y ∈ L, y.length ≤ LIM) ∧ (M.length ≤ LIM ∧ ∀ y ∈ M, y.length ≤ LIM) ∧ B.length ≤ LIM ∧ S.length ≤ LIM) : Calls Try.prog 19 #[said13 vL vM at_ vB vS] w fun e w' => e = .returned (.bool true) ∧ Below w.heap.size w w' := by
  have hb0 := al (Below.refl _ w) (.cells #[vL, vM, .int .i64 at_, vB, vS] 80)
  have HB0 := Lib.hid hb0
  have HSD := Lib.hid (said5_new w vL vM at_ vB vS 80)
  have HLL := Lib.hid (hL.below hb0)
  have HBB := Lib.hid (bytes_below hB hb0 (Nat.le_refl _))
  have HSS := Lib.hid (hS.below hb0 (Nat.le_refl _))
  have HG := Lib.hid (great_any L M B S vL vM at_ vB vS _ (hL.below hb0) (hM.below hb0) (bytes_below hB hb0 (Nat.le_refl _)) (hS.below hb0 (Nat.le_refl _)) hz.1 hz.2.1 hz.2.2.1 hz.2.2.2)
  obtain ⟨aL, cL, rfl, l1, l2⟩ := hL.slice
  obtain ⟨aM, cM, rfl, _, _⟩ := hM.slice
  obtain ⟨aB, cB, rfl, _, _, _⟩ := id hB
  obtain ⟨aS, cS, rfl, _, _, _⟩ := id hS
  clear hb0 hL hM hB hS hz
  obtain ⟨n, hn⟩ : ∃ n, n = L.length := ⟨_, rfl⟩
  obtain ⟨m, hm⟩ : ∃ m, m = M.length := ⟨_, rfl⟩
  obtain ⟨nb, hnb⟩ : ∃ m, m = B.length := ⟨_, rfl⟩
  obtain ⟨ns, hns⟩ : ∃ m, m = S.length := ⟨_, rfl⟩
  rw [← hn, ← hm, ← hnb, ← hns] at HB0 HSD HLL HBB HSS HG ⊢
  rw [← hn] at l1
  have HN := Lib.hid (And.intro hn (And.intro hm (And.intro hnb hns)))
  clear hn hm hnb hns
  obtain ⟨r, hr⟩ : ∃ r, r = grB L M B S := ⟨_, rfl⟩
  rw [← hr] at HG
  have HR := Lib.hid hr; clear hr
  have h0 := HSD.out.1
  have h2 := HSD.out.2.2.1
  have h3 := HSD.out.2.2.2.1
  have h4 := HSD.out.2.2.2.2
  cases r with
  | true =>
    go_enter Try.func19, Try.ntmps19
    go_wp2_with (refine wpList_load_said13 rfl _ rfl w.heap.size rfl _ _ _ _ _ HSD.out.range ?_)
    refine HG.out.mono ?_
    rintro e w1 ⟨rfl, hb⟩
    have HB := Lib.hid (HB0.out.trans (hb.mono HB0.out.size)); clear hb
    clear h0 h2 h3 h4
    go_wp2_with fail
    refine (alive_clashes w1).mono ?_
    rintro e w2 ⟨rfl, hb⟩
    have HF := Lib.hid (HB.out.trans (hb.mono HB.out.size)); clear hb
    go_wp2_with fail
    exact bodyPost_ret (results_tmp rfl _ _ _) rfl ⟨rfl, HF.out⟩
  | false =>
    have hsm : (n ≤ 20000 ∧ ∀ x ∈ L, x.length ≤ 20000) ∧ nb ≤ 20000 := by
      have h0 := HR.out
      unfold grB at h0
      have h2 : ¬ 20000 < bsz L + bsz M + B.length := fun h => by rw [decide_eq_true h] at h0; simp at h0
      have h3 := bsz_le 20000 (by omega) L (by omega)
      rw [← HN.out.1] at h3
      exact ⟨h3, by have := HN.out.2.2.1; omega⟩
    have HM : Hid (L.length < 1000000 ∧ SZ L ∧ B.length < 900000) := Lib.hid ⟨by have := hsm.1.1; have := HN.out.1; omega, fun x hx => by have := hsm.1.2 x hx; omega, by have := hsm.2; have := HN.out.2.2.1; omega⟩
    have n0 : (n : Int) ≤ 20000 := by have := hsm.1.1; omega
    clear hsm
    have HSX : Hid (∀ x ∈ L, x.length < 1000000) := Lib.hid (fun x hx => Nat.lt_trans (HM.out.2.1 x hx) (by decide))
    have HL := Lib.hid (fun V (hV : Below (w.alloc (.cells #[.slice aL n cL, .slice aM m cM, .int .i64 at_, .slice aB nb cB, .slice aS ns cS] 80)).heap.size (w.alloc (.cells #[.slice aL n cL, .slice aM m cM, .int .i64 at_, .slice aB nb cB, .slice aS ns cS] 80)) V) => path_all L at_ B S _ _ _ V (HLL.out.below hV) (bytes_below HBB.out hV (Nat.le_refl _)) (HSS.out.below hV (Nat.le_refl _)) HM.out.1 HM.out.2.1 HM.out.2.2)
    rw [← HN.out.1] at HL
    by_cases hr : 0 ≤ at_ ∧ at_ < (n : Int)
    · obtain ⟨k, rfl⟩ : ∃ k : Nat, at_ = (k : Int) := ⟨at_.toNat, by omega⟩
      have hkn : k < n := by omega
      rw [Int.toNat_natCast, decide_eq_true hr, Bool.true_and] at HL
      have k0 : (0 : Int) ≤ (k : Int) := by omega
      have k1 : (k : Int) < (n : Int) := by omega
      have k2 : decide (n ≤ k) = false := decide_eq_false (by omega)
      have k3 : ¬ n ≤ k := by omega
      have w1 : IntKind.u64.wrap (k : Int) = (k : Int) := by rw [IntKind.wrap_u64]; omega
      have w2 : IntKind.u64.wrap (n : Int) = (n : Int) := by rw [IntKind.wrap_u64]; omega
      have hkl : k < L.length := by have := HN.out.1; omega
      obtain ⟨bl, ol, c9, he1, _, _⟩ := HLL.out.form (by intro h; rw [h] at hkl; simp at hkl)
      simp only [Value.slice.injEq] at he1
      obtain ⟨rfl, h9, rfl⟩ := he1
      clear h9
      obtain ⟨u, hcu, hu⟩ := HLL.out.cell (sp := none) hkl
      have hge : L[k]? = some L[k] := List.getElem?_eq_getElem hkl
      have HU := Lib.hid (And.intro hcu hu)
      rw [hge] at HL
      clear hcu hu hr hge
      generalize L[k] = x at *
      clear hkl
      rcases hpb : pathBe (lf B) k n S (sd L) with _ | _
      · have HPB := Lib.hid hpb
        rw [hpb, Bool.false_and] at HL
        clear hpb
        go_enter Try.func19, Try.ntmps19
        go_wp2_with (refine wpList_load_said13 rfl _ rfl w.heap.size rfl _ _ _ _ _ HSD.out.range ?_)
        obtain ⟨z, hz⟩ : ∃ z, z = w.heap.size := ⟨_, rfl⟩
        rw [← hz] at HSD h0 h2 h3 h4 ⊢
        clear hz
        generalize w.alloc (.cells #[.slice (some ⟨bl, ol, none⟩) n cL, .slice aM m cM, .int .i64 (k : Int), .slice aB nb cB, .slice aS ns cS] 80) = W at *
        refine HG.out.mono ?_
        rintro e w1 ⟨rfl, hb⟩
        have HB1 := Lib.hid hb; clear hb h0 h2 h3 h4
        have h1 := HSD.out.below HB1.out
        have h10 := h1.1
        have h12 := h1.2.2.1
        have h13 := h1.2.2.2.1
        have h14 := h1.2.2.2.2
        clear h1
        go_wp2_with fail
        refine (HL.out w1 HB1.out).mono ?_
        rintro e w2 ⟨v1, v2, A, C, rfl, hA, hC, hI, hlA, hlB, hb⟩
        obtain ⟨x1, k1, rfl, _, _, g1⟩ := id hA
        obtain ⟨x2, k2, rfl, _, _, g2⟩ := id hC
        have HLX : Hid (LenOK A ∧ LenOK C) := Lib.hid (And.intro hlA hlB)
        have HP := Lib.hid (And.intro hA (And.intro hC (And.intro hI (HB1.out.trans (hb.mono HB1.out.size)))))
        clear hA hC hI hlA hlB g1 g2 hb HB1 HL HG h10 h12 h13 h14
        generalize A.length = na at *
        generalize C.length = nc at *
        have HGG := Lib.hid trivial
        go_wp2_with (have _ := HGG; refine wpList_var_cv rfl _ _ rfl _ _ _ _ _ _ rfl rfl ?_; intro W1 z3 hz hb1 ht; have HW := Lib.hid (And.intro (HP.out.2.2.2.trans (hb1.mono HP.out.2.2.2.size)) (And.intro ht (And.intro (bytes_below HP.out.1 hb1 (Nat.le_refl _)) (And.intro (bytes_below HP.out.2.1 hb1 (Nat.le_refl _)) HP.out.2.2.1)))); have h1 := HSD.out.below HW.out.1; have h10 := h1.1; have h12 := h1.2.2.1; rw [← hz]; clear HGG hb1 ht hz h1)
        clear h10 h12 HP
        have HBW := Lib.hid HW.out.1
        refine wp_region_sched (fun V => V.cell? ⟨z, 0, none⟩ = some (.slice (some ⟨bl, ol, none⟩) n cL) ∧ V.cell? ⟨z, 2, none⟩ = some (.int .i64 (k : Int)) ∧ V.cell? ⟨z, 3, none⟩ = some (.slice aB nb cB) ∧ V.cell? ⟨z, 4, none⟩ = some (.slice aS ns cS) ∧ V.cell? ⟨bl, ol + k, none⟩ = some u ∧ Below W.heap.size W V) [.t 0, .t 3, .t 6, .t 10, .t 12, .s 1, .s 4, .t 5, .s 7, .t 8, .t 9, .s 11, .s 13, .e 2 true, .e 14 true, .e 15 true, .e 16 true, .t 17] (by kernel_rfl) (by kernel_rfl) (by intro c a d v w h; cases d <;> exact h) ?_
        have HSC : Hid (∀ V, Below W.heap.size W V → V.cell? ⟨z, 0, none⟩ = some (.slice (some ⟨bl, ol, none⟩) n cL) ∧ V.cell? ⟨z, 2, none⟩ = some (.int .i64 (k : Int)) ∧ V.cell? ⟨z, 3, none⟩ = some (.slice aB nb cB) ∧ V.cell? ⟨z, 4, none⟩ = some (.slice aS ns cS) ∧ V.cell? ⟨bl, ol + k, none⟩ = some u ∧ Below W.heap.size W V) := Lib.hid (fun V hV => ⟨bc HSD.out.1 hV, bc HSD.out.2.2.1 hV, bc HSD.out.2.2.2.1 hV, bc HSD.out.2.2.2.2 hV, bc HU.out.1 hV, hV⟩)
        have hb := (Below.refl W1.heap.size W1).drew
        replace HW := Lib.hid (And.intro (HW.out.1.trans (hb.mono HW.out.1.size)) (And.intro (HW.out.2.1.below hb) (And.intro (bytes_below HW.out.2.2.1 hb (Nat.le_refl _)) (And.intro (bytes_below HW.out.2.2.2.1 hb (Nat.le_refl _)) HW.out.2.2.2.2))))
        clear hb HBW
        generalize W1.drew = V at *
        iterate 5
          refine wpS_t rfl (v := ?_) (by rfl) (fun W => ?_) ?_
          rotate_left
          · go_simp
            try rfl
          try simp only [Act.put, List.setIfInBounds_toArray, List.set_cons_zero, List.set_cons_succ]
        refine wpS_s (by exact HSC.out _ HW.out.1) rfl (v := ?_) (by rfl) (fun W hSW => ?_) ?_
        rotate_left
        · go_simp
          try rfl
        try simp only [Act.put, List.setIfInBounds_toArray, List.set_cons_zero, List.set_cons_succ]
        refine wpS_s (by exact HSC.out _ HW.out.1) rfl (v := ?_) (by rfl) (fun W hSW => ?_) ?_
        rotate_left
        · go_simp
          try rfl
        try simp only [Act.put, List.setIfInBounds_toArray, List.set_cons_zero, List.set_cons_succ]
        iterate 1
          refine wpS_t rfl (v := ?_) (by rfl) (fun W => ?_) ?_
          rotate_left
          · go_simp
            try rfl
          try simp only [Act.put, List.setIfInBounds_toArray, List.set_cons_zero, List.set_cons_succ]
        refine wpS_s (by exact HSC.out _ HW.out.1) rfl (v := ?_) (by rfl) (fun W hSW => ?_) ?_
        rotate_left
        · go_simp
          try rfl
        try simp only [Act.put, List.setIfInBounds_toArray, List.set_cons_zero, List.set_cons_succ]
        iterate 2
          refine wpS_t rfl (v := ?_) (by rfl) (fun W => ?_) ?_
          rotate_left
          · go_simp
            try rfl
          try simp only [Act.put, List.setIfInBounds_toArray, List.set_cons_zero, List.set_cons_succ]
        refine wpS_s (by exact HSC.out _ HW.out.1) rfl (v := ?_) (by rfl) (fun W hSW => ?_) ?_
        rotate_left
        · go_simp
          try rfl
        try simp only [Act.put, List.setIfInBounds_toArray, List.set_cons_zero, List.set_cons_succ]
        refine wpS_s (by exact HSC.out _ HW.out.1) rfl (v := ?_) (by rfl) (fun W hSW => ?_) ?_
        rotate_left
        · go_simp
          try rfl
        try simp only [Act.put, List.setIfInBounds_toArray, List.set_cons_zero, List.set_cons_succ]
        refine wpS_k rfl (by rfl) (fun K hK => ?_)
        go_simp
        refine (lf_any B _ V (bytes_below HBB.out HW.out.1 (Nat.le_refl _)) (by have := HM.out.2.2; omega)).mono ?_
        rintro e V1 ⟨rfl, hb⟩
        replace HW := Lib.hid (And.intro (HW.out.1.trans (hb.mono HW.out.1.size)) (And.intro (HW.out.2.1.below hb) (And.intro (bytes_below HW.out.2.2.1 hb (Nat.le_refl _)) (And.intro (bytes_below HW.out.2.2.2.1 hb (Nat.le_refl _)) HW.out.2.2.2.2))))
        clear hb
        refine hK _ _ ⟨by exact HSC.out _ HW.out.1, ?_⟩; clear hK K
        try simp only [Act.put, List.setIfInBounds_toArray, List.set_cons_zero, List.set_cons_succ]
        refine wpS_k rfl (by rfl) (fun K hK => ?_)
        go_simp
        refine (lsums_any L _ V1 (HLL.out.below HW.out.1) HM.out.1 HSX.out).mono ?_
        rintro e V2 ⟨us, rfl, hu, hb⟩
        replace HW := Lib.hid (And.intro (HW.out.1.trans (hb.mono HW.out.1.size)) (And.intro (HW.out.2.1.below hb) (And.intro (bytes_below HW.out.2.2.1 hb (Nat.le_refl _)) (And.intro (bytes_below HW.out.2.2.2.1 hb (Nat.le_refl _)) HW.out.2.2.2.2))))
        have HU3 := Lib.hid hu
        clear hb hu
        refine hK _ _ ⟨by exact HSC.out _ HW.out.1, ?_⟩; clear hK K
        try simp only [Act.put, List.setIfInBounds_toArray, List.set_cons_zero, List.set_cons_succ]
        refine wpS_k rfl (by rfl) (fun K hK => ?_)
        go_simp
        refine (rt_any _ us V2 HU3.out).mono ?_
        rintro e V3 ⟨rfl, hb⟩
        replace HW := Lib.hid (And.intro (HW.out.1.trans (hb.mono HW.out.1.size)) (And.intro (HW.out.2.1.below hb) (And.intro (bytes_below HW.out.2.2.1 hb (Nat.le_refl _)) (And.intro (bytes_below HW.out.2.2.2.1 hb (Nat.le_refl _)) HW.out.2.2.2.2))))
        clear hb HU3
        refine hK _ _ ⟨by exact HSC.out _ HW.out.1, ?_⟩; clear hK K
        try simp only [Act.put, List.setIfInBounds_toArray, List.set_cons_zero, List.set_cons_succ]
        refine wpS_k rfl (by rfl) (fun K hK => ?_)
        go_simp
        have hck := pcheck_in (lf B) k n _ S (sd L) V3 (HSS.out.below HW.out.1 (Nat.le_refl _)) hkn (by omega)
        rw [HPB.out] at hck
        refine hck.mono ?_
        rintro e V4 ⟨rfl, hb⟩
        clear hck
        replace HW := Lib.hid (And.intro (HW.out.1.trans (hb.mono HW.out.1.size)) (And.intro (HW.out.2.1.below hb) (And.intro (bytes_below HW.out.2.2.1 hb (Nat.le_refl _)) (And.intro (bytes_below HW.out.2.2.2.1 hb (Nat.le_refl _)) HW.out.2.2.2.2))))
        clear hb
        refine hK _ _ ⟨by exact HSC.out _ HW.out.1, ?_⟩; clear hK K
        try simp only [Act.put, List.setIfInBounds_toArray, List.set_cons_zero, List.set_cons_succ]
        iterate 1
          refine wpS_t rfl (v := ?_) (by rfl) (fun W => ?_) ?_
          rotate_left
          · go_simp
            try rfl
          try simp only [Act.put, List.setIfInBounds_toArray, List.set_cons_zero, List.set_cons_succ]
        refine wpS_done ?_
        go_wp2_with fail
        refine wp_region_sched (fun V => V.cell? ⟨z, 0, none⟩ = some (.slice (some ⟨bl, ol, none⟩) n cL) ∧ V.cell? ⟨z, 2, none⟩ = some (.int .i64 (k : Int)) ∧ V.cell? ⟨z, 3, none⟩ = some (.slice aB nb cB) ∧ V.cell? ⟨z, 4, none⟩ = some (.slice aS ns cS) ∧ V.cell? ⟨bl, ol + k, none⟩ = some u ∧ Below W.heap.size W V) [.e 0 true, .t 1, .t 2, .t 3, .t 4, .t 5, .t 7, .t 9, .s 6, .s 8, .e 10 true, .t 11, .e 12 true, .e 13 true, .t 14, .t 15, .t 16, .t 17, .t 18, .t 19, .t 20, .t 21, .e 22 true, .e 23 true, .t 24, .t 25, .t 26] (by kernel_rfl) (by kernel_rfl) (by intro c a d v w h; cases d <;> exact h) ?_
        have hb := (Below.refl V4.heap.size V4).drew
        replace HW := Lib.hid (And.intro (HW.out.1.trans (hb.mono HW.out.1.size)) (And.intro (HW.out.2.1.below hb) (And.intro (bytes_below HW.out.2.2.1 hb (Nat.le_refl _)) (And.intro (bytes_below HW.out.2.2.2.1 hb (Nat.le_refl _)) HW.out.2.2.2.2))))
        clear hb
        generalize V4.drew = V5 at *
        refine wpS_k rfl (by rfl) (fun K hK => ?_)
        go_simp
        refine (alive_clashes V5).mono ?_
        rintro e V6 ⟨rfl, hb⟩
        replace HW := Lib.hid (And.intro (HW.out.1.trans (hb.mono HW.out.1.size)) (And.intro (HW.out.2.1.below hb) (And.intro (bytes_below HW.out.2.2.1 hb (Nat.le_refl _)) (And.intro (bytes_below HW.out.2.2.2.1 hb (Nat.le_refl _)) HW.out.2.2.2.2))))
        clear hb
        refine hK _ _ ⟨by exact HSC.out _ HW.out.1, ?_⟩; clear hK K
        try simp only [Act.put, List.setIfInBounds_toArray, List.set_cons_zero, List.set_cons_succ]
        iterate 4
          refine wpS_t rfl (v := ?_) (by rfl) (fun W => ?_) ?_
          rotate_left
          · go_simp
            try rfl
          try simp only [Act.put, List.setIfInBounds_toArray, List.set_cons_zero, List.set_cons_succ]
        iterate 3
          refine wpS_t_skip rfl (by rfl) ?_
          try simp only [Act.put, List.setIfInBounds_toArray, List.set_cons_zero, List.set_cons_succ]
        iterate 2
          refine wpS_s_skip (by exact HSC.out _ HW.out.1) rfl (by rfl) ?_
          try simp only [Act.put, List.setIfInBounds_toArray, List.set_cons_zero, List.set_cons_succ]
        refine wpS_k_skip (by exact HSC.out _ HW.out.1) rfl (by rfl) ?_
        try simp only [Act.put, List.setIfInBounds_toArray, List.set_cons_zero, List.set_cons_succ]
        iterate 1
          refine wpS_t_skip rfl (by rfl) ?_
          try simp only [Act.put, List.setIfInBounds_toArray, List.set_cons_zero, List.set_cons_succ]
        refine wpS_k_skip (by exact HSC.out _ HW.out.1) rfl (by rfl) ?_
        try simp only [Act.put, List.setIfInBounds_toArray, List.set_cons_zero, List.set_cons_succ]
        refine wpS_k_skip (by exact HSC.out _ HW.out.1) rfl (by rfl) ?_
        try simp only [Act.put, List.setIfInBounds_toArray, List.set_cons_zero, List.set_cons_succ]
        iterate 1
          refine wpS_t_skip rfl (by rfl) ?_
          try simp only [Act.put, List.setIfInBounds_toArray, List.set_cons_zero, List.set_cons_succ]
        iterate 7
          refine wpS_t rfl (v := ?_) (by rfl) (fun W => ?_) ?_
          rotate_left
          · go_simp
            try rfl
          try simp only [Act.put, List.setIfInBounds_toArray, List.set_cons_zero, List.set_cons_succ]
        refine wpS_k_skip (by exact HSC.out _ HW.out.1) rfl (by rfl) ?_
        try simp only [Act.put, List.setIfInBounds_toArray, List.set_cons_zero, List.set_cons_succ]
        refine wpS_k_skip (by exact HSC.out _ HW.out.1) rfl (by rfl) ?_
        try simp only [Act.put, List.setIfInBounds_toArray, List.set_cons_zero, List.set_cons_succ]
        iterate 3
          refine wpS_t rfl (v := ?_) (by rfl) (fun W => ?_) ?_
          rotate_left
          · go_simp
            try rfl
          try simp only [Act.put, List.setIfInBounds_toArray, List.set_cons_zero, List.set_cons_succ]
        refine wpS_done ?_
        go_wp2_with fail
        exact bodyPost_ret (results_tmp rfl _ _ _) rfl ⟨rfl, HB0.out.trans (HW.out.1.mono HB0.out.size)⟩
      · have HPB := Lib.hid hpb
        rw [hpb, Bool.true_and] at HL
        clear hpb
        by_cases hxb : B = x
        · have HD : Hid (decide (B = x) = true) := Lib.hid (decide_eq_true hxb)
          rw [show (!decide (some x = some B)) = false by simp [hxb]] at HL
          clear hxb
          go_enter Try.func19, Try.ntmps19
          go_wp2_with (refine wpList_load_said13 rfl _ rfl w.heap.size rfl _ _ _ _ _ HSD.out.range ?_)
          obtain ⟨z, hz⟩ : ∃ z, z = w.heap.size := ⟨_, rfl⟩
          rw [← hz] at HSD h0 h2 h3 h4 ⊢
          clear hz
          generalize w.alloc (.cells #[.slice (some ⟨bl, ol, none⟩) n cL, .slice aM m cM, .int .i64 (k : Int), .slice aB nb cB, .slice aS ns cS] 80) = W at *
          refine HG.out.mono ?_
          rintro e w1 ⟨rfl, hb⟩
          have HB1 := Lib.hid hb; clear hb h0 h2 h3 h4
          have h1 := HSD.out.below HB1.out
          have h10 := h1.1
          have h12 := h1.2.2.1
          have h13 := h1.2.2.2.1
          have h14 := h1.2.2.2.2
          clear h1
          go_wp2_with fail
          refine (HL.out w1 HB1.out).mono ?_
          rintro e w2 ⟨v1, v2, A, C, rfl, hA, hC, hI, hlA, hlB, hb⟩
          obtain ⟨x1, k1, rfl, _, _, g1⟩ := id hA
          obtain ⟨x2, k2, rfl, _, _, g2⟩ := id hC
          have HLX : Hid (LenOK A ∧ LenOK C) := Lib.hid (And.intro hlA hlB)
          have HP := Lib.hid (And.intro hA (And.intro hC (And.intro hI (HB1.out.trans (hb.mono HB1.out.size)))))
          clear hA hC hI hlA hlB g1 g2 hb HB1 HL HG h10 h12 h13 h14
          generalize A.length = na at *
          generalize C.length = nc at *
          have HGG := Lib.hid trivial
          go_wp2_with (have _ := HGG; refine wpList_var_cv rfl _ _ rfl _ _ _ _ _ _ rfl rfl ?_; intro W1 z3 hz hb1 ht; have HW := Lib.hid (And.intro (HP.out.2.2.2.trans (hb1.mono HP.out.2.2.2.size)) (And.intro ht (And.intro (bytes_below HP.out.1 hb1 (Nat.le_refl _)) (And.intro (bytes_below HP.out.2.1 hb1 (Nat.le_refl _)) HP.out.2.2.1)))); have h1 := HSD.out.below HW.out.1; have h10 := h1.1; have h12 := h1.2.2.1; rw [← hz]; clear HGG hb1 ht hz h1)
          clear h10 h12 HP
          have HBW := Lib.hid HW.out.1
          refine wp_region_sched (fun V => V.cell? ⟨z, 0, none⟩ = some (.slice (some ⟨bl, ol, none⟩) n cL) ∧ V.cell? ⟨z, 2, none⟩ = some (.int .i64 (k : Int)) ∧ V.cell? ⟨z, 3, none⟩ = some (.slice aB nb cB) ∧ V.cell? ⟨z, 4, none⟩ = some (.slice aS ns cS) ∧ V.cell? ⟨bl, ol + k, none⟩ = some u ∧ Below W.heap.size W V) [.t 0, .t 3, .t 6, .t 10, .t 12, .s 1, .s 4, .t 5, .s 7, .t 8, .t 9, .s 11, .s 13, .e 2 true, .e 14 true, .e 15 true, .e 16 true, .t 17] (by kernel_rfl) (by kernel_rfl) (by intro c a d v w h; cases d <;> exact h) ?_
          have HSC : Hid (∀ V, Below W.heap.size W V → V.cell? ⟨z, 0, none⟩ = some (.slice (some ⟨bl, ol, none⟩) n cL) ∧ V.cell? ⟨z, 2, none⟩ = some (.int .i64 (k : Int)) ∧ V.cell? ⟨z, 3, none⟩ = some (.slice aB nb cB) ∧ V.cell? ⟨z, 4, none⟩ = some (.slice aS ns cS) ∧ V.cell? ⟨bl, ol + k, none⟩ = some u ∧ Below W.heap.size W V) := Lib.hid (fun V hV => ⟨bc HSD.out.1 hV, bc HSD.out.2.2.1 hV, bc HSD.out.2.2.2.1 hV, bc HSD.out.2.2.2.2 hV, bc HU.out.1 hV, hV⟩)
          have hb := (Below.refl W1.heap.size W1).drew
          replace HW := Lib.hid (And.intro (HW.out.1.trans (hb.mono HW.out.1.size)) (And.intro (HW.out.2.1.below hb) (And.intro (bytes_below HW.out.2.2.1 hb (Nat.le_refl _)) (And.intro (bytes_below HW.out.2.2.2.1 hb (Nat.le_refl _)) HW.out.2.2.2.2))))
          clear hb HBW
          generalize W1.drew = V at *
          iterate 5
            refine wpS_t rfl (v := ?_) (by rfl) (fun W => ?_) ?_
            rotate_left
            · go_simp
              try rfl
            try simp only [Act.put, List.setIfInBounds_toArray, List.set_cons_zero, List.set_cons_succ]
          refine wpS_s (by exact HSC.out _ HW.out.1) rfl (v := ?_) (by rfl) (fun W hSW => ?_) ?_
          rotate_left
          · go_simp
            try rfl
          try simp only [Act.put, List.setIfInBounds_toArray, List.set_cons_zero, List.set_cons_succ]
          refine wpS_s (by exact HSC.out _ HW.out.1) rfl (v := ?_) (by rfl) (fun W hSW => ?_) ?_
          rotate_left
          · go_simp
            try rfl
          try simp only [Act.put, List.setIfInBounds_toArray, List.set_cons_zero, List.set_cons_succ]
          iterate 1
            refine wpS_t rfl (v := ?_) (by rfl) (fun W => ?_) ?_
            rotate_left
            · go_simp
              try rfl
            try simp only [Act.put, List.setIfInBounds_toArray, List.set_cons_zero, List.set_cons_succ]
          refine wpS_s (by exact HSC.out _ HW.out.1) rfl (v := ?_) (by rfl) (fun W hSW => ?_) ?_
          rotate_left
          · go_simp
            try rfl
          try simp only [Act.put, List.setIfInBounds_toArray, List.set_cons_zero, List.set_cons_succ]
          iterate 2
            refine wpS_t rfl (v := ?_) (by rfl) (fun W => ?_) ?_
            rotate_left
            · go_simp
              try rfl
            try simp only [Act.put, List.setIfInBounds_toArray, List.set_cons_zero, List.set_cons_succ]
          refine wpS_s (by exact HSC.out _ HW.out.1) rfl (v := ?_) (by rfl) (fun W hSW => ?_) ?_
          rotate_left
          · go_simp
            try rfl
          try simp only [Act.put, List.setIfInBounds_toArray, List.set_cons_zero, List.set_cons_succ]
          refine wpS_s (by exact HSC.out _ HW.out.1) rfl (v := ?_) (by rfl) (fun W hSW => ?_) ?_
          rotate_left
          · go_simp
            try rfl
          try simp only [Act.put, List.setIfInBounds_toArray, List.set_cons_zero, List.set_cons_succ]
          refine wpS_k rfl (by rfl) (fun K hK => ?_)
          go_simp
          refine (lf_any B _ V (bytes_below HBB.out HW.out.1 (Nat.le_refl _)) (by have := HM.out.2.2; omega)).mono ?_
          rintro e V1 ⟨rfl, hb⟩
          replace HW := Lib.hid (And.intro (HW.out.1.trans (hb.mono HW.out.1.size)) (And.intro (HW.out.2.1.below hb) (And.intro (bytes_below HW.out.2.2.1 hb (Nat.le_refl _)) (And.intro (bytes_below HW.out.2.2.2.1 hb (Nat.le_refl _)) HW.out.2.2.2.2))))
          clear hb
          refine hK _ _ ⟨by exact HSC.out _ HW.out.1, ?_⟩; clear hK K
          try simp only [Act.put, List.setIfInBounds_toArray, List.set_cons_zero, List.set_cons_succ]
          refine wpS_k rfl (by rfl) (fun K hK => ?_)
          go_simp
          refine (lsums_any L _ V1 (HLL.out.below HW.out.1) HM.out.1 HSX.out).mono ?_
          rintro e V2 ⟨us, rfl, hu, hb⟩
          replace HW := Lib.hid (And.intro (HW.out.1.trans (hb.mono HW.out.1.size)) (And.intro (HW.out.2.1.below hb) (And.intro (bytes_below HW.out.2.2.1 hb (Nat.le_refl _)) (And.intro (bytes_below HW.out.2.2.2.1 hb (Nat.le_refl _)) HW.out.2.2.2.2))))
          have HU3 := Lib.hid hu
          clear hb hu
          refine hK _ _ ⟨by exact HSC.out _ HW.out.1, ?_⟩; clear hK K
          try simp only [Act.put, List.setIfInBounds_toArray, List.set_cons_zero, List.set_cons_succ]
          refine wpS_k rfl (by rfl) (fun K hK => ?_)
          go_simp
          refine (rt_any _ us V2 HU3.out).mono ?_
          rintro e V3 ⟨rfl, hb⟩
          replace HW := Lib.hid (And.intro (HW.out.1.trans (hb.mono HW.out.1.size)) (And.intro (HW.out.2.1.below hb) (And.intro (bytes_below HW.out.2.2.1 hb (Nat.le_refl _)) (And.intro (bytes_below HW.out.2.2.2.1 hb (Nat.le_refl _)) HW.out.2.2.2.2))))
          clear hb HU3
          refine hK _ _ ⟨by exact HSC.out _ HW.out.1, ?_⟩; clear hK K
          try simp only [Act.put, List.setIfInBounds_toArray, List.set_cons_zero, List.set_cons_succ]
          refine wpS_k rfl (by rfl) (fun K hK => ?_)
          go_simp
          have hck := pcheck_in (lf B) k n _ S (sd L) V3 (HSS.out.below HW.out.1 (Nat.le_refl _)) hkn (by omega)
          rw [HPB.out] at hck
          refine hck.mono ?_
          rintro e V4 ⟨rfl, hb⟩
          clear hck
          replace HW := Lib.hid (And.intro (HW.out.1.trans (hb.mono HW.out.1.size)) (And.intro (HW.out.2.1.below hb) (And.intro (bytes_below HW.out.2.2.1 hb (Nat.le_refl _)) (And.intro (bytes_below HW.out.2.2.2.1 hb (Nat.le_refl _)) HW.out.2.2.2.2))))
          clear hb
          refine hK _ _ ⟨by exact HSC.out _ HW.out.1, ?_⟩; clear hK K
          try simp only [Act.put, List.setIfInBounds_toArray, List.set_cons_zero, List.set_cons_succ]
          iterate 1
            refine wpS_t rfl (v := ?_) (by rfl) (fun W => ?_) ?_
            rotate_left
            · go_simp
              try rfl
            try simp only [Act.put, List.setIfInBounds_toArray, List.set_cons_zero, List.set_cons_succ]
          refine wpS_done ?_
          go_wp2_with fail
          refine wp_region_sched (fun V => V.cell? ⟨z, 0, none⟩ = some (.slice (some ⟨bl, ol, none⟩) n cL) ∧ V.cell? ⟨z, 2, none⟩ = some (.int .i64 (k : Int)) ∧ V.cell? ⟨z, 3, none⟩ = some (.slice aB nb cB) ∧ V.cell? ⟨z, 4, none⟩ = some (.slice aS ns cS) ∧ V.cell? ⟨bl, ol + k, none⟩ = some u ∧ Below W.heap.size W V) [.e 0 true, .t 1, .t 2, .t 3, .t 4, .t 5, .t 7, .t 9, .s 6, .s 8, .e 10 true, .t 11, .e 12 true, .e 13 true, .t 14, .t 15, .t 16, .t 17, .t 18, .t 19, .t 20, .t 21, .e 22 true, .e 23 true, .t 24, .t 25, .t 26] (by kernel_rfl) (by kernel_rfl) (by intro c a d v w h; cases d <;> exact h) ?_
          have hb := (Below.refl V4.heap.size V4).drew
          replace HW := Lib.hid (And.intro (HW.out.1.trans (hb.mono HW.out.1.size)) (And.intro (HW.out.2.1.below hb) (And.intro (bytes_below HW.out.2.2.1 hb (Nat.le_refl _)) (And.intro (bytes_below HW.out.2.2.2.1 hb (Nat.le_refl _)) HW.out.2.2.2.2))))
          clear hb
          generalize V4.drew = V5 at *
          refine wpS_k rfl (by rfl) (fun K hK => ?_)
          go_simp
          refine (alive_clashes V5).mono ?_
          rintro e V6 ⟨rfl, hb⟩
          replace HW := Lib.hid (And.intro (HW.out.1.trans (hb.mono HW.out.1.size)) (And.intro (HW.out.2.1.below hb) (And.intro (bytes_below HW.out.2.2.1 hb (Nat.le_refl _)) (And.intro (bytes_below HW.out.2.2.2.1 hb (Nat.le_refl _)) HW.out.2.2.2.2))))
          clear hb
          refine hK _ _ ⟨by exact HSC.out _ HW.out.1, ?_⟩; clear hK K
          try simp only [Act.put, List.setIfInBounds_toArray, List.set_cons_zero, List.set_cons_succ]
          iterate 4
            refine wpS_t rfl (v := ?_) (by rfl) (fun W => ?_) ?_
            rotate_left
            · go_simp
              try rfl
            try simp only [Act.put, List.setIfInBounds_toArray, List.set_cons_zero, List.set_cons_succ]
          iterate 3
            refine wpS_t rfl (v := ?_) (by rfl) (fun W => ?_) ?_
            rotate_left
            · go_simp
              try rfl
            try simp only [Act.put, List.setIfInBounds_toArray, List.set_cons_zero, List.set_cons_succ]
          refine wpS_s (by exact HSC.out _ HW.out.1) rfl (v := ?_) (by rfl) (fun W hSW => ?_) ?_
          rotate_left
          · go_simp
            try rfl
          try simp only [Act.put, List.setIfInBounds_toArray, List.set_cons_zero, List.set_cons_succ]
          refine wpS_s (by exact HSC.out _ HW.out.1) rfl (v := ?_) (by rfl) (fun W hSW => ?_) ?_
          rotate_left
          · go_simp
            try rfl
          try simp only [Act.put, List.setIfInBounds_toArray, List.set_cons_zero, List.set_cons_succ]
          have g := (HSC.out _ HW.out.1).2.1
          refine wpS_k rfl (by rfl) (fun K hK => ?_)
          go_simp
          refine hK _ _ ⟨by exact HSC.out _ HW.out.1, ?_⟩; clear hK K
          try simp only [Act.put, List.setIfInBounds_toArray, List.set_cons_zero, List.set_cons_succ]
          clear g
          iterate 1
            refine wpS_t rfl (v := ?_) (by rfl) (fun W => ?_) ?_
            rotate_left
            · go_simp
              try rfl
            try simp only [Act.put, List.setIfInBounds_toArray, List.set_cons_zero, List.set_cons_succ]
          have g := (HSC.out _ HW.out.1).2.2.2.2.1
          refine wpS_k rfl (by rfl) (fun K hK => ?_)
          go_simp
          refine hK _ _ ⟨by exact HSC.out _ HW.out.1, ?_⟩; clear hK K
          try simp only [Act.put, List.setIfInBounds_toArray, List.set_cons_zero, List.set_cons_succ]
          clear g
          refine wpS_k rfl (by rfl) (fun K hK => ?_)
          go_simp
          refine (same_bytes B x _ u V6 (bytes_below HBB.out HW.out.1 (Nat.le_refl _)) (bytes_below HU.out.2 HW.out.1 (Nat.le_refl _))).mono ?_
          rw [HD.out]
          rintro e V7 ⟨rfl, hb⟩
          replace HW := Lib.hid (And.intro (HW.out.1.trans (hb.mono HW.out.1.size)) (And.intro (HW.out.2.1.below hb) (And.intro (bytes_below HW.out.2.2.1 hb (Nat.le_refl _)) (And.intro (bytes_below HW.out.2.2.2.1 hb (Nat.le_refl _)) HW.out.2.2.2.2))))
          clear hb
          refine hK _ _ ⟨by exact HSC.out _ HW.out.1, ?_⟩; clear hK K
          try simp only [Act.put, List.setIfInBounds_toArray, List.set_cons_zero, List.set_cons_succ]
          iterate 8
            refine wpS_t rfl (v := ?_) (by rfl) (fun W => ?_) ?_
            rotate_left
            · go_simp
              try rfl
            try simp only [Act.put, List.setIfInBounds_toArray, List.set_cons_zero, List.set_cons_succ]
          refine wpS_k_skip (by exact HSC.out _ HW.out.1) rfl (by rfl) ?_
          try simp only [Act.put, List.setIfInBounds_toArray, List.set_cons_zero, List.set_cons_succ]
          refine wpS_k_skip (by exact HSC.out _ HW.out.1) rfl (by rfl) ?_
          try simp only [Act.put, List.setIfInBounds_toArray, List.set_cons_zero, List.set_cons_succ]
          iterate 3
            refine wpS_t rfl (v := ?_) (by rfl) (fun W => ?_) ?_
            rotate_left
            · go_simp
              try rfl
            try simp only [Act.put, List.setIfInBounds_toArray, List.set_cons_zero, List.set_cons_succ]
          refine wpS_done ?_
          go_wp2_with fail
          exact bodyPost_ret (results_tmp rfl _ _ _) rfl ⟨rfl, HB0.out.trans (HW.out.1.mono HB0.out.size)⟩
        · have HD : Hid (decide (B = x) = false) := Lib.hid (decide_eq_false hxb)
          rw [show (!decide (some x = some B)) = true from by rw [decide_eq_false (fun h => hxb (Option.some.inj h).symm)]; rfl] at HL
          clear hxb
          go_enter Try.func19, Try.ntmps19
          go_wp2_with (refine wpList_load_said13 rfl _ rfl w.heap.size rfl _ _ _ _ _ HSD.out.range ?_)
          obtain ⟨z, hz⟩ : ∃ z, z = w.heap.size := ⟨_, rfl⟩
          rw [← hz] at HSD h0 h2 h3 h4 ⊢
          clear hz
          generalize w.alloc (.cells #[.slice (some ⟨bl, ol, none⟩) n cL, .slice aM m cM, .int .i64 (k : Int), .slice aB nb cB, .slice aS ns cS] 80) = W at *
          refine HG.out.mono ?_
          rintro e w1 ⟨rfl, hb⟩
          have HB1 := Lib.hid hb; clear hb h0 h2 h3 h4
          have h1 := HSD.out.below HB1.out
          have h10 := h1.1
          have h12 := h1.2.2.1
          have h13 := h1.2.2.2.1
          have h14 := h1.2.2.2.2
          clear h1
          go_wp2_with fail
          refine (HL.out w1 HB1.out).mono ?_
          rintro e w2 ⟨v1, v2, A, C, rfl, hA, hC, hI, hlA, hlB, hb⟩
          obtain ⟨x1, k1, rfl, _, _, g1⟩ := id hA
          obtain ⟨x2, k2, rfl, _, _, g2⟩ := id hC
          have HLX : Hid (LenOK A ∧ LenOK C) := Lib.hid (And.intro hlA hlB)
          have HP := Lib.hid (And.intro hA (And.intro hC (And.intro hI (HB1.out.trans (hb.mono HB1.out.size)))))
          clear hA hC hI hlA hlB g1 g2 hb HB1 HL HG h10 h12 h13 h14
          generalize A.length = na at *
          generalize C.length = nc at *
          have HGG := Lib.hid trivial
          go_wp2_with (have _ := HGG; refine wpList_var_cv rfl _ _ rfl _ _ _ _ _ _ rfl rfl ?_; intro W1 z3 hz hb1 ht; have HW := Lib.hid (And.intro (HP.out.2.2.2.trans (hb1.mono HP.out.2.2.2.size)) (And.intro ht (And.intro (bytes_below HP.out.1 hb1 (Nat.le_refl _)) (And.intro (bytes_below HP.out.2.1 hb1 (Nat.le_refl _)) HP.out.2.2.1)))); have h1 := HSD.out.below HW.out.1; have h10 := h1.1; have h12 := h1.2.2.1; rw [← hz]; clear HGG hb1 ht hz h1)
          clear h10 h12 HP
          have HBW := Lib.hid HW.out.1
          refine wp_region_sched (fun V => V.cell? ⟨z, 0, none⟩ = some (.slice (some ⟨bl, ol, none⟩) n cL) ∧ V.cell? ⟨z, 2, none⟩ = some (.int .i64 (k : Int)) ∧ V.cell? ⟨z, 3, none⟩ = some (.slice aB nb cB) ∧ V.cell? ⟨z, 4, none⟩ = some (.slice aS ns cS) ∧ V.cell? ⟨bl, ol + k, none⟩ = some u ∧ Below W.heap.size W V) [.t 0, .t 3, .t 6, .t 10, .t 12, .s 1, .s 4, .t 5, .s 7, .t 8, .t 9, .s 11, .s 13, .e 2 true, .e 14 true, .e 15 true, .e 16 true, .t 17] (by kernel_rfl) (by kernel_rfl) (by intro c a d v w h; cases d <;> exact h) ?_
          have HSC : Hid (∀ V, Below W.heap.size W V → V.cell? ⟨z, 0, none⟩ = some (.slice (some ⟨bl, ol, none⟩) n cL) ∧ V.cell? ⟨z, 2, none⟩ = some (.int .i64 (k : Int)) ∧ V.cell? ⟨z, 3, none⟩ = some (.slice aB nb cB) ∧ V.cell? ⟨z, 4, none⟩ = some (.slice aS ns cS) ∧ V.cell? ⟨bl, ol + k, none⟩ = some u ∧ Below W.heap.size W V) := Lib.hid (fun V hV => ⟨bc HSD.out.1 hV, bc HSD.out.2.2.1 hV, bc HSD.out.2.2.2.1 hV, bc HSD.out.2.2.2.2 hV, bc HU.out.1 hV, hV⟩)
          have hb := (Below.refl W1.heap.size W1).drew
          replace HW := Lib.hid (And.intro (HW.out.1.trans (hb.mono HW.out.1.size)) (And.intro (HW.out.2.1.below hb) (And.intro (bytes_below HW.out.2.2.1 hb (Nat.le_refl _)) (And.intro (bytes_below HW.out.2.2.2.1 hb (Nat.le_refl _)) HW.out.2.2.2.2))))
          clear hb HBW
          generalize W1.drew = V at *
          iterate 5
            refine wpS_t rfl (v := ?_) (by rfl) (fun W => ?_) ?_
            rotate_left
            · go_simp
              try rfl
            try simp only [Act.put, List.setIfInBounds_toArray, List.set_cons_zero, List.set_cons_succ]
          refine wpS_s (by exact HSC.out _ HW.out.1) rfl (v := ?_) (by rfl) (fun W hSW => ?_) ?_
          rotate_left
          · go_simp
            try rfl
          try simp only [Act.put, List.setIfInBounds_toArray, List.set_cons_zero, List.set_cons_succ]
          refine wpS_s (by exact HSC.out _ HW.out.1) rfl (v := ?_) (by rfl) (fun W hSW => ?_) ?_
          rotate_left
          · go_simp
            try rfl
          try simp only [Act.put, List.setIfInBounds_toArray, List.set_cons_zero, List.set_cons_succ]
          iterate 1
            refine wpS_t rfl (v := ?_) (by rfl) (fun W => ?_) ?_
            rotate_left
            · go_simp
              try rfl
            try simp only [Act.put, List.setIfInBounds_toArray, List.set_cons_zero, List.set_cons_succ]
          refine wpS_s (by exact HSC.out _ HW.out.1) rfl (v := ?_) (by rfl) (fun W hSW => ?_) ?_
          rotate_left
          · go_simp
            try rfl
          try simp only [Act.put, List.setIfInBounds_toArray, List.set_cons_zero, List.set_cons_succ]
          iterate 2
            refine wpS_t rfl (v := ?_) (by rfl) (fun W => ?_) ?_
            rotate_left
            · go_simp
              try rfl
            try simp only [Act.put, List.setIfInBounds_toArray, List.set_cons_zero, List.set_cons_succ]
          refine wpS_s (by exact HSC.out _ HW.out.1) rfl (v := ?_) (by rfl) (fun W hSW => ?_) ?_
          rotate_left
          · go_simp
            try rfl
          try simp only [Act.put, List.setIfInBounds_toArray, List.set_cons_zero, List.set_cons_succ]
          refine wpS_s (by exact HSC.out _ HW.out.1) rfl (v := ?_) (by rfl) (fun W hSW => ?_) ?_
          rotate_left
          · go_simp
            try rfl
          try simp only [Act.put, List.setIfInBounds_toArray, List.set_cons_zero, List.set_cons_succ]
          refine wpS_k rfl (by rfl) (fun K hK => ?_)
          go_simp
          refine (lf_any B _ V (bytes_below HBB.out HW.out.1 (Nat.le_refl _)) (by have := HM.out.2.2; omega)).mono ?_
          rintro e V1 ⟨rfl, hb⟩
          replace HW := Lib.hid (And.intro (HW.out.1.trans (hb.mono HW.out.1.size)) (And.intro (HW.out.2.1.below hb) (And.intro (bytes_below HW.out.2.2.1 hb (Nat.le_refl _)) (And.intro (bytes_below HW.out.2.2.2.1 hb (Nat.le_refl _)) HW.out.2.2.2.2))))
          clear hb
          refine hK _ _ ⟨by exact HSC.out _ HW.out.1, ?_⟩; clear hK K
          try simp only [Act.put, List.setIfInBounds_toArray, List.set_cons_zero, List.set_cons_succ]
          refine wpS_k rfl (by rfl) (fun K hK => ?_)
          go_simp
          refine (lsums_any L _ V1 (HLL.out.below HW.out.1) HM.out.1 HSX.out).mono ?_
          rintro e V2 ⟨us, rfl, hu, hb⟩
          replace HW := Lib.hid (And.intro (HW.out.1.trans (hb.mono HW.out.1.size)) (And.intro (HW.out.2.1.below hb) (And.intro (bytes_below HW.out.2.2.1 hb (Nat.le_refl _)) (And.intro (bytes_below HW.out.2.2.2.1 hb (Nat.le_refl _)) HW.out.2.2.2.2))))
          have HU3 := Lib.hid hu
          clear hb hu
          refine hK _ _ ⟨by exact HSC.out _ HW.out.1, ?_⟩; clear hK K
          try simp only [Act.put, List.setIfInBounds_toArray, List.set_cons_zero, List.set_cons_succ]
          refine wpS_k rfl (by rfl) (fun K hK => ?_)
          go_simp
          refine (rt_any _ us V2 HU3.out).mono ?_
          rintro e V3 ⟨rfl, hb⟩
          replace HW := Lib.hid (And.intro (HW.out.1.trans (hb.mono HW.out.1.size)) (And.intro (HW.out.2.1.below hb) (And.intro (bytes_below HW.out.2.2.1 hb (Nat.le_refl _)) (And.intro (bytes_below HW.out.2.2.2.1 hb (Nat.le_refl _)) HW.out.2.2.2.2))))
          clear hb HU3
          refine hK _ _ ⟨by exact HSC.out _ HW.out.1, ?_⟩; clear hK K
          try simp only [Act.put, List.setIfInBounds_toArray, List.set_cons_zero, List.set_cons_succ]
          refine wpS_k rfl (by rfl) (fun K hK => ?_)
          go_simp
          have hck := pcheck_in (lf B) k n _ S (sd L) V3 (HSS.out.below HW.out.1 (Nat.le_refl _)) hkn (by omega)
          rw [HPB.out] at hck
          refine hck.mono ?_
          rintro e V4 ⟨rfl, hb⟩
          clear hck
          replace HW := Lib.hid (And.intro (HW.out.1.trans (hb.mono HW.out.1.size)) (And.intro (HW.out.2.1.below hb) (And.intro (bytes_below HW.out.2.2.1 hb (Nat.le_refl _)) (And.intro (bytes_below HW.out.2.2.2.1 hb (Nat.le_refl _)) HW.out.2.2.2.2))))
          clear hb
          refine hK _ _ ⟨by exact HSC.out _ HW.out.1, ?_⟩; clear hK K
          try simp only [Act.put, List.setIfInBounds_toArray, List.set_cons_zero, List.set_cons_succ]
          iterate 1
            refine wpS_t rfl (v := ?_) (by rfl) (fun W => ?_) ?_
            rotate_left
            · go_simp
              try rfl
            try simp only [Act.put, List.setIfInBounds_toArray, List.set_cons_zero, List.set_cons_succ]
          refine wpS_done ?_
          go_wp2_with fail
          refine wp_region_sched (fun V => V.cell? ⟨z, 0, none⟩ = some (.slice (some ⟨bl, ol, none⟩) n cL) ∧ V.cell? ⟨z, 2, none⟩ = some (.int .i64 (k : Int)) ∧ V.cell? ⟨z, 3, none⟩ = some (.slice aB nb cB) ∧ V.cell? ⟨z, 4, none⟩ = some (.slice aS ns cS) ∧ V.cell? ⟨bl, ol + k, none⟩ = some u ∧ Below W.heap.size W V) [.e 0 true, .t 1, .t 2, .t 3, .t 4, .t 5, .t 7, .t 9, .s 6, .s 8, .e 10 true, .t 11, .e 12 true, .e 13 true, .t 14, .t 15, .t 16, .t 17, .t 18, .t 19, .t 20, .t 21, .e 22 true, .e 23 true, .t 24, .t 25, .t 26] (by kernel_rfl) (by kernel_rfl) (by intro c a d v w h; cases d <;> exact h) ?_
          have hb := (Below.refl V4.heap.size V4).drew
          replace HW := Lib.hid (And.intro (HW.out.1.trans (hb.mono HW.out.1.size)) (And.intro (HW.out.2.1.below hb) (And.intro (bytes_below HW.out.2.2.1 hb (Nat.le_refl _)) (And.intro (bytes_below HW.out.2.2.2.1 hb (Nat.le_refl _)) HW.out.2.2.2.2))))
          clear hb
          generalize V4.drew = V5 at *
          refine wpS_k rfl (by rfl) (fun K hK => ?_)
          go_simp
          refine (alive_clashes V5).mono ?_
          rintro e V6 ⟨rfl, hb⟩
          replace HW := Lib.hid (And.intro (HW.out.1.trans (hb.mono HW.out.1.size)) (And.intro (HW.out.2.1.below hb) (And.intro (bytes_below HW.out.2.2.1 hb (Nat.le_refl _)) (And.intro (bytes_below HW.out.2.2.2.1 hb (Nat.le_refl _)) HW.out.2.2.2.2))))
          clear hb
          refine hK _ _ ⟨by exact HSC.out _ HW.out.1, ?_⟩; clear hK K
          try simp only [Act.put, List.setIfInBounds_toArray, List.set_cons_zero, List.set_cons_succ]
          iterate 4
            refine wpS_t rfl (v := ?_) (by rfl) (fun W => ?_) ?_
            rotate_left
            · go_simp
              try rfl
            try simp only [Act.put, List.setIfInBounds_toArray, List.set_cons_zero, List.set_cons_succ]
          iterate 3
            refine wpS_t rfl (v := ?_) (by rfl) (fun W => ?_) ?_
            rotate_left
            · go_simp
              try rfl
            try simp only [Act.put, List.setIfInBounds_toArray, List.set_cons_zero, List.set_cons_succ]
          refine wpS_s (by exact HSC.out _ HW.out.1) rfl (v := ?_) (by rfl) (fun W hSW => ?_) ?_
          rotate_left
          · go_simp
            try rfl
          try simp only [Act.put, List.setIfInBounds_toArray, List.set_cons_zero, List.set_cons_succ]
          refine wpS_s (by exact HSC.out _ HW.out.1) rfl (v := ?_) (by rfl) (fun W hSW => ?_) ?_
          rotate_left
          · go_simp
            try rfl
          try simp only [Act.put, List.setIfInBounds_toArray, List.set_cons_zero, List.set_cons_succ]
          have g := (HSC.out _ HW.out.1).2.1
          refine wpS_k rfl (by rfl) (fun K hK => ?_)
          go_simp
          refine hK _ _ ⟨by exact HSC.out _ HW.out.1, ?_⟩; clear hK K
          try simp only [Act.put, List.setIfInBounds_toArray, List.set_cons_zero, List.set_cons_succ]
          clear g
          iterate 1
            refine wpS_t rfl (v := ?_) (by rfl) (fun W => ?_) ?_
            rotate_left
            · go_simp
              try rfl
            try simp only [Act.put, List.setIfInBounds_toArray, List.set_cons_zero, List.set_cons_succ]
          have g := (HSC.out _ HW.out.1).2.2.2.2.1
          refine wpS_k rfl (by rfl) (fun K hK => ?_)
          go_simp
          refine hK _ _ ⟨by exact HSC.out _ HW.out.1, ?_⟩; clear hK K
          try simp only [Act.put, List.setIfInBounds_toArray, List.set_cons_zero, List.set_cons_succ]
          clear g
          refine wpS_k rfl (by rfl) (fun K hK => ?_)
          go_simp
          refine (same_bytes B x _ u V6 (bytes_below HBB.out HW.out.1 (Nat.le_refl _)) (bytes_below HU.out.2 HW.out.1 (Nat.le_refl _))).mono ?_
          rw [HD.out]
          rintro e V7 ⟨rfl, hb⟩
          replace HW := Lib.hid (And.intro (HW.out.1.trans (hb.mono HW.out.1.size)) (And.intro (HW.out.2.1.below hb) (And.intro (bytes_below HW.out.2.2.1 hb (Nat.le_refl _)) (And.intro (bytes_below HW.out.2.2.2.1 hb (Nat.le_refl _)) HW.out.2.2.2.2))))
          clear hb
          refine hK _ _ ⟨by exact HSC.out _ HW.out.1, ?_⟩; clear hK K
          try simp only [Act.put, List.setIfInBounds_toArray, List.set_cons_zero, List.set_cons_succ]
          iterate 8
            refine wpS_t rfl (v := ?_) (by rfl) (fun W => ?_) ?_
            rotate_left
            · go_simp
              try rfl
            try simp only [Act.put, List.setIfInBounds_toArray, List.set_cons_zero, List.set_cons_succ]
          refine wpS_k rfl (by rfl) (fun K hK => ?_)
          refine wp_load_cv _ (by rfl) z3 (by rfl) _ _ HW.out.2.1 ?_
          refine hK _ _ ⟨by exact HSC.out _ HW.out.1, ?_⟩; clear hK K
          try simp only [Act.put, List.setIfInBounds_toArray, List.set_cons_zero, List.set_cons_succ]
          refine wpS_k rfl (by rfl) (fun K hK => ?_)
          go_simp
          refine (is_any A C _ _ V7 HW.out.2.2.1 HW.out.2.2.2.1 HLX.out.1 HLX.out.2).mono ?_
          rw [HW.out.2.2.2.2 (by trivial)]
          rintro e V8 ⟨rfl, hb⟩
          replace HW := Lib.hid (And.intro (HW.out.1.trans (hb.mono HW.out.1.size)) (And.intro (HW.out.2.1.below hb) (And.intro (bytes_below HW.out.2.2.1 hb (Nat.le_refl _)) (And.intro (bytes_below HW.out.2.2.2.1 hb (Nat.le_refl _)) HW.out.2.2.2.2))))
          clear hb
          refine hK _ _ ⟨by exact HSC.out _ HW.out.1, ?_⟩; clear hK K
          try simp only [Act.put, List.setIfInBounds_toArray, List.set_cons_zero, List.set_cons_succ]
          iterate 3
            refine wpS_t rfl (v := ?_) (by rfl) (fun W => ?_) ?_
            rotate_left
            · go_simp
              try rfl
            try simp only [Act.put, List.setIfInBounds_toArray, List.set_cons_zero, List.set_cons_succ]
          refine wpS_done ?_
          go_wp2_with fail
          exact bodyPost_ret (results_tmp rfl _ _ _) rfl ⟨rfl, HB0.out.trans (HW.out.1.mono HB0.out.size)⟩
    · rw [decide_eq_false hr, Bool.false_and, Bool.false_and] at HL
      by_cases h0' : at_ < 0
      · clear hr
        go_enter Try.func19, Try.ntmps19
        go_wp2_with (refine wpList_load_said13 rfl _ rfl w.heap.size rfl _ _ _ _ _ HSD.out.range ?_)
        obtain ⟨z, hz⟩ : ∃ z, z = w.heap.size := ⟨_, rfl⟩
        rw [← hz] at HSD h0 h2 h3 h4 ⊢
        clear hz
        generalize w.alloc (.cells #[.slice aL n cL, .slice aM m cM, .int .i64 at_, .slice aB nb cB, .slice aS ns cS] 80) = W at *
        refine HG.out.mono ?_
        rintro e w1 ⟨rfl, hb⟩
        have HB1 := Lib.hid hb; clear hb h0 h2 h3 h4
        have h1 := HSD.out.below HB1.out
        have h10 := h1.1
        have h12 := h1.2.2.1
        have h13 := h1.2.2.2.1
        have h14 := h1.2.2.2.2
        clear h1
        go_wp2_with fail
        refine (HL.out w1 HB1.out).mono ?_
        rintro e w2 ⟨v1, v2, A, C, rfl, hA, hC, hI, hlA, hlB, hb⟩
        obtain ⟨x1, k1, rfl, _, _, g1⟩ := id hA
        obtain ⟨x2, k2, rfl, _, _, g2⟩ := id hC
        have HLX : Hid (LenOK A ∧ LenOK C) := Lib.hid (And.intro hlA hlB)
        have HP := Lib.hid (And.intro hA (And.intro hC (And.intro hI (HB1.out.trans (hb.mono HB1.out.size)))))
        clear hA hC hI hlA hlB g1 g2 hb HB1 HL HG h10 h12 h13 h14
        generalize A.length = na at *
        generalize C.length = nc at *
        have HGG := Lib.hid trivial
        go_wp2_with (have _ := HGG; refine wpList_var_cv rfl _ _ rfl _ _ _ _ _ _ rfl rfl ?_; intro W1 z3 hz hb1 ht; have HW := Lib.hid (And.intro (HP.out.2.2.2.trans (hb1.mono HP.out.2.2.2.size)) (And.intro ht (And.intro (bytes_below HP.out.1 hb1 (Nat.le_refl _)) (And.intro (bytes_below HP.out.2.1 hb1 (Nat.le_refl _)) HP.out.2.2.1)))); have h1 := HSD.out.below HW.out.1; have h10 := h1.1; have h12 := h1.2.2.1; rw [← hz]; clear HGG hb1 ht hz h1)
        clear h10 h12 HP
        refine (alive_clashes W1).mono ?_
        rintro e w8 ⟨rfl, hb⟩
        replace HW := Lib.hid (And.intro (HW.out.1.trans (hb.mono HW.out.1.size)) (And.intro (HW.out.2.1.below hb) (And.intro (bytes_below HW.out.2.2.1 hb (Nat.le_refl _)) (And.intro (bytes_below HW.out.2.2.2.1 hb (Nat.le_refl _)) HW.out.2.2.2.2))))
        clear hb
        go_wp2_with fail
        exact bodyPost_ret (results_tmp rfl _ _ _) rfl ⟨rfl, HB0.out.trans (HW.out.1.mono HB0.out.size)⟩
      · obtain ⟨k, rfl⟩ : ∃ k : Nat, at_ = (k : Int) := ⟨at_.toNat, by omega⟩
        have k0 : (0 : Int) ≤ (k : Int) := by omega
        have k1 : (n : Int) ≤ (k : Int) := by omega
        have k2 : decide (n ≤ k) = true := decide_eq_true (by omega)
        have k3 : n ≤ k := by omega
        clear hr h0'
        go_enter Try.func19, Try.ntmps19
        go_wp2_with (refine wpList_load_said13 rfl _ rfl w.heap.size rfl _ _ _ _ _ HSD.out.range ?_)
        obtain ⟨z, hz⟩ : ∃ z, z = w.heap.size := ⟨_, rfl⟩
        rw [← hz] at HSD h0 h2 h3 h4 ⊢
        clear hz
        generalize w.alloc (.cells #[.slice aL n cL, .slice aM m cM, .int .i64 (k : Int), .slice aB nb cB, .slice aS ns cS] 80) = W at *
        refine HG.out.mono ?_
        rintro e w1 ⟨rfl, hb⟩
        have HB1 := Lib.hid hb; clear hb h0 h2 h3 h4
        have h1 := HSD.out.below HB1.out
        have h10 := h1.1
        have h12 := h1.2.2.1
        have h13 := h1.2.2.2.1
        have h14 := h1.2.2.2.2
        clear h1
        go_wp2_with fail
        refine (HL.out w1 HB1.out).mono ?_
        rintro e w2 ⟨v1, v2, A, C, rfl, hA, hC, hI, hlA, hlB, hb⟩
        obtain ⟨x1, k1, rfl, _, _, g1⟩ := id hA
        obtain ⟨x2, k2, rfl, _, _, g2⟩ := id hC
        have HLX : Hid (LenOK A ∧ LenOK C) := Lib.hid (And.intro hlA hlB)
        have HP := Lib.hid (And.intro hA (And.intro hC (And.intro hI (HB1.out.trans (hb.mono HB1.out.size)))))
        clear hA hC hI hlA hlB g1 g2 hb HB1 HL HG h10 h12 h13 h14
        generalize A.length = na at *
        generalize C.length = nc at *
        have HGG := Lib.hid trivial
        go_wp2_with (have _ := HGG; refine wpList_var_cv rfl _ _ rfl _ _ _ _ _ _ rfl rfl ?_; intro W1 z3 hz hb1 ht; have HW := Lib.hid (And.intro (HP.out.2.2.2.trans (hb1.mono HP.out.2.2.2.size)) (And.intro ht (And.intro (bytes_below HP.out.1 hb1 (Nat.le_refl _)) (And.intro (bytes_below HP.out.2.1 hb1 (Nat.le_refl _)) HP.out.2.2.1)))); have h1 := HSD.out.below HW.out.1; have h10 := h1.1; have h12 := h1.2.2.1; rw [← hz]; clear HGG hb1 ht hz h1)
        clear h10 h12 HP
        refine (alive_clashes W1).mono ?_
        rintro e w8 ⟨rfl, hb⟩
        replace HW := Lib.hid (And.intro (HW.out.1.trans (hb.mono HW.out.1.size)) (And.intro (HW.out.2.1.below hb) (And.intro (bytes_below HW.out.2.2.1 hb (Nat.le_refl _)) (And.intro (bytes_below HW.out.2.2.2.1 hb (Nat.le_refl _)) HW.out.2.2.2.2))))
        clear hb
        go_wp2_with fail
        exact bodyPost_ret (results_tmp rfl _ _ _) rfl ⟨rfl, HB0.out.trans (HW.out.1.mono HB0.out.size)⟩
end Go.Proofs.Ytdkcndgehgmadaa
