/-
  Walk: shows.Of.
-/
import Derived.Test.YtfmgoehnbaiamaaGreatDoorS6
open Go Go.RowKit Alm
namespace Go.Proofs.YtfmgoehnbaiamaaGreatDoor
theorem infoShow : (Tryz.prog.info? 63).map (·.size) = some 33 := by kernel_rfl
/-- What stands for a show. -/
def cellsShow (which : Sum) (v : Value) : List Value := cellsOf which ++ [v]
theorem length_cellsShow (which : Sum) (v : Value) : (cellsShow which v).length = 33 := by simp [cellsShow, length_cellsOf]
def shV (which : Sum) (v : Value) : Value := .agg (cellsShow which v).toArray
theorem one_cellsShow (which : Sum) {v : Value} (h : v.oneCell' = true) : (cellsShow which v).toArray.all (·.oneCell') = true := by
  rw [List.all_toArray, List.all_eq_true]
  intro x hx
  rcases List.mem_append.1 hx with hx | hx
  · exact oneCell_cellsOf which x hx
  · rw [List.mem_singleton.1 hx]; exact h
theorem results_cell_tmp {P : Program} {fn : Func} {p q : Tmp} {ty : TypeId} (h : fn.results = #[.cell p ty, .tmp q]) (tmps : Array Value) (w : World) (b o : Nat) (cs : List Value) (d : TypeDesc)
    (hp : tmps.getD p undef = .pointer (some ⟨b, o, none⟩)) (hc : w.rangeAt b o cs) (hu : P.underlying ty = some d) (hd : d.isRow = true) (hi : (P.info? ty).map (·.size) = some cs.length) : (results fn tmps).run P w = .ok (.tuple #[.agg cs.toArray, tmps.getD q undef]) w := by
  have hp' : tmps[p]?.getD undef = .pointer (some ⟨b, o, none⟩) := by simpa using hp
  simp [results, h, hp', asAddr, run_loadVar_mid w b o ty cs d hc hu hd hi]
theorem build_told (w : World) : (Instr.build 111 #[]).run Tryz.prog w = .ok (.agg (cellsShow zeroSum (.slice none 0 0)).toArray) w := by kernel_rfl
theorem enters_tell : ∀ args w, (callFunc 96 args).run Tryz.prog w = .ok (.enter 96 args) w := enters_of Tryz.func96 (by kernel_rfl) rfl
theorem ents_full {W : World} {p b n : Nat} {l : List Ent} (h : MapIn W p b n l) : Full (prs l) := fun q hq => by
  obtain ⟨e, he, rfl⟩ := List.mem_map.1 hq
  exact ⟨(h.vals e he).2.1, (h.vals e he).2.2⟩
theorem range_lay {W : World} {t : Nat} {which : Sum} {v : Value} (v' : Value) (h : W.rangeAt t 0 (cellsShow which v)) : (W.setCell ⟨t, 32, none⟩ v').rangeAt t 0 (cellsShow which v') := fun j u hj => by
  unfold cellsShow at h hj
  have hl : (cellsOf which).length = 32 := length_cellsOf _
  by_cases hj32 : j = 32
  · subst hj32
    rw [List.getElem?_append_right (by rw [hl]; omega), hl] at hj
    simp only [Nat.sub_self, List.getElem?_cons_zero, Option.some.injEq] at hj
    have h0 := h 32 v (by rw [List.getElem?_append_right (by rw [hl]; omega), hl]; rfl)
    rw [Nat.zero_add] at h0 ⊢
    rw [World.cell?_setCell_same _ _ _ h0, hj]
  · have hne2 : (⟨t, 32, none⟩ : Addr) ≠ ⟨t, 0 + j, none⟩ := fun e => hj32 (by have := congrArg Addr.off e; simp at this; exact this.symm)
    rw [World.cell?_setCell_other _ _ _ _ hne2]
    refine h j u ?_
    have hjl : j < 32 := by
      have := (List.getElem?_eq_some_iff.1 hj).1
      rw [List.length_append, hl] at this
      simp at this
      omega
    rw [List.getElem?_append_left (by rw [hl]; exact hjl)] at hj ⊢
    exact hj
theorem ToldAt.new {W : World} {t : Nat} {which : Sum} {v : Value} {S : List Sum} (h : ToldAt W t which v S t) (hn : S = [] → v = .slice none 0 0) : SumsNew W (t + 1) v S := by
  rcases own_new' h.own hn with h1 | ⟨g, cap, rfl, h0, h1, h2, h3, h4, h5⟩
  · exact .inl h1
  · exact .inr ⟨g, cap, rfl, h0, h1, h2, by have := h.ne g rfl; omega, h4, h5⟩
/-- What the loop of Of has in hand. -/
structure OS (W0 W : World) (t : Nat) (k : Sum) (L0 : List Keys.Pr) (D : Nat) (v : Value) (Ld : List Keys.Pr) (which : Sum) (S : List Sum) (vS : Value) : Prop where
  bw : Below W0.heap.size W0 W
  prs : PairsAt W0 v Ld
  rise : Keys.Rise Ld
  near : Near k (256 - D) Ld
  full : Full Ld
  len : Ld.length < 100000
  told : ToldAt W t which vS S t
  nil : S = [] → vS = .slice none 0 0
  sides : sidesOf (tells k 256 L0) = S ++ sidesOf (tells k (256 - D) Ld)
  tl : (tells k 256 L0).drop D = tells k (256 - D) Ld
  bits : ∀ j, j < 256 → (Keys.kn which).testBit (255 - j) = (decide (j < D) && ((tells k 256 L0).getD j none).isSome)
theorem tells_succ (k : Sum) (n : Nat) (l : List Keys.Pr) : tells k (n + 1) l = (if atH n (oth k n l) = em n then none else some (atH n (oth k n l))) :: tells k n (mine k n l) := rfl
theorem OS.pos {W0 W : World} {t : Nat} {k : Sum} {L0 : List Keys.Pr} {D : Nat} {v : Value} {Ld : List Keys.Pr} {which : Sum} {S : List Sum} {vS : Value} (h : OS W0 W t k L0 D v Ld which S vS) {n : Nat} (hn : n = 255 - D) (hD : D < 256) :
    (tells k 256 L0).drop (D + 1) = tells k n (mine k n Ld) ∧ (tells k 256 L0).getD D none = (if atH n (oth k n Ld) = em n then none else some (atH n (oth k n Ld))) ∧
      sidesOf (tells k 256 L0) = S ++ ((if atH n (oth k n Ld) = em n then none else some (atH n (oth k n Ld))).toList ++ sidesOf (tells k n (mine k n Ld))) := by
  have e : 256 - D = n + 1 := by omega
  have ht := h.tl
  have hs := h.sides
  rw [e, tells_succ k n Ld] at ht hs
  refine ⟨?_, ?_, ?_⟩
  · have : (tells k 256 L0).drop (D + 1) = ((tells k 256 L0).drop D).tail := by rw [List.tail_drop]
    rw [this, ht]; rfl
  · have h1 : ((tells k 256 L0).drop D)[0]? = (tells k 256 L0)[D]? := by rw [List.getElem?_drop, Nat.add_zero]
    rw [ht] at h1
    rw [List.getD_eq_getElem?_getD, ← h1]
    rfl
  · rw [hs, sidesOf_cons]
theorem OS.quiet {W0 W W' : World} {t : Nat} {k : Sum} {L0 : List Keys.Pr} {D : Nat} {v v' : Value} {Ld : List Keys.Pr} {which : Sum} {S : List Sum} {vS : Value} (h : OS W0 W t k L0 D v Ld which S vS) {n : Nat} (hn : n = 255 - D) (hD : D < 256)
    (he : atH n (oth k n Ld) = em n) (hb : Below W.heap.size W W') (hp : PairsAt W0 v' (mine k n Ld)) : OS W0 W' t k L0 (D + 1) v' (mine k n Ld) which S vS := by
  obtain ⟨g1, g2, g3⟩ := h.pos hn hD
  have e : 256 - (D + 1) = n := by omega
  rw [if_pos he] at g2 g3
  refine ⟨h.bw.trans (hb.mono h.bw.size), hp, rise_mine h.rise, ?_, fun p hp => h.full p (mem_mine.1 hp).1, ?_, h.told.below hb, h.nil, ?_, ?_, fun j hj => ?_⟩
  · rw [e]; have := h.near; rw [show 256 - D = n + 1 by omega] at this; exact this.mine
  · have := length_mine k n Ld; have := h.len; omega
  · rw [e, g3]; rfl
  · rw [e]; exact g1
  · rw [h.bits j hj]
    by_cases hjd : j = D
    · subst hjd
      rw [g2]; simp
    · have : decide (j < D + 1) = decide (j < D) := by rw [decide_eq_decide]; omega
      rw [this]
theorem OS.loud {W0 W W' : World} {t : Nat} {k : Sum} {L0 : List Keys.Pr} {D : Nat} {v v' : Value} {Ld : List Keys.Pr} {which : Sum} {S : List Sum} {vS vS' : Value} (h : OS W0 W t k L0 D v Ld which S vS) {n : Nat} (hn : n = 255 - D) (hD : D < 256)
    (he : atH n (oth k n Ld) ≠ em n) (hb : Below W0.heap.size W W') (ht : ToldAt W' t (setBit which D) vS' (S ++ [atH n (oth k n Ld)]) t) (hp : PairsAt W0 v' (mine k n Ld)) :
    OS W0 W' t k L0 (D + 1) v' (mine k n Ld) (setBit which D) (S ++ [atH n (oth k n Ld)]) vS' := by
  obtain ⟨g1, g2, g3⟩ := h.pos hn hD
  have e : 256 - (D + 1) = n := by omega
  rw [if_neg he] at g2 g3
  refine ⟨h.bw.trans hb, hp, rise_mine h.rise, ?_, fun p hp => h.full p (mem_mine.1 hp).1, ?_, ht, fun h0 => ?_, ?_, ?_, fun j hj => ?_⟩
  · rw [e]; have := h.near; rw [show 256 - D = n + 1 by omega] at this; exact this.mine
  · have := length_mine k n Ld; have := h.len; omega
  · simp at h0
  · rw [e, g3, List.append_assoc]; rfl
  · rw [e]; exact g1
  · rw [bit_set which D j hD hj]
    by_cases hjd : j = D
    · subst hjd
      rw [if_pos rfl, g2]; simp
    · have : decide (j < D + 1) = decide (j < D) := by rw [decide_eq_decide]; omega
      rw [if_neg hjd, h.bits j hj, this]
theorem OS.short {W0 W : World} {t : Nat} {k : Sum} {L0 : List Keys.Pr} {D : Nat} {v : Value} {Ld : List Keys.Pr} {which : Sum} {S : List Sum} {vS : Value} (h : OS W0 W t k L0 D v Ld which S vS) : S.length ≤ 256 := by
  have h1 := congrArg List.length h.sides
  rw [List.length_append] at h1
  have h2 : (sidesOf (tells k 256 L0)).length ≤ (tells k 256 L0).length := List.length_filterMap_le _ _
  rw [length_tells] at h2
  omega
theorem OS.below {W0 W W' : World} {t : Nat} {k : Sum} {L0 : List Keys.Pr} {D : Nat} {v : Value} {Ld : List Keys.Pr} {which : Sum} {S : List Sum} {vS : Value} (h : OS W0 W t k L0 D v Ld which S vS) (hb : Below W.heap.size W W') : OS W0 W' t k L0 D v Ld which S vS :=
  ⟨h.bw.trans (hb.mono h.bw.size), h.prs, h.rise, h.near, h.full, h.len, h.told.below hb, h.nil, h.sides, h.tl, h.bits⟩
/-- Pairs cut in two, where the bit changes: one's own, the other ones. -/
theorem cut_mine {k : Sum} {n : Nat} {L : List Keys.Pr} (hr : Keys.Rise L) (hs : Keys.Same (n + 1) L) : ((Keys.kn k).testBit n = false → mine k n L = L.take (cutH n L) ∧ oth k n L = L.drop (cutH n L)) ∧ ((Keys.kn k).testBit n = true → mine k n L = L.drop (cutH n L) ∧ oth k n L = L.take (cutH n L)) := by
  obtain ⟨s1, s2⟩ := cut_split hr hs
  constructor
  · intro hb
    rw [s1, s2]
    unfold mine oth
    constructor
    · congr 1; funext p; rw [hb]; cases (Keys.kn p.1).testBit n <;> rfl
    · congr 1; funext p; rw [hb]; cases (Keys.kn p.1).testBit n <;> rfl
  · intro hb
    rw [s1, s2]
    unfold mine oth
    constructor
    · congr 1; funext p; rw [hb]; cases (Keys.kn p.1).testBit n <;> rfl
    · congr 1; funext p; rw [hb]; cases (Keys.kn p.1).testBit n <;> rfl
theorem same_oth {k : Sum} {n : Nat} {L : List Keys.Pr} (h : Near k (n + 1) L) : Keys.Same n (oth k n L) := fun p hp q hq => by
  obtain ⟨h1, h2⟩ := mem_oth.1 hp
  obtain ⟨h3, h4⟩ := mem_oth.1 hq
  rw [Keys.shr_succ (Keys.kn p.1), Keys.shr_succ (Keys.kn q.1), h p h1, h q h3]
  have e : (Keys.kn p.1).testBit n = (Keys.kn q.1).testBit n := by
    revert h2 h4
    cases (Keys.kn p.1).testBit n <;> cases (Keys.kn q.1).testBit n <;> cases (Keys.kn k).testBit n <;> simp
  rw [e]
theorem near_same {k : Sum} {n : Nat} {L : List Keys.Pr} (h : Near k n L) : Keys.Same n L := fun p hp q hq => (h p hp).trans (h q hq).symm
theorem kn_zero : Keys.kn zeroSum = 0 := by
  show Fast.bnum zeroSum.toList = 0
  decide +kernel
set_option maxRecDepth 100000 in
set_option maxHeartbeats 4000000 in
theorem sof_any (k : Sum) (w : World) (p b n : Nat) (l : List Ent) (h : MapIn w p b n l) (hn : l.length < 100000) :
    Calls Tryz.prog 27 #[.pointer (some ⟨p, 0, none⟩), sv k] w fun e w' => ∃ which v, e = .returned (.tuple #[shV which v, .int .i64 0]) ∧ SumsNew w' w.heap.size v (sidesOf (tells k 256 (prs l))) ∧ Bits which 256 (tells k 256 (prs l)) ∧ Below w.heap.size w w' := by
  have hmf : ∀ (fn : Fn) (first cap : Array Value) (w : World), (Instr.makeFunc fn first cap).run Tryz.prog w = .ok (.func fn first cap) w := fun _ _ _ _ => rfl
  have hbt := build_told
  have hb0 := al (al (Below.refl _ w) (.cells (cellsOf k).toArray 24)) (.cells (cellsShow zeroSum (.slice none 0 0)).toArray 63)
  have hr0 := World.rangeAt_alloc (range_new w (cellsOf k).toArray 24 _ rfl) (.cells (cellsShow zeroSum (.slice none 0 0)).toArray 63)
  have hs1 : (w.alloc (.cells (cellsOf k).toArray 24)).heap.size = w.heap.size + 1 := Array.size_push _
  have ht0 := there_new (w.alloc (.cells (cellsOf k).toArray 24)) (cellsShow zeroSum (.slice none 0 0)).toArray 63
  have hsz : (cellsShow zeroSum (.slice none 0 0)).toArray.size = 33 := by rw [List.size_toArray, length_cellsShow]
  rw [hs1, hsz] at ht0
  have H0 := Lib.hid (And.intro hb0 (And.intro hr0 (And.intro ht0 (h.below hb0))))
  have HN := Lib.hid hn
  clear hb0 hr0 hs1 ht0 h hn hsz
  go_enter Tryz.func27, Tryz.ntmps27
  go_wp2_with (refine wpList_load_sum rfl _ rfl w.heap.size 0 rfl k H0.out.2.1 ?_)
  refine (mget_any k _ p b n l H0.out.2.2.2).mono ?_
  rintro e w1 ⟨v1, rfl, hN1, hb⟩
  obtain ⟨a1, c1, rfl, _, _, _⟩ := id hN1.1
  obtain ⟨z3, hz3⟩ : ∃ z, z = w.heap.size := ⟨_, rfl⟩
  obtain ⟨z4, hz4⟩ : ∃ z, z = w.heap.size + 1 := ⟨_, rfl⟩
  have kk := Keeps.of_below (X := fun _ => False) hb
  have HBW := Lib.hid (H0.out.1.trans (hb.mono H0.out.1.size))
  have H1 := Lib.hid (show w1.rangeAt z3 0 (cellsOf k) ∧ w1.there z4 0 33 ∧ MapIn w1 p b n l from ⟨by rw [hz3]; exact kk.range H0.out.2.1 (fun h => h), by rw [hz4]; exact kk.there H0.out.2.2.1 (by decide) (fun h => h), H0.out.2.2.2.below hb⟩)
  have HZ := Lib.hid (And.intro hz3 hz4)
  rw [← HZ.out.2, ← HZ.out.1]
  clear hb kk hN1 H0 hz3 hz4
  generalize (Keys.get (prs l) k).length = m1 at *
  go_wp2_with fail
  refine (mpairs_at w1 p b n l H1.out.2.2 HN.out).mono ?_
  rintro e w2 ⟨ba, ca, rfl, hP, hb⟩
  have kk := Keeps.of_below (X := fun _ => False) hb
  have HB2 := Lib.hid (HBW.out.trans (hb.mono HBW.out.size))
  have H2 := Lib.hid (And.intro (kk.range H1.out.1 (fun h => h)) (And.intro (kk.there H1.out.2.1 (by decide) (fun h => h)) (And.intro hP H1.out.2.2.rise)))
  have HF := Lib.hid (ents_full H1.out.2.2)
  clear hb kk hP HBW H1
  obtain ⟨L0, hL0⟩ : ∃ x, x = prs l := ⟨_, rfl⟩
  have hlen : L0.length < 100000 := by rw [hL0]; have := HN.out; simpa [prs] using this
  have hrise : Keys.Rise L0 := by rw [hL0]; exact prs_rise H2.out.2.2.2
  rw [← hL0] at H2 HF ⊢
  have HL := Lib.hid (And.intro hL0 (And.intro hlen hrise))
  clear hL0 hlen hrise
  obtain ⟨N0, hN0⟩ : ∃ x, x = L0.length := ⟨_, rfl⟩
  rw [← hN0] at H2 ⊢
  have HN0 := Lib.hid hN0
  clear hN0
  go_wp2_with fail
  refine (sempty_any w2).mono ?_
  rintro e w3 ⟨vn, rfl, hvn, _, hb⟩
  obtain ⟨bn, on, cn, rfl, hcn, hnr⟩ := nones_at hvn
  have HNR := Lib.hid (And.intro hcn hnr)
  clear hcn hnr
  have kk := Keeps.of_below (X := fun _ => False) hb
  have HB3 := Lib.hid (HB2.out.trans (hb.mono HB2.out.size))
  have H3 := Lib.hid (And.intro (kk.range H2.out.1 (fun h => h)) (And.intro (kk.there H2.out.2.1 (by decide) (fun h => h)) (And.intro (H2.out.2.2.1.below hb) hvn)))
  clear hb kk hvn HB2 H2
  go_wp2_with fail
  change Code.wp _ _ _ _ (w3.alloc (.cells (cellsShow zeroSum (.slice none 0 0)).toArray 111))
  have hb4 := al (Below.refl w3.heap.size w3) (.cells (cellsShow zeroSum (.slice none 0 0)).toArray 111)
  have ht4 := there_new w3 (cellsShow zeroSum (.slice none 0 0)).toArray 111
  have hsz : (cellsShow zeroSum (.slice none 0 0)).toArray.size = 33 := by rw [List.size_toArray, length_cellsShow]
  rw [hsz] at ht4
  have hst : OS w3 (w3.alloc (.cells (cellsShow zeroSum (.slice none 0 0)).toArray 111)) w3.heap.size k L0 0 (.slice (some ⟨ba, 0, none⟩) N0 ca) L0 zeroSum [] (.slice none 0 0) := by
    refine ⟨hb4, H3.out.2.2.1, HL.out.2.2, near_top k L0, HF.out, HL.out.2.1, ⟨range_new w3 (cellsShow zeroSum (.slice none 0 0)).toArray 111 _ rfl, ht4, World.ownsRow_nil _ _ _ _, fun g hg => by cases hg⟩, fun _ => rfl, rfl, rfl, fun j hj => ?_⟩
    rw [kn_zero, Nat.zero_testBit]; simp
  have H4 := Lib.hid hst
  obtain ⟨t, ht⟩ : ∃ x, x = w3.heap.size := ⟨_, rfl⟩
  rw [← ht] at H4 ⊢
  have HT := Lib.hid ht
  clear ht hst hb4 ht4 hsz hbt
  generalize w3.alloc (.cells (cellsShow zeroSum (.slice none 0 0)).toArray 111) = W4 at *
  have eg := enters_tell
  go_loopw [8, 12, 13, 14, 15, 16, 34] (fun v _ _ _ _ _ iv W => ∃ (D : Nat) (Ld : List Keys.Pr) (which : Sum) (S : List Sum) (vS : Value) (oL cL : Nat), D ≤ 256 ∧ iv = .int .i64 (D : Int) ∧ v = .slice (some ⟨ba, oL, none⟩) Ld.length cL ∧ OS w3 W t k L0 D v Ld which S vS) (fun _ _ _ _ _ _ iv _ => 256 - (intOf iv).toNat)
  case atStart => exact ⟨0, L0, zeroSum, [], _, 0, ca, by omega, rfl, by rw [← HN0.out], H4.out⟩
  case round =>
    clear H4
    obtain ⟨D, Ld, which, S, vS, oL, cL, hD, rfl, rfl, hO⟩ := hrel
    have HO := Lib.hid hO
    clear hO
    by_cases hlt : D < 256
    · have c1 : decide (D < 256) = true := by simpa using hlt
      have c1' : decide ((D : Int) < 256) = true := by simp; omega
      obtain ⟨n, hn⟩ : ∃ n, n = 255 - D := ⟨_, rfl⟩
      have hnear := HO.out.near
      rw [show 256 - D = n + 1 by omega] at hnear
      have hsame := near_same hnear
      have hcut := cut_any Ld (.slice (some ⟨ba, oL, none⟩) Ld.length cL) D wr (HO.out.prs.below HO.out.bw) hlt HO.out.len HO.out.rise (by rw [← hn]; exact hsame)
      rw [← hn] at hcut
      have hmi := cut_mine (k := k) HO.out.rise hsame
      have hcl : cutH n Ld ≤ Ld.length := List.length_filter_le _ _
      obtain ⟨c, hc⟩ : ∃ c, c = cutH n Ld := ⟨_, rfl⟩
      rw [← hc] at hcut hmi hcl
      have HC := Lib.hid hcut
      have HM := Lib.hid hmi
      have HNN := Lib.hid (And.intro hn hlt)
      obtain ⟨N, hN⟩ : ∃ N, N = Ld.length := ⟨_, rfl⟩
      have hpd := (HO.out.prs).drop' (i := c) hcl
      have hpt := (HO.out.prs).take (i := c) hcl
      obtain ⟨_, _, he, hca, _⟩ := pairs_form HO.out.prs
      simp only [Value.slice.injEq] at he
      obtain ⟨-, -, rfl⟩ := he
      obtain ⟨o2, ho2⟩ : ∃ o2, (if cL = c then some (⟨ba, oL, none⟩ : Addr) else some ⟨ba, oL + c * 33, none⟩) = some ⟨ba, o2, none⟩ := by
        by_cases h : cL = c
        · exact ⟨oL, by rw [if_pos h]⟩
        · exact ⟨_, by rw [if_neg h]⟩
      rw [ho2] at hpd
      rw [← hN] at HC hcl hca hpd HO ⊢
      have HP := Lib.hid (And.intro hpt (And.intro hpd hN))
      have HO2 := Lib.hid ho2
      have q1 : (0 : Int) ≤ (c : Int) := by omega
      have q2 : (c : Int) ≤ (N : Int) := by omega
      have q3 : (N : Int) ≤ (cL : Int) := by omega
      have q4 : (c : Int) ≤ (cL : Int) := by omega
      clear hcut hmi hn hnear hsame hc hN hpd hpt hlt ho2
      go_wp2_with fail
      refine HC.out.mono ?_
      rintro e W5 ⟨rfl, hb⟩
      have H5 := Lib.hid (HO.out.below hb)
      clear hb HO HC
      go_wp2_with fail
      refine wp_region_sched (fun W => True) [.t 0, .t 1, .t 2, .t 3, .t 4, .t 5, .t 6, .t 7] (by kernel_rfl) (by kernel_rfl) (by intro c a d v w h; cases d <;> exact h) ?_
      have H6 := Lib.hid (H5.out.below (Below.refl _ _).drew)
      clear H5
      generalize W5.drew = V at *
      iterate 8
        refine wpS_t rfl (v := ?_) (by rfl) (fun W => ?_) ?_
        rotate_left
        · go_simp
          try rfl
        try simp only [Act.put, List.setIfInBounds_toArray, List.set_cons_zero, List.set_cons_succ]
      rw [HO2.out]
      refine wpS_done ?_
      obtain ⟨q, hq⟩ : ∃ q, q = (Keys.kn k >>> n) % 2 := ⟨_, rfl⟩
      have HQB := Lib.hid (bit_any k D V HNN.out.2)
      rw [← HNN.out.1, ← hq] at HQB
      have hk3 := (Keeps.of_below (X := fun _ => False) H6.out.bw).range H3.out.1 (fun h => h)
      have HK3 := Lib.hid hk3
      have hqb : (Keys.kn k).testBit n = decide (q = 1) := by rw [Keys.bit_odd, hq]
      have hq2 : q < 2 := by rw [hq]; exact Nat.mod_lt _ (by decide)
      have HQ := Lib.hid (And.intro hqb hq2)
      clear hq hqb hq2 hk3 HO2 q1 q2 q3 q4
      go_wp2_with (refine wpList_load_sum rfl _ rfl z3 0 rfl k HK3.out ?_)
      refine HQB.out.mono ?_
      rintro e V1 ⟨rfl, hb⟩
      have H7 := Lib.hid (H6.out.below hb)
      clear hb H6 HQB HK3
      by_cases hq1 : q = 1
      · subst hq1
        have hbt : (Keys.kn k).testBit n = true := HQ.out.1
        obtain ⟨m1', m2'⟩ := HM.out.2 hbt
        have HMO := Lib.hid (And.intro m1' m2')
        clear hbt m1' m2'
        have hA := sat_any n (oth k n Ld) (.slice (some ⟨ba, oL, none⟩) c cL) (.slice (some ⟨bn, on, none⟩) 257 cn) V1 (by have := HNN.out; omega) (by rw [HMO.out.2]; exact (HP.out.1).below H7.out.bw) (H3.out.2.2.2.below H7.out.bw (Nat.le_refl _)) (H7.out.rise.sublist List.filter_sublist) (same_oth (by have := H7.out.near; rw [show 256 - D = n + 1 by have := HNN.out; omega] at this; exact this)) (fun p hp => H7.out.full p (mem_oth.1 hp).1) (by have := length_mine k n Ld; have := H7.out.len; omega)
        rw [show ((256 - n : Nat) : Int) = (D : Int) + 1 by have := HNN.out; omega] at hA
        have HA := Lib.hid hA
        clear hA
        obtain ⟨s, hs⟩ : ∃ s, s = atH n (oth k n Ld) := ⟨_, rfl⟩
        rw [← hs] at HA
        have HS := Lib.hid hs
        clear hs
        go_wp2_with fail
        refine HA.out.mono ?_
        rintro e V2 ⟨rfl, hb⟩
        have H8 := Lib.hid (H7.out.below hb)
        clear hb H7 HA
        have HG := Lib.hid trivial
        go_wp2_with (have _ := HG; refine wpList_var_sum (by rfl) rfl _ _ rfl s rfl rfl ?_; intro V3 hb hr _; obtain ⟨z16, hz16⟩ : ∃ x, x = V2.heap.size := ⟨_, rfl⟩; rw [← hz16] at hr ⊢; have H9 := Lib.hid (And.intro (H8.out.below hb) hr); clear HG hb hr hz16 H8)
        obtain ⟨E, hE⟩ : ∃ E, E = D + 1 := ⟨_, rfl⟩
        have hw : IntKind.i64.wrap ((D : Int) + 1) = (E : Int) := by have := HNN.out; rw [IntKind.wrap_i64]; omega
        have hE0 : (0 : Int) ≤ (E : Int) := by omega
        have hE1 : (E : Int) < 257 := by have := HNN.out; omega
        have hE2 : E < 257 := by have := HNN.out; omega
        have hEn : 256 - n = E := by have := HNN.out; omega
        have hrn := HNR.out.2 V3.drew ((H9.out.1.bw).trans ((Below.refl _ _).drew)) n (by have := HNN.out; omega)
        rw [hEn] at hrn
        clear hE
        have HRN := Lib.hid (And.intro (show V3.drew.rangeAt z16 0 (cellsOf s) from H9.out.2) hrn)
        have heq := eq_sums s (em n)
        obtain ⟨eN, heN⟩ : ∃ y, y = em n := ⟨_, rfl⟩
        rw [← heN] at HRN heq
        have HEN := Lib.hid heN
        clear hrn hEn heN
        refine wp_region_sched (fun W => W.rangeAt z16 0 (cellsOf s)) [.t 1, .t 2, .t 3, .t 4, .s 0, .e 5 true, .t 6] (by kernel_rfl) (by kernel_rfl) (by intro c a d v w h; cases d <;> exact h) ?_
        have H10 := Lib.hid (H9.out.1.below (Below.refl _ _).drew)
        clear H9
        generalize V3.drew = V4 at *
        by_cases hes : s = eN
        · rw [decide_eq_true hes] at heq
          have HES := Lib.hid hes
          clear hes
          iterate 4
            refine wpS_t rfl (v := ?_) (by rfl) (fun W => ?_) ?_
            rotate_left
            · go_simp
              try rfl
            try simp only [Act.put, List.setIfInBounds_toArray, List.set_cons_zero, List.set_cons_succ]
          refine wpS_load_sum (by exact HRN.out.1) rfl (by rfl) _ (by rfl) z16 0 (by rfl) s (fun W hW => hW) ?_
          try simp only [Act.put, List.setIfInBounds_toArray, List.set_cons_zero, List.set_cons_succ]
          refine wpS_k rfl (by rfl) (fun K hK => ?_)
          refine wp_load_sum _ (by rfl) bn (on + E * 32) (by rfl) eN HRN.out.2 ?_
          refine hK _ _ ⟨by exact HRN.out.1, ?_⟩; clear hK K
          try simp only [Act.put, List.setIfInBounds_toArray, List.set_cons_zero, List.set_cons_succ]
          iterate 1
            refine wpS_t rfl (v := ?_) (by rfl) (fun W => ?_) ?_
            rotate_left
            · go_simp
              try rfl
            try simp only [Act.put, List.setIfInBounds_toArray, List.set_cons_zero, List.set_cons_succ]
          refine wpS_done ?_
          have hfin := H10.out.quiet (v' := .slice (some ⟨ba, o2, none⟩) (N - c) (cL - c)) HNN.out.1 HNN.out.2 (by rw [← HS.out, ← HEN.out]; exact HES.out) (Below.refl _ _) (by rw [HMO.out.1]; exact HP.out.2.1)
          have HFIN := Lib.hid hfin
          clear hfin
          have hwj : wrap64 ((D : Int) + 1) = ((D + 1 : Nat) : Int) := by have := HNN.out; unfold wrap64; omega
          clear hw
          go_wp2_with fail
          try rw [hwj]
          clear hwj
          exact ⟨⟨D + 1, mine k n Ld, which, S, vS, o2, cL - c, by have := HNN.out; omega, rfl, by rw [HMO.out.1, List.length_drop, ← HP.out.2.2], HFIN.out⟩, by simp only [intOf]; have := HNN.out; omega⟩
        · rw [decide_eq_false hes] at heq
          have HES := Lib.hid hes
          clear hes
          iterate 4
            refine wpS_t rfl (v := ?_) (by rfl) (fun W => ?_) ?_
            rotate_left
            · go_simp
              try rfl
            try simp only [Act.put, List.setIfInBounds_toArray, List.set_cons_zero, List.set_cons_succ]
          refine wpS_load_sum (by exact HRN.out.1) rfl (by rfl) _ (by rfl) z16 0 (by rfl) s (fun W hW => hW) ?_
          try simp only [Act.put, List.setIfInBounds_toArray, List.set_cons_zero, List.set_cons_succ]
          refine wpS_k rfl (by rfl) (fun K hK => ?_)
          refine wp_load_sum _ (by rfl) bn (on + E * 32) (by rfl) eN HRN.out.2 ?_
          refine hK _ _ ⟨by exact HRN.out.1, ?_⟩; clear hK K
          try simp only [Act.put, List.setIfInBounds_toArray, List.set_cons_zero, List.set_cons_succ]
          iterate 1
            refine wpS_t rfl (v := ?_) (by rfl) (fun W => ?_) ?_
            rotate_left
            · go_simp
              try rfl
            try simp only [Act.put, List.setIfInBounds_toArray, List.set_cons_zero, List.set_cons_succ]
          refine wpS_done ?_
          clear hw
          go_wp2_with (refine wpList_load_sum rfl _ rfl z16 0 rfl s HRN.out.1 ?_)
          refine (tell_any t D s which vS S t V4 HNN.out.2 H10.out.told (Nat.le_refl _) (by have := H10.out.short; omega)).mono ?_
          rintro e V5 ⟨rfl, ⟨vS', ht5⟩, hb5⟩
          have hfin := H10.out.loud (v' := .slice (some ⟨ba, o2, none⟩) (N - c) (cL - c)) HNN.out.1 HNN.out.2 (by rw [← HS.out, ← HEN.out]; exact HES.out) (by rw [← HT.out]; exact hb5) (by rw [← HS.out]; exact ht5) (by rw [HMO.out.1]; exact HP.out.2.1)
          rw [← HS.out] at hfin
          have HFIN := Lib.hid hfin
          clear hfin ht5 hb5
          have hwj : wrap64 ((D : Int) + 1) = ((D + 1 : Nat) : Int) := by have := HNN.out; unfold wrap64; omega
          go_wp2_with fail
          try rw [hwj]
          clear hwj
          exact ⟨⟨D + 1, mine k n Ld, setBit which D, S ++ [s], vS', o2, cL - c, by have := HNN.out; omega, rfl, by rw [HMO.out.1, List.length_drop, ← HP.out.2.2], HFIN.out⟩, by simp only [intOf]; have := HNN.out; omega⟩
      · have hq0 : q = 0 := by have := HQ.out.2; omega
        subst hq0
        have hbt : (Keys.kn k).testBit n = false := HQ.out.1
        obtain ⟨m1', m2'⟩ := HM.out.1 hbt
        have HMO := Lib.hid (And.intro m1' m2')
        clear hbt m1' m2' hq1
        have hA := sat_any n (oth k n Ld) (.slice (some ⟨ba, o2, none⟩) (N - c) (cL - c)) (.slice (some ⟨bn, on, none⟩) 257 cn) V1 (by have := HNN.out; omega) (by rw [HMO.out.2]; exact (HP.out.2.1).below H7.out.bw) (H3.out.2.2.2.below H7.out.bw (Nat.le_refl _)) (H7.out.rise.sublist List.filter_sublist) (same_oth (by have := H7.out.near; rw [show 256 - D = n + 1 by have := HNN.out; omega] at this; exact this)) (fun p hp => H7.out.full p (mem_oth.1 hp).1) (by have := length_mine k n Ld; have := H7.out.len; omega)
        rw [show ((256 - n : Nat) : Int) = (D : Int) + 1 by have := HNN.out; omega] at hA
        have HA := Lib.hid hA
        clear hA
        obtain ⟨s, hs⟩ : ∃ s, s = atH n (oth k n Ld) := ⟨_, rfl⟩
        rw [← hs] at HA
        have HS := Lib.hid hs
        clear hs
        go_wp2_with fail
        refine HA.out.mono ?_
        rintro e V2 ⟨rfl, hb⟩
        have H8 := Lib.hid (H7.out.below hb)
        clear hb H7 HA
        have HG := Lib.hid trivial
        go_wp2_with (have _ := HG; refine wpList_var_sum (by rfl) rfl _ _ rfl s rfl rfl ?_; intro V3 hb hr _; obtain ⟨z16, hz16⟩ : ∃ x, x = V2.heap.size := ⟨_, rfl⟩; rw [← hz16] at hr ⊢; have H9 := Lib.hid (And.intro (H8.out.below hb) hr); clear HG hb hr hz16 H8)
        obtain ⟨E, hE⟩ : ∃ E, E = D + 1 := ⟨_, rfl⟩
        have hw : IntKind.i64.wrap ((D : Int) + 1) = (E : Int) := by have := HNN.out; rw [IntKind.wrap_i64]; omega
        have hE0 : (0 : Int) ≤ (E : Int) := by omega
        have hE1 : (E : Int) < 257 := by have := HNN.out; omega
        have hE2 : E < 257 := by have := HNN.out; omega
        have hEn : 256 - n = E := by have := HNN.out; omega
        have hrn := HNR.out.2 V3.drew ((H9.out.1.bw).trans ((Below.refl _ _).drew)) n (by have := HNN.out; omega)
        rw [hEn] at hrn
        clear hE
        have HRN := Lib.hid (And.intro (show V3.drew.rangeAt z16 0 (cellsOf s) from H9.out.2) hrn)
        have heq := eq_sums s (em n)
        obtain ⟨eN, heN⟩ : ∃ y, y = em n := ⟨_, rfl⟩
        rw [← heN] at HRN heq
        have HEN := Lib.hid heN
        clear hrn hEn heN
        refine wp_region_sched (fun W => W.rangeAt z16 0 (cellsOf s)) [.t 1, .t 2, .t 3, .t 4, .s 0, .e 5 true, .t 6] (by kernel_rfl) (by kernel_rfl) (by intro c a d v w h; cases d <;> exact h) ?_
        have H10 := Lib.hid (H9.out.1.below (Below.refl _ _).drew)
        clear H9
        generalize V3.drew = V4 at *
        by_cases hes : s = eN
        · rw [decide_eq_true hes] at heq
          have HES := Lib.hid hes
          clear hes
          iterate 4
            refine wpS_t rfl (v := ?_) (by rfl) (fun W => ?_) ?_
            rotate_left
            · go_simp
              try rfl
            try simp only [Act.put, List.setIfInBounds_toArray, List.set_cons_zero, List.set_cons_succ]
          refine wpS_load_sum (by exact HRN.out.1) rfl (by rfl) _ (by rfl) z16 0 (by rfl) s (fun W hW => hW) ?_
          try simp only [Act.put, List.setIfInBounds_toArray, List.set_cons_zero, List.set_cons_succ]
          refine wpS_k rfl (by rfl) (fun K hK => ?_)
          refine wp_load_sum _ (by rfl) bn (on + E * 32) (by rfl) eN HRN.out.2 ?_
          refine hK _ _ ⟨by exact HRN.out.1, ?_⟩; clear hK K
          try simp only [Act.put, List.setIfInBounds_toArray, List.set_cons_zero, List.set_cons_succ]
          iterate 1
            refine wpS_t rfl (v := ?_) (by rfl) (fun W => ?_) ?_
            rotate_left
            · go_simp
              try rfl
            try simp only [Act.put, List.setIfInBounds_toArray, List.set_cons_zero, List.set_cons_succ]
          refine wpS_done ?_
          have hfin := H10.out.quiet (v' := .slice (some ⟨ba, oL, none⟩) c cL) HNN.out.1 HNN.out.2 (by rw [← HS.out, ← HEN.out]; exact HES.out) (Below.refl _ _) (by rw [HMO.out.1]; exact HP.out.1)
          have HFIN := Lib.hid hfin
          clear hfin
          have hwj : wrap64 ((D : Int) + 1) = ((D + 1 : Nat) : Int) := by have := HNN.out; unfold wrap64; omega
          clear hw
          go_wp2_with fail
          try rw [hwj]
          clear hwj
          exact ⟨⟨D + 1, mine k n Ld, which, S, vS, oL, cL, by have := HNN.out; omega, rfl, by rw [HMO.out.1, List.length_take, Nat.min_eq_left (by rw [← HP.out.2.2]; exact hcl)], HFIN.out⟩, by simp only [intOf]; have := HNN.out; omega⟩
        · rw [decide_eq_false hes] at heq
          have HES := Lib.hid hes
          clear hes
          iterate 4
            refine wpS_t rfl (v := ?_) (by rfl) (fun W => ?_) ?_
            rotate_left
            · go_simp
              try rfl
            try simp only [Act.put, List.setIfInBounds_toArray, List.set_cons_zero, List.set_cons_succ]
          refine wpS_load_sum (by exact HRN.out.1) rfl (by rfl) _ (by rfl) z16 0 (by rfl) s (fun W hW => hW) ?_
          try simp only [Act.put, List.setIfInBounds_toArray, List.set_cons_zero, List.set_cons_succ]
          refine wpS_k rfl (by rfl) (fun K hK => ?_)
          refine wp_load_sum _ (by rfl) bn (on + E * 32) (by rfl) eN HRN.out.2 ?_
          refine hK _ _ ⟨by exact HRN.out.1, ?_⟩; clear hK K
          try simp only [Act.put, List.setIfInBounds_toArray, List.set_cons_zero, List.set_cons_succ]
          iterate 1
            refine wpS_t rfl (v := ?_) (by rfl) (fun W => ?_) ?_
            rotate_left
            · go_simp
              try rfl
            try simp only [Act.put, List.setIfInBounds_toArray, List.set_cons_zero, List.set_cons_succ]
          refine wpS_done ?_
          clear hw
          go_wp2_with (refine wpList_load_sum rfl _ rfl z16 0 rfl s HRN.out.1 ?_)
          refine (tell_any t D s which vS S t V4 HNN.out.2 H10.out.told (Nat.le_refl _) (by have := H10.out.short; omega)).mono ?_
          rintro e V5 ⟨rfl, ⟨vS', ht5⟩, hb5⟩
          have hfin := H10.out.loud (v' := .slice (some ⟨ba, oL, none⟩) c cL) HNN.out.1 HNN.out.2 (by rw [← HS.out, ← HEN.out]; exact HES.out) (by rw [← HT.out]; exact hb5) (by rw [← HS.out]; exact ht5) (by rw [HMO.out.1]; exact HP.out.1)
          rw [← HS.out] at hfin
          have HFIN := Lib.hid hfin
          clear hfin ht5 hb5
          have hwj : wrap64 ((D : Int) + 1) = ((D + 1 : Nat) : Int) := by have := HNN.out; unfold wrap64; omega
          go_wp2_with fail
          try rw [hwj]
          clear hwj
          exact ⟨⟨D + 1, mine k n Ld, setBit which D, S ++ [s], vS', oL, cL, by have := HNN.out; omega, rfl, by rw [HMO.out.1, List.length_take, Nat.min_eq_left (by rw [← HP.out.2.2]; exact hcl)], HFIN.out⟩, by simp only [intOf]; have := HNN.out; omega⟩
    · have hD6 : D = 256 := by omega
      subst hD6
      clear hlt hD
      have c1 : decide (256 < 256) = false := by decide
      have hnew := HO.out.told.new HO.out.nil
      have hbits : Bits which 256 (tells k 256 L0) := fun j hj => by
        have := HO.out.bits j hj
        rw [decide_eq_true hj, Bool.true_and] at this
        exact this
      have hsides : sidesOf (tells k 256 L0) = S := by
        have := HO.out.sides
        rw [show 256 - 256 = 0 from rfl, tells, show sidesOf [] = [] from rfl, List.append_nil] at this
        exact this
      have HE := Lib.hid (And.intro hnew (And.intro hbits hsides))
      have g := HO.out.told.slice
      have hz4 : z4 < t := by rw [HT.out]; exact there_lt H3.out.2.1 (by decide)
      have HZ4 := Lib.hid hz4
      have ht4 := (Keeps.of_below (X := fun _ => False) HO.out.bw).there H3.out.2.1 (by decide) (fun h => h)
      have HT4 := Lib.hid ht4
      have HOT := Lib.hid (And.intro (show wr.rangeAt t 0 (cellsShow which vS) from HO.out.told.row) (And.intro HO.out.told.th HO.out.bw))
      clear hnew hbits hsides hz4 ht4 HO
      go_wp2_with fail
      refine (clip_sums wr (t + 1) vS S HE.out.1).mono ?_
      rintro e W5 ⟨v', rfl, hn5, rfl⟩
      have h1c : v'.oneCell' = true := by
        obtain ⟨a9, c9, h9, _⟩ := hn5.sums
        rw [h9]; rfl
      have hp5 : ∃ a n c, v' = .slice a n c := by
        obtain ⟨a9, c9, h9, _⟩ := hn5.sums
        exact ⟨a9, _, c9, h9⟩
      obtain ⟨a9, n9, c9, rfl⟩ := hp5
      have f32 : wr.frozen? ⟨t, 32, none⟩ = false := by have := (HOT.out.2.1 32 (by omega)).2; rwa [Nat.zero_add] at this
      have hrl := range_lay (.slice a9 n9 c9) HOT.out.1
      have k1 : Keeps (· = t) wr (wr.setCell ⟨t, 32, none⟩ (.slice a9 n9 c9)) := (Keeps.refl (· = t) wr).setCell (p := ⟨t, 32, none⟩) (.inl rfl) _
      have hth := there_setCell HT4.out t 32 (.slice a9 n9 c9)
      have hn6 := hn5.keep k1 (fun k hk e => by have := hn5.own k hk; omega)
      have HF2 := Lib.hid (And.intro hrl (And.intro hth (And.intro hn6 (And.intro h1c (k1.below (B := t) (by rw [HT.out]; exact HOT.out.2.2.size) (fun k hk => by rw [hk]; exact Nat.le_refl _))))))
      clear hrl hth hn6 hn5 h1c k1
      have HG := Lib.hid trivial
      go_wp2_with (first
        | (have _ := HG; refine wpList_load_mid rfl 63 _ rfl t 0 rfl (cellsShow which (.slice a9 n9 c9)) _ HF2.out.1 Tryz.underlying63 rfl (by rw [length_cellsShow]; exact infoShow) ?_; clear HG)
        | (refine wpList_store_mid rfl 63 _ _ rfl z4 0 (cellsShow which (.slice a9 n9 c9)).toArray rfl rfl (by rw [List.size_toArray, length_cellsShow]; exact HF2.out.2.1) (by rw [List.size_toArray, length_cellsShow]; exact infoShow) (one_cellsShow which rfl) ?_))
      have hw3 := HB3.out.size
      have hall : Below w.heap.size w (wr.setCell ⟨t, 32, none⟩ (.slice a9 n9 c9)) := (HB3.out.trans (HOT.out.2.2.mono hw3)).trans (HF2.out.2.2.2.2.mono (by rw [HT.out]; exact hw3))
      have k2 := keeps_setCells_ z4 (cellsShow which (.slice a9 n9 c9)) 0 (wr.setCell ⟨t, 32, none⟩ (.slice a9 n9 c9))
      have hn7 := (HF2.out.2.2.1.keep k2 (fun k hk e => by have := HF2.out.2.2.1.own k hk; have := HZ4.out; omega)).mono (base' := w.heap.size) (by rw [HT.out]; omega)
      rw [← HE.out.2.2, HL.out.1] at hn7
      have hbt := HE.out.2.1
      rw [HL.out.1] at hbt
      exact bodyPost_ret (results_cell_tmp Tryz.results27 _ _ z4 0 (cellsShow which (.slice a9 n9 c9)) _ rfl (range_stored _ _ _ _ (by rw [length_cellsShow]; exact World.there_setCells HF2.out.2.1 _ _ _)) Tryz.underlying63 rfl (by rw [length_cellsShow]; exact infoShow)) rfl
        ⟨which, .slice a9 n9 c9, rfl, hn7, hbt, hall.trans (k2.below hall.size (fun k hk => by rw [hk, HZ.out.2]; omega))⟩
end Go.Proofs.YtfmgoehnbaiamaaGreatDoor
