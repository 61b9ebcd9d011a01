/-
  Joined: SO7, SO1, S5.
-/
import Derived.Test.YtfmgoehnbaiamaaGreatDoorZBF
import Derived.Test.YtfmgoehnbaiamaaGreatDoorS4
import Derived.Test.YtfmgoehnbaiamaaGreatDoorZBG
-- Walks: almonerref14.All: what is empty, at each depth.
open Go Go.RowKit Alm
namespace Go.Proofs.YtfmgoehnbaiamaaGreatDoor
theorem range_allB {w : World} {b : Nat} : ∀ (l : List Sum) (o : Nat), (∀ i (h : i < l.length), w.rangeAt b (o + i * 32) (cellsOf l[i])) → w.rangeAt b o (cellsAll l)
  | [], o, _ => range_nil _ _ _
  | s :: l, o, h => by
    rw [cellsAll_cons, range_append, length_cellsOf]
    refine ⟨?_, range_allB l (o + 32) fun i hi => ?_⟩
    · have := h 0 (by simp)
      rw [Nat.zero_mul, Nat.add_zero] at this; exact this
    · have := h (i + 1) (by simp; omega)
      rw [show o + (i + 1) * 32 = o + 32 + i * 32 from by omega] at this
      exact this
/-- What All has in hand: those from 256 - j on. -/
structure AW (w W : World) (g j : Nat) : Prop where
  bw : Below w.heap.size w W
  th : W.there g 0 (32 * 257)
  g0 : w.heap.size ≤ g
  at_ : ∀ n, n ≤ j → W.rangeAt g ((256 - n) * 32) (cellsOf (em n))
theorem AW.call {w W W' : World} {g j : Nat} (h : AW w W g j) (hb : Below W.heap.size W W') : AW w W' g j :=
  ⟨h.bw.trans (hb.mono h.bw.size), (Keeps.of_below (X := fun _ => False) hb).there h.th (by decide) (fun h => h), h.g0, fun n hn => (Keeps.of_below (X := fun _ => False) hb).range (h.at_ n hn) (fun h => h)⟩
theorem AW.set {w W : World} {g j o : Nat} (h : AW w W g j) (hj : j < 256) (ho : o = (255 - j) * 32) : AW w (W.setCells g o (cellsOf (em (j + 1)))) g (j + 1) := by
  subst ho
  have ht2 := World.there_setCells h.th g ((255 - j) * 32) (cellsOf (em (j + 1)))
  refine ⟨setCells_below _ h.g0 _ _ _ _ h.bw, ht2, h.g0, fun n hn => ?_⟩
  by_cases e : n = j + 1
  · subst e
    rw [show 256 - (j + 1) = 255 - j by omega]
    refine range_stored _ _ _ _ (fun q hq => ?_)
    rw [length_cellsOf] at hq
    have := ht2 ((255 - j) * 32 + q) (by omega)
    rw [Nat.zero_add] at this
    exact this
  · exact World.rangeAt_setCells_apart (h.at_ n (by omega)) _ _ _ (by right; right; rw [length_cellsOf]; omega)
theorem AW.sums {w W : World} {g c : Nat} (h : AW w W g 256) (hc : 257 ≤ c) (hm : c ≤ maxLen) : SumsAt W (.slice (some ⟨g, 0, none⟩) 257 c) nones := by
  refine ⟨_, c, by rw [length_nones], by rw [length_nones]; exact hc, hm, .inr ⟨g, 0, rfl, range_allB nones 0 fun i hi => ?_⟩⟩
  rw [length_nones] at hi
  have h2 := nones_get (d := i) (by omega)
  rw [List.getElem?_eq_getElem (by rw [length_nones]; exact hi), Option.some.injEq] at h2
  rw [h2, Nat.zero_add]
  have := h.at_ (256 - i) (by omega)
  rw [show 256 - (256 - i) = i by omega] at this
  exact this
set_option maxRecDepth 100000 in
set_option maxHeartbeats 2000000 in
theorem rall_any (w : World) : Calls Tryz.prog 66 #[] w fun e w' => ∃ v, e = .returned v ∧ SumsAt w' v nones ∧ Below w.heap.size w w' := by
  obtain ⟨i0, zs0, hi0, hz0, hs0, hb0, hzs0⟩ := info_sumB
  have HI := Lib.hid (And.intro hi0 (And.intro hz0 (And.intro hs0 (And.intro hb0 hzs0))))
  clear hi0 hz0 hs0 hb0 hzs0
  go_enter Tryz.func66, Tryz.ntmps66
  go_wp2_with (at_make; refine wpList_make_full _ rfl _ _ _ rfl w.heap.size 24 i0 zs0 32 Tryz.underlying61 HI.out.1 HI.out.2.1 HI.out.2.2.1 .i64 .i64 257 257 257 rfl rfl rfl rfl (by rw [HI.out.2.2.2.1]; omega) (by unfold maxLen; omega) (Nat.le_refl _) ?_; intro w4 ho4 hg4; have H4 := Lib.hid (And.intro (Keeps.below (B := w.heap.size) (Keeps.of_grown (X := fun _ => False) hg4 (fun k hk => by cases hk)) (Nat.le_refl _) (fun _ h => h.elim)) (own_there ho4)); clear ho4 hg4)
  obtain ⟨g, hg⟩ : ∃ g, g = w.heap.size := ⟨_, rfl⟩
  rw [← hg] at H4 ⊢
  have HG := Lib.hid hg
  clear hg HI
  have ho2 : BytesAt (w4.alloc (.cells #[.int .u8 2] 5)) (.slice (some ⟨w4.heap.size, 0, none⟩) 1 1) [2] := bytes_one 2 _ rfl rfl
  have hb2 := al (Below.refl w4.heap.size w4) (.cells #[.int .u8 2] 5)
  have HO := Lib.hid (And.intro ho2 hb2)
  clear ho2 hb2
  go_wp2_with fail
  have HC := Lib.hid (refof_any [2] _ _ HO.out.1 (by simp))
  have H5 := Lib.hid (And.intro (H4.out.1.trans (HO.out.2.mono (by rw [HG.out]; exact H4.out.1.size)) : Below g w (w4.alloc (.cells #[.int .u8 2] 5))) ((Keeps.of_below (X := fun _ => False) HO.out.2).there H4.out.2 (by decide) (fun h => h)))
  clear H4 HO
  generalize w4.alloc (.cells #[.int .u8 2] 5) = w5 at *
  rw [show sha [2] = em 0 by rw [em_zero, z0_eq]] at HC
  refine HC.out.mono ?_
  rintro e w6 ⟨rfl, hb6⟩
  have H6 := Lib.hid (And.intro (H5.out.1.trans (hb6.mono (by rw [HG.out]; exact H5.out.1.size))) ((Keeps.of_below (X := fun _ => False) hb6).there H5.out.2 (by decide) (fun h => h)))
  clear hb6 H5
  go_wp2_with (refine wpList_store_sum rfl _ _ rfl g (256 * 32) (em 0) rfl rfl (fun q hq => by have := H6.out.2 (256 * 32 + q) (by omega); rw [Nat.zero_add] at this; exact this) ?_)
  have hA : AW w (w6.setCells g (256 * 32) (cellsOf (em 0))) g 0 := by
    have ht := H6.out.2
    rw [show 257 * 32 = 32 * 257 from rfl] at ht
    have ht2 := World.there_setCells ht g (256 * 32) (cellsOf (em 0))
    refine ⟨setCells_below _ (by rw [HG.out]; exact Nat.le_refl _) _ _ _ _ (by rw [← HG.out]; exact H6.out.1), ht2, by rw [HG.out]; exact Nat.le_refl _, fun n hn => ?_⟩
    obtain rfl : n = 0 := by omega
    refine range_stored _ _ _ _ (fun q hq => ?_)
    rw [length_cellsOf] at hq
    have := ht2 (256 * 32 + q) (by omega)
    rw [Nat.zero_add] at this
    exact this
  have HA := Lib.hid hA
  clear hA H6
  generalize w6.setCells g (256 * 32) (cellsOf (em 0)) = W0 at *
  go_loopw [2] (fun iv W => ∃ j : Nat, j ≤ 256 ∧ iv = .int .i64 (255 - (j : Int)) ∧ AW w W g j) (fun iv _ => (intOf iv + 1).toNat)
  case atStart => exact ⟨0, by omega, rfl, HA.out⟩
  case round =>
    clear HA
    obtain ⟨j, hj, rfl, hA⟩ := hrel
    have HA := Lib.hid hA
    clear hA
    by_cases hlt : j < 256
    · obtain ⟨D, hD⟩ : ∃ D, D = 255 - j := ⟨_, rfl⟩
      have hd : (255 : Int) - (j : Int) = (D : Int) := by omega
      rw [hd]
      obtain ⟨E, hE⟩ : ∃ E, E = 256 - j := ⟨_, rfl⟩
      have c1 : decide ((0 : Int) ≤ (D : Int)) = true := by simp
      have c2 : (D : Int) < 257 := by omega
      have c3 : (0 : Int) ≤ (D : Int) := by omega
      have c4 : (E : Int) < 257 := by omega
      have c5 : (0 : Int) ≤ (E : Int) := by omega
      have hw1 : IntKind.i64.wrap ((D : Int) + 1) = (E : Int) := by rw [IntKind.wrap_i64]; omega
      have HD := Lib.hid (And.intro hD (And.intro hE hlt))
      clear hD hE hlt hj hd
      go_wp2_with fail
      refine wp_region_sched (fun W => W.rangeAt g (E * 32) (cellsOf (em j))) [.t 0, .t 1, .t 2, .t 3, .t 4, .t 5, .t 7, .t 8, .t 9, .t 10, .s 6, .e 11 true, .e 12 false, .t 13, .e 14 false] (by kernel_rfl) (by kernel_rfl) (by intro c a d v w h; cases d <;> exact h) ?_
      have HB := Lib.hid (HA.out.call (Below.refl _ _).drew)
      clear HA
      generalize World.drew _ = V at *
      have hrj := HB.out.at_ j (Nat.le_refl _)
      rw [← HD.out.2.1] at hrj
      have HR := Lib.hid hrj
      clear hrj
      iterate 10
        refine wpS_t rfl (v := ?_) (by rfl) (fun W => ?_) ?_
        rotate_left
        · go_simp
          try rfl
        try simp only [Act.put, List.setIfInBounds_toArray, List.set_cons_zero, List.set_cons_succ]
      refine wpS_load_sum (by exact HR.out) rfl (by rfl) _ (by rfl) g (E * 32) (by rfl) (em j) (fun V hV => hV) ?_
      try simp only [Act.put, List.setIfInBounds_toArray, List.set_cons_zero, List.set_cons_succ]
      refine wpS_k rfl (by rfl) (fun K hK => ?_)
      refine wp_load_sum _ (by rfl) g (E * 32) (by rfl) (em j) HR.out ?_
      refine hK _ _ ⟨by exact HR.out, ?_⟩; clear hK K
      try simp only [Act.put, List.setIfInBounds_toArray, List.set_cons_zero, List.set_cons_succ]
      refine wpS_e rfl (by rfl) (fun K hK => ?_)
      go_simp
      refine (rside_any (em j) (em j) V).mono ?_
      rintro e V1 ⟨rfl, hb1⟩
      rw [← em_succ]
      have HB2 := Lib.hid (HB.out.call hb1)
      clear HB hb1 HR
      refine hK _ _ ?_; clear hK K
      try simp only [Act.put, List.setIfInBounds_toArray, List.set_cons_zero, List.set_cons_succ]
      iterate 1
        refine wpS_t rfl (v := ?_) (by rfl) (fun W => ?_) ?_
        rotate_left
        · go_simp
          try rfl
        try simp only [Act.put, List.setIfInBounds_toArray, List.set_cons_zero, List.set_cons_succ]
      refine wpS_e rfl (by rfl) (fun K hK => ?_)
      refine wp_store_sum _ _ (by rfl) g (D * 32) (em (j + 1)) (by rfl) (by rfl) (fun q hq => by have := HB2.out.th (D * 32 + q) (by have := HD.out; omega); rw [Nat.zero_add] at this; exact this) ?_
      refine hK _ _ ?_; clear hK K
      try simp only [Act.put]
      refine wpS_done ?_
      have hA := HB2.out.set (o := D * 32) HD.out.2.2 (by rw [HD.out.1])
      have HA := Lib.hid hA
      clear hA HB2
      generalize V1.setCells g (D * 32) (cellsOf (em (j + 1))) = V2 at *
      go_wp2_with fail
      exact ⟨⟨j + 1, HD.out.2.2, congrArg _ (by have := HD.out; omega), HA.out⟩, by simp only [intOf]; have := HD.out; omega⟩
    · have hj6 : j = 256 := by omega
      subst hj6
      have c1 : decide ((0 : Int) ≤ 255 - ((256 : Nat) : Int)) = false := by decide
      clear hj hlt
      go_wp2_with fail
      try rw [Exit.noGoto_ret]
      exact bodyPost_ret (results_tmp rfl _ _ _) rfl ⟨.slice (some ⟨g, 0, none⟩) 257 257, rfl, HA.out.sums (by omega) (by decide), HA.out.bw⟩
end Go.Proofs.YtfmgoehnbaiamaaGreatDoor
-- Plain law: what the document's Put makes of pairs that rise.
namespace Go.Proofs.YtfmgoehnbaiamaaGreatDoor
open Keys (Rise Pr kn putB del)
/-- One pair gone through by the document's Put: what it has, and whether the new one stands there. -/
def stP (k : Sum) (v : List UInt8) (s : List Pr × Bool) (p : Pr) : List Pr × Bool :=
  if (!s.2 && decide (kn k < kn p.1)) = true then (if p.1 = k then (s.1 ++ [(k, v)], true) else (s.1 ++ [(k, v)] ++ [p], true))
  else if p.1 = k then (if s.2 = true then (s.1, true) else (s.1 ++ [(k, v)], true)) else (s.1 ++ [p], s.2)
def finP (k : Sum) (v : List UInt8) (s : List Pr × Bool) : List Pr := if s.2 = true then s.1 else s.1 ++ [(k, v)]
theorem fold_done (k : Sum) (v : List UInt8) : ∀ (l acc : List Pr), l.foldl (stP k v) (acc, true) = (acc ++ del k l, true)
  | [], acc => by simp [del]
  | p :: l, acc => by
    rw [List.foldl_cons]
    by_cases h : p.1 = k
    · have e : stP k v (acc, true) p = (acc, true) := by simp [stP, h]
      rw [e, fold_done k v l acc]
      simp [del, h]
    · have e : stP k v (acc, true) p = (acc ++ [p], true) := by simp [stP, h]
      rw [e, fold_done k v l (acc ++ [p])]
      simp [del, h]
theorem del_above {k : Sum} {l : List Pr} (h : ∀ p ∈ l, kn k < kn p.1) : del k l = l := by
  unfold del
  refine List.filter_eq_self.2 fun p hp => ?_
  have := h p hp
  simp
  intro e
  rw [e] at this
  omega
theorem fold_put (k : Sum) (v : List UInt8) : ∀ (l acc : List Pr), Rise l → finP k v (l.foldl (stP k v) (acc, false)) = acc ++ Keys.put k v l
  | [], acc, _ => by simp [finP, Keys.put]
  | p :: l, acc, hr => by
    rw [List.foldl_cons]
    have h1 := (List.pairwise_cons.1 hr).1
    have h2 := (List.pairwise_cons.1 hr).2
    by_cases hlt : kn k < kn p.1
    · have hne : ¬ p.1 = k := fun e => by rw [e] at hlt; omega
      have e : stP k v (acc, false) p = (acc ++ [(k, v)] ++ [p], true) := by simp [stP, hlt, hne]
      rw [e, fold_done, del_above (fun q hq => Nat.lt_trans hlt (h1 q hq))]
      simp [finP, Keys.put, hlt]
    · by_cases hk : p.1 = k
      · have e : stP k v (acc, false) p = (acc ++ [(k, v)], true) := by simp [stP, hk]
        rw [e, fold_done, del_above (fun q hq => by have := h1 q hq; rw [hk] at this; exact this)]
        simp [finP, Keys.put, hk]
      · have e : stP k v (acc, false) p = (acc ++ [p], false) := by simp [stP, hlt, hk]
        rw [e, fold_put k v l (acc ++ [p]) h2]
        have hk' : ¬ k = p.1 := fun e => hk e.symm
        simp [Keys.put, hlt, hk']
/-- What the document's Put makes of pairs. -/
def rp (k : Sum) (v : List UInt8) (l : List Pr) : List Pr := finP k v (l.foldl (stP k v) ([], decide (v = [])))
theorem rp_eq {k : Sum} {v : List UInt8} {l : List Pr} (hr : Rise l) (hv : v.length ≤ 256) : rp k v l = putB l k v := by
  unfold rp putB
  rw [if_neg (by omega)]
  by_cases h : v = []
  · rw [if_pos h, decide_eq_true h, fold_done]
    simp [finP]
  · rw [if_neg h, decide_eq_false h, fold_put k v l [] hr]
    simp
end Go.Proofs.YtfmgoehnbaiamaaGreatDoor
-- Walk: shows.told.tell.
namespace Go.Proofs.YtfmgoehnbaiamaaGreatDoor
/-- A sum with one bit more. -/
def setBit (k : Sum) (d : Nat) : Sum := Vector.ofFn fun i : Fin 32 => if i.1 = d / 8 then k[i] ||| UInt8.ofNat (2 ^ (7 - d % 8)) else k[i]
theorem setBit_get (k : Sum) (d j : Nat) (hj : j < 32) : (setBit k d).toList.getD j 0 = if j = d / 8 then k.toList.getD j 0 ||| UInt8.ofNat (2 ^ (7 - d % 8)) else k.toList.getD j 0 := by
  have e1 : (setBit k d).toList.getD j 0 = (setBit k d)[j] := by simp [List.getD_eq_getElem?_getD, hj]
  have e2 : k.toList.getD j 0 = k[j] := by simp [List.getD_eq_getElem?_getD, hj]
  rw [e1, e2]
  simp [setBit]
theorem or_bit : ∀ (x : Fin 256) (a b : Fin 8), ((UInt8.ofNat x.val ||| UInt8.ofNat (2 ^ (7 - a.val))).toNat >>> (7 - b.val)) % 2 = if a = b then 1 else (x.val >>> (7 - b.val)) % 2 := by decide +kernel
theorem bit_set (k : Sum) (d j : Nat) (hd : d < 256) (hj : j < 256) : (Keys.kn (setBit k d)).testBit (255 - j) = if j = d then true else (Keys.kn k).testBit (255 - j) := by
  rw [Keys.bit_odd, Keys.bit_odd, key_bit (setBit k d) j hj, key_bit k j hj, setBit_get k d (j / 8) (by omega)]
  by_cases h8 : j / 8 = d / 8
  · rw [if_pos h8]
    have h := or_bit ⟨(k.toList.getD (j / 8) 0).toNat, (k.toList.getD (j / 8) 0).toNat_lt⟩ ⟨d % 8, Nat.mod_lt _ (by decide)⟩ ⟨j % 8, Nat.mod_lt _ (by decide)⟩
    simp only [UInt8.ofNat_toNat, Fin.mk.injEq] at h
    rw [h]
    by_cases hjd : j = d
    · subst hjd; simp
    · have : ¬ d % 8 = j % 8 := by omega
      rw [if_neg this, if_neg hjd]
  · have hjd : ¬ j = d := fun e => h8 (by rw [e])
    rw [if_neg h8, if_neg hjd]
/-- What has been told so far. -/
structure ToldAt (W : World) (t : Nat) (which : Sum) (v : Value) (S : List Sum) (base : Nat) : Prop where
  row : W.rangeAt t 0 (cellsOf which ++ [v])
  th : W.there t 0 33
  own : W.ownsRow base 24 32 v S.length (cellsAll S)
  ne : ∀ g, v.ownBlock = some g → g ≠ t
theorem ToldAt.below {W W' : World} {t : Nat} {which : Sum} {v : Value} {S : List Sum} {base : Nat} (h : ToldAt W t which v S base) (hb : Below W.heap.size W W') : ToldAt W' t which v S base :=
  have kk := Keeps.of_below (X := fun _ => False) hb
  ⟨kk.range h.row (fun h => h), kk.there h.th (by decide) (fun h => h), kk.owns h.own (fun _ _ h => h), h.ne⟩
theorem ToldAt.byte {W : World} {t : Nat} {which : Sum} {v : Value} {S : List Sum} {base : Nat} (h : ToldAt W t which v S base) {i : Nat} (hi : i < 32) : W.cell? ⟨t, i, none⟩ = some (.int .u8 (((which.toList.getD i 0).toNat : Nat) : Int)) := by
  have := h.row i (u8v (which.toList.getD i 0)) (by rw [List.getElem?_append_left (by rw [length_cellsOf]; exact hi)]; exact cell_key which hi)
  rwa [Nat.zero_add] at this
theorem ToldAt.slice {W : World} {t : Nat} {which : Sum} {v : Value} {S : List Sum} {base : Nat} (h : ToldAt W t which v S base) : W.cell? ⟨t, 32, none⟩ = some v := by
  have := h.row 32 v (by rw [List.getElem?_append_right (by rw [length_cellsOf]; omega), length_cellsOf]; rfl)
  rwa [Nat.zero_add] at this
theorem there_setCell {W : World} {b o n : Nat} (h : W.there b o n) (c p : Nat) (x : Value) : (W.setCell ⟨c, p, none⟩ x).there b o n := by
  have := World.there_setCells h c p [x]
  exact this
theorem ToldAt.lt {W : World} {t : Nat} {which : Sum} {v : Value} {S : List Sum} {base : Nat} (h : ToldAt W t which v S base) : t < W.heap.size := there_lt h.th (by decide)
theorem ToldAt.mark {W : World} {t : Nat} {which : Sum} {v : Value} {S : List Sum} {base d C R : Nat} (h : ToldAt W t which v S base) (hd : d < 256) (hC : C = (which.toList.getD (d / 8) 0).toNat) (hR : R = (UInt8.ofNat C ||| UInt8.ofNat (2 ^ (7 - d % 8))).toNat) :
    ToldAt (W.setCell ⟨t, d / 8, none⟩ (.int .u8 (R : Int))) t (setBit which d) v S base := by
  have kk : Keeps (· = t) W (W.setCell ⟨t, d / 8, none⟩ (.int .u8 (R : Int))) := (Keeps.refl (· = t) W).setCell (p := ⟨t, d / 8, none⟩) (.inl rfl) _
  refine ⟨fun j u hj => ?_, there_setCell h.th _ _ _, kk.owns h.own (fun k hk e => h.ne k hk e), h.ne⟩
  have hl : (cellsOf (setBit which d)).length = 32 := length_cellsOf _
  by_cases hjd : j = d / 8
  · subst hjd
    rw [List.getElem?_append_left (by rw [hl]; omega), cell_key _ (by omega), Option.some.injEq] at hj
    rw [Nat.zero_add, World.cell?_setCell_same _ _ _ (h.byte (i := d / 8) (by omega)), ← hj, setBit_get which d (d / 8) (by omega), if_pos rfl, hR, hC, UInt8.ofNat_toNat]
    rfl
  · have hne : (⟨t, d / 8, none⟩ : Addr) ≠ ⟨t, 0 + j, none⟩ := fun e => hjd (by have := congrArg Addr.off e; simp at this; exact this.symm)
    rw [World.cell?_setCell_other _ _ _ _ hne]
    refine h.row j u ?_
    by_cases hj32 : j < 32
    · rw [List.getElem?_append_left (by rw [hl]; exact hj32), cell_key _ hj32, setBit_get which d j hj32, if_neg hjd] at hj
      rw [List.getElem?_append_left (by rw [length_cellsOf]; exact hj32), cell_key _ hj32]
      exact hj
    · rw [List.getElem?_append_right (by rw [hl]; omega), hl] at hj
      rw [List.getElem?_append_right (by rw [length_cellsOf]; omega), length_cellsOf]
      exact hj
/-- A list of sides, laid anew. -/
theorem ToldAt.lay {W : World} {t : Nat} {which : Sum} {v v' : Value} {S' : List Sum} {base : Nat} (h : W.rangeAt t 0 (cellsOf which ++ [v])) (ht : W.there t 0 33) (ho : W.ownsRow base 24 32 v' S'.length (cellsAll S')) (hne : ∀ g, v'.ownBlock = some g → g ≠ t) :
    ToldAt (W.setCell ⟨t, 32, none⟩ v') t which v' S' base := by
  have kk : Keeps (· = t) W (W.setCell ⟨t, 32, none⟩ v') := (Keeps.refl (· = t) W).setCell (p := ⟨t, 32, none⟩) (.inl rfl) _
  refine ⟨fun j u hj => ?_, there_setCell ht _ _ _, kk.owns ho (fun k hk e => hne k hk e), hne⟩
  have hl : (cellsOf which).length = 32 := length_cellsOf _
  by_cases hj32 : j = 32
  · subst hj32
    rw [List.getElem?_append_right (by rw [hl]; omega), hl] at hj
    simp only [Nat.sub_self, List.getElem?_cons_zero, Option.some.injEq] at hj
    have h0 := h 32 v (by rw [List.getElem?_append_right (by rw [hl]; omega), hl]; rfl)
    rw [Nat.zero_add] at h0 ⊢
    rw [World.cell?_setCell_same _ _ _ h0, hj]
  · have hne2 : (⟨t, 32, none⟩ : Addr) ≠ ⟨t, 0 + j, none⟩ := fun e => hj32 (by have := congrArg Addr.off e; simp at this; exact this.symm)
    rw [World.cell?_setCell_other _ _ _ _ hne2]
    refine h j u ?_
    have hjl : j < 32 := by
      have := (List.getElem?_eq_some_iff.1 hj).1
      rw [List.length_append, hl] at this
      simp at this
      omega
    rw [List.getElem?_append_left (by rw [hl]; exact hjl)] at hj ⊢
    exact hj
theorem shl_wrap (m : Nat) (hm : m ≤ 7) : IntKind.u8.wrap ((2 : Int) ^ min m 8) = ((2 ^ m : Nat) : Int) := by
  match m, hm with
  | 0, _ => decide +kernel
  | 1, _ => decide +kernel
  | 2, _ => decide +kernel
  | 3, _ => decide +kernel
  | 4, _ => decide +kernel
  | 5, _ => decide +kernel
  | 6, _ => decide +kernel
  | 7, _ => decide +kernel
theorem or_all : ∀ (x : Fin 256) (a : Fin 8), bits .or .u8 ((x.val : Nat) : Int) ((2 ^ a.val : Nat) : Int) = (((UInt8.ofNat x.val ||| UInt8.ofNat (2 ^ a.val)).toNat : Nat) : Int) := by decide +kernel
set_option maxRecDepth 100000 in
set_option maxHeartbeats 2000000 in
theorem tell_any (t d : Nat) (s which : Sum) (v : Value) (S : List Sum) (base : Nat) (w : World) (hd : d < 256) (h : ToldAt w t which v S base) (hbt : base ≤ t) (hS : S.length < 1000000) :
    Calls Tryz.prog 96 #[.pointer (some ⟨t, 0, none⟩), .int .i64 (d : Int), sv s] w fun e w' => e = .returned (.tuple #[]) ∧ (∃ v', ToldAt w' t (setBit which d) v' (S ++ [s]) base) ∧ Below base w w' := by
  have hb0 := al (Below.refl _ w) (.cells (cellsOf s).toArray 24)
  have H0 := Lib.hid (And.intro hb0 (And.intro (range_new w (cellsOf s).toArray 24 _ rfl) (h.below hb0)))
  have H0z := Lib.hid h.lt
  have hbw := Lib.hid (show base ≤ w.heap.size by have := h.lt; omega)
  have hc := (h.below hb0).byte (i := d / 8) (by omega)
  obtain ⟨C, hC⟩ : ∃ C, C = (which.toList.getD (d / 8) 0).toNat := ⟨_, rfl⟩
  rw [← hC] at hc
  obtain ⟨z, hz⟩ : ∃ z, z = w.heap.size := ⟨_, rfl⟩
  have HZ := Lib.hid (And.intro hz hC)
  rw [← hz] at H0z
  obtain ⟨D, hD⟩ : ∃ D, D = d / 8 := ⟨_, rfl⟩
  obtain ⟨m, hm⟩ : ∃ m, m = 7 - d % 8 := ⟨_, rfl⟩
  have w8 : IntKind.i64.wrap ((d : Int) / 8) = (D : Int) := by rw [IntKind.wrap_i64]; omega
  have wm : IntKind.i64.wrap (7 - (d : Int).tmod 8) = (m : Int) := by rw [Int.tmod_eq_emod_of_nonneg (by omega), IntKind.wrap_i64]; omega
  have hm7 : m ≤ 7 := by omega
  have hsh := shl_wrap m hm7
  have hor := or_all ⟨C, by rw [hC]; exact UInt8.toNat_lt _⟩ ⟨m, by omega⟩
  obtain ⟨B, hB⟩ : ∃ B, B = 2 ^ m := ⟨_, rfl⟩
  obtain ⟨R, hR⟩ : ∃ R, R = (UInt8.ofNat C ||| UInt8.ofNat B).toNat := ⟨_, rfl⟩
  simp only at hor
  rw [← hB] at hsh hor
  rw [← hR] at hor
  rw [← hD] at hc
  have d0 : (0 : Int) ≤ (D : Int) := by omega
  have d1 : (D : Int) < 32 := by omega
  have d2 : D < 32 := by omega
  have HD := Lib.hid (And.intro hD (And.intro hm (And.intro hB (And.intro hR hd))))
  clear hz hC hb0 h hD hm hB hR hd hm7
  go_enter Tryz.func96, Tryz.ntmps96
  go_wp2_with fail
  rw [← HZ.out.1] at H0 ⊢
  have H1 := Lib.hid (show Below w.heap.size w (w.alloc (.cells (cellsOf s).toArray 24)).drew ∧ (w.alloc (.cells (cellsOf s).toArray 24)).drew.rangeAt z 0 (cellsOf s) ∧ ToldAt (w.alloc (.cells (cellsOf s).toArray 24)).drew t which v S base from ⟨by rw [← HZ.out.1]; exact H0.out.1.drew, H0.out.2.1, H0.out.2.2.below (Below.refl _ _).drew⟩)
  have hcd : (World.drew (w.alloc (.cells (cellsOf s).toArray 24))).cell? ⟨t, D, none⟩ = some (.int .u8 (C : Int)) := hc
  clear H0 hc
  refine wp_region_sched (fun W => True) [.t 0, .t 1, .t 2, .t 3, .t 4, .t 5, .t 6, .t 8, .t 9, .t 10, .t 11, .t 13, .t 14, .t 15, .e 7 false, .t 12, .t 16, .e 17 false] (by kernel_rfl) (by kernel_rfl) (by intro c a d v w h; cases d <;> exact h) ?_
  generalize World.drew (w.alloc (.cells (cellsOf s).toArray 24)) = V at *
  iterate 14
    refine wpS_t rfl (v := ?_) (by rfl) (fun W => ?_) ?_
    rotate_left
    · go_simp
      try rfl
    try simp only [Act.put, List.setIfInBounds_toArray, List.set_cons_zero, List.set_cons_succ]
  refine wpS_e rfl (by rfl) (fun K hK => ?_)
  go_simp
  refine hK _ _ ?_; clear hK K
  try simp only [Act.put, List.setIfInBounds_toArray, List.set_cons_zero, List.set_cons_succ]
  iterate 2
    refine wpS_t rfl (v := ?_) (by rfl) (fun W => ?_) ?_
    rotate_left
    · go_simp
      try rfl
    try simp only [Act.put, List.setIfInBounds_toArray, List.set_cons_zero, List.set_cons_succ]
  have f1 : V.frozen? ⟨t, D, none⟩ = false := by have := (H1.out.2.2.th D (by omega)).2; rwa [Nat.zero_add] at this
  refine wpS_e rfl (by rfl) (fun K hK => ?_)
  go_simp
  refine hK _ _ ?_; clear hK K
  try simp only [Act.put, List.setIfInBounds_toArray, List.set_cons_zero, List.set_cons_succ]
  refine wpS_done ?_
  have hmk := H1.out.2.2.mark HD.out.2.2.2.2 HZ.out.2 (R := R) (by rw [HD.out.2.2.2.1, HD.out.2.2.1, HD.out.2.1])
  rw [← HD.out.1] at hmk
  have kk : Keeps (· = t) V (V.setCell ⟨t, D, none⟩ (.int .u8 (R : Int))) := (Keeps.refl (· = t) V).setCell (p := ⟨t, D, none⟩) (.inl rfl) _
  have hzt : z ≠ t := by
    have := H1.out.2.2.lt
    have h2 := H0z.out
    omega
  have H2 := Lib.hid (And.intro ((H1.out.1.mono hbw.out).trans (kk.below (Nat.le_trans hbw.out H1.out.1.size) (fun k hk => by rw [hk]; exact hbt))) (And.intro (kk.range H1.out.2.1 hzt) hmk))
  clear hmk kk hzt H1 f1 hcd w8 wm hsh hor d0 d1 d2
  generalize V.setCell ⟨t, D, none⟩ (.int .u8 (R : Int)) = V1 at *
  go_wp2_with fail
  refine wp_region_sched (fun W => W.cell? ⟨t, 32, none⟩ = some v) [.t 0, .t 1, .t 2, .t 3, .t 4, .s 5, .e 6 true, .e 7 true, .e 8 false, .t 9, .t 10, .t 11, .e 12 false] (by kernel_rfl) (by kernel_rfl) (by intro c a d v w h; cases d <;> exact h) ?_
  have H3 := Lib.hid (And.intro H2.out.1.drew (And.intro (show V1.drew.rangeAt z 0 (cellsOf s) from H2.out.2.1) (H2.out.2.2.below (Below.refl _ _).drew)))
  clear H2
  generalize V1.drew = V2 at *
  iterate 5
    refine wpS_t rfl (v := ?_) (by rfl) (fun W => ?_) ?_
    rotate_left
    · go_simp
      try rfl
    try simp only [Act.put, List.setIfInBounds_toArray, List.set_cons_zero, List.set_cons_succ]
  refine wpS_s (by exact H3.out.2.2.slice) rfl (v := ?_) (by rfl) (fun W hSW => ?_) ?_
  rotate_left
  · go_simp
    try rfl
  try simp only [Act.put, List.setIfInBounds_toArray, List.set_cons_zero, List.set_cons_succ]
  refine wpS_k rfl (by rfl) (fun K hK => ?_)
  refine wp_load_sum _ (by rfl) z 0 (by rfl) s H3.out.2.1 ?_
  refine hK _ _ ⟨by exact H3.out.2.2.slice, ?_⟩; clear hK K
  try simp only [Act.put, List.setIfInBounds_toArray, List.set_cons_zero, List.set_cons_succ]
  refine wpS_k rfl (by rfl) (fun K hK => ?_)
  refine wp_build_sums 1 _ (by rfl) [s] rfl (by omega) (by omega) (by rfl) ?_
  have hb2 := al (Below.refl V2.heap.size V2) (.cells (cellsAll [s]).toArray 24)
  have H4 := Lib.hid (And.intro (H3.out.1.trans (hb2.mono (Nat.le_trans hbw.out H3.out.1.size))) (And.intro (range_new V2 (cellsAll [s]).toArray 24 _ rfl) (H3.out.2.2.below hb2)))
  clear H3 hb2
  generalize V2.heap.size = y at *
  generalize V2.alloc (.cells (cellsAll [s]).toArray 24) = V3 at *
  refine hK _ _ ⟨by exact H4.out.2.2.slice, ?_⟩; clear hK K
  try simp only [Act.put, List.setIfInBounds_toArray, List.set_cons_zero, List.set_cons_succ]
  refine wpS_e rfl (by rfl) (fun K hK => ?_)
  refine wp_append_sums _ _ (by rfl) base v S [s] S.length 1 rfl rfl (by rfl) H4.out.2.2.own y 0 1 (by rfl) H4.out.2.1 (by omega) (by omega) (Nat.le_trans hbw.out H4.out.1.size) ?_
  intro g cap V4 ho4 hg4 hat4 hlt4
  have kk : Keeps (fun k => v.ownBlock = some k) V3 V4 := Keeps.of_grown hg4 (fun k hk => hk)
  have hgt : g ≠ t := by
    rcases hat4 with h | h
    · exact H4.out.2.2.ne g h
    · have := H4.out.2.2.lt; omega
  have H5 := Lib.hid (And.intro (H4.out.1.trans (kk.below (Nat.le_trans hbw.out H4.out.1.size) (fun k hk => own_base H4.out.2.2.own k hk))) (And.intro (kk.range H4.out.2.2.row (fun h => H4.out.2.2.ne t h rfl)) (And.intro (kk.there H4.out.2.2.th (by decide) (fun h => H4.out.2.2.ne t h rfl)) (And.intro ho4 hgt))))
  clear kk hgt hat4 hlt4 hg4 ho4 H4
  refine hK _ _ ?_; clear hK K
  try simp only [Act.put, List.setIfInBounds_toArray, List.set_cons_zero, List.set_cons_succ]
  iterate 3
    refine wpS_t rfl (v := ?_) (by rfl) (fun W => ?_) ?_
    rotate_left
    · go_simp
      try rfl
    try simp only [Act.put, List.setIfInBounds_toArray, List.set_cons_zero, List.set_cons_succ]
  have h32 : V4.cell? ⟨t, 32, none⟩ = some v := by
    have := H5.out.2.1 32 v (by rw [List.getElem?_append_right (by rw [length_cellsOf]; omega), length_cellsOf]; rfl)
    rwa [Nat.zero_add] at this
  have f32 : V4.frozen? ⟨t, 32, none⟩ = false := by have := (H5.out.2.2.1 32 (by omega)).2; rwa [Nat.zero_add] at this
  refine wpS_e rfl (by rfl) (fun K hK => ?_)
  go_simp
  refine hK _ _ ?_; clear hK K
  try simp only [Act.put, List.setIfInBounds_toArray, List.set_cons_zero, List.set_cons_succ]
  refine wpS_done ?_
  clear h32 f32
  have hfin : ToldAt (V4.setCell ⟨t, 32, none⟩ (.slice (some ⟨g, 0, none⟩) (S.length + 1) cap)) t (setBit which d) (.slice (some ⟨g, 0, none⟩) (S.length + 1) cap) (S ++ [s]) base :=
    ToldAt.lay H5.out.2.1 H5.out.2.2.1 (by rw [List.length_append]; exact H5.out.2.2.2.1) (fun k hk => by
      simp only [Value.ownBlock, Option.some.injEq] at hk
      rw [← hk]; exact H5.out.2.2.2.2)
  have hk5 : Keeps (· = t) V4 (V4.setCell ⟨t, 32, none⟩ (.slice (some ⟨g, 0, none⟩) (S.length + 1) cap)) := (Keeps.refl (· = t) V4).setCell (p := ⟨t, 32, none⟩) (.inl rfl) _
  have H6 := Lib.hid (And.intro hfin (H5.out.1.trans (hk5.below (Nat.le_trans hbw.out H5.out.1.size) (fun k hk => by rw [hk]; exact hbt))))
  clear hfin hk5
  exact bodyPost_end (results_none rfl _ _ _) rfl ⟨rfl, ⟨_, H6.out.1⟩, H6.out.2⟩
end Go.Proofs.YtfmgoehnbaiamaaGreatDoor
