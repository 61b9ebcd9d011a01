/-
  Walk: maps: Pairs: what it answers lies in memory of its own, with its room.
-/
import Derived.Test.YtfmgoehnbaiamaaGreatDoorZBM
open Go Go.RowKit Alm
namespace Go.Proofs.YtfmgoehnbaiamaaGreatDoor
theorem sorted_there {w : World} {g cap n : Nat} {e : TypeId} {os : Array Obj} {cur : Array Value} {l' : List PE} (hb : w.heap[g]? = some (.cells cur e (0, 0))) (h3 : cur.size = 33 * cap) :
    (sortWorldK encP 33 w g 0 n l'.toArray os).there g 0 (cap * 33) := by
  have hg : g < w.heap.size := (Array.getElem?_eq_some_iff.1 hb).1
  have hh : (sortWorldK encP 33 w g 0 n l'.toArray os).heap[g]? = some (.cells (Sort.putCells id 0 (Sort.flatK encP 33 l'.toArray) cur) e (0, 0)) := by
    unfold sortWorldK Sort.putRowK
    rw [Sort.heap_grow_old _ _ (by simpa using hg)]
    simp [Sort.putRow, Sort.mapBlock, Sort.ahead, Array.getElem?_modify, hb, Sort.onCells]
  intro j hj
  refine ⟨?_, frozen_of_row _ g _ _ _ hh⟩
  rw [cell_of_row _ g (0 + j) _ e (0, 0) hh, Array.getElem?_eq_getElem (by simp [Sort.putCells]; omega)]
  rfl
theorem sort_lie (w : World) (g cap : Nat) (l : List PE) (cur : Array Value) (e : TypeId) (hb : w.heap[g]? = some (.cells cur e (0, 0))) (ht : cur.toList.take (33 * l.length) = cellsP l) (h1 : l.length ≤ cap) (h2 : cap ≤ maxLen) (h3 : cur.size = 33 * cap) (hl : l.length < 1000000) :
    Calls Tryz.prog 53 #[.slice (some ⟨g, 0, none⟩) l.length cap, .func (.func 54) #[] #[]] w fun e w' => e = .returned (.tuple #[]) ∧ ∃ l', l'.Perm l ∧ l'.Pairwise (fun a b => ¬ Keys.kn b.1 < Keys.kn a.1) ∧ w'.rangeAt g 0 (cellsP l') ∧ Keeps (fun i => i = g) w w' ∧ g < w'.heap.size ∧ w'.there g 0 (cap * 33) := by
  have eg : ∀ args w, (callFunc 54 args).run Tryz.prog w = .ok (.enter 54 args) w := enters_of Tryz.func54 (by kernel_rfl) rfl
  have hcon := AnyQ.slices_SortFunc Tryz.sortPair 33 aggPair sizePair encP length_encP one_encP (fun x y : PE => kcmp x.1 y.1) swo_kcmp 54 #[] g 0 cap l.toArray w eg (order_lays g 0 l.toArray.size w) (holdsP hb ht) (Array.getElem?_eq_some_iff.1 hb).1 (by simp; omega)
  change Calls Tryz.prog 53 _ _ _ at hcon
  rw [List.size_toArray] at hcon
  refine hcon.mono ?_
  rintro e1 w1 ⟨rfl, d', n, os, hp, hs, rfl⟩
  obtain ⟨hsz, _, hperm⟩ := hp
  have hd : d' = d'.toList.toArray := by simp
  have hlen : d'.toList.length = l.length := by simpa using hsz
  have hperm' : d'.toList.Perm l := by
    have e1 : d'.extract 0 l.length = d' := by
      rw [← hlen]; simp
    have e2 : l.toArray.extract 0 l.length = l.toArray := by simp
    rw [e1, e2] at hperm
    simpa using hperm
  obtain ⟨r1, r2, r3⟩ := sortedP (w := w) (g := g) (cap := cap) (n := n) (os := os) (l := l) (l' := d'.toList) hlen hb h2 h1 h3
  rw [← hd] at r1 r2 r3
  refine ⟨rfl, d'.toList, hperm', ?_, r1, r2, r3, by have r4 := sorted_there (g := g) (n := n) (os := os) (l' := d'.toList) hb h3; rw [← hd] at r4; exact r4⟩
  rw [List.pairwise_iff_getElem]
  intro i j hi hj hij
  have := hs i j (Nat.zero_le _) hij (by omega)
  rw [ltOf_kcmp] at this
  have hi' : i < d'.size := by simpa using hi
  have hj' : j < d'.size := by simpa using hj
  rw [getElem!_pos d' i hi', getElem!_pos d' j hj'] at this
  simpa using this
/-- No two of them lie in one block. -/
def Apart2 (cs : List (PE × List UInt8)) : Prop := cs.Pairwise fun a b => ∀ k, (peV a.1).ownBlock = some k → (peV b.1).ownBlock ≠ some k
/-- Pairs of one's own: the row, and the bytes of each, all apart. -/
structure PairsL (W : World) (base : Nat) (v : Value) (cs : List (PE × List UInt8)) : Prop where
  row : Lie W base 33 v (cs.map fun c => encP c.1)
  each : ∀ c ∈ cs, Lie W base 1 (peV c.1) (ones c.2)
  apart : Apart2 cs
  off : ∀ c ∈ cs, ∀ k, (peV c.1).ownBlock = some k → v.ownBlock ≠ some k
theorem flat_encP (cs : List (PE × List UInt8)) : (cs.map fun c => encP c.1).flatten = cellsP (cs.map Prod.fst) := by
  unfold cellsP
  rw [List.flatMap_def, List.map_map]; rfl
theorem PairsL.keep {X : Nat → Prop} {W W' : World} {base : Nat} {v : Value} {cs : List (PE × List UInt8)} (h : PairsL W base v cs) (hk : Keeps X W W') (hv : ∀ k, v.ownBlock = some k → ¬ X k) (hx : ∀ c ∈ cs, ∀ k, (peV c.1).ownBlock = some k → ¬ X k) : PairsL W' base v cs :=
  ⟨h.row.keep hk hv, fun c hc => (h.each c hc).keep hk (hx c hc), h.apart, h.off⟩
theorem PairsL.below {W W' : World} {base : Nat} {v : Value} {cs : List (PE × List UInt8)} (h : PairsL W base v cs) (hb : Below W.heap.size W W') : PairsL W' base v cs := h.keep (X := fun _ => False) (Keeps.of_below hb) (fun _ _ h => h) (fun _ _ _ _ h => h)
theorem PairsL.pairs {W : World} {base : Nat} {v : Value} {cs : List (PE × List UInt8)} (h : PairsL W base v cs) {P : List Keys.Pr} (hP : cs.map (fun c => (c.1.1, c.2)) = P) : PairsAt W v P := by
  have hl : P.length = cs.length := by rw [← hP, List.length_map]
  have hE : ∀ c ∈ cs, BytesAt W (peV c.1) c.2 := fun c hc => lie_bytes (h.each c hc)
  rcases h.row with ⟨rfl, h0⟩ | ⟨g, cap, rfl, _, _, h1, h2, hr, _⟩
  · have hc : cs = [] := by simpa using h0
    subst hc
    simp at hP
    subst hP
    exact ⟨none, 0, [], rfl, Nat.le_refl _, by decide, rfl, (fun c hc => by cases hc), .inl rfl⟩
  · rw [List.length_map] at h1
    exact ⟨_, cap, cs, by rw [hl, List.length_map], by rw [hl]; exact h1, h2, hP, hE, .inr ⟨g, 0, rfl, by rw [flat_encP] at hr; exact hr⟩⟩
set_option maxRecDepth 100000 in
theorem clip_pairsL (w : World) (base : Nat) (v : Value) (cs : List (PE × List UInt8)) (h : PairsL w base v cs) : Calls Tryz.prog 56 #[v] w fun e w' => ∃ v', e = .returned v' ∧ PairsL w base v' cs ∧ w = w' := by
  obtain ⟨hrow, he, ha, ho⟩ := h
  rcases hrow with ⟨rfl, h0⟩ | ⟨g, cap, rfl, h1, h2, h3, h4, h5, h6, h7⟩
  · go_enter Tryz.func56, Tryz.ntmps56
    go_wp2_with fail
    refine bodyPost_ret (results_tmp rfl _ _ _) rfl ?_
    exact ⟨_, rfl, ⟨.inl ⟨rfl, h0⟩, he, ha, ho⟩, rfl⟩
  · have hn : PairsL w base (.slice (some ⟨g, 0, none⟩) (cs.map fun c => encP c.1).length (cs.map fun c => encP c.1).length) cs := ⟨.inr ⟨g, _, rfl, h1, h2, Nat.le_refl _, Nat.le_trans h3 h4, h5, fun j hj => h6 j (Nat.lt_of_lt_of_le hj (Nat.mul_le_mul_right _ h3)), h7⟩, he, ha, fun c hc k hk e => ho c hc k hk e⟩
    have HN := Lib.hid hn
    clear hn h1 h2 h5 h6 h7 he ha ho
    obtain ⟨n, hn⟩ : ∃ n, n = (cs.map fun c => encP c.1).length := ⟨_, rfl⟩
    rw [← hn] at HN h3 ⊢
    clear hn
    have k1 : (n : Int) ≤ (cap : Int) := by omega
    unfold maxLen at h4
    go_enter Tryz.func56, Tryz.ntmps56
    go_wp2_with fail
    refine bodyPost_ret (results_tmp rfl _ _ _) rfl ?_
    exact ⟨_, rfl, HN.out, rfl⟩
/-- What a round of Pairs has in hand. -/
structure PQ (w : World) (p b n q z : Nat) (l : List Ent) (N k : Nat) (cs : List (PE × List UInt8)) (left : Lit → Bool) (cnt : Nat) (x : Sum) (v : Value) (bs : List UInt8) (W : World) : Prop where
  map : MapIn W p b n l
  val : BytesAt W v bs
  each : ∀ c ∈ cs, Lie W (w.heap.size + 1) 1 (peV c.1) (ones c.2)
  apart : Apart2 cs
  below : Below w.heap.size w W
  own : W.ownsRow w.heap.size 41 33 (.slice (some ⟨w.heap.size, 0, none⟩) k N) k (cellsP (cs.map Prod.fst))
  rng : W.ranges Tryz.prog 24 rEl b q n (encD l) left cnt
  key : W.rangeAt z 0 (cellsOf x)
  lt : w.heap.size < W.heap.size
theorem PQ.next {w : World} {p b n q z : Nat} {l : List Ent} {N k : Nat} {cs : List (PE × List UInt8)} {left : Lit → Bool} {cnt : Nat} {x : Sum} {v : Value} {bs : List UInt8} {W W' : World} (h : PQ w p b n q z l N k cs left cnt x v bs W) (hb : Below W.heap.size W W') : PQ w p b n q z l N k cs left cnt x v bs W' :=
  have kk : Keeps (fun _ => False) W W' := Keeps.of_below hb
  ⟨h.map.below hb, bytes_below h.val hb (Nat.le_refl _), fun c hc => (h.each c hc).below hb, h.apart, h.below.trans (hb.mono h.below.size), kk.owns h.own (fun _ _ h => h),
    h.rng.kept (grown_below hb) (by simp) (by simp), kk.range h.key (fun h => h), Nat.lt_of_lt_of_le h.lt hb.size⟩
theorem PQ.drew {w : World} {p b n q z : Nat} {l : List Ent} {N k : Nat} {cs : List (PE × List UInt8)} {left : Lit → Bool} {cnt : Nat} {x : Sum} {v : Value} {bs : List UInt8} {W : World} (h : PQ w p b n q z l N k cs left cnt x v bs W) : PQ w p b n q z l N k cs left cnt x v bs W.drew :=
  h.next (Below.refl _ _).drew
set_option maxRecDepth 100000 in
set_option maxHeartbeats 2000000 in
theorem mpairs_lie (w : World) (p b n : Nat) (l : List Ent) (h : MapIn w p b n l) (hn : l.length < 100000) : Calls Tryz.prog 15 #[.pointer (some ⟨p, 0, none⟩)] w fun e w' => ∃ v cs, e = .returned v ∧ PairsL w' w.heap.size v cs ∧ cs.map (fun c => (c.1.1, c.2)) = prs l ∧ Below w.heap.size w w' := by
  obtain ⟨i0, z0p, hi0, hz0, hs0, hb0, hzs0⟩ := info_pair
  have hc := h.cell
  have hsize : Maps.size (encD l) = l.length := by simp [Maps.size, encD]
  have HI := Lib.hid (And.intro hi0 (And.intro hz0 (And.intro hs0 (And.intro hb0 hzs0))))
  have HM := Lib.hid h
  have HZ := Lib.hid hsize
  have HL := Lib.hid hn
  clear hi0 hz0 hs0 hb0 hzs0 h hsize hn
  obtain ⟨N, hN⟩ : ∃ N, N = l.length := ⟨_, rfl⟩
  rw [← hN] at HZ HL
  have HN := Lib.hid hN
  clear hN
  go_enter Tryz.func15, Tryz.ntmps15
  go_wp2_with (first
    | (go_at_call 48; refine (mnone_live _ p b hc).mono ?_; rintro e w1 ⟨rfl, rfl⟩)
    | (at_len; refine wpList_len_own _ rfl _ 91 rfl 24 39 Tryz.underlying91 rEl b n (encD l) rfl HM.out.map ?_; rw [HZ.out])
    | (at_make; refine wpList_make_own _ rfl _ _ _ rfl w.heap.size 41 i0 z0p 33 Tryz.underlying22 HI.out.1 HI.out.2.1 HI.out.2.2.1 .i64 .i64 (N : Int) N rfl rfl rfl (by rw [HI.out.2.2.2.1]; have := HL.out; omega) (by unfold maxLen; have := HL.out; omega) (Nat.le_refl _) ?_; intro w2 ho2 hg2; have HM2 := Lib.hid (HM.out.keep (X := fun _ => False) (Keeps.of_grown hg2 (fun k hk => by cases hk)) (fun h => h) (fun h => h) (fun _ _ _ _ h => h)); have hc2 := HM2.out.cell; have HB2 := Lib.hid (Keeps.below (B := w.heap.size) (Keeps.of_grown (X := fun _ => False) hg2 (fun k hk => by cases hk)) (Nat.le_refl _) (fun _ h => h.elim)); have HO2 := Lib.hid ho2; clear hg2 hc ho2)
    | (at_range; refine wpList_range_own _ rfl _ 91 rfl 24 39 keyLaw Tryz.underlying91 rEl b n (encD l) rfl HM2.out.map ?_; intro w3 hrg3 hg3 hs3))
  have k3 : Keeps (fun _ => False) w2 w3 := Keeps.of_grown hg3 (fun k hk => by cases hk)
  have hM3 : MapIn w3 p b n l := HM2.out.keep k3 (fun h => h) (fun h => h) (fun _ _ _ _ h => h)
  have hB3 : Below w.heap.size w w3 := HB2.out.trans (k3.below HB2.out.size (fun _ h => h.elim))
  have hO3 := k3.owns HO2.out (fun _ _ h => h)
  rw [HZ.out] at hrg3
  have hq : w.heap.size < w2.heap.size := own_lt HO2.out rfl
  have hbq : b < w2.heap.size := HM2.out.lt.2
  have hbw : b < w.heap.size := HM.out.lt.2
  have H3 := Lib.hid (And.intro hM3 (And.intro hB3 (And.intro hO3 hrg3)))
  have HQ := Lib.hid (And.intro hq (And.intro hbq hbw))
  clear hrg3 hg3 hs3 k3 hM3 hB3 hO3 hq hbq hbw HM2 hc2 HB2 HO2
  generalize w2.heap.size = q at *
  go_frame
  go_loopw [3] (fun s W => ∃ (left : Lit → Bool) (cnt k : Nat) (cs : List (PE × List UInt8)), s = .slice (some ⟨w.heap.size, 0, none⟩) k N ∧ cs.length = k ∧ k + cnt ≤ N ∧ Coll l left cs ∧ ((∀ c ∈ cs, Lie W (w.heap.size + 1) 1 (peV c.1) (ones c.2)) ∧ Apart2 cs) ∧ MapIn W p b n l ∧ Below w.heap.size w W ∧
    W.ownsRow w.heap.size 41 33 (.slice (some ⟨w.heap.size, 0, none⟩) k N) k (cellsP (cs.map Prod.fst)) ∧ W.ranges Tryz.prog 24 rEl b q n (encD l) left cnt) (fun _ W => W.rangeLeft b q)
  case atStart => exact ⟨_, N, 0, [], rfl, rfl, by omega, Coll.start l, ⟨fun _ h => (List.not_mem_nil h).elim, List.Pairwise.nil⟩, H3.out.1, H3.out.2.1, H3.out.2.2.1, H3.out.2.2.2⟩
  case round =>
    clear H3
    obtain ⟨left, cnt, k, cs, rfl, hk, hkc, hcoll, hbs, hM, hB, hO, hrg⟩ := hrel
    have HK := Lib.hid (And.intro hk (And.intro hkc hcoll))
    have HR := Lib.hid (And.intro hbs (And.intro hM (And.intro hB (And.intro hO hrg))))
    clear hk hkc hcoll hbs hM hB hO hrg
    go_wp2_with (at_next; refine wpList_next_ranges _ rfl _ rfl 24 keyLaw rEl (fun x : Sum => sv x) (fun c : Option Addr × Nat × Nat => Value.slice c.1 c.2.1 c.2.2) (fun key kl h => by obtain ⟨x, hx, _⟩ := keyOf_inv h; exact ⟨x, hx⟩) (fun v y h => rEl_inv h) b q n _ left cnt rfl HR.out.2.2.2.2 ?_ ?_)
    case refine_1 =>
      intro h0 hl0
      obtain ⟨hbs, hM, hB, hO, hrg⟩ := HR.out
      obtain ⟨hk, hkc, hcoll⟩ := HK.out
      rcases hO.2 with ⟨hv, _⟩ | ⟨g', cap', cur, hv, hbase, hg, hnc, hcm, hsz, htk⟩
      · cases hv
      simp only [Value.slice.injEq, Option.some.injEq, Addr.mk.injEq, and_true, true_and] at hv
      obtain ⟨rfl, rfl⟩ := hv
      have hlen : (cs.map Prod.fst).length = k := by rw [List.length_map, hk]
      have hsort := sort_lie wr w.heap.size N (cs.map Prod.fst) cur _ hg (by rw [hlen, Nat.mul_comm]; exact htk) (by rw [hlen]; exact hnc) hcm (by rw [hsz, Nat.mul_comm]) (by rw [hlen]; have := HL.out; omega)
      rw [hlen] at hsort
      have HSO := Lib.hid hsort
      have HX := Lib.hid (And.intro hl0 (And.intro hnc hcm))
      clear h0 hl0 hbs hM hB hO hrg hk hkc hcoll hbase hg hnc hcm hsz htk hlen hsort
      go_wp2_with fail
      refine HSO.out.mono ?_
      rintro e w5 ⟨rfl, l', hperm, hsorted, hr5, hk5, hlt5, hth5⟩
      obtain ⟨hbs, hM, hB, hO, hrg⟩ := HR.out
      obtain ⟨hk, hkc, hcoll⟩ := HK.out
      obtain ⟨cs', hp', rfl⟩ := perm_of_map Prod.fst hperm cs rfl
      have hdone := hcoll.done HX.out.1 hM.rise hp' (by
        have := hsorted
        rw [List.pairwise_map] at this
        exact this)
      have hlen : (prs l).length = k := by rw [← hdone, List.length_map, hp'.length_eq, hk]
      have hk5' : Keeps (fun i => i = w.heap.size) w5 w5 := Keeps.refl _ _
      have hbs5 : ∀ c ∈ cs', Lie w5 (w.heap.size + 1) 1 (peV c.1) (ones c.2) := fun c hc => by
        have hb0 := hbs.1 c (hp'.mem_iff.1 hc)
        exact hb0.keep hk5 (fun i hi hx => by have := (hb0.lt i hi).1; omega)
      have hlc : (cs'.map fun c => encP c.1).length = k := by rw [List.length_map, hp'.length_eq, hk]
      have hP : PairsL w5 w.heap.size (.slice (some ⟨w.heap.size, 0, none⟩) k N) cs' := ⟨.inr ⟨_, N, by rw [hlc], Nat.le_refl _, hlt5, by rw [hlc]; exact HX.out.2.1, HX.out.2.2, by rw [flat_encP]; exact hr5, hth5, fun x hx => by
        obtain ⟨c, _, rfl⟩ := List.mem_map.1 hx
        exact length_encP _⟩, fun c hc => (hbs5 c hc).mono (Nat.le_succ _), hp'.symm.pairwise hbs.2 (fun {_ _} h k h1 h2 => h k h2 h1), fun c hc i hi e => by
        obtain rfl : w.heap.size = i := by simpa [Value.ownBlock] using e
        have := ((hbs5 c hc).lt _ hi).1; omega⟩
      have hB5 : Below w.heap.size w w5 := hB.trans (hk5.below hB.size (fun k hk => by rw [hk]; exact Nat.le_refl _))
      have H5 := Lib.hid (And.intro hP (And.intro hdone hB5))
      clear hP hB5 hbs5 hlc hk5' hlen hdone hp' hbs hM hB hO hrg hk hkc hcoll hperm hsorted hr5 hk5 hlt5 hth5 HSO HX HK HR
      go_wp2_with (go_at_call 56; refine (clip_pairsL w5 w.heap.size _ cs' H5.out.1).mono ?_; rintro e w6 ⟨v', rfl, hP6, rfl⟩; have H6 := Lib.hid hP6; clear hP6)
      refine bodyPost_ret (results_tmp rfl _ _ _) rfl ?_
      exact ⟨_, cs', rfl, H6.out, H5.out.2.1, H5.out.2.2⟩
    case refine_2 =>
      intro x ad m c kl y ps w4 cnt4 hkey hleft hR hat hrg4 hlt4 hg4 hs4 hen
      obtain ⟨x', hx', rfl⟩ := keyOf_inv hkey
      obtain rfl : x = x' := sv_inj hx'
      have hy : y = .held (.slice ad m c) := by
        simp only [rEl, Option.some.injEq, Prod.mk.injEq] at hR
        exact hR.1.symm
      subst hy
      obtain ⟨e0, he0, rfl, hev⟩ := at_found hat
      obtain ⟨hbs, hM, hB, hO, hrg⟩ := HR.out
      obtain ⟨hk, hkc, hcoll⟩ := HK.out
      have kk : Keeps (fun i => i = q) wr w4 := Keeps.of_grown hg4 (fun k hk => by cases hk; rfl)
      have hon := on_iter hrg
      have hM4 := hM.maps hon kk (by have := HQ.out; omega)
      have hv4 : BytesAt w4 (.slice ad m c) e0.2.2 := by rw [← hev]; exact (hM4.vals e0 he0).1
      have hlen4 : e0.2.2.length ≤ 256 := (hM4.vals e0 he0).2.2
      have hbs4 : (∀ c ∈ cs, Lie w4 (w.heap.size + 1) 1 (peV c.1) (ones c.2)) ∧ Apart2 cs := ⟨fun c hc => Lie.maps (hbs.1 c hc) hon kk, hbs.2⟩
      have hB4 : Below w.heap.size w w4 := hB.trans (kk.below hB.size (fun k hk => by rw [hk]; exact Nat.le_of_lt HQ.out.1))
      have hO4 := kk.owns hO (fun k hk hx => by simp only [Value.ownBlock, Option.some.injEq] at hk; have := HQ.out; omega)
      have hmem : (e0.1, e0.2.2) ∈ prs l := List.mem_map.2 ⟨e0, he0, rfl⟩
      have hle := hrg4.left_eq
      have H4 := Lib.hid (And.intro hM4 (And.intro hv4 (And.intro hlen4 (And.intro hbs4 (And.intro hB4 (And.intro hO4 hrg4))))))
      have HY := Lib.hid (And.intro hleft (And.intro hmem (And.intro hlt4 (And.intro hrg.left_eq hs4))))
      have hsz4 : w.heap.size < w4.heap.size := own_lt hO4 rfl
      have HS4 := Lib.hid hsz4
      clear hkey hleft hR hat hrg4 hlt4 hg4 hs4 hev hx' hbs hM hB hO hrg hk hkc hcoll kk hon hM4 hv4 hlen4 hbs4 hB4 hO4 hmem hle HR hsz4
      generalize e0.2.2 = bs at *
      generalize e0.1 = x at *
      clear he0 e0
      go_wp2_with (refine wpList_var_sum (by rfl) rfl _ _ rfl x rfl rfl ?_; intro W6 hb6 hr6 _; have H6 := Lib.hid (And.intro hb6 hr6); clear hb6 hr6 hen)
      obtain ⟨z, hz⟩ : ∃ z, z = w4.heap.size := ⟨_, rfl⟩
      have hP : PQ w p b n q z l N k cs (fun z => left z && !z.sameKey (.string x.toList)) cnt4 x (.slice ad m c) bs W6 := by
        obtain ⟨h1, h2, h3, h4, h5, h6, h7⟩ := H4.out
        have hb := H6.out.1
        have kk : Keeps (fun _ => False) w4 W6 := Keeps.of_below hb
        exact ⟨h1.below hb, bytes_below h2 hb (Nat.le_refl _), fun c hc => (h4.1 c hc).below hb, h4.2, h5.trans (hb.mono h5.size), kk.owns h6 (fun _ _ h => h), h7.kept (grown_below hb) (by simp) (by simp), by rw [hz]; exact H6.out.2, Nat.lt_of_lt_of_le HS4.out hb.size⟩
      have HP := Lib.hid hP.drew
      have HBL := Lib.hid H4.out.2.2.1
      rw [← hz]
      clear hP H4 H6 hz
      obtain ⟨lf, hlf⟩ : ∃ f : Lit → Bool, f = fun z => left z && !z.sameKey (.string x.toList) := ⟨_, rfl⟩
      rw [← hlf] at HP
      have HLF := Lib.hid hlf
      clear hlf
      refine wp_region_sched (fun V => PQ w p b n q z l N k cs lf cnt4 x (.slice ad m c) bs V) [.t 0, .t 2, .s 1, .e 3 true, .e 4 true, .t 5, .e 6 false, .e 7 false, .t 8] (by kernel_rfl) (by kernel_rfl) (by intro c a d v w h; cases d <;> exact h) ?_
      change wpS _ _ _ _ _ _ _ (World.drew _)
      generalize W6.drew = V at *
      iterate 2
        refine wpS_t rfl (v := ?_) (by rfl) (fun W => ?_) ?_
        rotate_left
        · go_simp
          try rfl
        try simp only [Act.put, List.setIfInBounds_toArray, List.set_cons_zero, List.set_cons_succ]
      refine wpS_load_sum HP.out rfl (by rfl) _ (by rfl) z 0 (by rfl) x (fun W hW => hW.key) ?_
      try simp only [Act.put, List.setIfInBounds_toArray, List.set_cons_zero, List.set_cons_succ]
      refine wpS_k rfl (by rfl) (fun K hK => ?_)
      go_simp
      refine (clone_lie V _ bs HP.out.val (by have := HBL.out; omega)).mono ?_
      rintro e V1 ⟨v1, rfl, hn1, hb1⟩
      have HP1 := Lib.hid (HP.out.next hb1)
      have HN1 := Lib.hid (show Lie V1 V.heap.size 1 v1 (ones bs) from hn1)
      have HOLD := Lib.hid (fun c hc => ((HP.out.each c hc).lt : ∀ k, (peV c.1).ownBlock = some k → w.heap.size + 1 ≤ k ∧ k < V.heap.size))
      have hlv := HP.out.lt
      have HLV := Lib.hid hlv
      clear hn1 hb1 HP hlv
      refine hK _ _ ⟨by exact HP1.out, ?_⟩; clear hK K
      try simp only [Act.put, List.setIfInBounds_toArray, List.set_cons_zero, List.set_cons_succ]
      refine wpS_k rfl (by rfl) (fun K hK => ?_)
      go_simp
      refine (clip_lie V1 V.heap.size v1 bs HN1.out).mono ?_
      rintro e V2 ⟨v2, rfl, hn2, rfl⟩
      obtain ⟨ad2, cap2, hv2⟩ := hn2.form
      rw [ones_len] at hv2
      subst hv2
      have HN2 := Lib.hid (And.intro (show Lie V1 (w.heap.size + 1) 1 (peV (x, ad2, bs.length, cap2)) (ones bs) from hn2.mono HLV.out) (show ∀ i, (peV (x, ad2, bs.length, cap2)).ownBlock = some i → V.heap.size ≤ i from fun i hi => (hn2.lt i hi).1))
      clear hn2 HN1 HLV
      refine hK _ _ ⟨by exact HP1.out, ?_⟩; clear hK K
      try simp only [Act.put, List.setIfInBounds_toArray, List.set_cons_zero, List.set_cons_succ]
      refine wpS_t rfl (v := .agg (encP (x, ad2, bs.length, cap2)).toArray) (by rfl) (fun W => exec_build_pair _ rfl (x, ad2, bs.length, cap2) (by rfl) W) ?_
      try simp only [Act.put, List.setIfInBounds_toArray, List.set_cons_zero, List.set_cons_succ]
      obtain ⟨y, hy⟩ : ∃ y : PE, y = (x, ad2, bs.length, cap2) := ⟨_, rfl⟩
      have hyx : y.1 = x := by rw [hy]
      rw [← hy] at HN2 ⊢
      refine wpS_e rfl (by rfl) (fun K hK => ?_)
      refine wp_build_pairs 1 _ (by rfl) [y] rfl (by omega) (by omega) (by rfl) ?_
      have HP2 := Lib.hid (And.intro (HP1.out.next (al (Below.refl _ _) (.cells (cellsP [y]).toArray 41))) (And.intro (HN2.out.1.below (al (Below.refl _ _) (.cells (cellsP [y]).toArray 41))) (show (V1.alloc (.cells (cellsP [y]).toArray 41)).rangeAt V1.heap.size 0 (encP y) by rw [← cellsP_one]; exact range_new _ _ _ _ rfl)))
      have HYX := Lib.hid (And.intro hy hyx)
      have HN3 := Lib.hid HN2.out.2
      have hlt1 := HP1.out.lt
      have HLT := Lib.hid hlt1
      clear HP1 HN2 hy hyx hlt1
      refine hK _ _ ?_; clear hK K
      try simp only [Act.put, List.setIfInBounds_toArray, List.set_cons_zero, List.set_cons_succ]
      generalize V1.alloc (.cells (cellsP [y]).toArray 41) = V3 at *
      refine wpS_e rfl (by rfl) (fun K hK => ?_)
      refine wp_append_pair_fits _ _ (by rfl) w.heap.size w.heap.size k N (cs.map Prod.fst) (by rfl) HP2.out.1.own V1.heap.size 0 1 y (by rfl) HP2.out.2.2 (by have := HK.out.2.1; have := HY.out.2.2.1; omega) ?_
      intro W7 ho7 hg7
      have kk : Keeps (fun i => i = w.heap.size) V3 W7 := Keeps.of_grown hg7 (fun k hk => by cases hk; rfl)
      have hcs7 : (∀ c ∈ cs ++ [(y, bs)], Lie W7 (w.heap.size + 1) 1 (peV c.1) (ones c.2)) ∧ Apart2 (cs ++ [(y, bs)]) := ⟨fun c hc => by
        rcases List.mem_append.1 hc with hc | hc
        · have h1 := HP2.out.1.each c hc
          exact h1.keep kk (fun i hi hx => by have := (h1.lt i hi).1; omega)
        · rw [List.mem_singleton] at hc
          subst hc
          have h1 := HP2.out.2.1
          exact h1.keep kk (fun i hi hx => by have := (h1.lt i hi).1; omega), by
        refine List.pairwise_append.2 ⟨HP2.out.1.apart, List.pairwise_singleton _ _, fun a ha b hb k h1 h2 => ?_⟩
        rw [List.mem_singleton] at hb
        subst hb
        have h3 := (HOLD.out a ha k h1).2
        have h4 := HN3.out k h2
        omega⟩
      have hM7 : MapIn W7 p b n l := HP2.out.1.map.keep kk (by have := HM.out.lt.1; omega) (by have := HQ.out.2.2; omega) (fun e he k hk hx => by
        have h := HM.out.vals e he
        have := bytes_lt h.1 h.2.1 hk
        omega)
      have hB7 : Below w.heap.size w W7 := HP2.out.1.below.trans (kk.below HP2.out.1.below.size (fun k hk => by rw [hk]; exact Nat.le_refl _))
      have hR7 := HP2.out.1.rng.kept hg7 (by simp; have := HQ.out.2.2; omega) (by simp; have := HQ.out.1; omega)
      rw [HLF.out] at hR7
      have hle := hR7.left_eq
      have H7 := Lib.hid (And.intro hcs7 (And.intro hM7 (And.intro hB7 (And.intro ho7 (And.intro hR7 hle)))))
      clear kk hcs7 hM7 hB7 hR7 hle hg7 ho7
      refine hK _ _ ?_; clear hK K
      try simp only [Act.put, List.setIfInBounds_toArray, List.set_cons_zero, List.set_cons_succ]
      iterate 1
        refine wpS_t rfl (v := ?_) (by rfl) (fun W => ?_) ?_
        rotate_left
        · go_simp
          try rfl
        try simp only [Act.put, List.setIfInBounds_toArray, List.set_cons_zero, List.set_cons_succ]
      refine wpS_done ?_
      go_wp2_with fail
      refine ⟨⟨_, cnt4, k + 1, cs ++ [(y, bs)], rfl, by rw [List.length_append, HK.out.1]; rfl, by have := HK.out.2.1; have := HY.out.2.2.1; omega, HK.out.2.2.step HY.out.1 HYX.out.2 HY.out.2.1, H7.out.1, H7.out.2.1, H7.out.2.2.1, by rw [List.map_append]; exact H7.out.2.2.2.1, H7.out.2.2.2.2.1⟩, ?_⟩
      rw [H7.out.2.2.2.2.2, HY.out.2.2.2.1]
      exact HY.out.2.2.1
end Go.Proofs.YtfmgoehnbaiamaaGreatDoor
