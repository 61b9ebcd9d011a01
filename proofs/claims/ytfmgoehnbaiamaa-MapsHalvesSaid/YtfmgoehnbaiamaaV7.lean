/-
  Walk: almonerlaw15.MapsHalves.
-/
import Derived.Test.YtfmgoehnbaiamaaV4
import Derived.Test.YtfmgoehnbaiamaaV2
open Go Go.RowKit Alm
namespace Go.Proofs.Ytfmgoehnbaiamaa
/-- A sum with another first byte. -/
def first (k : Sum) (c : UInt8) : Sum := k.set 0 c
theorem first_cells (k : Sum) (c : UInt8) : cellsOf (first k c) = (cellsOf k).set 0 (u8v c) := by
  unfold first cellsOf
  rw [Vector.toList_set, List.map_set]
theorem range_first {w : World} {z : Nat} {k : Sum} (c : UInt8) (h : w.rangeAt z 0 (cellsOf k)) : (w.setCell ⟨z, 0, none⟩ (u8v c)).rangeAt z 0 (cellsOf (first k c)) := by
  intro j v hj
  rw [first_cells] at hj
  by_cases h0 : j = 0
  · subst h0
    rw [List.getElem?_set_self (by rw [length_cellsOf]; omega), Option.some.injEq] at hj
    subst hj
    exact World.cell?_setCell_same _ _ _ (h 0 _ (List.getElem?_eq_getElem (by rw [length_cellsOf]; omega)))
  · rw [List.getElem?_set_ne (fun e => h0 e.symm)] at hj
    have hne : (⟨z, 0, none⟩ : Addr) ≠ ⟨z, 0 + j, none⟩ := fun e => h0 (by have := congrArg Addr.off e; simp at this; exact this.symm)
    exact (World.cell?_setCell_other _ _ _ _ hne).trans (h j v hj)
theorem first_get (k : Sum) : (cellsOf k)[0]? = some (.int .u8 ((k[0].toNat : Nat) : Int)) := by
  unfold cellsOf
  simp [u8v]
theorem and127_all : ∀ x : Fin 256, bits .and .u8 ((x.val : Nat) : Int) 127 = (((UInt8.ofNat x.val &&& 127).toNat : Nat) : Int) := by decide +kernel
theorem or128_all : ∀ x : Fin 256, bits .or .u8 ((x.val : Nat) : Int) 128 = (((UInt8.ofNat x.val ||| 128).toNat : Nat) : Int) := by decide +kernel
theorem and127 (c : UInt8) : bits .and .u8 ((c.toNat : Nat) : Int) 127 = (((c &&& 127).toNat : Nat) : Int) := by
  have := and127_all ⟨c.toNat, c.toNat_lt⟩
  simpa using this
theorem or128 (c : UInt8) : bits .or .u8 ((c.toNat : Nat) : Int) 128 = (((c ||| 128).toNat : Nat) : Int) := by
  have := or128_all ⟨c.toNat, c.toNat_lt⟩
  simpa using this
theorem top_all : ∀ x : Fin 256, ((UInt8.ofNat x.val &&& 127).toNat >>> 7) % 2 = 0 ∧ ((UInt8.ofNat x.val ||| 128).toNat >>> 7) % 2 = 1 := by decide +kernel
theorem top_bit (k : Sum) (c : UInt8) : (Keys.kn (first k c) >>> 255) % 2 = (c.toNat >>> 7) % 2 := by
  have := key_bit (first k c) 0 (by omega)
  rw [this]
  have e : (first k c).toList.getD (0 / 8) 0 = c := by
    unfold first
    rw [Vector.toList_set]
    simp
  rw [e]
/-- Two keys that part at the first bit. -/
theorem halves_root {k o : Sum} {a b : List UInt8} (ha : a ≠ []) (ha2 : a.length ≤ 256) (hb : b ≠ []) (hb2 : b.length ≤ 256) (hk : (Keys.kn k >>> 255) % 2 = 0) (ho : (Keys.kn o >>> 255) % 2 = 1) : rootOf (puts [] [(k, a), (o, b)]) = sd (own (k, a) 255) (own (o, b) 255) := by
  have l1 := Fast.snum_lt k
  have l2 := Fast.snum_lt o
  have e1 : Keys.kn k >>> 255 = 0 := by
    have h : Keys.kn k >>> 255 < 2 := by
      rw [Nat.shiftRight_eq_div_pow]
      exact Nat.div_lt_of_lt_mul l1
    omega
  have e2 : Keys.kn o >>> 255 = 1 := by
    have h : Keys.kn o >>> 255 < 2 := by
      rw [Nat.shiftRight_eq_div_pow]
      exact Nat.div_lt_of_lt_mul l2
    omega
  have hlt : Keys.kn k < Keys.kn o := by
    rw [Nat.shiftRight_eq_div_pow] at e1 e2
    exact Nat.lt_of_not_le fun h => by
      have := Nat.div_le_div_right (c := 2 ^ 255) h
      omega
  have hne : k ≠ o := fun e => by rw [e] at hlt; exact Nat.lt_irrefl _ hlt
  have hp : puts [] [(k, a), (o, b)] = [(k, a), (o, b)] := by
    show Keys.putB (Keys.putB [] k a) o b = _
    have h1 : Keys.putB [] k a = [(k, a)] := by unfold Keys.putB; rw [if_neg (by omega), if_neg ha]; rfl
    rw [h1]
    unfold Keys.putB
    rw [if_neg (by omega), if_neg hb]
    unfold Keys.put
    rw [if_neg (show ¬ Keys.kn o < Keys.kn k by omega), if_neg (fun e => hne e.symm)]
    rfl
  rw [hp]
  have t1 : (Keys.kn k).testBit 255 = false := by rw [Keys.bit_odd, hk]; rfl
  have t2 : (Keys.kn o).testBit 255 = true := by rw [Keys.bit_odd, ho]; rfl
  show Keys.at' sd z0 vl (255 + 1) [(k, a), (o, b)] = _
  rw [Keys.at']
  have f1 : [(k, a), (o, b)].filter (fun p : Keys.Pr => !(Keys.kn p.1).testBit 255) = [(k, a)] := by
    rw [List.filter_cons_of_pos (by rw [t1]; rfl), List.filter_cons_of_neg (by rw [t2]; simp)]; rfl
  have f2 : [(k, a), (o, b)].filter (fun p : Keys.Pr => (Keys.kn p.1).testBit 255) = [(o, b)] := by
    rw [List.filter_cons_of_neg (by rw [t1]; simp), List.filter_cons_of_pos (by rw [t2])]; rfl
  rw [f1, f2]
  rfl
/-- What MapsHalves has in hand. -/
structure HH (w W : World) (z3 z4 z5 : Nat) (k o : Sum) (va vb : Value) : Prop where
  bw : Below w.heap.size w W
  r3 : W.rangeAt z3 0 (cellsOf k)
  r4 : W.rangeAt z4 0 (cellsOf o)
  r5 : W.rangeAt z5 0 [va, vb]
  t3 : W.there z3 0 32
  t4 : W.there z4 0 32
  g3 : w.heap.size ≤ z3
  g4 : w.heap.size ≤ z4
  n34 : z3 ≠ z4
  n35 : z3 ≠ z5
  n45 : z4 ≠ z5
theorem HH.below {w W W' : World} {z3 z4 z5 : Nat} {k o : Sum} {va vb : Value} (h : HH w W z3 z4 z5 k o va vb) (hb : Below W.heap.size W W') : HH w W' z3 z4 z5 k o va vb :=
  have kk := Keeps.of_below (X := fun _ => False) hb
  ⟨h.bw.trans (hb.mono h.bw.size), kk.range h.r3 (fun h => h), kk.range h.r4 (fun h => h), kk.range h.r5 (fun h => h), kk.there h.t3 (by decide) (fun h => h), kk.there h.t4 (by decide) (fun h => h), h.g3, h.g4, h.n34, h.n35, h.n45⟩
/-- The same, with no more to be laid. -/
structure HR (w W : World) (z3 z4 z5 : Nat) (k o : Sum) (va vb : Value) : Prop where
  bw : Below w.heap.size w W
  r3 : W.rangeAt z3 0 (cellsOf k)
  r4 : W.rangeAt z4 0 (cellsOf o)
  r5 : W.rangeAt z5 0 [va, vb]
theorem HR.below {w W W' : World} {z3 z4 z5 : Nat} {k o : Sum} {va vb : Value} (h : HR w W z3 z4 z5 k o va vb) (hb : Below W.heap.size W W') : HR w W' z3 z4 z5 k o va vb :=
  have kk := Keeps.of_below (X := fun _ => False) hb
  ⟨h.bw.trans (hb.mono h.bw.size), kk.range h.r3 (fun h => h), kk.range h.r4 (fun h => h), kk.range h.r5 (fun h => h)⟩
theorem HH.sets {w W : World} {z3 z4 z5 : Nat} {k o : Sum} {va vb : Value} (h : HH w W z3 z4 z5 k o va vb) (c d : UInt8) : HR w ((W.setCell ⟨z3, 0, none⟩ (u8v c)).setCell ⟨z4, 0, none⟩ (u8v d)) z3 z4 z5 (first k c) (first o d) va vb :=
  have k1 : Keeps (· = z3) W (W.setCell ⟨z3, 0, none⟩ (u8v c)) := (Keeps.refl (· = z3) W).setCell (p := ⟨z3, 0, none⟩) (.inl rfl) _
  have k2 : Keeps (· = z4) (W.setCell ⟨z3, 0, none⟩ (u8v c)) ((W.setCell ⟨z3, 0, none⟩ (u8v c)).setCell ⟨z4, 0, none⟩ (u8v d)) := (Keeps.refl (· = z4) _).setCell (p := ⟨z4, 0, none⟩) (.inl rfl) _
  have b1 := h.bw.trans (k1.below h.bw.size (fun i hi => by have := h.g3; omega))
  ⟨b1.trans (k2.below b1.size (fun i hi => by have := h.g4; omega)), k2.range (range_first c h.r3) h.n34, range_first d (k1.range h.r4 (fun e => h.n34 e.symm)), k2.range (k1.range h.r5 (fun e => h.n35 e.symm)) (fun e => h.n45 e.symm)⟩
theorem wpList_build_pair {ops : Array Oper} {rest : List Oper} {op : Oper} {a : Act} {w : World} {Q : Exit → Act → World → Prop} (hgd : op.guard = none) (parts : Array (Nat × Operand)) (ho : op.op = .build 36 parts)
    (x : PE) (hp : (parts.toList.map fun (i, x) => (i, a.eval x)) = [(0, sv x.1), (1, peV x)])
    (h : wpList Try.prog ops Q rest (a.put op.dst (.agg (encP x).toArray)) w) : wpList Try.prog ops Q (op :: rest) a w :=
  wpList_build_by hgd 36 parts ho (.agg (encP x).toArray) (fun W => by
    have : (parts.map fun (i, x) => (i, a.eval x)) = #[(0, sv x.1), (1, peV x)] := by
      apply Array.toList_inj.1
      rw [Array.toList_map]; exact hp
    rw [this]
    exact build_pair x W) h
noncomputable def halvesCode : Code := (Try.f6.body).getD .skip
set_option maxRecDepth 100000 in
set_option maxHeartbeats 4000000 in
theorem halves_tail {u7 u8 u9 u10 u11 u12 u13 u14 u15 u16 u17 u18 u19 u20 u21 u22 u23 u24 u25 u26 u27 u28 u29 u30 u31 u32 u33 u34 u35 u36 u37 u38 u39 u40 u41 u42 u43 u44 u45 u46 u47 u48 u49 u50 u51 u52 u53 u54 u55 u56 u57 u58 u59 u60 u61 u62 u63 u64 u65 u66 u67 : Value} (w W : World) (k0 o0 : Sum) (k o : Sum) (z3 z4 z5 n1 n2 c1 c2 : Nat) (a1 a2 : Option Addr) (a b : List UInt8) (ha : BytesAt w (.slice a1 n1 c1) a) (hb : BytesAt w (.slice a2 n2 c2) b) (hn1 : n1 = a.length) (hn2 : n2 = b.length)
    (h : HH w W z3 z4 z5 k o (.slice a1 n1 c1) (.slice a2 n2 c2)) : Code.wp Try.prog (dropN 1 halvesCode) (bodyPost Try.prog Try.f6 fun e w' => e = .returned (.bool true) ∧ Below w.heap.size w w') ⟨#[sv k0, sv o0, .agg #[.slice a1 n1 c1, .slice a2 n2 c2], .pointer (some ⟨z3, 0, none⟩), .pointer (some ⟨z4, 0, none⟩), .pointer (some ⟨z5, 0, none⟩), .bool false, u7, u8, u9, u10, u11, u12, u13, u14, u15, u16, u17, u18, u19, u20, u21, u22, u23, u24, u25, u26, u27, u28, u29, u30, u31, u32, u33, u34, u35, u36, u37, u38, u39, u40, u41, u42, u43, u44, u45, u46, u47, u48, u49, u50, u51, u52, u53, u54, u55, u56, u57, u58, u59, u60, u61, u62, u63, u64, u65, u66, u67], []⟩ W := by
  have HB := Lib.hid (And.intro ha (And.intro hb (And.intro hn1 hn2)))
  have g1 := h.r3 0 _ (first_get k)
  have g2 := h.r4 0 _ (first_get o)
  rw [Nat.add_zero] at g1 g2
  obtain ⟨q1, hq1⟩ : ∃ q, q = k[0] := ⟨_, rfl⟩
  obtain ⟨q2, hq2⟩ : ∃ q, q = o[0] := ⟨_, rfl⟩
  rw [← hq1] at g1
  rw [← hq2] at g2
  have e1 := and127 q1
  have e2 := or128 q2
  have hs := h.sets (q1 &&& 127) (q2 ||| 128)
  have t1 := top_all ⟨q1.toNat, q1.toNat_lt⟩
  have t2 := top_all ⟨q2.toNat, q2.toNat_lt⟩
  simp only [UInt8.ofNat_toNat] at t1 t2
  obtain ⟨p1, hp1⟩ : ∃ p, p = q1 &&& 127 := ⟨_, rfl⟩
  obtain ⟨p2, hp2⟩ : ∃ p, p = q2 ||| 128 := ⟨_, rfl⟩
  rw [← hp1] at e1 hs t1
  rw [← hp2] at e2 hs t2
  have x1 : (Keys.kn (first k p1) >>> 255) % 2 = 0 := by rw [top_bit]; exact t1.1
  have x2 : (Keys.kn (first o p2) >>> 255) % 2 = 1 := by rw [top_bit]; exact t2.2
  unfold u8v at hs
  obtain ⟨K, hK⟩ : ∃ x, x = first k p1 := ⟨_, rfl⟩
  obtain ⟨O, hO⟩ : ∃ x, x = first o p2 := ⟨_, rfl⟩
  rw [← hK] at hs x1
  rw [← hO] at hs x2
  obtain ⟨m1, hm1⟩ : ∃ m, m = q1.toNat := ⟨_, rfl⟩
  obtain ⟨m2, hm2⟩ : ∃ m, m = q2.toNat := ⟨_, rfl⟩
  obtain ⟨s1, hs1⟩ : ∃ m, m = p1.toNat := ⟨_, rfl⟩
  obtain ⟨s2, hs2⟩ : ∃ m, m = p2.toNat := ⟨_, rfl⟩
  rw [← hm1] at g1 e1
  rw [← hm2] at g2 e2
  rw [← hs1] at e1 hs
  rw [← hs2] at e2 hs
  have k1 : Keeps (· = z3) W (W.setCell ⟨z3, 0, none⟩ (.int .u8 (s1 : Int))) := (Keeps.refl (· = z3) W).setCell (p := ⟨z3, 0, none⟩) (.inl rfl) _
  have g2' := k1.cell g2 (fun e => h.n34 e.symm)
  have f1 := (h.t3 0 (by decide)).2
  have f2 := ((k1.there h.t4 (by decide) (fun e => h.n34 e.symm)) 0 (by decide)).2
  have HS := Lib.hid (And.intro hs (And.intro x1 x2))
  clear hq1 hq2 hp1 hp2 hm1 hm2 hs1 hs2 hK hO t1 t2 ha hb h hn1 hn2 hs x1 x2 k1 g2 p1 p2 q1 q2 k o
  have x5 := HS.out.1.r5 0 _ rfl
  have x6 := HS.out.1.r5 1 _ rfl
  rw [Nat.add_zero] at x5
  rw [Nat.zero_add] at x6
  conv => arg 2; whnf
  by_cases hc1 : n1 = 0
  · have fn1 : decide (n1 = 0) = true := by simpa using hc1
    have fn1' : decide ((n1 : Int) = 0) = true := by simp; omega
    have fn1'' : ((n1 : Int) == 0) = true := by rw [beq_iff_eq]; omega
    go_wp2_with fail
    refine (alive15_any _).mono ?_
    rintro e W9 ⟨rfl, hb⟩
    have HZ := Lib.hid (HS.out.1.bw.trans (hb.mono HS.out.1.bw.size))
    clear hb HS
    go_wp2_with fail
    exact bodyPost_ret (results_tmp rfl _ _ _) rfl ⟨rfl, HZ.out⟩

  · have fn1 : decide (n1 = 0) = false := by simpa using hc1
    have fn1' : decide ((n1 : Int) = 0) = false := by simp; omega
    have fn1'' : ((n1 : Int) == 0) = false := by rw [beq_eq_false_iff_ne]; omega

    by_cases hc2 : 256 < n1
    · have qn1 : decide (256 < n1) = true := by simpa using hc2
      have qn1' : decide ((256 : Int) < (n1 : Int)) = true := by simp; omega
      go_wp2_with fail
      refine (alive15_any _).mono ?_
      rintro e W9 ⟨rfl, hb⟩
      have HZ := Lib.hid (HS.out.1.bw.trans (hb.mono HS.out.1.bw.size))
      clear hb HS
      go_wp2_with fail
      exact bodyPost_ret (results_tmp rfl _ _ _) rfl ⟨rfl, HZ.out⟩

    · have qn1 : decide (256 < n1) = false := by simpa using hc2
      have qn1' : decide ((256 : Int) < (n1 : Int)) = false := by simp; omega

      by_cases hc3 : n2 = 0
      · have fn2 : decide (n2 = 0) = true := by simpa using hc3
        have fn2' : decide ((n2 : Int) = 0) = true := by simp; omega
        have fn2'' : ((n2 : Int) == 0) = true := by rw [beq_iff_eq]; omega
        go_wp2_with fail
        refine (alive15_any _).mono ?_
        rintro e W9 ⟨rfl, hb⟩
        have HZ := Lib.hid (HS.out.1.bw.trans (hb.mono HS.out.1.bw.size))
        clear hb HS
        go_wp2_with fail
        exact bodyPost_ret (results_tmp rfl _ _ _) rfl ⟨rfl, HZ.out⟩

      · have fn2 : decide (n2 = 0) = false := by simpa using hc3
        have fn2' : decide ((n2 : Int) = 0) = false := by simp; omega
        have fn2'' : ((n2 : Int) == 0) = false := by rw [beq_eq_false_iff_ne]; omega

        by_cases hc4 : 256 < n2
        · have qn2 : decide (256 < n2) = true := by simpa using hc4
          have qn2' : decide ((256 : Int) < (n2 : Int)) = true := by simp; omega
          go_wp2_with fail
          refine (alive15_any _).mono ?_
          rintro e W9 ⟨rfl, hb⟩
          have HZ := Lib.hid (HS.out.1.bw.trans (hb.mono HS.out.1.bw.size))
          clear hb HS
          go_wp2_with fail
          exact bodyPost_ret (results_tmp rfl _ _ _) rfl ⟨rfl, HZ.out⟩

        · have qn2 : decide (256 < n2) = false := by simpa using hc4
          have qn2' : decide ((256 : Int) < (n2 : Int)) = false := by simp; omega

          have HCC := Lib.hid (show n1 ≠ 0 ∧ n1 ≤ 256 ∧ n2 ≠ 0 ∧ n2 ≤ 256 from ⟨hc1, by omega, hc3, by omega⟩)
          have ha9 := bytes_below HB.out.1 HS.out.1.bw (Nat.le_refl _)
          have hb9 := bytes_below HB.out.2.1 HS.out.1.bw (Nat.le_refl _)
          have HAB := Lib.hid (And.intro ha9 hb9)
          clear ha9 hb9
          have HHA := Lib.hid (half_any K a _ _ HAB.out.1 (by rw [← HB.out.2.2.1]; exact HCC.out.2.1))
          obtain ⟨A, hA⟩ : ∃ A, A = own (K, a) 255 := ⟨_, rfl⟩
          obtain ⟨B, hB⟩ : ∃ B, B = own (O, b) 255 := ⟨_, rfl⟩
          rw [← hA] at HHA
          have HA := Lib.hid (And.intro hA hB)
          clear hA hB
          have HG := Lib.hid trivial
          go_wp2_with (have _ := HG; refine wpList_load_sum rfl _ rfl z3 0 rfl K HS.out.1.r3 ?_; clear HG)
          refine HHA.out.mono ?_
          rintro e W5 ⟨rfl, hb⟩
          have H5 := Lib.hid (And.intro (HS.out.1.below hb) (And.intro (bytes_below HAB.out.1 hb (Nat.le_refl _)) (bytes_below HAB.out.2 hb (Nat.le_refl _))))
          have HX := Lib.hid HS.out.2
          clear hb HHA HAB HS x5 x6 g1 g2' f1 f2
          have HG := Lib.hid trivial
          go_wp2_with (first
            | (have _ := HG; refine wpList_var_sum (by rfl) rfl _ _ rfl A rfl rfl ?_; intro W6 hb hr _; obtain ⟨z7, hz7⟩ : ∃ x, x = W5.heap.size := ⟨_, rfl⟩; rw [← hz7] at hr ⊢; have H6 := Lib.hid (And.intro (H5.out.1.below hb) (And.intro (bytes_below H5.out.2.1 hb (Nat.le_refl _)) (And.intro (bytes_below H5.out.2.2 hb (Nat.le_refl _)) hr))); have x6 := H6.out.1.r5 1 _ rfl; rw [Nat.zero_add] at x6; clear HG hb hr hz7 H5)
            | (refine wpList_load_sum rfl _ rfl z4 0 rfl O H6.out.1.r4 ?_))
          have HHB := Lib.hid (half_any O b _ _ H6.out.2.2.1 (by rw [← HB.out.2.2.2]; exact HCC.out.2.2.2))
          rw [← HA.out.2] at HHB
          refine HHB.out.mono ?_
          rintro e W7 ⟨rfl, hb⟩
          have H7 := Lib.hid (And.intro (H6.out.1.below hb) (And.intro (bytes_below H6.out.2.1 hb (Nat.le_refl _)) (And.intro (bytes_below H6.out.2.2.1 hb (Nat.le_refl _)) ((Keeps.of_below (X := fun _ => False) hb).range H6.out.2.2.2 (fun h => h)))))
          clear hb HHB H6 x6
          have HG := Lib.hid trivial
          go_wp2_with (first
            | (have _ := HG; refine wpList_var_sum (by rfl) rfl _ _ rfl B rfl rfl ?_; intro W8 hb hr _; obtain ⟨z8, hz8⟩ : ∃ x, x = W7.heap.size := ⟨_, rfl⟩; rw [← hz8] at hr ⊢; have H8 := Lib.hid (And.intro (H7.out.1.below hb) (And.intro (bytes_below H7.out.2.1 hb (Nat.le_refl _)) (And.intro (bytes_below H7.out.2.2.1 hb (Nat.le_refl _)) (And.intro ((Keeps.of_below (X := fun _ => False) hb).range H7.out.2.2.2 (fun h => h)) hr)))); have x5 := H8.out.1.r5 0 _ rfl; rw [Nat.add_zero] at x5; have x6 := H8.out.1.r5 1 _ rfl; rw [Nat.zero_add] at x6; clear HG hb hr hz8 H7)
            | (refine wpList_load_sum rfl _ rfl z3 0 rfl K H8.out.1.r3 ?_)
            | (refine wpList_load_sum rfl _ rfl z4 0 rfl O H8.out.1.r4 ?_)
            | (refine wpList_build_pair rfl _ rfl (K, a1, n1, c1) rfl ?_)
            | (refine wpList_build_pair rfl _ rfl (O, a2, n2, c2) rfl ?_)
            | (refine wpList_build_pairs rfl 2 _ rfl [(K, a1, n1, c1), (O, a2, n2, c2)] rfl (by omega) (by omega) rfl ?_))
          have hb9 := al (Below.refl W8.heap.size W8) (.cells (cellsP [(K, a1, n1, c1), (O, a2, n2, c2)]).toArray 36)
          have hpr : PairsAt (W8.alloc (.cells (cellsP [(K, a1, n1, c1), (O, a2, n2, c2)]).toArray 36)) (.slice (some ⟨W8.heap.size, 0, none⟩) 2 2) [(K, a), (O, b)] :=
            ⟨_, 2, [((K, a1, n1, c1), a), ((O, a2, n2, c2), b)], rfl, Nat.le_refl _, by unfold maxLen; omega, rfl, fun c hc => by
              simp only [List.mem_cons, List.not_mem_nil, or_false] at hc
              rcases hc with rfl | rfl
              · exact bytes_below H8.out.2.1 hb9 (Nat.le_refl _)
              · exact bytes_below H8.out.2.2.1 hb9 (Nat.le_refl _), .inr ⟨_, 0, rfl, range_new W8 (cellsP [(K, a1, n1, c1), (O, a2, n2, c2)]).toArray 36 _ rfl⟩⟩
          have kk := Keeps.of_below (X := fun _ => False) hb9
          have H9 := Lib.hid (And.intro (H8.out.1.bw.trans (hb9.mono H8.out.1.bw.size)) (And.intro (kk.range H8.out.2.2.2.1 (fun h => h)) (kk.range H8.out.2.2.2.2 (fun h => h))))
          have hla : a ≠ [] := fun e => HCC.out.1 (by rw [HB.out.2.2.1, e]; rfl)
          have hlb : b ≠ [] := fun e => HCC.out.2.2.1 (by rw [HB.out.2.2.2, e]; rfl)
          have hroot : rootOf (puts [] [(K, a), (O, b)]) = sd A B := by
            rw [HA.out.1, HA.out.2]
            exact halves_root hla (by rw [← HB.out.2.2.1]; exact HCC.out.2.1) hlb (by rw [← HB.out.2.2.2]; exact HCC.out.2.2.2) HX.out.1 HX.out.2
          have HRT := Lib.hid hroot
          clear hla hlb hroot kk hb9
          have HOF := Lib.hid (mof_any _ _ _ hpr (by simp))
          clear hpr H8 x5 x6
          refine HOF.out.mono ?_
          rintro e W10 ⟨p, q, l, rfl, hm, hp, _, _, _, hb⟩
          have kk := Keeps.of_below (X := fun _ => False) hb
          have H10 := Lib.hid (And.intro (H9.out.1.trans (hb.mono H9.out.1.size)) (And.intro (kk.range H9.out.2.1 (fun h => h)) (And.intro (kk.range H9.out.2.2 (fun h => h)) hm)))
          rw [← hp] at HRT
          have hl2 : l.length ≤ 2 := by
            have h1 := congrArg List.length hp
            have h2 := length_puts [(K, a), (O, b)] []
            simp [prs] at h1
            simp at h2
            omega
          have HL2 := Lib.hid hl2
          clear kk hb H9 HOF hm hp hl2
          have hes := eq_sums_same (sd A B)
          go_wp2_with fail
          refine wp_region_sched (fun V => V.rangeAt z7 0 (cellsOf A) ∧ V.rangeAt z8 0 (cellsOf B)) [.e 0 true, .t 1, .t 2, .s 4, .s 5, .e 3 true, .e 6 false, .t 7, .t 8, .t 9] (by kernel_rfl) (by kernel_rfl) (by intro c a d v w h; cases d <;> exact h) ?_
          have H11 := Lib.hid (show Below w.heap.size w W10.drew ∧ W10.drew.rangeAt z7 0 (cellsOf A) ∧ W10.drew.rangeAt z8 0 (cellsOf B) ∧ MapIn W10.drew p q [(K, a), (O, b)].length l from ⟨H10.out.1.drew, H10.out.2.1, H10.out.2.2.1, H10.out.2.2.2.below (Below.refl _ _).drew⟩)
          clear H10
          generalize W10.drew = V at *
          refine wpS_k rfl (by rfl) (fun K hK => ?_)
          go_simp
          refine (alive15_any V).mono ?_
          rintro e V1 ⟨rfl, hb⟩
          have kk := Keeps.of_below (X := fun _ => False) hb
          have H12 := Lib.hid (And.intro (H11.out.1.trans (hb.mono H11.out.1.size)) (And.intro (And.intro (kk.range H11.out.2.1 (fun h => h)) (kk.range H11.out.2.2.1 (fun h => h))) (H11.out.2.2.2.below hb)))
          clear kk hb H11
          refine hK _ _ ⟨by exact H12.out.2.1, ?_⟩; clear hK K
          try simp only [Act.put, List.setIfInBounds_toArray, List.set_cons_zero, List.set_cons_succ]
          iterate 2
            refine wpS_t rfl (v := ?_) (by rfl) (fun W => ?_) ?_
            rotate_left
            · go_simp
              try rfl
            try simp only [Act.put, List.setIfInBounds_toArray, List.set_cons_zero, List.set_cons_succ]
          refine wpS_load_sum (by exact H12.out.2.1) rfl (by rfl) _ (by rfl) z7 0 (by rfl) A (fun V hV => hV.1) ?_
          try simp only [Act.put, List.setIfInBounds_toArray, List.set_cons_zero, List.set_cons_succ]
          refine wpS_load_sum (by exact H12.out.2.1) rfl (by rfl) _ (by rfl) z8 0 (by rfl) B (fun V hV => hV.2) ?_
          try simp only [Act.put, List.setIfInBounds_toArray, List.set_cons_zero, List.set_cons_succ]
          refine wpS_k rfl (by rfl) (fun K hK => ?_)
          go_simp
          have HX1 := Lib.hid (mroot_any V1 p q _ l H12.out.2.2 (by have := HL2.out; omega))
          rw [HRT.out] at HX1
          refine HX1.out.mono ?_
          rintro e V2 ⟨rfl, hb⟩
          have kk := Keeps.of_below (X := fun _ => False) hb
          have H13 := Lib.hid (And.intro (H12.out.1.trans (hb.mono H12.out.1.size)) (And.intro (kk.range H12.out.2.1.1 (fun h => h)) (kk.range H12.out.2.1.2 (fun h => h))))
          clear kk hb H12 HX1
          refine hK _ _ ⟨by exact H13.out.2, ?_⟩; clear hK K
          try simp only [Act.put, List.setIfInBounds_toArray, List.set_cons_zero, List.set_cons_succ]
          refine wpS_e rfl (by rfl) (fun K hK => ?_)
          go_simp
          refine (sd_any A B V2).mono ?_
          rintro e V3 ⟨rfl, hb⟩
          have H14 := Lib.hid (H13.out.1.trans (hb.mono H13.out.1.size))
          clear hb H13
          refine hK _ _ ?_; clear hK K
          try simp only [Act.put, List.setIfInBounds_toArray, List.set_cons_zero, List.set_cons_succ]
          iterate 3
            refine wpS_t rfl (v := ?_) (by rfl) (fun W => ?_) ?_
            rotate_left
            · go_simp
              try rfl
            try simp only [Act.put, List.setIfInBounds_toArray, List.set_cons_zero, List.set_cons_succ]
          refine wpS_done ?_
          go_wp2_with fail
          exact bodyPost_ret (results_tmp rfl _ _ _) rfl ⟨rfl, H14.out⟩

set_option maxRecDepth 100000 in
set_option maxHeartbeats 4000000 in
theorem mapsHalves_any (k o : Sum) (a b : List UInt8) (va vb : Value) (w : World) (ha : BytesAt w va a) (hb : BytesAt w vb b) : Calls Try.prog 6 #[sv k, sv o, .agg #[va, vb]] w fun e w' => e = .returned (.bool true) ∧ Below w.heap.size w w' := by
  have HB := Lib.hid (And.intro ha hb)
  obtain ⟨a1, c1, rfl, _, _, _⟩ := id ha
  obtain ⟨a2, c2, rfl, _, _, _⟩ := id hb
  clear ha hb
  obtain ⟨n1, hn1⟩ : ∃ n, n = a.length := ⟨_, rfl⟩
  obtain ⟨n2, hn2⟩ : ∃ n, n = b.length := ⟨_, rfl⟩
  rw [← hn1, ← hn2] at HB ⊢
  have HN := Lib.hid (And.intro hn1 hn2)
  clear hn1 hn2
  have hs1 : (w.alloc (.cells (cellsOf k).toArray 29)).heap.size = w.heap.size + 1 := Array.size_push _
  have hs2 : ((w.alloc (.cells (cellsOf k).toArray 29)).alloc (.cells (cellsOf o).toArray 29)).heap.size = w.heap.size + 1 + 1 := by rw [World.size_alloc, hs1]
  have hB := al (al (al (Below.refl w.heap.size w) (.cells (cellsOf k).toArray 29)) (.cells (cellsOf o).toArray 29)) (.cells #[.slice a1 n1 c1, .slice a2 n2 c2] 48)
  have l32 : ∀ s : Sum, (cellsOf s).toArray.size = 32 := fun s => by simp [length_cellsOf]
  have t1 := there_new w (cellsOf k).toArray 29
  have t2 := there_new (w.alloc (.cells (cellsOf k).toArray 29)) (cellsOf o).toArray 29
  rw [l32] at t1 t2
  rw [hs1] at t2
  have r2 := range_new (w.alloc (.cells (cellsOf k).toArray 29)) (cellsOf o).toArray 29 _ rfl
  rw [hs1] at r2
  have r3 := range_new ((w.alloc (.cells (cellsOf k).toArray 29)).alloc (.cells (cellsOf o).toArray 29)) #[.slice a1 n1 c1, .slice a2 n2 c2] 48 _ rfl
  rw [hs2] at r3
  have H0 : HH w (((w.alloc (.cells (cellsOf k).toArray 29)).alloc (.cells (cellsOf o).toArray 29)).alloc (.cells #[.slice a1 n1 c1, .slice a2 n2 c2] 48)) w.heap.size (w.heap.size + 1) (w.heap.size + 1 + 1) k o (.slice a1 n1 c1) (.slice a2 n2 c2) :=
    ⟨hB, World.rangeAt_alloc (World.rangeAt_alloc (range_new w (cellsOf k).toArray 29 _ rfl) _) _, World.rangeAt_alloc r2 _, r3, World.there_alloc (World.there_alloc t1 _) _, World.there_alloc t2 _, Nat.le_refl _, by omega, by omega, by omega, by omega⟩
  have HX := Lib.hid H0
  clear H0 hs1 hs2 hB l32 t1 t2 r2 r3
  go_enter Try.func6, Try.ntmps6
  refine Alm.wp_cut 1 ?_
  intro T hT
  dsimp only [cutN]
  replace hT := Lib.hid hT
  go_wp2_with fail
  refine hT.out _ _ ?_
  exact halves_tail w _ k o k o _ _ _ n1 n2 c1 c2 a1 a2 a b HB.out.1 HB.out.2 HN.out.1 HN.out.2 HX.out
end Go.Proofs.Ytfmgoehnbaiamaa
