/-
  Walks: keys.Bit, keys.Empty, keys.Value.
-/
import Derived.Test.YtfmgoehnbaiamaaGreatDoorU1
open Go Go.RowKit Alm
namespace Go.Proofs.YtfmgoehnbaiamaaGreatDoor
/-- A variable of its own that a sum is laid into. -/
theorem wpList_var_sum {ops : Array Oper} {rest : List Oper} {op : Oper} {a : Act} {w : World} {C : Array Value} {t : TypeId} {Q : Exit → Act → World → Prop} (hC : C.size = 32) (hgd : op.guard = none) (x y : Operand) (ho : op.op = .store 24 x y) (s : Sum)
    (hx : a.eval x = .pointer (some ⟨w.heap.size, 0, none⟩)) (hy : a.eval y = sv s)
    (h : ∀ W', Below w.heap.size w W' → W'.rangeAt w.heap.size 0 (cellsOf s) → W'.there w.heap.size 0 32 → wpList Tryz.prog ops Q rest (a.put op.dst undef) W') : wpList Tryz.prog ops Q (op :: rest) a (w.alloc (.cells C t)) := by
  have ht : (w.alloc (.cells C t)).there w.heap.size 0 32 := by rw [← hC]; exact there_new _ _ _
  have ht2 := World.there_setCells ht w.heap.size 0 (cellsOf s)
  exact wpList_store_sum hgd x y ho w.heap.size 0 s hx hy ht (h _ (setCells_below _ (Nat.le_refl _) _ 0 _ _ (al (Below.refl _ _) _)) (range_stored _ _ _ _ (by rw [length_cellsOf]; exact ht2)) ht2)
/-- A bit in the middle of bytes. -/
theorem bit_mid (x z : List UInt8) (c : UInt8) (s : Nat) (hs : s < 8) : (Fast.bnum (x ++ [c] ++ z) >>> (8 * z.length + s)) % 2 = (c.toNat >>> s) % 2 := by
  rw [Fast.bnum_append, Fast.bnum_append]
  have e : (256 : Nat) ^ z.length = 2 ^ (8 * z.length) := by rw [Nat.pow_mul]
  have hz := Fast.bnum_lt z
  have ec : Fast.bnum [c] = c.toNat := by simp [Fast.bnum]
  rw [e] at hz ⊢
  rw [ec, Nat.shiftRight_add, Nat.shiftRight_eq_div_pow _ (8 * z.length), Nat.mul_comm _ (2 ^ (8 * z.length)), Nat.mul_add_div (Nat.two_pow_pos _), Nat.div_eq_of_lt hz, Nat.add_zero]
  rw [List.length_singleton, Nat.pow_one, Nat.shiftRight_eq_div_pow, Nat.shiftRight_eq_div_pow]
  match s, hs with
  | 0, _ => omega
  | 1, _ => omega
  | 2, _ => omega
  | 3, _ => omega
  | 4, _ => omega
  | 5, _ => omega
  | 6, _ => omega
  | 7, _ => omega
theorem key_bit (k : Sum) (d : Nat) (hd : d < 256) : (Keys.kn k >>> (255 - d)) % 2 = ((k.toList.getD (d / 8) 0).toNat >>> (7 - d % 8)) % 2 := by
  have hl : k.toList.length = 32 := by simp
  have e : k.toList = k.toList.take (d / 8) ++ [k.toList.getD (d / 8) 0] ++ k.toList.drop (d / 8 + 1) := by
    have h1 : d / 8 < k.toList.length := by omega
    rw [List.getD_eq_getElem?_getD, List.getElem?_eq_getElem h1, Option.getD_some, List.append_assoc, List.singleton_append, ← List.drop_eq_getElem_cons h1, List.take_append_drop]
  have h := bit_mid (k.toList.take (d / 8)) (k.toList.drop (d / 8 + 1)) (k.toList.getD (d / 8) 0) (7 - d % 8) (by omega)
  rw [← e, List.length_drop, hl, show 8 * (32 - (d / 8 + 1)) + (7 - d % 8) = 255 - d by omega] at h
  exact h
theorem and1_all : ∀ (x : Fin 256), bits .and .i64 ((x.val : Nat) : Int) 1 = ((x.val % 2 : Nat) : Int) := by decide +kernel
theorem and1 (x : Nat) (h : x < 256) : bits .and .i64 (x : Int) 1 = ((x % 2 : Nat) : Int) := and1_all ⟨x, h⟩
set_option maxRecDepth 100000 in
theorem bit_any (k : Sum) (d : Nat) (w : World) (hd : d < 256) : Calls Tryz.prog 62 #[sv k, .int .i64 (d : Int)] w fun e w' => e = .returned (.int .i64 (((Keys.kn k >>> (255 - d)) % 2 : Nat) : Int)) ∧ Below w.heap.size w w' := by
  have hb := al (Below.refl _ w) (.cells (cellsOf k).toArray 24)
  obtain ⟨c, hcn⟩ : ∃ c, c = k.toList.getD (d / 8) 0 := ⟨_, rfl⟩
  have hc : (cellsOf k)[d / 8]? = some (.int .u8 ((c.toNat : Nat) : Int)) := by
    have h1 : d / 8 < 32 := by omega
    unfold cellsOf
    rw [hcn, List.getElem?_map, List.getD_eq_getElem?_getD, List.getElem?_eq_getElem (by simpa using h1)]; rfl
  have d0 : decide ((d : Int) < 0) = false := by simp
  have d1 : decide (256 ≤ (d : Int)) = false := by simp; omega
  have d2 : (0 : Int) ≤ (d : Int) ∧ (d : Int) < 256 := by omega
  have HB := Lib.hid hb
  have HC := Lib.hid hcn
  clear hb hcn
  go_enter Tryz.func62, Tryz.ntmps62
  go_wp2_with fail
  have hx : c.toNat < 256 := c.toNat_lt
  have hy : c.toNat / 2 ^ (7 - d % 8) < 256 := Nat.lt_of_le_of_lt (Nat.div_le_self _ _) hx
  have e1 : ((c.toNat : Nat) : Int) / 2 ^ (7 - d % 8) = ((c.toNat / 2 ^ (7 - d % 8) : Nat) : Int) := by rw [Int.natCast_ediv, Int.natCast_pow]; rfl
  have e2 : wrap64 ((c.toNat / 2 ^ (7 - d % 8) : Nat) : Int) = ((c.toNat / 2 ^ (7 - d % 8) : Nat) : Int) := by
    generalize c.toNat / 2 ^ (7 - d % 8) = y at hy
    unfold wrap64; omega
  have e3 : (Keys.kn k >>> (255 - d)) % 2 = (c.toNat / 2 ^ (7 - d % 8)) % 2 := by rw [key_bit k d hd, ← HC.out, Nat.shiftRight_eq_div_pow]
  rw [e1, e2, and1 _ hy, e3]
  exact bodyPost_ret (results_tmp rfl _ _ _) rfl ⟨rfl, HB.out⟩
set_option maxRecDepth 100000 in
set_option maxHeartbeats 1000000 in
theorem empty_any (h : Nat) (w : World) (hh : h ≤ 256) : Calls Tryz.prog 60 #[.int .i64 ((256 - h : Nat) : Int)] w fun e w' => e = .returned (sv (em h)) ∧ Below w.heap.size w w' := by
  obtain ⟨D, hD⟩ : ∃ D, D = 256 - h := ⟨_, rfl⟩
  rw [← hD]
  have HH := Lib.hid (And.intro hD hh)
  have R0 : Res w 32 (w.alloc (.cells (cells8 (List.replicate 32 0)).toArray 24)) := Res.start _ _ _ _ (by rfl)
  have hB0 := al R0.below (.cells #[.int .u8 2] 5)
  have hT0 := World.there_alloc R0.there (.cells #[.int .u8 2] 5)
  have hO := bytes_one (w := w.alloc (.cells (cells8 (List.replicate 32 0)).toArray 24)) (2 : UInt8) 5 rfl rfl
  have hz1 : (w.alloc (.cells (cells8 (List.replicate 32 0)).toArray 24)).heap.size = w.heap.size + 1 := Array.size_push _
  rw [hz1] at hO
  have H0 := Lib.hid (And.intro hB0 (And.intro hT0 hO))
  clear hD hh R0 hB0 hT0 hO hz1
  go_enter Tryz.func60, Tryz.ntmps60
  go_wp2_with fail
  go_step3
  go_wp2_with (go_at_call 122; refine (sh_any [2] _ _ H0.out.2.2 (by simp)).mono ?_; rintro e w1 ⟨rfl, hb1⟩; have HB1 := Lib.hid hb1; clear hb1; go_wp2_with (refine wpList_var_sum (by rfl) rfl _ _ rfl (sh [2]) rfl rfl ?_; intro W2 hb2 hr2 ht2; have H2 := Lib.hid (And.intro hb2 (And.intro hr2 ht2)); clear hb2 hr2 ht2))
  have hb1 := H0.out.1.trans (HB1.out.mono H0.out.1.size)
  have hq0 : w.heap.size < w1.heap.size := Nat.lt_of_lt_of_le (there_lt H0.out.2.1 (by decide)) HB1.out.size
  have ht1 : w1.there w.heap.size 0 32 := (Keeps.of_below (X := fun _ => False) HB1.out).there H0.out.2.1 (by decide) (fun h => h)
  have ht2 : W2.there w.heap.size 0 32 := (Keeps.of_below (X := fun _ => False) H2.out.1).there ht1 (by decide) (fun h => h)
  have hb2 := hb1.trans (H2.out.1.mono hb1.size)
  have he : sh [2] = em 0 := by rw [em_zero, z0_eq, sh_eq]
  have hr2 := H2.out.2.1
  rw [he] at hr2
  have HJ := Lib.hid (show Below w.heap.size w W2 ∧ W2.there w.heap.size 0 32 ∧ W2.rangeAt w1.heap.size 0 (cellsOf (em 0)) ∧ W2.there w1.heap.size 0 32 from ⟨hb2, ht2, hr2, H2.out.2.2⟩)
  have HQ := Lib.hid hq0
  clear H0 HB1 H2 hb1 hq0 ht1 ht2 hb2 he hr2
  generalize sh [2] = sx at *
  generalize w1.heap.size = q at *
  clear w1
  go_step3
  go_wp2_with fail
  go_loopw [4] (fun d W => ∃ j : Nat, j ≤ h ∧ d = .int .i64 ((256 - j : Nat) : Int) ∧ Below w.heap.size w W ∧ W.there w.heap.size 0 32 ∧ W.rangeAt q 0 (cellsOf (em j)) ∧ W.there q 0 32) (fun d _ => (intOf d).toNat)
  case atStart => exact ⟨0, by omega, rfl, HJ.out⟩
  case round =>
    clear HJ
    obtain ⟨j, hj, rfl, hJ⟩ := hrel
    have HJ := Lib.hid hJ; clear hJ
    obtain ⟨d, hd⟩ : ∃ d, d = 256 - j := ⟨_, rfl⟩
    rw [← hd]
    by_cases hlt : j < h
    · have c1 : decide (d ≤ D) = false := by have := HH.out; simp; omega
      have c1' : decide ((d : Int) ≤ (D : Int)) = false := by have := HH.out; simp; omega
      have c2 : decide ((d : Int) ≤ 0) = false := by have := HH.out; simp; omega
      have c3 : (d = 0) = False := by have := HH.out; simp; omega
      have HL := Lib.hid (And.intro hd (And.intro hj hlt))
      clear hd hj hlt
      go_wp2_with (first
        | (refine wpList_load_sum rfl _ rfl q 0 rfl (em j) HJ.out.2.2.1 ?_)
        | (go_at_call 64; refine (sd_any (em j) (em j) _).mono ?_; rintro e w1 ⟨rfl, hb1⟩; rw [← em_succ]; have H1 := Lib.hid (And.intro (HJ.out.1.trans (hb1.mono HJ.out.1.size)) (And.intro ((Keeps.of_below (X := fun _ => False) hb1).there HJ.out.2.1 (by decide) (fun h => h)) ((Keeps.of_below (X := fun _ => False) hb1).there HJ.out.2.2.2 (by decide) (fun h => h)))); clear hb1)
        | (refine wpList_store_sum rfl _ _ rfl q 0 (em (j + 1)) rfl rfl H1.out.2.2 ?_))
      have hl := HL.out
      have hh := HH.out
      have hw : wrap64 ((d : Int) - 1) = ((256 - (j + 1) : Nat) : Int) := by unfold wrap64; omega
      rw [hw]
      refine ⟨⟨j + 1, by omega, rfl, setCells_below _ (Nat.le_of_lt HQ.out) _ _ _ _ H1.out.1, World.there_setCells H1.out.2.1 _ _ _, range_stored _ _ _ _ (by rw [length_cellsOf]; exact World.there_setCells H1.out.2.2 _ _ _), World.there_setCells H1.out.2.2 _ _ _⟩, ?_⟩
      simp only [intOf]
      omega
    · have c1 : decide (d ≤ D) = true := by have := HH.out; simp; omega
      have c1' : decide ((d : Int) ≤ (D : Int)) = true := by have := HH.out; simp; omega
      have ej : j = h := by omega
      subst ej
      clear hd hj hlt
      go_wp2_with (first
        | (refine wpList_load_sum rfl _ rfl q 0 rfl (em j) HJ.out.2.2.1 ?_)
        | (refine wpList_store_sum rfl _ _ rfl w.heap.size 0 (em j) rfl rfl HJ.out.2.1 ?_))
      rw [Exit.noGoto_ret]
      exact bodyPost_ret (results_sum Tryz.results60 _ _ _ _ rfl (World.there_setCells HJ.out.2.1 _ _ _)) rfl ⟨rfl, setCells_below _ (Nat.le_refl _) _ _ _ _ HJ.out.1⟩
theorem empty_0 (w : World) : Calls Tryz.prog 60 #[.int .i64 256] w fun e w' => e = .returned (sv z0) ∧ Below w.heap.size w w' := empty_any 0 w (by omega)
theorem parts_val {w : World} {p q a : Nat} (k : Sum) (l : List UInt8) (v : Value) (hp : p < w.heap.size) (ha : a < w.heap.size) (t : TypeId)
    (h1 : w.rangeAt p 0 (cells8 [3])) (h2 : w.rangeAt a 0 (cellsOf k)) (h3 : BytesAt w v l) (hq : q = w.heap.size) :
    Parts2 (w.alloc (.cells #[.slice (some ⟨p, 0, none⟩) 1 1, .slice (some ⟨a, 0, none⟩) 32 32, v] t)) q 0 [.slice (some ⟨p, 0, none⟩) 1 1, .slice (some ⟨a, 0, none⟩) 32 32, v] [[3], k.toList, l] := by
  subst hq
  have hB := al (Below.refl w.heap.size w) (.cells #[.slice (some ⟨p, 0, none⟩) 1 1, .slice (some ⟨a, 0, none⟩) 32 32, v] t)
  refine ⟨range_new _ _ _ _ rfl, rfl, fun j hj => ?_⟩
  have hj' : j < 3 := hj
  match j, hj' with
  | 0, _ => exact ⟨_, _, _, rfl, rfl, by decide, .inr ⟨p, 0, rfl, range_below hB h1 hp, by simp; omega⟩⟩
  | 1, _ => exact ⟨_, _, _, rfl, by simp, by decide, .inr ⟨a, 0, rfl, range_below hB h2 ha, by simp; omega⟩⟩
  | 2, _ =>
    obtain ⟨a, cap, rfl, h3, h4, h5⟩ := h3
    refine ⟨a, _, cap, rfl, by simp, h3, ?_⟩
    by_cases hl : l = []
    · exact .inl (by simpa using hl)
    · obtain ⟨b', o', rfl, hr⟩ := h5.resolve_left hl
      have hb' : b' < w.heap.size := range_lt hr (by intro h; have := length_cells8 l; rw [h] at this; exact hl (List.length_eq_zero_iff.1 this.symm))
      exact .inr ⟨b', o', rfl, by simpa using range_below hB hr hb', by simp; omega⟩
set_option maxRecDepth 100000 in
set_option maxHeartbeats 1000000 in
theorem vl_any (k : Sum) (l : List UInt8) (v : Value) (w : World) (hv : BytesAt w v l) (hl : l.length < 140737488355000) : Calls Tryz.prog 61 #[sv k, v] w fun e w' => e = .returned (sv (vl k l)) ∧ Below w.heap.size w w' := by
  obtain ⟨s, hsn⟩ : ∃ s, s = vl k l := ⟨_, rfl⟩
  rw [← hsn]
  have hr := range_new w (cellsOf k).toArray 24 _ rfl
  have hb := al (Below.refl _ w) (.cells (cellsOf k).toArray 24)
  have R1 : Res (w.alloc (.cells (cellsOf k).toArray 24)) 32 ((w.alloc (.cells (cellsOf k).toArray 24)).alloc (.cells (cells8 (List.replicate 32 0)).toArray 24)) := Res.start _ _ _ _ (by rfl)
  have hz1 : (w.alloc (.cells (cellsOf k).toArray 24)).heap.size = w.heap.size + 1 := Array.size_push _
  have hv1 := bytes_below (bytes_below hv hb (Nat.le_refl _)) R1.below (Nat.le_refl _)
  have hr1 := R1.range hr
  have hb1 := hb.trans (R1.below.mono hb.size)
  have ht1 := R1.there
  have hz2 : ((w.alloc (.cells (cellsOf k).toArray 24)).alloc (.cells (cells8 (List.replicate 32 0)).toArray 24)).heap.size = w.heap.size + 1 + 1 := by rw [World.size_alloc, hz1]
  rw [hz1] at ht1
  obtain ⟨ad, cap, rfl, h1, h2, h3⟩ := hv
  obtain ⟨n, hn⟩ : ∃ n, n = l.length := ⟨_, rfl⟩
  rw [← hn] at hv1 ⊢
  have HS := Lib.hid hsn
  have HN := Lib.hid (And.intro hn hl)
  have H1 := Lib.hid (And.intro hv1 (And.intro hr1 (And.intro hb1 (And.intro ht1 hz2))))
  clear hsn hr hb R1 hz1 hv1 hr1 hb1 ht1 hz2 h1 h2 h3 hn hl
  by_cases h0 : n = 0
  · have hl0 : l = [] := List.length_eq_zero_iff.1 (by rw [← HN.out.1, h0])
    have hsz : z0 = s := by rw [HS.out, hl0, vl_nil]
    subst h0
    have HZ := Lib.hid hsz
    clear hsz
    go_enter Tryz.func61, Tryz.ntmps61
    go_wp2_with fail
    refine (empty_0 _).mono ?_
    rintro e w1 ⟨rfl, hb⟩
    rw [HZ.out]
    have H2 := Lib.hid (And.intro (H1.out.2.2.1.trans (hb.mono H1.out.2.2.1.size)) ((Keeps.of_below (X := fun _ => False) hb).there H1.out.2.2.2.1 (by decide) (fun h => h)))
    clear hb
    go_wp2_with (refine wpList_store_sum rfl _ _ rfl (w.heap.size + 1) 0 s rfl rfl H2.out.2 ?_)
    exact bodyPost_ret (results_sum Tryz.results61 _ _ _ _ rfl (World.there_setCells H2.out.2 _ _ _)) rfl ⟨rfl, setCells_below _ (by omega) _ _ _ _ H2.out.1⟩
  · have hne : l ≠ [] := by intro e; have := HN.out.1; rw [e] at this; exact h0 this
    have hsf : sh [[3], k.toList, l].flatten = s := by
      rw [HS.out, sh_eq, vl_eq]
      simp only [if_neg hne]
      congr 1; simp
    have hn0 : decide (n = 0) = false := by simpa using h0
    have hn1 : decide ((n : Int) = 0) = false := by simp; omega
    have HSF := Lib.hid hsf
    have h3 := al H1.out.2.2.1 (.cells #[.int .u8 3] 5)
    have hz3 : (((w.alloc (.cells (cellsOf k).toArray 24)).alloc (.cells (cells8 (List.replicate 32 0)).toArray 24)).alloc (.cells #[.int .u8 3] 5)).heap.size = w.heap.size + 1 + 1 + 1 := by rw [World.size_alloc, H1.out.2.2.2.2]
    have hP := parts_val (w := ((w.alloc (.cells (cellsOf k).toArray 24)).alloc (.cells (cells8 (List.replicate 32 0)).toArray 24)).alloc (.cells #[.int .u8 3] 5)) (p := w.heap.size + 1 + 1) (q := w.heap.size + 1 + 1 + 1) (a := w.heap.size) k l (.slice ad n cap) (by rw [hz3]; omega) (by rw [hz3]; omega) 39
      (by rw [← H1.out.2.2.2.2]; exact range_new _ _ _ _ rfl) (World.rangeAt_alloc H1.out.2.1 _) (bytes_below H1.out.1 (al (Below.refl _ _) _) (Nat.le_refl _)) hz3.symm
    have hB4 := al h3 (.cells #[.slice (some ⟨w.heap.size + 1 + 1, 0, none⟩) 1 1, .slice (some ⟨w.heap.size, 0, none⟩) 32 32, .slice ad n cap] 39)
    have hT4 := World.there_alloc (World.there_alloc H1.out.2.2.2.1 (.cells #[.int .u8 3] 5)) (.cells #[.slice (some ⟨w.heap.size + 1 + 1, 0, none⟩) 1 1, .slice (some ⟨w.heap.size, 0, none⟩) 32 32, .slice ad n cap] 39)
    have HPP := Lib.hid (And.intro hP (And.intro hB4 hT4))
    clear h3 hz3 hP hB4 hT4 H1 hsf HS
    go_enter Tryz.func61, Tryz.ntmps61
    go_wp2_with fail
    change Calls _ _ _ ((((w.alloc (.cells (cellsOf k).toArray 24)).alloc (.cells (cells8 (List.replicate 32 0)).toArray 24)).alloc (.cells #[.int .u8 3] 5)).alloc (.cells #[.slice (some ⟨w.heap.size + 1 + 1, 0, none⟩) 1 1, .slice (some ⟨w.heap.size, 0, none⟩) 32 32, .slice ad n cap] 39)) _
    generalize ((((w.alloc (.cells (cellsOf k).toArray 24)).alloc (.cells (cells8 (List.replicate 32 0)).toArray 24)).alloc (.cells #[.int .u8 3] 5)).alloc (.cells #[.slice (some ⟨w.heap.size + 1 + 1, 0, none⟩) 1 1, .slice (some ⟨w.heap.size, 0, none⟩) 32 32, .slice ad n cap] 39)) = W at *
    refine (concat_all _ [[3], k.toList, l] _ _ 3 W HPP.out.1 (by simp) (by simp) (by simp) (by have := HN.out.2; simp; omega)).mono ?_
    rintro e w1 ⟨v, rfl, hbv, hb⟩
    have hb1 := HPP.out.2.1.trans (hb.mono HPP.out.2.1.size)
    have ht1 := (Keeps.of_below (X := fun _ => False) hb).there HPP.out.2.2 (by decide) (fun h => h)
    have HH := Lib.hid (And.intro hbv (And.intro hb1 ht1))
    clear hb hbv hb1 ht1 HPP
    go_wp2_with fail
    refine (sh_any _ _ _ HH.out.1 (by have := HN.out.2; simp; omega)).mono ?_
    rw [HSF.out]
    rintro e w2 ⟨rfl, hb⟩
    have hb2 := HH.out.2.1.trans (hb.mono HH.out.2.1.size)
    have ht2 := (Keeps.of_below (X := fun _ => False) hb).there HH.out.2.2 (by decide) (fun h => h)
    have HT := Lib.hid ht2
    have HB := Lib.hid hb2
    clear hb ht2 hb2 HH
    go_wp2_with (refine wpList_store_sum rfl _ _ rfl (w.heap.size + 1) 0 s rfl rfl HT.out ?_)
    exact bodyPost_ret (results_sum Tryz.results61 _ _ _ _ rfl (World.there_setCells HT.out _ _ _)) rfl ⟨rfl, setCells_below _ (by omega) _ _ _ _ HB.out⟩
end Go.Proofs.YtfmgoehnbaiamaaGreatDoor
