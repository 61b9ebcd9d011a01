/-
  Walks: the law ClashesOwn.
-/
import Derived.Test.YtdkcndgehgmadaaB9
import Derived.Test.YtdkcndgehgmadaaP1
open Go Go.RowKit Alm
namespace Go.Proofs.Ytdkcndgehgmadaa
theorem wrapT (a : Int) (h0 : 0 ≤ a) (h1 : a < 4000000000) : wrap64 a = a := by unfold wrap64; omega
set_option maxRecDepth 100000 in
set_option maxHeartbeats 1000000 in
theorem lsums_any (ls : List (List UInt8)) (v : Value) (w : World) (hv : ListsAt w v ls) (hn : ls.length < 1000000) (hs : ∀ x ∈ ls, x.length < 1000000) : Calls Try.prog 55 #[v] w fun e w' => ∃ u, e = .returned u ∧ SumsAt w' u (ls.map lf) ∧ Below w.heap.size w w' := by
  have HV := Lib.hid hv
  obtain ⟨aa, ca, rfl, a1, a2, a3⟩ := hv
  clear a3
  obtain ⟨n, hna⟩ : ∃ n, n = ls.length := ⟨_, rfl⟩
  rw [← hna] at HV a1 hn ⊢
  have HN := Lib.hid (And.intro hna hs)
  clear hna hs
  go_enter Try.func55, Try.ntmps55
  go_wp2_with fail
  go_loopw [3, 4] (fun out i W => ∃ j : Nat, j ≤ n ∧ i = .int .i64 (j : Int) ∧ W.ownsRow w.heap.size 24 32 out j (cellsAll ((ls.take j).map lf)) ∧ (j = 0 → out = .slice none 0 0) ∧ Below w.heap.size w W) (fun _ i _ => n - (intOf i).toNat)
  case atStart => exact ⟨0, by omega, rfl, World.ownsRow_nil _ _ _ _, fun _ => rfl, Below.refl _ _⟩
  case round =>
    obtain ⟨j, hj, rfl, ho, hnil, hB⟩ := hrel
    have HO := Lib.hid ho; clear ho
    have HNIL := Lib.hid hnil; clear hnil
    have HB := Lib.hid hB; clear hB
    by_cases hlt : j < n
    · have hlt' : (j : Int) < (n : Int) := by omega
      have h0 : ls ≠ [] := by intro h; have := HN.out.1; rw [h] at this; simp at this; omega
      have HW := Lib.hid (HV.out.below HB.out)
      obtain ⟨b1', o1', c1', he1, _, _⟩ := HV.out.form h0
      simp only [Value.slice.injEq] at he1
      obtain ⟨rfl, h9, rfl⟩ := he1
      clear h9
      obtain ⟨u1, hc1, hu1⟩ := HW.out.cell (sp := none) (j := j) (by have := HN.out.1; omega)
      have hjl : j < ls.length := by have := HN.out.1; omega
      have hx9 : ls[j].length < 1000000 := HN.out.2 _ (List.getElem_mem hjl)
      have hstep : (ls.take (j + 1)).map lf = (ls.take j).map lf ++ [lf ls[j]] := by rw [List.take_succ_eq_append_getElem hjl, List.map_append]; rfl
      have HST := Lib.hid hstep
      have HU := Lib.hid (And.intro hu1 hx9)
      clear hu1 hstep hx9 h0
      generalize ls[j] = x at *
      have hj0 : (0 : Int) ≤ (j : Int) := by omega
      clear hjl
      have hml : ((ls.take j).map lf).length = j := by rw [List.length_map, List.length_take]; have := HN.out.1; omega
      have HML := Lib.hid hml; clear hml
      go_wp2_with fail
      refine (lf_any x u1 wr HU.out.1 (by have := HU.out.2; omega)).mono ?_
      rintro e2 w2 ⟨rfl, hb2⟩
      have HB2 := Lib.hid (HB.out.trans (hb2.mono HB.out.size))
      have HO2 := Lib.hid ((Keeps.of_below (X := fun _ => False) hb2).owns HO.out (fun _ _ h => h))
      generalize lf x = y at *
      clear hb2 HB HO HU HW
      generalize (ls.take j).map lf = acc at *
      have HB3 := Lib.hid (HB2.out.alloc HB2.out.size (.cells (cellsAll [y]).toArray 24))
      have HX3 : Hid ((w2.alloc (.cells (cellsAll [y]).toArray 24)).rangeAt w2.heap.size 0 (cellsAll [y])) := range_new w2 _ _ _ rfl
      go_wp2_with (first
        | (refine wpList_build_sums rfl 1 _ rfl [y] rfl (by omega) (by omega) rfl ?_)
        | (at_builtin; refine wpList_append_sums rfl _ _ rfl w.heap.size _ acc [y] j 1 HML.out rfl (by rfl) (HO2.out.alloc _) w2.heap.size 0 1 rfl HX3.out (by omega) (by omega) HB3.out.size ?_; intro g4 c4 w4 ho4 hg4 hat4 hlt4))
      have HB4 := Lib.hid (HB3.out.grown hg4 HB3.out.size (fun k hk => (HO2.out.lt k hk).1))
      exact ⟨⟨j + 1, by omega, by simp, by rw [HST.out]; exact ho4, by omega, HB4.out⟩, by simp [intOf]; omega⟩
    · have hjn : j = n := by omega
      subst hjn
      have htk : ls.take j = ls := List.take_of_length_le (by rw [HN.out.1]; exact Nat.le_refl _)
      have ho := HO.out
      rw [htk] at ho
      have hml : (ls.map lf).length = j := by rw [List.length_map, ← HN.out.1]
      rw [← hml] at ho
      have HSN := Lib.hid (own_new' ho (fun h => HNIL.out (by rw [← hml, h]; rfl)))
      clear htk ho hml HO
      go_wp2_with fail
      refine bodyPost_ret (results_tmp rfl _ _ _) rfl ?_
      exact ⟨_, rfl, HSN.out.sums, HB.out⟩
/-- A cell whose world only grew. -/
theorem ListsAt.slice {w : World} {v : Value} {ls : List (List UInt8)} (h : ListsAt w v ls) : ∃ a c, v = .slice a ls.length c ∧ ls.length ≤ c ∧ c ≤ maxLen := by
  obtain ⟨a, cap, hv, h1, h2, _⟩ := h
  exact ⟨a, cap, hv, h1, h2⟩
set_option maxRecDepth 100000 in
set_option maxHeartbeats 4000000 in
theorem clashesOwn_any (l : List (List UInt8)) (v : Value) (f g : Nat) (w : World) (hv : ListsAt w v l) (hf : f ≤ 255) (hg : g ≤ 255) (hn : l.length ≤ LIM) (hs : ∀ x ∈ l, x.length ≤ LIM) : Calls Try.prog 22 #[v, .int .u8 (f : Int), .int .u8 (g : Int)] w fun e w' => e = .returned (.bool true) ∧ Below w.heap.size w w' := by
  have HV := Lib.hid hv
  have hG := great_any l [] [] [] v (.slice none 0 0) 0 (.slice none 0 0) (.slice none 0 0) w hv ⟨none, 0, rfl, Nat.le_refl _, by decide, .inl rfl⟩ ⟨none, 0, rfl, Nat.le_refl _, by decide, .inl rfl⟩ ⟨none, 0, rfl, Nat.le_refl _, by decide, .inl rfl⟩ ⟨hn, hs⟩ ⟨by simp, by simp⟩ (by simp) (by simp)
  have HG := Lib.hid hG
  clear hG
  obtain ⟨al_, cl, rfl, c1, c2⟩ := hv.slice
  obtain ⟨n, hna⟩ : ∃ n, n = l.length := ⟨_, rfl⟩
  rw [← hna] at HV HG c1 hn ⊢
  have HN := Lib.hid hna; clear hna
  obtain ⟨r, hr⟩ : ∃ r, r = grB l [] [] [] := ⟨_, rfl⟩
  rw [← hr] at HG
  have HR := Lib.hid hr; clear hr
  cases r with
  | true =>
    go_enter Try.func22, Try.ntmps22
    go_wp2_with fail
    refine HG.out.mono ?_
    rintro e w1 ⟨rfl, hb⟩
    have HB := Lib.hid hb; clear hb
    go_wp2_with fail
    refine (alive_clashes w1).mono ?_
    rintro e w2 ⟨rfl, hb⟩
    have HF := Lib.hid (HB.out.trans (hb.mono HB.out.size)); clear hb
    go_wp2_with fail
    exact bodyPost_ret (results_tmp rfl _ _ _) rfl ⟨rfl, HF.out⟩
  | false =>
    have hsm : n ≤ 40 ∧ ∀ x ∈ l, x.length ≤ 20000 := by
      have h0 := HR.out
      unfold grB at h0
      have h1 : ¬ 40 < l.length := fun h => by rw [decide_eq_true h] at h0; simp at h0
      have h2 : ¬ 20000 < bsz l + bsz [] + ([] : List UInt8).length := fun h => by rw [decide_eq_true h] at h0; simp at h0
      have h3 := bsz_le 20000 (by omega) l (by omega)
      exact ⟨by have := HN.out; omega, h3.2⟩
    have HSM := Lib.hid hsm
    have n40 : (n : Int) ≤ 40 := by have := hsm.1; omega
    clear hsm hs hn
    by_cases hz : n = 0
    · have hz' : ((n : Int) == 0) = true := by rw [beq_iff_eq]; omega
      clear hz
      go_enter Try.func22, Try.ntmps22
      go_wp2_with fail
      refine HG.out.mono ?_
      rintro e w1 ⟨rfl, hb⟩
      have HB := Lib.hid hb; clear hb
      go_wp2_with fail
      refine (alive_clashes w1).mono ?_
      rintro e w2 ⟨rfl, hb⟩
      have HF := Lib.hid (HB.out.trans (hb.mono HB.out.size)); clear hb
      go_wp2_with fail
      exact bodyPost_ret (results_tmp rfl _ _ _) rfl ⟨rfl, HF.out⟩
    · have hz' : ((n : Int) == 0) = false := by rw [beq_eq_false_iff_ne]; omega
      have f0 : (0 : Int) ≤ (f : Int) := by omega
      have f1 : (f : Int) ≤ 255 := by omega
      have g0 : (0 : Int) ≤ (g : Int) := by omega
      have g1 : (g : Int) ≤ 255 := by omega
      obtain ⟨k, hk⟩ : ∃ k, k = f % n := ⟨_, rfl⟩
      have hkn : k < n := by rw [hk]; exact Nat.mod_lt _ (by omega)
      have hmod : (f : Int) % (n : Int) = (k : Int) := by rw [← Int.natCast_emod, hk]
      obtain ⟨m, hm⟩ : ∃ m, m = 1 + g % n := ⟨_, rfl⟩
      have hmn : m ≤ n := by have := Nat.mod_lt g (show 0 < n by omega); omega
      have hm1 : 1 ≤ m := by omega
      have hw1 : wrap64 (1 + (g : Int) % (n : Int)) = (m : Int) := by
        rw [← Int.natCast_emod, wrapT _ (by omega) (by have := Nat.mod_lt g (show 0 < n by omega); omega)]; omega
      have HW1 := Lib.hid hw1
      have HK := Lib.hid (And.intro hkn (And.intro hm1 hmn))
      have k0 : (0 : Int) ≤ (k : Int) := by omega
      have k1 : (k : Int) < (n : Int) := by omega
      have m0 : (0 : Int) ≤ (m : Int) := by omega
      have m1 : (m : Int) ≤ (cl : Int) := by omega
      have m2 : (m : Int) ≤ (n : Int) := by omega
      unfold maxLen at c2
      have h0 : l ≠ [] := by intro h; have := HN.out; rw [h] at this; simp at this; omega
      obtain ⟨bl, ol, c9, he1, _, _⟩ := HV.out.form h0
      simp only [Value.slice.injEq] at he1
      obtain ⟨rfl, h9, rfl⟩ := he1
      clear h9 h0
      have hkl : k < l.length := by have := HN.out; omega
      obtain ⟨u1, hc1, hu1⟩ := HV.out.cell (sp := none) hkl
      have HU := Lib.hid (And.intro hc1 (And.intro hu1 (And.intro hkl (List.getElem?_eq_getElem hkl))))
      generalize l[k] = x at *
      obtain ⟨ax, cx, rfl, _, _, hor⟩ := hu1
      clear hor hc1 hkl
      clear hk hm hkn hmn hm1 hf hg
      go_enter Try.func22, Try.ntmps22
      go_wp2_with fail
      refine HG.out.mono ?_
      rintro e w1 ⟨rfl, hb⟩
      have HB1 := Lib.hid hb; clear hb
      go_wp2_with fail
      rw [HW1.out, hmod]
      clear HW1 hmod
      have hsz : ∀ x ∈ l, x.length < 1000000 := fun x hx => by have := HSM.out.2 x hx; omega
      have HSZ := Lib.hid hsz; clear hsz
      have hll : l.length < 1000000 := by have := HN.out; have := HSM.out.1; omega
      have HLL := Lib.hid hll; clear hll
      refine (lsums_any l _ w1 (HV.out.below HB1.out) HLL.out HSZ.out).mono ?_
      rintro e w2 ⟨u, rfl, hu, hb⟩
      have HS2 := Lib.hid (And.intro hu (HB1.out.trans (hb.mono HB1.out.size)))
      clear hu hb HB1
      go_wp2_with fail
      refine (pathsOf_any (l.map lf) k u w2 HS2.out.1 (by rw [List.length_map]; exact HU.out.2.2.1) (by rw [List.length_map]; exact HLL.out)).mono ?_
      rintro e w3 ⟨p, rfl, hN, hb⟩
      obtain ⟨pa, pc, rfl, _, _, _⟩ := hN.sums
      have HS3 := Lib.hid (And.intro (HS2.out.1.below hb (Nat.le_refl _)) (HS2.out.2.trans (hb.mono HS2.out.2.size)))
      clear hN hb HS2
      generalize (path nd e0 (l.map lf) k).length = pn at *
      go_wp2_with fail
      refine (linksOf_any (l.map lf) m u w3 HS3.out.1 HK.out.2.1 (by rw [List.length_map]; have := HN.out; have := HK.out.2.2; omega) (by rw [List.length_map]; exact HLL.out)).mono ?_
      rintro e w4 ⟨q, rfl, hN, hb⟩
      obtain ⟨qa, qc, rfl, _, _, _⟩ := hN.sums
      have HB4 := Lib.hid (HS3.out.2.trans (hb.mono HS3.out.2.size))
      clear hN hb HS3
      generalize (link nd e0 (l.map lf) m true).length = qn at *
      have hc4 := bc HU.out.1 HB4.out
      go_wp2_with fail
      refine (path_same l k x _ _ _ w4 (HV.out.below HB4.out) HU.out.2.2.1 HU.out.2.2.2 (bytes_below HU.out.2.1 HB4.out (Nat.le_refl _)) HLL.out ⟨_, _, _, rfl⟩).mono ?_
      rintro e w5 ⟨rfl, hb⟩
      have HB5 := Lib.hid (HB4.out.trans (hb.mono HB4.out.size))
      clear hb HB4 hc4
      have HGG := Lib.hid trivial
      go_wp2_with (have _ := HGG; refine wpList_var_clash rfl _ _ rfl rfl rfl ?_; intro W6 hb1; have HB6 := Lib.hid (HB5.out.trans (hb1.mono HB5.out.size)); clear HGG hb1)
      have htk := (HV.out.below HB6.out).take m (by have := HN.out; have := HK.out.2.2; omega)
      have htl : (l.take m).length = m := by rw [List.length_take]; have := HN.out; have := HK.out.2.2; omega
      refine (link_same (l.take m) l _ _ _ W6 htk (HV.out.below HB6.out) (by rw [htl]; exact HK.out.2.1) (by rw [htl]; have := HN.out; have := HK.out.2.2; omega) (by rw [htl]) HLL.out ⟨_, _, _, rfl⟩).mono ?_
      rintro e w7 ⟨rfl, hb⟩
      have HB7 := Lib.hid (HB6.out.trans (hb.mono HB6.out.size))
      clear hb htk htl HB5 HB6
      have HGG := Lib.hid trivial
      go_wp2_with (have _ := HGG; refine wpList_var_clash rfl _ _ rfl rfl rfl ?_; intro W8 hb1; have HB8 := Lib.hid (HB7.out.trans (hb1.mono HB7.out.size)); clear HGG hb1)
      refine (lists_same l _ _ W8 (HV.out.below HB8.out) (HV.out.below HB8.out) HLL.out).mono ?_
      rintro e w9 ⟨rfl, hb⟩
      have HB9 := Lib.hid (HB8.out.trans (hb.mono HB8.out.size))
      clear hb HB7 HB8
      have HGG := Lib.hid trivial
      go_wp2_with (have _ := HGG; refine wpList_var_clash rfl _ _ rfl rfl rfl ?_; intro W10 hb1; have HB10 := Lib.hid (HB9.out.trans (hb1.mono HB9.out.size)); clear HGG hb1)
      refine (alive_clashes W10).mono ?_
      rintro e w11 ⟨rfl, hb⟩
      have HB11 := Lib.hid (HB10.out.trans (hb.mono HB10.out.size))
      clear hb HB9 HB10
      go_wp2_with fail
      exact bodyPost_ret (results_tmp rfl _ _ _) rfl ⟨rfl, HB11.out⟩
end Go.Proofs.Ytdkcndgehgmadaa
