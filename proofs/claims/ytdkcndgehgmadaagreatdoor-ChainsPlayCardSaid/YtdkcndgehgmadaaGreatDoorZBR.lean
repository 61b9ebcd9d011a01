/-
  Joined: CX3, CR1, CR2.
-/
import Derived.Test.YtdkcndgehgmadaaGreatDoorZBN
import Derived.Test.YtdkcndgehgmadaaGreatDoorK6
import Derived.Test.YtdkcndgehgmadaaGreatDoorZBP
import Derived.Test.YtdkcndgehgmadaaGreatDoorZBQ
import Derived.Test.YtdkcndgehgmadaaGreatDoorZBL
import Derived.Test.YtdkcndgehgmadaaGreatDoorZBD
import Derived.Test.YtdkcndgehgmadaaGreatDoorZAO
-- Walks: chains: Path, Link at any numbers.
open Go Go.RowKit Alm
namespace Go.Proofs.YtdkcndgehgmadaaGreatDoor
theorem told_mono {w w1 w' : World} {r : List Sum} {E : Int} {e : Ending} (h : ToldAs w1 r E e w') (hb : Below w.heap.size w w1) : ToldAs w r E e w' := ToldAs.mono hb h
theorem asks_paths_out (es : List Ent) (v : Value) (w : World) (hv : EntsAt w v es) (k : Nat) (hk : es.length < k) (h64 : k < 18446744073709551616) :
    Calls Tryz.prog 182 #[.int .u64 (k : Int), v, .func (.func 9) #[] #[]] w (ToldAs w [] 1) := by
  obtain ⟨aa, ca, rfl, a1, a2, -⟩ := hv
  obtain ⟨n, hna⟩ : ∃ n, n = es.length := ⟨_, rfl⟩
  rw [← hna] at a1 hk ⊢
  clear hna
  have kn : decide (n < k) = true := decide_eq_true hk
  have kn' : ((n : Int) < (k : Int)) := by omega
  unfold maxLen at a2
  have kw : IntKind.u64.wrap (n : Int) = (n : Int) := by rw [IntKind.wrap_u64]; omega
  have kw2 : (n : Int) % 18446744073709551616 = (n : Int) := by omega
  go_enter Tryz.func182, Tryz.ntmps182
  go_wp2_with fail
  exact bodyPost_ret (results_tmp2 rfl _ _ _) rfl ⟨_, rfl, .inl ⟨rfl, rfl⟩, Below.refl _ _⟩
theorem place_paths_out (es : List Ent) (v : Value) (w : World) (hv : EntsAt w v es) (k : Nat) (hk : es.length < k) (h64 : k < 18446744073709551616) :
    Calls Tryz.prog 124 #[.int .u64 (k : Int), v] w (ToldAs w [] 1) := by
  have HC := Lib.hid (asks_paths_out es v w hv k hk h64)
  clear hv hk h64
  go_enter Tryz.func124, Tryz.ntmps124
  go_wp2_with fail
  refine HC.out.mono ?_
  rintro e w1 ⟨v', rfl, hs, hb⟩
  have HS := Lib.hid (And.intro hs hb)
  clear hs hb HC
  go_wp2_with fail
  refine bodyPost_ret (results_tmp2 rfl _ _ _) rfl ?_
  exact ⟨_, rfl, HS.out.1, HS.out.2⟩
set_option maxRecDepth 100000 in
theorem first_paths_out (base : Nat) (w : World) (c : Nat) (l : List (List UInt8)) (h : ChainAt base w c l) (k : Nat) (hk : k ≤ l.length) (p : Nat) (hp : k < p) (h64 : p < 18446744073709551616) :
    Calls Tryz.prog 123 #[.pointer (some ⟨c, 0, none⟩), .int .u64 (k : Int), .func (.func 124) #[.int .u64 (p : Int)] #[]] w (ToldAs w [] 1) := by
  obtain ⟨f, v, vf, es, h2⟩ := h
  have HZ := Lib.hid (csize_at base _ c l h2.at_)
  have HC0 := Lib.hid h2.c0
  have hc1 := h2.c1
  have hsh := h2.short
  have hsh' : (l.length : Int) < 4000000000 := by omega
  have hkl : ¬ ((l.length : Int) < (k : Int)) := by omega
  obtain ⟨a, cap, rfl, k1, k2, k3⟩ := h2.form
  have hes := h2.take k hk a cap rfl
  have hlen : (es.take k).length = k := by rw [List.length_take, h2.len]; omega
  have HT := Lib.hid (place_paths_out (es.take k) _ w hes p (by rw [hlen]; exact hp) h64)
  clear hes hlen hp h64
  unfold maxLen at k2
  have b1 : (k : Int) ≤ (cap : Int) := by omega
  have b2 : (k : Int) < 4000000000 := by omega
  have h3 : (l = [] ∧ a = none ∧ cap = 0) ∨ ∃ g, a = some ⟨g, 0, none⟩ := by
    rcases k3 with h0 | ⟨g, hg, _⟩
    · left
      have := h2.nil h0
      simp only [Value.slice.injEq] at this
      exact ⟨h0, this.1, this.2.2⟩
    · exact .inr ⟨g, hg⟩
  clear h2 k3
  rcases h3 with ⟨rfl, rfl, rfl⟩ | ⟨g, rfl⟩
  · obtain rfl : k = 0 := by simpa using hk
    have HZ' : Hid (Calls Tryz.prog 34 #[.pointer (some ⟨c, 0, none⟩)] w fun e w' => e = .returned (.int .u64 0) ∧ w = w') := HZ
    have hc1' : w.cell? ⟨c, 1, none⟩ = some (.slice none 0 0) := hc1
    clear hkl b1 b2 hsh hsh' hk k1 k2 HZ hc1
    go_enter Tryz.func123, Tryz.ntmps123
    go_wp2_with (first
      | (go_at_call 112; refine (cnone_live _ c f HC0.out).mono ?_; rintro e w1 ⟨rfl, rfl⟩)
      | (go_at_call 34; refine HZ'.out.mono ?_; rintro e w1 ⟨rfl, rfl⟩))
    refine HT.out.mono ?_
    rintro e w1 ⟨v', rfl, hs, hb⟩
    have HS := Lib.hid (And.intro hs hb)
    clear hs hb HT
    go_wp2_with fail
    refine bodyPost_ret (results_tmp2 rfl _ _ _) rfl ?_
    exact ⟨_, rfl, HS.out.1, HS.out.2⟩
  · generalize l.length = n at *
    have hd : decide (n < k) = false := decide_eq_false (by omega)
    clear k2 k1 hsh hk hkl hsh' b2
    go_enter Tryz.func123, Tryz.ntmps123
    go_wp2_with (first
      | (go_at_call 112; refine (cnone_live _ c f HC0.out).mono ?_; rintro e w1 ⟨rfl, rfl⟩)
      | (go_at_call 34; refine HZ.out.mono ?_; rintro e w1 ⟨rfl, rfl⟩))
    refine HT.out.mono ?_
    rintro e w1 ⟨v', rfl, hs, hb⟩
    have HS := Lib.hid (And.intro hs hb)
    clear hs hb HT
    go_wp2_with fail
    refine bodyPost_ret (results_tmp2 rfl _ _ _) rfl ?_
    exact ⟨_, rfl, HS.out.1, HS.out.2⟩
set_option maxRecDepth 100000 in
theorem first_paths_arg (base : Nat) (w : World) (c : Nat) (l : List (List UInt8)) (h : ChainAt base w c l) (k : Nat) (hk : l.length < k) (p : Nat) :
    Calls Tryz.prog 123 #[.pointer (some ⟨c, 0, none⟩), .int .u64 (k : Int), .func (.func 124) #[.int .u64 (p : Int)] #[]] w (ToldAs w [] 1) := by
  obtain ⟨f, v, vf, es, h2⟩ := h
  have HZ := Lib.hid (csize_at base _ c l h2.at_)
  have HC0 := Lib.hid h2.c0
  have hkl : ((l.length : Int) < (k : Int)) := by omega
  have hd : decide (l.length < k) = true := decide_eq_true hk
  clear h2 hk
  generalize l.length = n at *
  go_enter Tryz.func123, Tryz.ntmps123
  go_wp2_with (first
    | (go_at_call 112; refine (cnone_live _ c f HC0.out).mono ?_; rintro e w1 ⟨rfl, rfl⟩)
    | (go_at_call 34; refine HZ.out.mono ?_; rintro e w1 ⟨rfl, rfl⟩))
  exact bodyPost_ret (results_tmp2 rfl _ _ _) rfl ⟨_, rfl, .inl ⟨rfl, rfl⟩, Below.refl _ _⟩
theorem cpath_of (w : World) (c k p : Nat) (r : List Sum) (E : Int) (h : Calls Tryz.prog 123 #[.pointer (some ⟨c, 0, none⟩), .int .u64 (k : Int), .func (.func 124) #[.int .u64 (p : Int)] #[]] w (ToldAs w r E)) :
    Calls Tryz.prog 38 #[.pointer (some ⟨c, 0, none⟩), .int .u64 (p : Int), .int .u64 (k : Int)] w (ToldAs w r E) := by
  have HT := Lib.hid h
  have hmf : ∀ (fn : Fn) (first cap : Array Value) (w : World), (Instr.makeFunc fn first cap).run Tryz.prog w = .ok (.func fn first cap) w := fun _ _ _ _ => rfl
  clear h
  go_enter Tryz.func38, Tryz.ntmps38
  go_wp2_with fail
  refine HT.out.mono ?_
  rintro e w1 ⟨v', rfl, hs, hb⟩
  have HS := Lib.hid (And.intro hs hb)
  clear hs hb HT
  go_wp2_with fail
  refine bodyPost_ret (results_tmp2 rfl _ _ _) rfl ?_
  exact ⟨_, rfl, HS.out.1, HS.out.2⟩
theorem asks_links_out (es : List Ent) (v : Value) (w : World) (hv : EntsAt w v es) (k : Nat) (hk : es.length < k) (h64 : k < 18446744073709551616) :
    Calls Tryz.prog 182 #[.int .u64 (k : Int), v, .func (.func 24) #[] #[]] w (ToldAs w [] 1) := by
  obtain ⟨aa, ca, rfl, a1, a2, -⟩ := hv
  obtain ⟨n, hna⟩ : ∃ n, n = es.length := ⟨_, rfl⟩
  rw [← hna] at a1 hk ⊢
  clear hna
  have kn : decide (n < k) = true := decide_eq_true hk
  have kn' : ((n : Int) < (k : Int)) := by omega
  unfold maxLen at a2
  have kw : IntKind.u64.wrap (n : Int) = (n : Int) := by rw [IntKind.wrap_u64]; omega
  have kw2 : (n : Int) % 18446744073709551616 = (n : Int) := by omega
  go_enter Tryz.func182, Tryz.ntmps182
  go_wp2_with fail
  exact bodyPost_ret (results_tmp2 rfl _ _ _) rfl ⟨_, rfl, .inl ⟨rfl, rfl⟩, Below.refl _ _⟩
theorem place_links_out (es : List Ent) (v : Value) (w : World) (hv : EntsAt w v es) (k : Nat) (hk : es.length < k) (h64 : k < 18446744073709551616) :
    Calls Tryz.prog 125 #[.int .u64 (k : Int), v] w (ToldAs w [] 1) := by
  have HC := Lib.hid (asks_links_out es v w hv k hk h64)
  clear hv hk h64
  go_enter Tryz.func125, Tryz.ntmps125
  go_wp2_with fail
  refine HC.out.mono ?_
  rintro e w1 ⟨v', rfl, hs, hb⟩
  have HS := Lib.hid (And.intro hs hb)
  clear hs hb HC
  go_wp2_with fail
  refine bodyPost_ret (results_tmp2 rfl _ _ _) rfl ?_
  exact ⟨_, rfl, HS.out.1, HS.out.2⟩
set_option maxRecDepth 100000 in
theorem first_links_out (base : Nat) (w : World) (c : Nat) (l : List (List UInt8)) (h : ChainAt base w c l) (k : Nat) (hk : k ≤ l.length) (p : Nat) (hp : k < p) (h64 : p < 18446744073709551616) :
    Calls Tryz.prog 123 #[.pointer (some ⟨c, 0, none⟩), .int .u64 (k : Int), .func (.func 125) #[.int .u64 (p : Int)] #[]] w (ToldAs w [] 1) := by
  obtain ⟨f, v, vf, es, h2⟩ := h
  have HZ := Lib.hid (csize_at base _ c l h2.at_)
  have HC0 := Lib.hid h2.c0
  have hc1 := h2.c1
  have hsh := h2.short
  have hsh' : (l.length : Int) < 4000000000 := by omega
  have hkl : ¬ ((l.length : Int) < (k : Int)) := by omega
  obtain ⟨a, cap, rfl, k1, k2, k3⟩ := h2.form
  have hes := h2.take k hk a cap rfl
  have hlen : (es.take k).length = k := by rw [List.length_take, h2.len]; omega
  have HT := Lib.hid (place_links_out (es.take k) _ w hes p (by rw [hlen]; exact hp) h64)
  clear hes hlen hp h64
  unfold maxLen at k2
  have b1 : (k : Int) ≤ (cap : Int) := by omega
  have b2 : (k : Int) < 4000000000 := by omega
  have h3 : (l = [] ∧ a = none ∧ cap = 0) ∨ ∃ g, a = some ⟨g, 0, none⟩ := by
    rcases k3 with h0 | ⟨g, hg, _⟩
    · left
      have := h2.nil h0
      simp only [Value.slice.injEq] at this
      exact ⟨h0, this.1, this.2.2⟩
    · exact .inr ⟨g, hg⟩
  clear h2 k3
  rcases h3 with ⟨rfl, rfl, rfl⟩ | ⟨g, rfl⟩
  · obtain rfl : k = 0 := by simpa using hk
    have HZ' : Hid (Calls Tryz.prog 34 #[.pointer (some ⟨c, 0, none⟩)] w fun e w' => e = .returned (.int .u64 0) ∧ w = w') := HZ
    have hc1' : w.cell? ⟨c, 1, none⟩ = some (.slice none 0 0) := hc1
    clear hkl b1 b2 hsh hsh' hk k1 k2 HZ hc1
    go_enter Tryz.func123, Tryz.ntmps123
    go_wp2_with (first
      | (go_at_call 112; refine (cnone_live _ c f HC0.out).mono ?_; rintro e w1 ⟨rfl, rfl⟩)
      | (go_at_call 34; refine HZ'.out.mono ?_; rintro e w1 ⟨rfl, rfl⟩))
    refine HT.out.mono ?_
    rintro e w1 ⟨v', rfl, hs, hb⟩
    have HS := Lib.hid (And.intro hs hb)
    clear hs hb HT
    go_wp2_with fail
    refine bodyPost_ret (results_tmp2 rfl _ _ _) rfl ?_
    exact ⟨_, rfl, HS.out.1, HS.out.2⟩
  · generalize l.length = n at *
    have hd : decide (n < k) = false := decide_eq_false (by omega)
    clear k2 k1 hsh hk hkl hsh' b2
    go_enter Tryz.func123, Tryz.ntmps123
    go_wp2_with (first
      | (go_at_call 112; refine (cnone_live _ c f HC0.out).mono ?_; rintro e w1 ⟨rfl, rfl⟩)
      | (go_at_call 34; refine HZ.out.mono ?_; rintro e w1 ⟨rfl, rfl⟩))
    refine HT.out.mono ?_
    rintro e w1 ⟨v', rfl, hs, hb⟩
    have HS := Lib.hid (And.intro hs hb)
    clear hs hb HT
    go_wp2_with fail
    refine bodyPost_ret (results_tmp2 rfl _ _ _) rfl ?_
    exact ⟨_, rfl, HS.out.1, HS.out.2⟩
set_option maxRecDepth 100000 in
theorem first_links_arg (base : Nat) (w : World) (c : Nat) (l : List (List UInt8)) (h : ChainAt base w c l) (k : Nat) (hk : l.length < k) (p : Nat) :
    Calls Tryz.prog 123 #[.pointer (some ⟨c, 0, none⟩), .int .u64 (k : Int), .func (.func 125) #[.int .u64 (p : Int)] #[]] w (ToldAs w [] 1) := by
  obtain ⟨f, v, vf, es, h2⟩ := h
  have HZ := Lib.hid (csize_at base _ c l h2.at_)
  have HC0 := Lib.hid h2.c0
  have hkl : ((l.length : Int) < (k : Int)) := by omega
  have hd : decide (l.length < k) = true := decide_eq_true hk
  clear h2 hk
  generalize l.length = n at *
  go_enter Tryz.func123, Tryz.ntmps123
  go_wp2_with (first
    | (go_at_call 112; refine (cnone_live _ c f HC0.out).mono ?_; rintro e w1 ⟨rfl, rfl⟩)
    | (go_at_call 34; refine HZ.out.mono ?_; rintro e w1 ⟨rfl, rfl⟩))
  exact bodyPost_ret (results_tmp2 rfl _ _ _) rfl ⟨_, rfl, .inl ⟨rfl, rfl⟩, Below.refl _ _⟩
theorem clink_of (w : World) (c k p : Nat) (r : List Sum) (E : Int) (h : Calls Tryz.prog 123 #[.pointer (some ⟨c, 0, none⟩), .int .u64 (k : Int), .func (.func 125) #[.int .u64 (p : Int)] #[]] w (ToldAs w r E)) :
    Calls Tryz.prog 39 #[.pointer (some ⟨c, 0, none⟩), .int .u64 (p : Int), .int .u64 (k : Int)] w (ToldAs w r E) := by
  have HT := Lib.hid h
  have hmf : ∀ (fn : Fn) (first cap : Array Value) (w : World), (Instr.makeFunc fn first cap).run Tryz.prog w = .ok (.func fn first cap) w := fun _ _ _ _ => rfl
  clear h
  go_enter Tryz.func39, Tryz.ntmps39
  go_wp2_with fail
  refine HT.out.mono ?_
  rintro e w1 ⟨v', rfl, hs, hb⟩
  have HS := Lib.hid (And.intro hs hb)
  clear hs hb HT
  go_wp2_with fail
  refine bodyPost_ret (results_tmp2 rfl _ _ _) rfl ?_
  exact ⟨_, rfl, HS.out.1, HS.out.2⟩
/-- What a chain tells as a path, as a link. -/
noncomputable def cpathOf (l : List (List UInt8)) (p k : Nat) : List Sum := if k ≤ l.length ∧ p ≤ k then pathOf ((l.take k).map lf) p else []
noncomputable def cpathE (l : List (List UInt8)) (p k : Nat) : Int := if k ≤ l.length ∧ p ≤ k then errOf ((l.take k).map lf) p else 1
noncomputable def clinkOf (l : List (List UInt8)) (p k : Nat) : List Sum := if k ≤ l.length ∧ p ≤ k then linkOf ((l.take k).map lf) p else []
noncomputable def clinkE (l : List (List UInt8)) (p k : Nat) : Int := if k ≤ l.length ∧ p ≤ k then errOfL ((l.take k).map lf) p else 1
theorem told_lie {w : World} {r : List Sum} {E : Int} {e : Ending} {w' : World} (h : ToldAs w r E e w') : ∃ x, e = .returned (.tuple #[x, .int .i64 E]) ∧ Lie w' w.heap.size 32 x (r.map cellsOf) ∧ Below w.heap.size w w' := by
  obtain ⟨v, he, hs, hb⟩ := h
  exact ⟨v, he, new_lie hs, hb⟩
theorem pof_told (l : List Sum) (v : Value) (z : Int) (w : World) (hv : SumsAt w v l) (hl : l.length < 1000000) : Calls Tryz.prog 9 #[v, .int .i64 z] w (ToldAs w (pathOf l z) (errOf l z)) := by
  by_cases h : 0 ≤ z ∧ z < l.length
  · obtain ⟨m, rfl⟩ : ∃ m : Nat, z = (m : Int) := ⟨z.toNat, by omega⟩
    rw [errOf, pathOf, if_pos h, if_pos h]
    exact pathsOf_any l m v w hv (by omega) hl
  · rw [errOf, pathOf, if_neg h, if_neg h]
    refine (pof_out l v z w hv (by omega)).mono ?_
    rintro e w' ⟨rfl, rfl⟩
    exact ⟨_, rfl, .inl ⟨rfl, rfl⟩, Below.refl _ _⟩
theorem lof_told (l : List Sum) (v : Value) (z : Int) (w : World) (hv : SumsAt w v l) (hl : l.length < 1000000) : Calls Tryz.prog 24 #[v, .int .i64 z] w (ToldAs w (linkOf l z) (errOfL l z)) := by
  by_cases h : 1 ≤ z ∧ z ≤ l.length
  · obtain ⟨m, rfl⟩ : ∃ m : Nat, z = (m : Int) := ⟨z.toNat, by omega⟩
    rw [errOfL, linkOf, if_pos h, if_pos h]
    exact linksOf_any l m v w hv (by omega) (by omega) hl
  · rw [errOfL, linkOf, if_neg h, if_neg h]
    refine (lof_out l v z w hv (by omega)).mono ?_
    rintro e w' ⟨rfl, rfl⟩
    exact ⟨_, rfl, .inl ⟨rfl, rfl⟩, Below.refl _ _⟩
theorem chain_path (base : Nat) (w : World) (c : Nat) (l : List (List UInt8)) (h : ChainAt base w c l) (hl : l.length < 1000000) (p k : Nat) (hp : p < 18446744073709551616) :
    Calls Tryz.prog 38 #[.pointer (some ⟨c, 0, none⟩), .int .u64 (p : Int), .int .u64 (k : Int)] w fun e w' => ∃ x, e = .returned (.tuple #[x, .int .i64 (cpathE l p k)]) ∧ Lie w' w.heap.size 32 x ((cpathOf l p k).map cellsOf) ∧ Below w.heap.size w w' := by
  refine Calls.mono ?_ (fun e w' h => told_lie h)
  unfold cpathE cpathOf
  by_cases h1 : k ≤ l.length ∧ p ≤ k
  · rw [if_pos h1, if_pos h1]
    exact cpath_at base w c l h k h1.1 p h1.2 (by omega) _ _ (fun u W hu => pof_told _ u _ W hu (by rw [List.length_map, List.length_take]; omega))
  · rw [if_neg h1, if_neg h1]
    refine cpath_of w c k p [] 1 ?_
    by_cases h2 : k ≤ l.length
    · exact first_paths_out base w c l h k h2 p (by omega) hp
    · exact first_paths_arg base w c l h k (by omega) p
theorem chain_link (base : Nat) (w : World) (c : Nat) (l : List (List UInt8)) (h : ChainAt base w c l) (hl : l.length < 1000000) (p k : Nat) (hp : p < 18446744073709551616) :
    Calls Tryz.prog 39 #[.pointer (some ⟨c, 0, none⟩), .int .u64 (p : Int), .int .u64 (k : Int)] w fun e w' => ∃ x, e = .returned (.tuple #[x, .int .i64 (clinkE l p k)]) ∧ Lie w' w.heap.size 32 x ((clinkOf l p k).map cellsOf) ∧ Below w.heap.size w w' := by
  refine Calls.mono ?_ (fun e w' h => told_lie h)
  unfold clinkE clinkOf
  by_cases h1 : k ≤ l.length ∧ p ≤ k
  · rw [if_pos h1, if_pos h1]
    exact clink_at base w c l h k h1.1 p h1.2 (by omega) _ _ (fun u W hu => lof_told _ u _ W hu (by rw [List.length_map, List.length_take]; omega))
  · rw [if_neg h1, if_neg h1]
    refine clink_of w c k p [] 1 ?_
    by_cases h2 : k ≤ l.length
    · exact first_links_out base w c l h k h2 p (by omega) hp
    · exact first_links_arg base w c l h k (by omega) p
end Go.Proofs.YtdkcndgehgmadaaGreatDoor
-- Walks: the document's leaf (almonerref08.Leaf).
open Go Go.RowKit Alm
namespace Go.Proofs.YtdkcndgehgmadaaGreatDoor
theorem append_zero_run {w : World} {base n : Nat} {v : Value} {xs : List Value} (ty : TypeId) (hown : w.ownsRow base 5 1 v n xs) (ad : Option Addr) (c : Nat) : (Builtin.append_ #[65, 65] ty #[v, .slice ad 0 c]).run Tryz.prog w = .ok v w := by
  obtain ⟨i, hi, hz⟩ := Option.map_eq_some_iff.1 infoByteZ
  rcases hown.2 with ⟨rfl, rfl⟩ | ⟨g, cap, cur, rfl, _, _, hnc, _⟩
  · cases ad <;> simp [Builtin.append_, run_underlying Tryz.underlying65, sizeOf, typeInfo, hi, Builtin.lenOf, Builtin.firstCells, loadCells, loadCellsFrom]
  · cases ad <;> simp [Builtin.append_, run_underlying Tryz.underlying65, sizeOf, typeInfo, hi, Builtin.lenOf, Builtin.firstCells, loadCells, loadCellsFrom, hnc, storeCells]
/-- Bytes behind bytes of one's own. -/
theorem wpList_append_bytes {ops : Array Oper} {rest : List Oper} {op : Oper} {a : Act} {w : World} {Q : Exit → Act → World → Prop} (hgd : op.guard = none) (s x : Operand)
    (ho : op.op = .call { callee := .builtin .append, args := #[s, x], argTypes := #[65, 65] })
    (base : Nat) (v vx : Value) (l ys : List UInt8) (n m : Nat) (hn : l.length = n) (hm : ys.length = m) (hs : a.eval s = v) (hown : w.ownsRow base 5 1 v n (cells8 l)) (hx : a.eval x = vx) (hb : BytesAt w vx ys) (hl : n + m < 4000000000) (hB : base ≤ w.heap.size)
    (h : ∀ v' w', w'.ownsRow base 5 1 v' (n + m) (cells8 (l ++ ys)) → w.grownBy w' v.ownBlock → wpList Tryz.prog ops Q rest (a.put op.dst v') w') : wpList Tryz.prog ops Q (op :: rest) a w := by
  refine wpList_plain hgd fun K hK => ?_
  obtain ⟨xa, xc, rfl, h1, h2, h3⟩ := hb
  by_cases h0 : ys = []
  · subst h0
    obtain rfl : m = 0 := hm.symm
    have hrun := append_zero_run (ty := op.type) hown xa xc
    unfold Oper.wp
    simp only [execOp, ho, resolve, invoke, builtin, List.map_toArray, List.map_cons, List.map_nil, hs, hx, Sem.run_bind, Sem.run_pure, Result.andThen_ok, List.length_nil, hrun]
    exact hK _ _ (h v w (by rw [List.append_nil]; exact hown) (World.grownBy.refl w _))
  · obtain ⟨b, off, rfl, hr⟩ := h3.resolve_left h0
    subst hm
    refine wp_append_b8 s x ho base v l ys n ys.length hn rfl hs hown b off xc hx hr (List.length_pos_iff.2 h0) (by omega) hB ?_
    intro g cap w' ho' hg
    exact hK _ _ (h _ w' ho' hg)
set_option maxRecDepth 100000 in
set_option maxHeartbeats 1000000 in
theorem rleaf_any (b : List UInt8) (v : Value) (w : World) (hv : BytesAt w v b) (hl : b.length < 900000) : Calls Tryz.prog 128 #[v] w fun e w' => e = .returned (sv (lf b)) ∧ Below w.heap.size w w' := by
  obtain ⟨s, hs⟩ : ∃ s, s = lf b := ⟨_, rfl⟩
  rw [← hs]
  rw [lf_eq] at hs
  have HS := Lib.hid hs
  clear hs
  obtain ⟨w1, hw1⟩ : ∃ x, x = w.alloc (.cells (cellsOf zeroSum).toArray 24) := ⟨_, rfl⟩
  have t1 : w1.there w.heap.size 0 32 := by rw [hw1]; exact there_new w (cellsOf zeroSum).toArray _
  have b1 : Below w.heap.size w w1 := by rw [hw1]; exact al (Below.refl _ _) _
  have hv1 := bytes_below hv b1 (Nat.le_refl _)
  have H0 := Lib.hid (And.intro t1 (And.intro b1 (And.intro hv1 (And.intro hl hw1))))
  clear t1 b1 hv1 hv hw1 hl
  go_enter Tryz.func128, Tryz.ntmps128
  refine wp_cut 1 ?_
  intro T hT
  dsimp only [cutN]
  replace hT := Lib.hid hT
  go_wp2_with fail
  refine hT.out _ _ ?_
  clear hT
  dsimp only [dropN]
  change Code.wp _ _ _ _ (w.alloc (.cells (cellsOf zeroSum).toArray 24))
  rw [← H0.out.2.2.2.2]
  go_wp2_with (refine wpList_lit_u8 rfl _ rfl (0 : Int) rfl ?_; refine Hid.out ?_)
  refine Lib.hid ?_
  have ho := own_one (w := w1) 0 #[.int .u8 0] rfl
  have hba := al (Below.refl w1.heap.size w1) (.cells #[.int .u8 0] 5)
  have HO := Lib.hid (And.intro ho hba)
  have HV1 := Lib.hid (bytes_below H0.out.2.2.1 hba (Nat.le_refl _))
  clear ho hba
  generalize w1.alloc (.cells #[.int .u8 0] 5) = w2 at *
  go_wp2_with (at_builtin; refine Hid.out ?_)
  refine Lib.hid ?_
  refine wpList_append_bytes rfl _ _ rfl w1.heap.size _ _ [0] b 1 b.length rfl rfl rfl HO.out.1 rfl HV1.out (by have := H0.out.2.2.2.1; omega) HO.out.2.size ?_
  intro v3 w3 ho3 hg3
  have hb3 := own_grown HO.out.2 HO.out.1 hg3 HO.out.2.size
  have hby : BytesAt w3 v3 (0 :: b) := by
    have hlen : (0 :: b : List UInt8).length = 1 + b.length := by simp; omega
    exact bytes_own (l := 0 :: b) (by rw [hlen]; exact ho3) (by have := H0.out.2.2.2.1; rw [hlen]; omega)
  have HC := Lib.hid (refof_any _ _ w3 hby (by have := H0.out.2.2.2.1; simp; omega))
  have H3 := Lib.hid hb3
  clear ho3 hb3 hg3 hby
  rw [← HS.out] at HC
  go_wp2_with (first
    | (go_at_call 102; refine HC.out.mono ?_; rintro e w4 ⟨rfl, hb4⟩; have hb4' := H3.out.trans (hb4.mono H3.out.size); have H4 := Lib.hid (And.intro ((Keeps.of_below (X := fun _ => False) hb4').there H0.out.1 (by decide) (fun h => h)) (H0.out.2.1.trans (hb4'.mono H0.out.2.1.size))); clear hb4 hb4')
    | (refine wpList_store_sum rfl _ _ rfl w.heap.size 0 s rfl rfl H4.out.1 ?_))
  exact bodyPost_ret (results_sum Tryz.results128 _ _ _ _ rfl (World.there_setCells H4.out.1 _ _ _)) rfl ⟨rfl, setCells_below _ (Nat.le_refl _) _ _ _ _ H4.out.2⟩
end Go.Proofs.YtdkcndgehgmadaaGreatDoor
-- Walks: the document's sums, mark, root, first of entries (almonerref12).

open Go Go.RowKit Alm
namespace Go.Proofs.YtdkcndgehgmadaaGreatDoor
set_option maxRecDepth 100000 in
set_option maxHeartbeats 1000000 in
theorem rsums12_any (l : List (List UInt8)) (v : Value) (w : World) (hv : ListsAt w v l) (hn : l.length < 1000000) (hs : ∀ x ∈ l, x.length < 900000) : Calls Tryz.prog 127 #[v] w fun e w' => ∃ v', e = .returned v' ∧ SumsAt w' v' (l.map lf) ∧ Below w.heap.size w w' := by
  have HV := Lib.hid hv
  obtain ⟨aa, ca, rfl, a1, a2, a3⟩ := hv
  clear a3
  obtain ⟨n, hna⟩ : ∃ n, n = l.length := ⟨_, rfl⟩
  rw [← hna] at HV a1 hn ⊢
  have HN := Lib.hid (And.intro hna (And.intro hn hs))
  clear hna hs
  unfold maxLen at a2
  go_enter Tryz.func127, Tryz.ntmps127
  go_wp2_with fail
  go_loopw [3, 4] (fun out i W => ∃ j : Nat, j ≤ n ∧ i = .int .i64 (j : Int) ∧ W.ownsRow w.heap.size 24 32 out j (cellsAll ((l.take j).map lf)) ∧ Below w.heap.size w W) (fun _ i _ => n - (intOf i).toNat)
  case atStart => exact ⟨0, by omega, rfl, World.ownsRow_nil _ _ _ _, Below.refl _ _⟩
  case round =>
    obtain ⟨j, hj, rfl, ho, hB⟩ := hrel
    have HO1 := Lib.hid ho; clear ho
    have HB := Lib.hid hB; clear hB
    by_cases hlt : j < n
    · have hlt' : (j : Int) < (n : Int) := by omega
      have h0 : l ≠ [] := by intro h; have := HN.out.1; rw [h] at this; simp at this; omega
      have HW := Lib.hid (HV.out.below HB.out)
      obtain ⟨b1', o1', c1', he1, _, _⟩ := HV.out.form h0
      simp only [Value.slice.injEq] at he1
      obtain ⟨rfl, h9, rfl⟩ := he1
      clear h9
      obtain ⟨u1, hc1, hu1⟩ := HW.out.cell (sp := none) (j := j) (by have := HN.out.1; omega)
      have hjl : j < l.length := by have := HN.out.1; omega
      have hstep : (l.take (j + 1)).map lf = (l.take j).map lf ++ [lf l[j]] := by rw [List.take_succ_eq_append_getElem hjl, List.map_append]; rfl
      have HST := Lib.hid hstep
      have HU := Lib.hid (And.intro hu1 (HN.out.2.2 _ (List.getElem_mem hjl)))
      clear hu1 hstep h0
      generalize l[j] = x at *
      clear hjl
      have hml : ((l.take j).map lf).length = j := by rw [List.length_map, List.length_take]; have := HN.out.1; omega
      have HML := Lib.hid hml; clear hml
      generalize (l.take j).map lf = acc at *
      obtain ⟨y, hy⟩ : ∃ y, y = lf x := ⟨_, rfl⟩
      have HL := Lib.hid (rleaf_any x u1 wr HU.out.1 HU.out.2)
      rw [← hy] at HST HL
      clear hy
      have hj0 : (0 : Int) ≤ (j : Int) := by omega
      go_wp2_with (go_at_call 128; refine HL.out.mono ?_; rintro e w2 ⟨rfl, hb2⟩; refine Hid.out ?_)
      refine Lib.hid ?_
      have HB2 := Lib.hid (HB.out.trans (hb2.mono HB.out.size))
      have HO2 := Lib.hid ((Keeps.of_below (X := fun _ => False) hb2).owns HO1.out (fun _ _ h => h))
      clear hb2 hc1 HL HO1
      go_wp2_with (first
        | (refine wpList_build_sums rfl 1 _ rfl [y] rfl (by omega) (by omega) rfl ?_; have HB3 := Lib.hid (HB2.out.alloc HB2.out.size (.cells (cellsAll [y]).toArray 24)); have HX3 : Hid ((w2.alloc (.cells (cellsAll [y]).toArray 24)).rangeAt w2.heap.size 0 (cellsAll [y])) := range_new w2 _ _ _ rfl)
        | (at_builtin; refine wpList_append_sums rfl _ _ rfl w.heap.size _ acc [y] j 1 HML.out rfl (by rfl) (HO2.out.alloc _) w2.heap.size 0 1 rfl HX3.out (by omega) (by omega) HB3.out.size ?_; intro g4 c4 w4 ho4 hg4 hat4 hlt4; have HB4 := Lib.hid (HB3.out.grown hg4 HB3.out.size (fun k hk => (HO2.out.lt k hk).1))))
      exact ⟨⟨j + 1, by omega, by simp, by rw [HST.out]; exact ho4, HB4.out⟩, by simp [intOf]; omega⟩
    · have hjn : j = n := by omega
      subst hjn
      have htk : l.take j = l := List.take_of_length_le (by rw [HN.out.1]; exact Nat.le_refl _)
      have ho := HO1.out
      rw [htk] at ho
      have hml : (l.map lf).length = j := by rw [List.length_map, ← HN.out.1]
      rw [← hml] at ho
      have HSN := Lib.hid (sums_own ho)
      clear htk ho hml HO1
      go_wp2_with fail
      refine bodyPost_ret (results_tmp rfl _ _ _) rfl ?_
      exact ⟨_, rfl, HSN.out, HB.out⟩
set_option maxRecDepth 100000 in
theorem rroot12_any (l : List (List UInt8)) (v : Value) (w : World) (hv : ListsAt w v l) (hn : l.length < 1000000) (hs : ∀ x ∈ l, x.length < 900000) : Calls Tryz.prog 44 #[v] w fun e w' => e = .returned (sv (rt (l.map lf))) ∧ Below w.heap.size w w' := by
  have R0 : Res w 32 (w.alloc (.cells (cells8 (List.replicate 32 0)).toArray 24)) := Res.start _ _ _ _ (by rfl)
  have HT := Lib.hid (rsums12_any l v _ (hv.below R0.below) hn hs)
  have HR := Lib.hid R0
  obtain ⟨s, hs9⟩ : ∃ s, s = rt (l.map lf) := ⟨_, rfl⟩
  rw [← hs9]
  have HS9 := Lib.hid hs9
  clear hv hn hs R0 hs9
  go_enter Tryz.func44, Tryz.ntmps44
  go_wp2_with (go_at_call 127; refine HT.out.mono ?_; rintro e w1 ⟨v1, rfl, hs1, hb1⟩; refine Hid.out ?_)
  refine Lib.hid ?_
  have R1 := HR.out.call (by omega) hb1
  have hc := rroot_any _ v1 w1 hs1
  rw [← HS9.out] at hc
  have HC := Lib.hid hc
  clear hc
  have HR1 := Lib.hid R1
  clear HT HR R1 hs1 hb1
  go_wp2_with (first
    | (go_at_call 21; refine HC.out.mono ?_; rintro e w2 ⟨rfl, hb2⟩; have R2 := HR1.out.call (by omega) hb2; clear hb2)
    | (refine wpList_store_sum rfl _ _ rfl w.heap.size 0 s rfl rfl R2.there ?_))
  have RS := R2.store (cellsOf s)
  exact bodyPost_ret (results_sum Tryz.results44 _ _ _ _ rfl RS.there) rfl ⟨rfl, RS.below⟩
theorem rfirst_in (w : World) (b o ca n k : Nat) (hk : k ≤ n) (hn : n ≤ ca) (hc : ca ≤ maxLen) : Calls Tryz.prog 126 #[.slice (some ⟨b, o, none⟩) n ca, .int .u64 (k : Int)] w fun e w' => e = .returned (.tuple #[.slice (some ⟨b, o, none⟩) k ca, .bool true]) ∧ w = w' := by
  unfold maxLen at hc
  have k1 : (k : Int) ≤ (ca : Int) := by omega
  have k2 : ¬ ((n : Int) < (k : Int)) := by omega
  have k3 : decide (n < k) = false := decide_eq_false (by omega)
  have k4 : IntKind.u64.wrap (n : Int) = (n : Int) := by rw [IntKind.wrap_u64]; omega
  have k5 : (n : Int) % 18446744073709551616 = (n : Int) := by omega
  go_enter Tryz.func126, Tryz.ntmps126
  go_wp2_with fail
  exact bodyPost_ret (results_tmp2 rfl _ _ _) rfl ⟨rfl, rfl⟩
theorem rfirst_nil (w : World) : Calls Tryz.prog 126 #[.slice none 0 0, .int .u64 0] w fun e w' => e = .returned (.tuple #[.slice none 0 0, .bool true]) ∧ w = w' := by
  go_enter Tryz.func126, Tryz.ntmps126
  go_wp2_with fail
  exact bodyPost_ret (results_tmp2 rfl _ _ _) rfl ⟨rfl, rfl⟩
theorem rfirst_out (w : World) (a : Option Addr) (ca n k : Nat) (hk : n < k) (hn : n < 1000000) : Calls Tryz.prog 126 #[.slice a n ca, .int .u64 (k : Int)] w fun e w' => e = .returned (.tuple #[.slice none 0 0, .bool false]) ∧ w = w' := by
  have k2 : ((n : Int) < (k : Int)) := by omega
  have k3 : decide (n < k) = true := decide_eq_true (by omega)
  have k4 : IntKind.u64.wrap (n : Int) = (n : Int) := by rw [IntKind.wrap_u64]; omega
  have k5 : (n : Int) % 18446744073709551616 = (n : Int) := by omega
  go_enter Tryz.func126, Tryz.ntmps126
  go_wp2_with fail
  exact bodyPost_ret (results_tmp2 rfl _ _ _) rfl ⟨rfl, rfl⟩
end Go.Proofs.YtdkcndgehgmadaaGreatDoor
