/-
  Walks: almonerlaw12.great, made; chains: Entry, Add of too much.
-/
import Derived.Test.YtdkcndgehgmadaaK5
import Derived.Test.YtdkcndgehgmadaaB9
open Go Go.RowKit Alm
namespace Go.Proofs.Ytdkcndgehgmadaa
def gr12 (l : List (List UInt8)) : Bool := decide (60 < l.length) || decide (40000 < bsz l)
set_option maxRecDepth 100000 in
theorem great12_any (l : List (List UInt8)) (v : Value) (w : World) (hv : ListsAt w v l) (hn : l.length ≤ LIM) (hs : ∀ x ∈ l, x.length ≤ LIM) : Calls Try.prog 45 #[v] w fun e w' => e = .returned (.bool (gr12 l)) ∧ w = w' := by
  have HZ := Lib.hid (blsz_any l v w hv hn hs)
  obtain ⟨a, cap, rfl, _, _, hz⟩ := hv
  clear hz
  obtain ⟨n, hna⟩ : ∃ n, n = l.length := ⟨_, rfl⟩
  obtain ⟨p, hp⟩ : ∃ p, p = bsz l := ⟨_, rfl⟩
  have p9 : p ≤ 1048576 + LIM := by rw [hp]; exact bszGo_lt l _ hs (by omega)
  obtain ⟨R, hR⟩ : ∃ R, R = gr12 l := ⟨_, rfl⟩
  have hR2 : R = (decide (60 < n) || decide (40000 < p)) := by rw [hR, gr12, hna, hp]
  rw [← hR]
  rw [← hna] at HZ hn ⊢
  rw [← hp] at HZ
  have HR := Lib.hid hR2
  clear hna hp hR hR2 hs
  unfold LIM at p9 hn
  have p0 : (p : Int) ≤ 140737489403904 := by omega
  by_cases c1 : 60 < n
  · have d1 : (60 : Int) < (n : Int) := by omega
    have HRV : Hid (R = true) := Lib.hid (by rw [HR.out, decide_eq_true c1]; rfl)
    clear c1
    go_enter Try.func45, Try.ntmps45
    go_wp2_with fail
    exact bodyPost_ret (results_tmp rfl _ _ _) rfl ⟨by rw [HRV.out]; rfl, rfl⟩
  · have d1 : ¬ (60 : Int) < (n : Int) := by omega
    by_cases c2 : 40000 < p
    · have d2 : (40000 : Int) < (p : Int) := by omega
      have HRV : Hid (R = true) := Lib.hid (by rw [HR.out, decide_eq_true c2, Bool.or_true])
      clear c1 c2
      go_enter Try.func45, Try.ntmps45
      go_wp2_with fail
      refine HZ.out.mono ?_
      rintro e w1 ⟨rfl, rfl⟩
      go_wp2_with fail
      exact bodyPost_ret (results_tmp rfl _ _ _) rfl ⟨by rw [HRV.out]; rfl, rfl⟩
    · have d2 : ¬ (40000 : Int) < (p : Int) := by omega
      have HRV : Hid (R = false) := Lib.hid (by rw [HR.out, decide_eq_false c1, decide_eq_false c2]; rfl)
      clear c1 c2
      go_enter Try.func45, Try.ntmps45
      go_wp2_with fail
      refine HZ.out.mono ?_
      rintro e w1 ⟨rfl, rfl⟩
      go_wp2_with fail
      exact bodyPost_ret (results_tmp rfl _ _ _) rfl ⟨by rw [HRV.out]; exact congrArg (fun b => Ending.returned (.bool b)) (decide_eq_false (by omega)), rfl⟩
theorem gr12_le {l : List (List UInt8)} (h : gr12 l = false) : l.length ≤ 60 ∧ ∀ x ∈ l, x.length ≤ 40000 := by
  unfold gr12 at h
  have h1 : ¬ 60 < l.length := fun h9 => by rw [decide_eq_true h9] at h; simp at h
  have h2 : ¬ 40000 < bsz l := fun h9 => by rw [decide_eq_true h9] at h; simp at h
  exact ⟨by omega, (bsz_le 40000 (by omega) l (by omega)).2⟩
theorem cadd_long (w : World) (c f : Nat) (hc : w.cell? ⟨c, 0, none⟩ = some (.pointer (some ⟨f, 0, none⟩))) (a : Option Addr) (n cap : Nat) (hn : 16384 < n) : Calls Try.prog 43 #[.pointer (some ⟨c, 0, none⟩), .slice a n cap] w fun e w' => e = .returned (.int .i64 3) ∧ w = w' := by
  have hn' : (16384 : Int) < (n : Int) := by omega
  clear hn
  have HC := Lib.hid hc; clear hc
  go_enter Try.func43, Try.ntmps43
  go_wp2_with (go_at_call 75; refine (cnone_live _ c f HC.out).mono ?_; rintro e w1 ⟨rfl, rfl⟩)
  exact bodyPost_ret (results_tmp rfl _ _ _) rfl ⟨rfl, rfl⟩
set_option maxRecDepth 100000 in
set_option maxHeartbeats 1000000 in
theorem made_any (l : List (List UInt8)) (v : Value) (w : World) (hv : ListsAt w v l) (hn : l.length < 1000000) : Calls Try.prog 47 #[v] w fun e w' => Below w.heap.size w w' ∧ ((∃ c, e = .returned (.pointer (some ⟨c, 0, none⟩)) ∧ ChainAt w.heap.size w' c l ∧ ∀ x ∈ l, x.length ≤ 16384) ∨ e = .returned (.pointer none)) := by
  have HV := Lib.hid hv
  obtain ⟨aa, ca, rfl, a1, a2, a3⟩ := hv
  clear a3
  obtain ⟨n, hna⟩ : ∃ n, n = l.length := ⟨_, rfl⟩
  rw [← hna] at HV a1 hn ⊢
  have HN := Lib.hid hna
  clear hna
  go_enter Try.func47, Try.ntmps47
  go_wp2_with fail
  refine (cnew_at w).mono ?_
  rintro e w1 ⟨c, rfl, hC, hB⟩
  have HC0 := Lib.hid hC
  have HB0 := Lib.hid hB
  clear hC hB
  go_wp2_with fail
  go_loopw [4] (fun i W => ∃ j : Nat, j ≤ n ∧ i = .int .i64 (j : Int) ∧ ChainAt w.heap.size W c (l.take j) ∧ (∀ x ∈ l.take j, x.length ≤ 16384) ∧ Below w.heap.size w W) (fun i _ => n - (intOf i).toNat)
  case atStart => exact ⟨0, by omega, rfl, HC0.out, by simp, HB0.out⟩
  case round =>
    obtain ⟨j, hj, rfl, hC, hsz, hB⟩ := hrel
    have HC := Lib.hid hC
    have HSZ := Lib.hid hsz
    have HB := Lib.hid hB
    clear hC hsz hB HC0 HB0
    by_cases hlt : j < n
    · have hlt' : (j : Int) < (n : Int) := by omega
      have h0 : l ≠ [] := by intro h; have := HN.out; rw [h] at this; simp at this; omega
      have HW := Lib.hid (HV.out.below HB.out)
      obtain ⟨b1', o1', c1', he1, _, _⟩ := HV.out.form h0
      simp only [Value.slice.injEq] at he1
      obtain ⟨rfl, h9, rfl⟩ := he1
      clear h9
      obtain ⟨u1, hc1, hu1⟩ := HW.out.cell (sp := none) (j := j) (by have := HN.out; omega)
      have hjl : j < l.length := by have := HN.out; omega
      have hstep : l.take (j + 1) = l.take j ++ [l[j]] := List.take_succ_eq_append_getElem hjl
      have hlen : (l.take j).length = j := by rw [List.length_take]; omega
      have HST := Lib.hid hstep
      have HLN := Lib.hid hlen
      have HU := Lib.hid hu1
      clear hu1 hstep hlen h0
      generalize l[j] = x at *
      clear hjl
      have hj0 : (0 : Int) ≤ (j : Int) := by omega
      obtain ⟨f, cv, vf, es, hC⟩ := HC.out
      by_cases hx : x.length ≤ 16384
      · have HX := Lib.hid hx
        have HA := Lib.hid (cadd_in hC x u1 HU.out HB.out.size (by rw [HLN.out]; omega) hx)
        clear hx hC
        go_wp2_with fail
        refine HA.out.mono ?_
        rintro e w2 ⟨rfl, hC2, hk2⟩
        have HC2 := Lib.hid hC2
        have HB2 := Lib.hid (HB.out.trans (hk2.below HB.out.size (fun k hk => hk)))
        clear hC2 hk2 HA
        go_wp2_with fail
        refine ⟨⟨j + 1, by omega, by simp, by rw [HST.out]; exact HC2.out, ?_, HB2.out⟩, by simp [intOf]; omega⟩
        rw [HST.out]
        intro y hy
        rcases List.mem_append.1 hy with h | h
        · exact HSZ.out y h
        · rw [List.mem_singleton.1 h]; exact HX.out
      · have hc0 := Lib.hid hC.c0
        obtain ⟨ua, uc, hu, _, _, _⟩ := HU.out
        subst hu
        have HA := Lib.hid (cadd_long wr c f hc0.out ua x.length uc (by omega))
        clear hx hC hc0
        generalize x.length = xn at *
        go_wp2_with fail
        refine HA.out.mono ?_
        rintro e w2 ⟨rfl, rfl⟩
        go_wp2_with fail
        exact bodyPost_ret (results_tmp rfl _ _ _) rfl ⟨HB.out, .inr rfl⟩
    · have hjn : j = n := by omega
      subst hjn
      have htk : l.take j = l := List.take_of_length_le (by rw [HN.out]; exact Nat.le_refl _)
      have HF : Hid (ChainAt w.heap.size wr c l ∧ ∀ x ∈ l, x.length ≤ 16384) := Lib.hid (by
        have h1 := HC.out
        have h2 := HSZ.out
        rw [htk] at h1 h2
        exact ⟨h1, h2⟩)
      clear htk HC HSZ
      go_wp2_with fail
      exact bodyPost_ret (results_tmp rfl _ _ _) rfl ⟨HB.out, .inl ⟨c, rfl, HF.out.1, HF.out.2⟩⟩
set_option maxRecDepth 100000 in
theorem centry_at (base : Nat) (w : World) (c : Nat) (l : List (List UInt8)) (h : ChainAt base w c l) (k : Nat) (b : List UInt8) (hk : l[k]? = some b) (hb : b.length < 4000000000) :
    Calls Try.prog 38 #[.pointer (some ⟨c, 0, none⟩), .int .u64 (k : Int)] w fun e w' => ∃ v, e = .returned (.tuple #[v, .int .i64 0]) ∧ BytesNew w' w.heap.size v b ∧ Below w.heap.size w w' := by
  obtain ⟨f, v, vf, es, h2⟩ := h
  obtain ⟨hkl, hkb⟩ := List.getElem?_eq_some_iff.1 hk
  have HZ := Lib.hid (csize_at base _ c l h2.at_)
  have HC0 := Lib.hid h2.c0
  have hc1 := h2.c1
  have hsh := h2.short
  have hkz : ¬ ((l.length : Int) ≤ (k : Int)) := by omega
  have hke : k < es.length := by rw [h2.len]; exact hkl
  have hE := h2.ents k _ b (List.getElem?_eq_getElem hke) hk
  obtain ⟨a, cap, rfl, k1, k2, k3⟩ := h2.form
  obtain ⟨g, rfl, hr⟩ := k3.resolve_left (by intro h0; rw [h0] at hkl; simp at hkl)
  have hx := ents_at hr hke
  rw [Nat.zero_add] at hx
  have hcv := ent_v hx
  have HBY := Lib.hid hE.bytes
  generalize es[k].v = u at *
  have HCL := Lib.hid (clone_bytes w u b HBY.out hb)
  clear h2 hx hE hr hk hkb hke
  unfold maxLen at k2
  have hkl' : (k : Int) < (l.length : Int) := by omega
  have hkc : (k : Int) < 4000000000 := by omega
  have hk0 : (0 : Int) ≤ (k : Int) := by omega
  generalize l.length = n at *
  have hd : decide (n ≤ k) = false := decide_eq_false (by omega)
  clear hb
  go_enter Try.func38, Try.ntmps38
  go_wp2_with (first
    | (go_at_call 75; refine (cnone_live _ c f HC0.out).mono ?_; rintro e w1 ⟨rfl, rfl⟩)
    | (go_at_call 44; refine HZ.out.mono ?_; rintro e w1 ⟨rfl, rfl⟩))
  refine HCL.out.mono ?_
  rintro e w1 ⟨v1, rfl, hN, hB⟩
  have HB := Lib.hid hB
  have HP := Lib.hid (clip_bytes w1 _ v1 b hN)
  clear hN hB HCL
  go_wp2_with fail
  refine HP.out.mono ?_
  rintro e w2 ⟨v2, rfl, hN, rfl⟩
  have HN := Lib.hid hN
  clear hN
  go_wp2_with fail
  exact bodyPost_ret (results_tmp2 rfl _ _ _) rfl ⟨_, rfl, HN.out, HB.out⟩
set_option maxRecDepth 100000 in
theorem centry_arg (base : Nat) (w : World) (c : Nat) (l : List (List UInt8)) (h : ChainAt base w c l) (k : Nat) (hk : l.length ≤ k) :
    Calls Try.prog 38 #[.pointer (some ⟨c, 0, none⟩), .int .u64 (k : Int)] w fun e w' => e = .returned (.tuple #[.slice none 0 0, .int .i64 1]) ∧ w = w' := by
  obtain ⟨f, v, vf, es, h2⟩ := h
  have HZ := Lib.hid (csize_at base _ c l h2.at_)
  have HC0 := Lib.hid h2.c0
  have hkz : ((l.length : Int) ≤ (k : Int)) := by omega
  clear h2
  generalize l.length = n at *
  have hd : decide (n ≤ k) = true := decide_eq_true (by omega)
  clear hk
  go_enter Try.func38, Try.ntmps38
  go_wp2_with (first
    | (go_at_call 75; refine (cnone_live _ c f HC0.out).mono ?_; rintro e w1 ⟨rfl, rfl⟩)
    | (go_at_call 44; refine HZ.out.mono ?_; rintro e w1 ⟨rfl, rfl⟩))
  exact bodyPost_ret (results_tmp2 rfl _ _ _) rfl ⟨rfl, rfl⟩
end Go.Proofs.Ytdkcndgehgmadaa
