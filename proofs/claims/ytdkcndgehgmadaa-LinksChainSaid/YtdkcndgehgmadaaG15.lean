/-
  Walks: the law LinksChain.
-/
import Derived.Test.YtdkcndgehgmadaaG11
open Go Go.RowKit Alm
namespace Go.Proofs.Ytdkcndgehgmadaa
theorem wrap_small (a : Int) (h0 : 0 ≤ a) (h1 : a < 4000000000) : wrap64 a = a := by unfold wrap64; omega
set_option maxRecDepth 100000 in
set_option maxHeartbeats 4000000 in
theorem linksChain_any (l : List Sum) (v : Value) (cs : List UInt8) (vc : Value) (w : World) (hv : SumsAt w v l) (hc : BytesAt w vc cs) : Calls Try.prog 10 #[v, vc] w fun e w' => e = .returned (.bool true) ∧ Below w.heap.size w w' := by
  have HV := Lib.hid hv
  have HC := Lib.hid hc
  obtain ⟨a, cap, rfl, h1, h2, h3⟩ := hv
  obtain ⟨ac, cc, rfl, g1, g2, g3⟩ := hc
  obtain ⟨n, hn⟩ : ∃ n, n = l.length := ⟨_, rfl⟩
  rw [← hn] at h1 HV ⊢
  have HN := Lib.hid hn; clear hn
  obtain ⟨c, hcn⟩ : ∃ n, n = cs.length := ⟨_, rfl⟩
  rw [← hcn] at g1 HC ⊢
  have HCN := Lib.hid hcn; clear hcn
  unfold maxLen at h2 g2
  have alive_ : ∀ W, Hid (Below w.heap.size w W) → Calls Try.prog 35 #[] W fun e w' => e = .returned (.bool true) ∧ Below w.heap.size w w' := fun W hW => (alive_links W).mono fun e w' h => ⟨h.1, hW.out.trans (h.2.mono hW.out.size)⟩
  have AL := Lib.hid alive_; clear alive_
  by_cases hz : n = 0
  · have hz' : ((n : Int) == 0) = true := by rw [beq_iff_eq]; omega
    clear hz
    go_enter Try.func10, Try.ntmps10
    go_wp2_with fail
    refine (AL.out w (Lib.hid (Below.refl _ _))).mono ?_
    rintro e w1 ⟨rfl, hb⟩
    go_wp2_with fail
    exact bodyPost_ret (results_tmp rfl _ _ _) rfl ⟨rfl, hb⟩
  have hz' : ((n : Int) == 0) = false := by rw [beq_eq_false_iff_ne]; omega
  by_cases hbig : 60 < n
  · have hbig' : (60 : Int) < (n : Int) := by omega
    go_enter Try.func10, Try.ntmps10
    go_wp2_with fail
    refine (AL.out w (Lib.hid (Below.refl _ _))).mono ?_
    rintro e w1 ⟨rfl, hb⟩
    go_wp2_with fail
    exact bodyPost_ret (results_tmp rfl _ _ _) rfl ⟨rfl, hb⟩
  have hbig' : ¬ (60 : Int) < (n : Int) := by omega
  by_cases hmany : 20 < c
  · have hmany' : (20 : Int) < (c : Int) := by omega
    go_enter Try.func10, Try.ntmps10
    go_wp2_with fail
    refine (AL.out w (Lib.hid (Below.refl _ _))).mono ?_
    rintro e w1 ⟨rfl, hb⟩
    go_wp2_with fail
    exact bodyPost_ret (results_tmp rfl _ _ _) rfl ⟨rfl, hb⟩
  have hmany' : ¬ (20 : Int) < (c : Int) := by omega
  have hl0 : l ≠ [] := by intro h; have := HN.out; rw [h] at this; simp at this; omega
  obtain ⟨b, o, rfl, hra⟩ := h3.resolve_left hl0
  have HRA := Lib.hid hra; clear hra h3
  have HG3 := Lib.hid g3; clear g3
  go_enter Try.func10, Try.ntmps10
  go_wp2_with fail
  go_loopw [5, 6] (fun at_ i W => ∃ (j k : Nat), j ≤ c ∧ 1 ≤ k ∧ k ≤ n ∧ i = .int .i64 (j : Int) ∧ at_ = .int .i64 (k : Int) ∧ Below w.heap.size w W) (fun _ i _ => c - (intOf i).toNat)
  case atStart => exact ⟨0, 1, by omega, by omega, by omega, rfl, rfl, Below.refl _ _⟩
  case round =>
    obtain ⟨j, k, hj, hk1, hkn, rfl, rfl, hB⟩ := hrel
    have HB := Lib.hid hB; clear hB
    by_cases hlt : j < c
    · have hlt' : (j : Int) < (c : Int) := by omega
      have hj0 : (0 : Int) ≤ (j : Int) := by omega
      have hcs0 : cs ≠ [] := by intro h; have := HCN.out; rw [h] at this; simp at this; omega
      obtain ⟨bc, oc, rfl, hrc⟩ := HG3.out.resolve_left hcs0
      have hjc : j < cs.length := by have := HCN.out; omega
      have hcell : wr.cell? ⟨bc, oc + j, none⟩ = some (.int .u8 ((cs[j].toNat : Nat) : Int)) := br HB.out hrc j _ (by simp [cells8, u8v, hjc])
      have hcb := cs[j].toNat_lt
      generalize cs[j].toNat = z at *
      have hz0 : (0 : Int) ≤ (z : Int) := by omega
      have hz1 : (z : Int) < 256 := by omega
      clear hrc hjc hcs0 hcb
      have htN : (n : Int) - (k : Int) + 1 = ((n - k + 1 : Nat) : Int) := by omega
      obtain ⟨r, hr⟩ : ∃ r, r = z % (n - k + 1) := ⟨_, rfl⟩
      have hrn : r < n - k + 1 := by rw [hr]; exact Nat.mod_lt _ (by omega)
      have HRR := Lib.hid hr; clear hr
      obtain ⟨t, ht⟩ : ∃ t, t = k + r := ⟨_, rfl⟩
      have htk : k ≤ t := by omega
      have htn : t ≤ n := by omega
      have e1 : (n : Int) - (k : Int) + 1 = ((n - k + 1 : Nat) : Int) := by omega
      have htI : (t : Int) = (k : Int) + (r : Int) := by omega
      have t0 : (0 : Int) ≤ (k : Int) + (r : Int) := by omega
      have t0' : (k : Int) + (r : Int) < 4000000000 := by omega
      have HWR : Hid (wrap64 ((k : Int) + (z : Int) % ((n : Int) - (k : Int) + 1)) = (t : Int)) := Lib.hid (by
        rw [e1, ← Int.natCast_emod, ← HRR.out, htI]; exact wrap_small _ t0 t0')
      clear ht htN htI t0 t0' e1 HRR hrn
      have hd : ¬ ((n : Int) - (k : Int) + 1 = 0) := by omega
      have t1 : (0 : Int) ≤ (t : Int) := by omega
      have t2 : (t : Int) ≤ (n : Int) := by omega
      have t3 : (t : Int) ≤ (cap : Int) := by omega
      have t4 : (0 : Int) ≤ (k : Int) := by omega
      have t5 : (k : Int) ≤ (cap : Int) := by omega
      have t6 : (k : Int) ≤ (n : Int) := by omega
      have t7 : (t : Int) ≤ 60 := by omega
      have t8 : (k : Int) ≤ 60 := by omega
      have HTT : ∀ W, Hid (Below w.heap.size w W) → SumsAt W (.slice (some ⟨b, o, none⟩) t cap) (l.take t) := fun W hW => sums_take (cap := cap) (k := t) (br hW.out HRA.out) (by have := HN.out; omega) (by omega) (by unfold maxLen; omega)
      have HTK : ∀ W, Hid (Below w.heap.size w W) → SumsAt W (.slice (some ⟨b, o, none⟩) k cap) (l.take k) := fun W hW => sums_take (cap := cap) (k := k) (br hW.out HRA.out) (by have := HN.out; omega) (by omega) (by unfold maxLen; omega)
      have HTT := Lib.hid HTT
      have HTK := Lib.hid HTK
      have htl : (l.take t).length = t := by rw [List.length_take]; have := HN.out; omega
      have HL := linksOf_any (l.take t) k _ wr (HTT.out wr HB) hk1 (by omega) (by omega)
      have HYES := letBe_link (l.take t) k hk1 (by omega)
      rw [htl, List.take_take, Nat.min_eq_left htk] at HYES
      have HL := Lib.hid HL
      obtain ⟨x, hx⟩ : ∃ x, x = link nd e0 (l.take t) k true := ⟨_, rfl⟩
      rw [← hx] at HL HYES
      obtain ⟨ra, hra⟩ : ∃ r, r = rt (l.take k) := ⟨_, rfl⟩
      obtain ⟨rb, hrb⟩ : ∃ r, r = rt (l.take t) := ⟨_, rfl⟩
      have HRK := fun W (hW : Hid (Below w.heap.size w W)) => rt_any (l.take k) _ W (HTK.out W hW)
      have HRT := fun W (hW : Hid (Below w.heap.size w W)) => rt_any (l.take t) _ W (HTT.out W hW)
      rw [← hra] at HRK HYES
      rw [← hrb] at HRT HYES
      have HYES := Lib.hid HYES
      have HRK := Lib.hid HRK
      have HRT := Lib.hid HRT
      clear hra hrb
      have HK := Lib.hid (And.intro hk1 (And.intro htk (And.intro htn (show t < 4000000000 by omega))))
      have HJ := Lib.hid (And.intro hlt hj)
      clear htl hx hk1 htk htn hkn hlt hj hbig hmany hz
      have u1 : IntKind.u64.wrap (k : Int) = (k : Int) := by
        simp only [IntKind.wrap, IntKind.bits, IntKind.signed, Bool.false_and, Bool.false_eq_true, if_false]; omega
      have u2 : IntKind.u64.wrap (t : Int) = (t : Int) := by
        simp only [IntKind.wrap, IntKind.bits, IntKind.signed, Bool.false_and, Bool.false_eq_true, if_false]; omega
      have hwr := HWR.out
      go_wp2_with fail
      rw [HWR.out]
      clear hwr HWR
      refine HL.out.mono ?_
      rintro e W1 ⟨v', rfl, hN, hb⟩
      have HX := Lib.hid hN.sums
      have HB1 := Lib.hid (HB.out.trans (hb.mono HB.out.size))
      clear hb hN HL
      go_wp2_with fail
      refine wp_region_sched (fun V => Below W1.heap.size W1 V) [.t 0, .t 1, .t 2, .t 3, .t 4, .t 5, .t 6, .t 7, .t 8, .t 9, .t 11, .t 12, .t 13, .t 15, .e 10 true, .e 14 true, .e 16 true, .t 17, .t 18] (by kernel_rfl) (by kernel_rfl) (by intro c a d v w h; cases d <;> exact h) ?_
      have HS := Lib.hid (Below.refl W1.heap.size W1).drew
      generalize W1.drew = V at *
      iterate 14
        refine wpS_t rfl (v := ?_) (by rfl) (fun W => ?_) ?_
        rotate_left
        · go_simp
          try rfl
        try simp only [Act.put, List.setIfInBounds_toArray, List.set_cons_zero, List.set_cons_succ]
      refine wpS_k rfl (by rfl) (fun K hK => ?_)
      go_simp
      refine (HRK.out V (Lib.hid (HB1.out.trans (HS.out.mono HB1.out.size)))).mono ?_
      rintro e V ⟨rfl, hb⟩
      replace HS := Lib.hid (HS.out.trans (hb.mono HS.out.size)); clear hb
      refine hK _ _ ⟨by exact HS.out, ?_⟩; clear hK K
      try simp only [Act.put, List.setIfInBounds_toArray, List.set_cons_zero, List.set_cons_succ]
      refine wpS_k rfl (by rfl) (fun K hK => ?_)
      go_simp
      refine (HRT.out V (Lib.hid (HB1.out.trans (HS.out.mono HB1.out.size)))).mono ?_
      rintro e V ⟨rfl, hb⟩
      replace HS := Lib.hid (HS.out.trans (hb.mono HS.out.size)); clear hb
      refine hK _ _ ⟨by exact HS.out, ?_⟩; clear hK K
      try simp only [Act.put, List.setIfInBounds_toArray, List.set_cons_zero, List.set_cons_succ]
      refine wpS_k rfl (by rfl) (fun K hK => ?_)
      go_simp
      refine (check_in k t ra rb v' x V (HX.out.below HS.out (Nat.le_refl _)) HK.out.1 HK.out.2.1 (.inr HK.out.2.2.2)).mono ?_
      rw [HYES.out]
      rintro e V ⟨rfl, hb⟩
      replace HS := Lib.hid (HS.out.trans (hb.mono HS.out.size)); clear hb
      refine hK _ _ ⟨by exact HS.out, ?_⟩; clear hK K
      try simp only [Act.put, List.setIfInBounds_toArray, List.set_cons_zero, List.set_cons_succ]
      iterate 2
        refine wpS_t rfl (v := ?_) (by rfl) (fun W => ?_) ?_
        rotate_left
        · go_simp
          try rfl
        try simp only [Act.put, List.setIfInBounds_toArray, List.set_cons_zero, List.set_cons_succ]
      refine wpS_done ?_
      go_wp2_with fail
      exact ⟨⟨j + 1, t, by have := HJ.out; omega, by have := HK.out; omega, HK.out.2.2.1, rfl, rfl, HB1.out.trans (HS.out.mono HB1.out.size)⟩, by have := HJ.out; simp [intOf]; omega⟩
    · have hjc : j = c := by omega
      subst hjc
      go_wp2_with fail
      refine (AL.out wr HB).mono ?_
      rintro e w1 ⟨rfl, hb⟩
      go_wp2_with fail
      exact bodyPost_ret (results_tmp rfl _ _ _) rfl ⟨rfl, hb⟩
end Go.Proofs.Ytdkcndgehgmadaa
