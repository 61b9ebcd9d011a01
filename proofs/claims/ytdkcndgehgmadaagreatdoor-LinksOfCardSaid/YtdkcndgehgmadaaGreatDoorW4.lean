/-
  Walk: (*shas.Run).puts: bytes put behind those that wait.
-/
import Derived.Test.YtdkcndgehgmadaaGreatDoorW3
import Derived.Test.YtdkcndgehgmadaaGreatDoorRun
import Derived.Test.YtdkcndgehgmadaaGreatDoorQuiet
import Derived.StillTailTactics
open Go Go.RowKit Alm
namespace Go.Proofs.YtdkcndgehgmadaaGreatDoor
theorem infoByte : (Tryz.prog.info? 5).map (·.size) = some 1 := by kernel_rfl
theorem infoBytes64 : (Tryz.prog.info? 251).map (·.size) = some 64 := by kernel_rfl
set_option maxRecDepth 100000 in
set_option maxHeartbeats 1000000 in
theorem puts_any (p : Nat) (r : RunS) (l : List UInt8) (v : Value) (w : World) (ho : r.ok) (hv : BytesAt w v l) (hp : ∀ a n c, v = .slice (some a) n c → l ≠ [] → a.block ≠ p) (hr : RunAt w p 253 r) (hm : r.many + l.length < 18446744073709551616) :
    Calls Tryz.prog 179 #[.pointer (some ⟨p, 0, none⟩), v] w fun e w' => e = .returned (.tuple #[]) ∧ RunAt w' p 253 (putAll r l) ∧ w.grownBy w' (some p) := by
  obtain ⟨a, cap, rfl, hc, hcm, hra⟩ := hv
  go_enter Tryz.func179, Tryz.ntmps179
  go_wp2_with fail
  go_loopw [1] (fun v W => ∃ (rr : RunS) (rest : List UInt8) (a : Option Addr) (cap : Nat), v = .slice a rest.length cap ∧ rest.length ≤ cap ∧ cap ≤ maxLen ∧ (rest = [] ∨ ∃ b o, b ≠ p ∧ a = some ⟨b, o, none⟩ ∧ W.rangeAt b o (cells8 rest)) ∧ rr.ok ∧ RunAt W p 253 rr ∧ w.grownBy W (some p) ∧ putAll rr rest = putAll r l ∧ rr.many + rest.length < 18446744073709551616) (fun v _ => match v with | .slice _ n _ => n | _ => 0)
  case atStart =>
    refine ⟨r, l, a, cap, rfl, hc, hcm, ?_, ho, hr, World.grownBy.refl _ _, rfl, hm⟩
    rcases hra with h | ⟨b, o, rfl, h⟩
    · exact .inl h
    · by_cases hl : l = []
      · exact .inl hl
      · exact .inr ⟨b, o, hp _ _ _ rfl hl, rfl, h⟩
  case round =>
    obtain ⟨rr, rest, a, cap, rfl, hc, hcm, hra, ho, hr, hg, hpe, hm⟩ := hrel
    by_cases h0 : rest = []
    · subst h0
      go_wp2_with fail
      go_end0
      exact ⟨rfl, by rw [← hpe]; exact hr, hg⟩
    · obtain ⟨b, o, hbp, rfl, hrg⟩ := hra.resolve_left h0
      clear hra
      have hpos : 0 < rest.length := List.length_pos_iff.2 h0
      have c73 := hr.many ho
      obtain ⟨q, hq⟩ : ∃ q, q = rr.many % 64 := ⟨_, rfl⟩
      have q1 : (rr.many : Int) % 64 = (q : Int) := by omega
      have q2 : q < 64 := by omega
      have q3 : (q : Int) < 64 := by omega
      have q4 : (0 : Int) ≤ (q : Int) := by omega
      have q5 : ¬ (64 : Nat) = q := by omega
      have q6 : (q : Int) ≤ 64 := by omega
      have p1 : (0 : Int) < (rest.length : Int) := by omega
      have Q := Lib.hid hq; clear hq
      unfold maxLen at hcm
      have m1 : (rr.many : Int) < 18446744073709551616 := by omega
      have tq : Int.tmod (rr.many : Int) 64 = (q : Int) := by rw [Int.tmod_eq_emod_of_nonneg (by omega)]; exact q1
      go_wp2_with fail
      go_still_tail 10, (by kernel_rfl)
      change wpList _ _ _ _ _ wr.drew
      obtain ⟨n, hn⟩ : ∃ n, n = Nat.min rest.length (64 - q) := ⟨_, rfl⟩
      have n1 : n ≤ rest.length := by rw [hn]; exact Nat.min_le_left _ _
      have n2 : n ≤ 64 - q := by rw [hn]; exact Nat.min_le_right _ _
      have n3 : 0 < n := by rw [hn]; exact Nat.lt_min.2 ⟨hpos, by omega⟩
      have hlc : (cells8 (rest.take n)).length = n := by rw [length_cells8, List.length_take, Nat.min_eq_left n1]
      refine wpList_copy_at rfl _ _ _ _ rfl 5 Tryz.underlying65 infoByte p (9 + q) (64 - q) (64 - q) ⟨b, o, none⟩ rest.length cap rfl rfl (cellsRun rr) 253 hr (cells8 (rest.take n)) (by rw [hlc]; exact hn)
        (fun j v hj => by rw [Addr.add_mid]; exact cells8_take hrg n j v hj) (by rw [hlc, length_cellsRun ho]; omega) (oneCell_cells8 _) ?_
      intro w1 hw1 hg1
      rw [splice_cellsRun ho q _ (by rw [List.length_take]; omega)] at hw1
      rw [hlc]
      have hrg1 := grown_range hg1 hrg hbp
      have hg2 := grown_trans (grown_trans hg (grown_drew wr _)) hg1
      clear hg1 hrg hlc
      have ho1 : RunS.ok ⟨rr.s, splice rr.b q (rest.take n), rr.many⟩ := ⟨ho.1, by rw [length_splice _ _ _ (by rw [List.length_take, ho.2]; omega)]; exact ho.2⟩
      have hr1 : RunAt w1 p 253 ⟨rr.s, splice rr.b q (rest.take n), rr.many⟩ := hw1
      have hch := putAll_chunk (rest.take n) rr ho (fun h => by have := congrArg List.length h; rw [List.length_take, Nat.min_eq_left n1, List.length_nil] at this; omega) (by rw [List.length_take, ← Q.out]; omega)
      rw [List.length_take, Nat.min_eq_left n1, ← Q.out] at hch
      have hsp : putAll rr rest = putAll (putAll rr (rest.take n)) (rest.drop n) := by rw [← putAll_append, List.take_append_drop]
      have HN := Lib.hid hn; clear hn
      have HC := Lib.hid hch; clear hch
      have HSP := Lib.hid hsp; clear hsp
      have HPE := Lib.hid hpe; clear hpe
      generalize splice rr.b q (rest.take n) = b1 at *
      have d73 := hr1.many ho1
      have e73 := hr1.free 73
      have hr2 := hr1.set_many ho1 (rr.many + n)
      have d73' := hr2.many ho1
      simp only at d73 hr2 d73'
      have s1 : IntKind.u64.wrap ((rr.many : Int) + (n : Int)) = ((rr.many + n : Nat) : Int) := by
        simp only [IntKind.wrap, IntKind.bits, IntKind.signed, Bool.false_and, Bool.false_eq_true, if_false]; omega
      have m2 : (rr.many : Int) + (n : Int) < 18446744073709551616 := by omega
      have HM := Lib.hid hm; clear hm
      by_cases hz : (rr.many + n) % 64 = 0
      · have z1 : ((rr.many : Int) + (n : Int)) % 64 = 0 := by omega
        have HZ := Lib.hid hz; clear hz
        rw [Int.natCast_add] at hr2
        clear d73' 
        go_wp2_with fail
        have hg3 := grown_trans hg2 (grown_setCell w1 p 73 (.int .u64 ((rr.many : Int) + (n : Int))))
        have hrg2 := grown_range (grown_setCell w1 p 73 (.int .u64 ((rr.many : Int) + (n : Int)))) hrg1 hbp
        clear hg2 hrg1 d73 e73 hw1 hr1 c73
        generalize w1.setCell ⟨p, 73, none⟩ (.int .u64 ((rr.many : Int) + (n : Int))) = w2 at hr2 hg3 hrg2 ⊢
        have ho2 : RunS.ok ⟨rr.s, b1, rr.many + n⟩ := ho1
        have HO := Lib.hid ho2; clear ho2
        refine wp_region_quiet_put (fun W => Below w2.heap.size w2 W) (by kernel_rfl) (by simp) rfl rfl (by kernel_rfl) (by kernel_rfl) (by kernel_rfl) (Below.refl _ _).drew ?_
        simp only [List.dropLast_cons_cons, List.dropLast_singleton, List.getLast_cons_cons, List.getLast_singleton, List.cons_append, List.nil_append, idle]
        iterate 4
          refine wpQuiet_take rfl (v := ?_) (fun W hS => ?_) ?_
          rotate_left
          · clear hS
            go_simp
            rfl
          rotate_left
          try simp only [Act.put, List.setIfInBounds_toArray, List.set_cons_zero, List.set_cons_succ]
        refine wpQuiet_take rfl (v := .agg (cells32 rr.s).toArray) (fun W hS => ?_) ?_
        · have hW := hr2.below hS hr2.lt
          exact quietAt_load_mid _ _ rfl p 1 rfl (cells32 rr.s) _ hW.eight Tryz.underlying249 rfl (by rw [length_cells32, HO.out.1]; exact info8)
        try simp only [Act.put, List.setIfInBounds_toArray, List.set_cons_zero, List.set_cons_succ]
        iterate 3
          refine wpQuiet_take rfl (v := ?_) (fun W hS => ?_) ?_
          rotate_left
          · clear hS
            go_simp
            rfl
          rotate_left
          try simp only [Act.put, List.setIfInBounds_toArray, List.set_cons_zero, List.set_cons_succ]
        refine wpQuiet_take rfl (v := .agg (cells8 b1).toArray) (fun W hS => ?_) ?_
        · have hW := hr2.below hS hr2.lt
          exact quietAt_load_mid _ _ rfl p 9 rfl (cells8 b1) _ (hW.bytes HO.out) Tryz.underlying251 rfl (by rw [length_cells8, HO.out.2]; exact infoBytes64)
        try simp only [Act.put, List.setIfInBounds_toArray, List.set_cons_zero, List.set_cons_succ]
        refine wpQuiet_take rfl (v := .agg (cells32 (Alm.took rr.s b1)).toArray) (fun W hS => ?_) ?_
        · go_simp
          refine (took_any rr.s b1 _ HO.out.1 HO.out.2).mono ?_
          rintro e w' ⟨rfl, hb⟩
          exact ⟨rfl, hS.trans (hb.mono hS.size)⟩
        try simp only [Act.put, List.setIfInBounds_toArray, List.set_cons_zero, List.set_cons_succ]
        iterate 2
          refine wpQuiet_take rfl (v := ?_) (fun W hS => ?_) ?_
          rotate_left
          · clear hS
            go_simp
            rfl
          rotate_left
          try simp only [Act.put, List.setIfInBounds_toArray, List.set_cons_zero, List.set_cons_succ]
        refine wpQuiet_nil ?_
        intro W hS
        have hW := hr2.below hS hr2.lt
        have ht := length_took rr.s b1
        rw [HO.out.1] at ht
        have hz8 : (cells32 (Alm.took rr.s b1)).toArray.size = 8 := by simp only [cells32, List.size_toArray, List.length_map]; exact ht
        refine wp_store_mid _ _ _ rfl p 1 _ rfl rfl (by rw [hz8]; exact hW.there HO.out 1 8 (by decide)) (by rw [hz8]; exact info8) (all_oneCell_toArray (oneCell_cells32 _)) ?_
        have hr3 := hW.set_eight HO.out _ ht
        have hg4 := grown_trans (grown_trans hg3 (grown_below hS _)) (grown_setCells W p 1 (cells32 (Alm.took rr.s b1)))
        have hrg3 := grown_range (grown_setCells W p 1 (cells32 (Alm.took rr.s b1))) (grown_range (grown_below hS _) hrg2 hbp) hbp
        simp only [] at *
        clear hz8 ht hrg2 hg3 hr2 hW hS
        generalize W.setCells p 1 (cells32 (Alm.took rr.s b1)) = w4 at hr3 hg4 hrg3 ⊢
        have hrr : (⟨Alm.took rr.s b1, b1, rr.many + n⟩ : RunS) = putAll rr (rest.take n) := by rw [HC.out]; exact (if_pos HZ.out).symm
        rw [hrr] at hr3
        have hbpe : putAll (putAll rr (rest.take n)) (rest.drop n) = putAll r l := by rw [← HSP.out]; exact HPE.out
        have hok := putAll_ok (rest.take n) ho
        have hmm : (putAll rr (rest.take n)).many + (rest.drop n).length < 18446744073709551616 := by
          rw [putAll_many, List.length_take, Nat.min_eq_left n1, List.length_drop]; have := HM.out; omega
        have HBP := Lib.hid hbpe; clear hbpe
        have HMM := Lib.hid hmm; clear hmm
        clear hrr HC HSP HPE
        generalize putAll rr (rest.take n) = rr2 at *
        have l1 : (n : Int) ≤ (rest.length : Int) := by omega
        have l2 : (n : Int) ≤ (cap : Int) := by omega
        have l3 : (0 : Int) ≤ (n : Int) := by omega
        by_cases hcn : cap = n
        · have hnil : rest.drop n = [] := List.drop_eq_nil_of_le (by omega)
          go_wp2_with fail
          refine ⟨⟨rr2, rest.drop n, _, _, by rw [List.length_drop], by rw [List.length_drop]; omega, by unfold maxLen; omega, .inl hnil, hok, hr3, hg4, HBP.out, HMM.out⟩, by simp; omega⟩
        · go_wp2_with fail
          refine ⟨⟨rr2, rest.drop n, _, _, by rw [List.length_drop], by rw [List.length_drop]; omega, by unfold maxLen; omega, .inr ⟨b, o + n, hbp, rfl, cells8_drop hrg3 n n1⟩, hok, hr3, hg4, HBP.out, HMM.out⟩, by simp; omega⟩
      · have z1 : ¬ (((rr.many : Int) + (n : Int)) % 64 = 0) := by omega
        have z2 : (((rr.many : Int) + (n : Int)) % 64 == 0) = false := by rw [beq_eq_false_iff_ne]; exact z1
        have HZ := Lib.hid hz; clear hz z1
        rw [Int.natCast_add] at hr2
        have hg3 := grown_trans hg2 (grown_setCell w1 p 73 (.int .u64 ((rr.many : Int) + (n : Int))))
        have hrg2 := grown_range (grown_setCell w1 p 73 (.int .u64 ((rr.many : Int) + (n : Int)))) hrg1 hbp
        have HR := Lib.hid hr2; clear hr2
        have HG := Lib.hid hg3; clear hg3
        have HRG := Lib.hid hrg2; clear hrg2
        have hrr : (⟨rr.s, b1, rr.many + n⟩ : RunS) = putAll rr (rest.take n) := by rw [HC.out]; exact (if_neg HZ.out).symm
        have hr2 := HR.out; rw [hrr] at hr2
        have hbpe : putAll (putAll rr (rest.take n)) (rest.drop n) = putAll r l := by rw [← HSP.out]; exact HPE.out
        have hok := putAll_ok (rest.take n) ho
        have hmm : (putAll rr (rest.take n)).many + (rest.drop n).length < 18446744073709551616 := by
          rw [putAll_many, List.length_take, Nat.min_eq_left n1, List.length_drop]; have := HM.out; omega
        have HBP := Lib.hid hbpe; clear hbpe
        have HMM := Lib.hid hmm; clear hmm
        have HR2 := Lib.hid hr2; clear hr2 HR
        clear hrr HC HSP HPE
        generalize putAll rr (rest.take n) = rr2 at *
        have l1 : (n : Int) ≤ (rest.length : Int) := by omega
        have l2 : (n : Int) ≤ (cap : Int) := by omega
        have l3 : (0 : Int) ≤ (n : Int) := by omega
        by_cases hcn : cap = n
        · have hnil : rest.drop n = [] := List.drop_eq_nil_of_le (by omega)
          go_wp2_with fail
          refine ⟨⟨rr2, rest.drop n, _, _, by rw [List.length_drop], by rw [List.length_drop]; omega, by unfold maxLen; omega, .inl hnil, hok, HR2.out, HG.out, HBP.out, HMM.out⟩, by simp; omega⟩
        · go_wp2_with fail
          refine ⟨⟨rr2, rest.drop n, _, _, by rw [List.length_drop], by rw [List.length_drop]; omega, by unfold maxLen; omega, .inr ⟨b, o + n, hbp, rfl, cells8_drop HRG.out n n1⟩, hok, HR2.out, HG.out, HBP.out, HMM.out⟩, by simp; omega⟩
end Go.Proofs.YtdkcndgehgmadaaGreatDoor
