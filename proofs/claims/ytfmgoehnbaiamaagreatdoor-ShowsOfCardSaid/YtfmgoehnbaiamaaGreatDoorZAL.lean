/-
  Joined: W4, W5.
-/
import Derived.Test.YtfmgoehnbaiamaaGreatDoorW3
import Derived.Test.YtfmgoehnbaiamaaGreatDoorZAH
import Derived.Test.YtfmgoehnbaiamaaGreatDoorZAI
import Derived.StillTailTactics
import Derived.Deep.OwnRows
-- Walk: (*shas.Run).puts: bytes put behind those that wait.
open Go Go.RowKit Alm
namespace Go.Proofs.YtfmgoehnbaiamaaGreatDoor
theorem infoByte : (Tryz.prog.info? 5).map (·.size) = some 1 := by kernel_rfl
theorem infoBytes64 : (Tryz.prog.info? 233).map (·.size) = some 64 := by kernel_rfl
set_option maxRecDepth 100000 in
set_option maxHeartbeats 1000000 in
theorem puts_any (p : Nat) (r : RunS) (l : List UInt8) (v : Value) (w : World) (ho : r.ok) (hv : BytesAt w v l) (hp : ∀ a n c, v = .slice (some a) n c → l ≠ [] → a.block ≠ p) (hr : RunAt w p 235 r) (hm : r.many + l.length < 18446744073709551616) :
    Calls Tryz.prog 172 #[.pointer (some ⟨p, 0, none⟩), v] w fun e w' => e = .returned (.tuple #[]) ∧ RunAt w' p 235 (putAll r l) ∧ w.grownBy w' (some p) := by
  obtain ⟨a, cap, rfl, hc, hcm, hra⟩ := hv
  go_enter Tryz.func172, Tryz.ntmps172
  go_wp2_with fail
  go_loopw [1] (fun v W => ∃ (rr : RunS) (rest : List UInt8) (a : Option Addr) (cap : Nat), v = .slice a rest.length cap ∧ rest.length ≤ cap ∧ cap ≤ maxLen ∧ (rest = [] ∨ ∃ b o, b ≠ p ∧ a = some ⟨b, o, none⟩ ∧ W.rangeAt b o (cells8 rest)) ∧ rr.ok ∧ RunAt W p 235 rr ∧ w.grownBy W (some p) ∧ putAll rr rest = putAll r l ∧ rr.many + rest.length < 18446744073709551616) (fun v _ => match v with | .slice _ n _ => n | _ => 0)
  case atStart =>
    refine ⟨r, l, a, cap, rfl, hc, hcm, ?_, ho, hr, World.grownBy.refl _ _, rfl, hm⟩
    rcases hra with h | ⟨b, o, rfl, h⟩
    · exact .inl h
    · by_cases hl : l = []
      · exact .inl hl
      · exact .inr ⟨b, o, hp _ _ _ rfl hl, rfl, h⟩
  case round =>
    obtain ⟨rr, rest, a, cap, rfl, hc, hcm, hra, ho, hr, hg, hpe, hm⟩ := hrel
    by_cases h0 : rest = []
    · subst h0
      go_wp2_with fail
      go_end0
      exact ⟨rfl, by rw [← hpe]; exact hr, hg⟩
    · obtain ⟨b, o, hbp, rfl, hrg⟩ := hra.resolve_left h0
      clear hra
      have hpos : 0 < rest.length := List.length_pos_iff.2 h0
      have c73 := hr.many ho
      obtain ⟨q, hq⟩ : ∃ q, q = rr.many % 64 := ⟨_, rfl⟩
      have q1 : (rr.many : Int) % 64 = (q : Int) := by omega
      have q2 : q < 64 := by omega
      have q3 : (q : Int) < 64 := by omega
      have q4 : (0 : Int) ≤ (q : Int) := by omega
      have q5 : ¬ (64 : Nat) = q := by omega
      have q6 : (q : Int) ≤ 64 := by omega
      have p1 : (0 : Int) < (rest.length : Int) := by omega
      have Q := Lib.hid hq; clear hq
      unfold maxLen at hcm
      have m1 : (rr.many : Int) < 18446744073709551616 := by omega
      have tq : Int.tmod (rr.many : Int) 64 = (q : Int) := by rw [Int.tmod_eq_emod_of_nonneg (by omega)]; exact q1
      go_wp2_with fail
      go_still_tail 10, (by kernel_rfl)
      change wpList _ _ _ _ _ wr.drew
      obtain ⟨n, hn⟩ : ∃ n, n = Nat.min rest.length (64 - q) := ⟨_, rfl⟩
      have n1 : n ≤ rest.length := by rw [hn]; exact Nat.min_le_left _ _
      have n2 : n ≤ 64 - q := by rw [hn]; exact Nat.min_le_right _ _
      have n3 : 0 < n := by rw [hn]; exact Nat.lt_min.2 ⟨hpos, by omega⟩
      have hlc : (cells8 (rest.take n)).length = n := by rw [length_cells8, List.length_take, Nat.min_eq_left n1]
      refine wpList_copy_at rfl _ _ _ _ rfl 5 Tryz.underlying39 infoByte p (9 + q) (64 - q) (64 - q) ⟨b, o, none⟩ rest.length cap rfl rfl (cellsRun rr) 235 hr (cells8 (rest.take n)) (by rw [hlc]; exact hn)
        (fun j v hj => by rw [Addr.add_mid]; exact cells8_take hrg n j v hj) (by rw [hlc, length_cellsRun ho]; omega) (oneCell_cells8 _) ?_
      intro w1 hw1 hg1
      rw [splice_cellsRun ho q _ (by rw [List.length_take]; omega)] at hw1
      rw [hlc]
      have hrg1 := grown_range hg1 hrg hbp
      have hg2 := grown_trans (grown_trans hg (grown_drew wr _)) hg1
      clear hg1 hrg hlc
      have ho1 : RunS.ok ⟨rr.s, splice rr.b q (rest.take n), rr.many⟩ := ⟨ho.1, by rw [length_splice _ _ _ (by rw [List.length_take, ho.2]; omega)]; exact ho.2⟩
      have hr1 : RunAt w1 p 235 ⟨rr.s, splice rr.b q (rest.take n), rr.many⟩ := hw1
      have hch := putAll_chunk (rest.take n) rr ho (fun h => by have := congrArg List.length h; rw [List.length_take, Nat.min_eq_left n1, List.length_nil] at this; omega) (by rw [List.length_take, ← Q.out]; omega)
      rw [List.length_take, Nat.min_eq_left n1, ← Q.out] at hch
      have hsp : putAll rr rest = putAll (putAll rr (rest.take n)) (rest.drop n) := by rw [← putAll_append, List.take_append_drop]
      have HN := Lib.hid hn; clear hn
      have HC := Lib.hid hch; clear hch
      have HSP := Lib.hid hsp; clear hsp
      have HPE := Lib.hid hpe; clear hpe
      generalize splice rr.b q (rest.take n) = b1 at *
      have d73 := hr1.many ho1
      have e73 := hr1.free 73
      have hr2 := hr1.set_many ho1 (rr.many + n)
      have d73' := hr2.many ho1
      simp only at d73 hr2 d73'
      have s1 : IntKind.u64.wrap ((rr.many : Int) + (n : Int)) = ((rr.many + n : Nat) : Int) := by
        simp only [IntKind.wrap, IntKind.bits, IntKind.signed, Bool.false_and, Bool.false_eq_true, if_false]; omega
      have m2 : (rr.many : Int) + (n : Int) < 18446744073709551616 := by omega
      have HM := Lib.hid hm; clear hm
      by_cases hz : (rr.many + n) % 64 = 0
      · have z1 : ((rr.many : Int) + (n : Int)) % 64 = 0 := by omega
        have HZ := Lib.hid hz; clear hz
        rw [Int.natCast_add] at hr2
        clear d73' 
        go_wp2_with fail
        have hg3 := grown_trans hg2 (grown_setCell w1 p 73 (.int .u64 ((rr.many : Int) + (n : Int))))
        have hrg2 := grown_range (grown_setCell w1 p 73 (.int .u64 ((rr.many : Int) + (n : Int)))) hrg1 hbp
        clear hg2 hrg1 d73 e73 hw1 hr1 c73
        generalize w1.setCell ⟨p, 73, none⟩ (.int .u64 ((rr.many : Int) + (n : Int))) = w2 at hr2 hg3 hrg2 ⊢
        have ho2 : RunS.ok ⟨rr.s, b1, rr.many + n⟩ := ho1
        have HO := Lib.hid ho2; clear ho2
        refine wp_region_quiet_put (fun W => Below w2.heap.size w2 W) (by kernel_rfl) (by simp) rfl rfl (by kernel_rfl) (by kernel_rfl) (by kernel_rfl) (Below.refl _ _).drew ?_
        simp only [List.dropLast_cons_cons, List.dropLast_singleton, List.getLast_cons_cons, List.getLast_singleton, List.cons_append, List.nil_append, idle]
        iterate 4
          refine wpQuiet_take rfl (v := ?_) (fun W hS => ?_) ?_
          rotate_left
          · clear hS
            go_simp
            rfl
          rotate_left
          try simp only [Act.put, List.setIfInBounds_toArray, List.set_cons_zero, List.set_cons_succ]
        refine wpQuiet_take rfl (v := .agg (cells32 rr.s).toArray) (fun W hS => ?_) ?_
        · have hW := hr2.below hS hr2.lt
          exact quietAt_load_mid _ _ rfl p 1 rfl (cells32 rr.s) _ hW.eight Tryz.underlying231 rfl (by rw [length_cells32, HO.out.1]; exact info8)
        try simp only [Act.put, List.setIfInBounds_toArray, List.set_cons_zero, List.set_cons_succ]
        iterate 3
          refine wpQuiet_take rfl (v := ?_) (fun W hS => ?_) ?_
          rotate_left
          · clear hS
            go_simp
            rfl
          rotate_left
          try simp only [Act.put, List.setIfInBounds_toArray, List.set_cons_zero, List.set_cons_succ]
        refine wpQuiet_take rfl (v := .agg (cells8 b1).toArray) (fun W hS => ?_) ?_
        · have hW := hr2.below hS hr2.lt
          exact quietAt_load_mid _ _ rfl p 9 rfl (cells8 b1) _ (hW.bytes HO.out) Tryz.underlying233 rfl (by rw [length_cells8, HO.out.2]; exact infoBytes64)
        try simp only [Act.put, List.setIfInBounds_toArray, List.set_cons_zero, List.set_cons_succ]
        refine wpQuiet_take rfl (v := .agg (cells32 (Alm.took rr.s b1)).toArray) (fun W hS => ?_) ?_
        · go_simp
          refine (took_any rr.s b1 _ HO.out.1 HO.out.2).mono ?_
          rintro e w' ⟨rfl, hb⟩
          exact ⟨rfl, hS.trans (hb.mono hS.size)⟩
        try simp only [Act.put, List.setIfInBounds_toArray, List.set_cons_zero, List.set_cons_succ]
        iterate 2
          refine wpQuiet_take rfl (v := ?_) (fun W hS => ?_) ?_
          rotate_left
          · clear hS
            go_simp
            rfl
          rotate_left
          try simp only [Act.put, List.setIfInBounds_toArray, List.set_cons_zero, List.set_cons_succ]
        refine wpQuiet_nil ?_
        intro W hS
        have hW := hr2.below hS hr2.lt
        have ht := length_took rr.s b1
        rw [HO.out.1] at ht
        have hz8 : (cells32 (Alm.took rr.s b1)).toArray.size = 8 := by simp only [cells32, List.size_toArray, List.length_map]; exact ht
        refine wp_store_mid _ _ _ rfl p 1 _ rfl rfl (by rw [hz8]; exact hW.there HO.out 1 8 (by decide)) (by rw [hz8]; exact info8) (all_oneCell_toArray (oneCell_cells32 _)) ?_
        have hr3 := hW.set_eight HO.out _ ht
        have hg4 := grown_trans (grown_trans hg3 (grown_below hS _)) (grown_setCells W p 1 (cells32 (Alm.took rr.s b1)))
        have hrg3 := grown_range (grown_setCells W p 1 (cells32 (Alm.took rr.s b1))) (grown_range (grown_below hS _) hrg2 hbp) hbp
        simp only [] at *
        clear hz8 ht hrg2 hg3 hr2 hW hS
        generalize W.setCells p 1 (cells32 (Alm.took rr.s b1)) = w4 at hr3 hg4 hrg3 ⊢
        have hrr : (⟨Alm.took rr.s b1, b1, rr.many + n⟩ : RunS) = putAll rr (rest.take n) := by rw [HC.out]; exact (if_pos HZ.out).symm
        rw [hrr] at hr3
        have hbpe : putAll (putAll rr (rest.take n)) (rest.drop n) = putAll r l := by rw [← HSP.out]; exact HPE.out
        have hok := putAll_ok (rest.take n) ho
        have hmm : (putAll rr (rest.take n)).many + (rest.drop n).length < 18446744073709551616 := by
          rw [putAll_many, List.length_take, Nat.min_eq_left n1, List.length_drop]; have := HM.out; omega
        have HBP := Lib.hid hbpe; clear hbpe
        have HMM := Lib.hid hmm; clear hmm
        clear hrr HC HSP HPE
        generalize putAll rr (rest.take n) = rr2 at *
        have l1 : (n : Int) ≤ (rest.length : Int) := by omega
        have l2 : (n : Int) ≤ (cap : Int) := by omega
        have l3 : (0 : Int) ≤ (n : Int) := by omega
        by_cases hcn : cap = n
        · have hnil : rest.drop n = [] := List.drop_eq_nil_of_le (by omega)
          go_wp2_with fail
          refine ⟨⟨rr2, rest.drop n, _, _, by rw [List.length_drop], by rw [List.length_drop]; omega, by unfold maxLen; omega, .inl hnil, hok, hr3, hg4, HBP.out, HMM.out⟩, by simp; omega⟩
        · go_wp2_with fail
          refine ⟨⟨rr2, rest.drop n, _, _, by rw [List.length_drop], by rw [List.length_drop]; omega, by unfold maxLen; omega, .inr ⟨b, o + n, hbp, rfl, cells8_drop hrg3 n n1⟩, hok, hr3, hg4, HBP.out, HMM.out⟩, by simp; omega⟩
      · have z1 : ¬ (((rr.many : Int) + (n : Int)) % 64 = 0) := by omega
        have z2 : (((rr.many : Int) + (n : Int)) % 64 == 0) = false := by rw [beq_eq_false_iff_ne]; exact z1
        have HZ := Lib.hid hz; clear hz z1
        rw [Int.natCast_add] at hr2
        have hg3 := grown_trans hg2 (grown_setCell w1 p 73 (.int .u64 ((rr.many : Int) + (n : Int))))
        have hrg2 := grown_range (grown_setCell w1 p 73 (.int .u64 ((rr.many : Int) + (n : Int)))) hrg1 hbp
        have HR := Lib.hid hr2; clear hr2
        have HG := Lib.hid hg3; clear hg3
        have HRG := Lib.hid hrg2; clear hrg2
        have hrr : (⟨rr.s, b1, rr.many + n⟩ : RunS) = putAll rr (rest.take n) := by rw [HC.out]; exact (if_neg HZ.out).symm
        have hr2 := HR.out; rw [hrr] at hr2
        have hbpe : putAll (putAll rr (rest.take n)) (rest.drop n) = putAll r l := by rw [← HSP.out]; exact HPE.out
        have hok := putAll_ok (rest.take n) ho
        have hmm : (putAll rr (rest.take n)).many + (rest.drop n).length < 18446744073709551616 := by
          rw [putAll_many, List.length_take, Nat.min_eq_left n1, List.length_drop]; have := HM.out; omega
        have HBP := Lib.hid hbpe; clear hbpe
        have HMM := Lib.hid hmm; clear hmm
        have HR2 := Lib.hid hr2; clear hr2 HR
        clear hrr HC HSP HPE
        generalize putAll rr (rest.take n) = rr2 at *
        have l1 : (n : Int) ≤ (rest.length : Int) := by omega
        have l2 : (n : Int) ≤ (cap : Int) := by omega
        have l3 : (0 : Int) ≤ (n : Int) := by omega
        by_cases hcn : cap = n
        · have hnil : rest.drop n = [] := List.drop_eq_nil_of_le (by omega)
          go_wp2_with fail
          refine ⟨⟨rr2, rest.drop n, _, _, by rw [List.length_drop], by rw [List.length_drop]; omega, by unfold maxLen; omega, .inl hnil, hok, HR2.out, HG.out, HBP.out, HMM.out⟩, by simp; omega⟩
        · go_wp2_with fail
          refine ⟨⟨rr2, rest.drop n, _, _, by rw [List.length_drop], by rw [List.length_drop]; omega, by unfold maxLen; omega, .inr ⟨b, o + n, hbp, rfl, cells8_drop HRG.out n n1⟩, hok, HR2.out, HG.out, HBP.out, HMM.out⟩, by simp; omega⟩
end Go.Proofs.YtfmgoehnbaiamaaGreatDoor
-- Walk: shas.New, (shas.Run).ended, shas.Of.
namespace Go.Proofs.YtfmgoehnbaiamaaGreatDoor
theorem build_run : ∀ w, (Instr.build 235 #[(0, Value.bool true), (1, Value.agg (cells32 begin8).toArray)]).run Tryz.prog w = .ok (.agg (cellsRun run0).toArray) w := by
  intro w; kernel_rfl
set_option maxRecDepth 100000 in
theorem new_any (w : World) : Calls Tryz.prog 171 #[] w fun e w' => ∃ p, e = .returned (.pointer (some ⟨p, 0, none⟩)) ∧ w.heap.size ≤ p ∧ RunAt w' p 235 run0 ∧ Below w.heap.size w w' := by
  go_enter Tryz.func171, Tryz.ntmps171
  go_wp2_with (first
    | (refine wpList_build_by rfl _ _ rfl (.agg (cellsRun run0).toArray) build_run ?_)
    | (go_at_call 185; refine (begin_any _).mono ?_; rintro e w1 ⟨rfl, hb⟩))
  exact bodyPost_ret (results_tmp rfl _ _ _) rfl ⟨_, rfl, hb.size, RunAt.new _ (by kernel_rfl) rfl, al hb _⟩
theorem bytes_one {w : World} {b : Nat} {c : Value} (x : UInt8) (t : TypeId) (hb : b = w.heap.size) (hc : c = .int .u8 (x.toNat : Int)) : BytesAt (w.alloc (.cells #[c] t)) (.slice (some ⟨b, 0, none⟩) 1 1) [x] :=
  ⟨_, 1, rfl, by simp, by decide, .inr ⟨_, _, rfl, by subst hb; subst hc; exact range_new _ _ _ _ rfl⟩⟩
theorem bytes_zeros {w : World} {b : Nat} (n : Nat) (t : TypeId) (hb : b = w.heap.size) (hn : n ≤ maxLen) : BytesAt (w.alloc (.cells (madeCells #[.int .u8 0] n) t)) (.slice (some ⟨b, 0, none⟩) n n) (List.replicate n 0) :=
  ⟨_, n, by rw [List.length_replicate], by rw [List.length_replicate]; exact Nat.le_refl _, hn, .inr ⟨_, _, rfl, by subst hb; exact range_new _ _ _ _ (by rw [toList_madeCells_one, cells8, List.map_replicate]; rfl)⟩⟩
theorem be8_take (m k : Nat) (h : k < 8) : (be8 m).take (k + 1) = (be8 m).take k ++ [UInt8.ofNat (m >>> (56 - 8 * k))] := by
  rw [List.take_add_one]; simp [be8, h]
theorem there_range {W : World} {b o n : Nat} {cs : List Value} (h : W.rangeAt b o cs) (hn : cs.toArray.size = n) (hf : ∀ i, W.frozen? ⟨b, i, none⟩ = false) : W.there b o n := fun j hj => by
  have hj' : j < cs.length := by rw [List.size_toArray] at hn; omega
  rw [h j cs[j] (List.getElem?_eq_getElem hj')]
  exact ⟨rfl, hf _⟩
theorem infoByteZ : (Tryz.prog.info? 5).map (fun i => (i.zero, i.size, i.bytes)) = some (some (.int .u8 0), 1, 1) := by kernel_rfl
set_option maxRecDepth 100000 in
set_option maxHeartbeats 1000000 in
theorem ended_any (r : RunS) (w : World) (ho : r.ok) (hm : r.many < 72057594037927936) : Calls Tryz.prog 173 #[.agg (cellsRun r).toArray] w fun e w' => e = .returned (sv (sumOf r)) ∧ Below w.heap.size w w' := by
  have hr : RunAt (w.alloc (.cells (cellsRun r).toArray 235)) w.heap.size 235 r := RunAt.new _ rfl rfl
  have c73 : (cellsRun r)[73]? = some (.int .u64 (r.many : Int)) := by have := cellsRun_many ho; simpa using this
  have HR := Lib.hid hr; clear hr
  have n1 : (r.many : Int) * 8 < 18446744073709551616 := by omega
  have HM := Lib.hid hm; clear hm
  obtain ⟨i0, hi0, hz0⟩ := Option.map_eq_some_iff.1 infoByteZ
  simp only [Prod.mk.injEq] at hz0
  have HI := Lib.hid hi0; clear hi0
  have HZ := Lib.hid hz0; clear hz0
  go_enter Tryz.func173, Tryz.ntmps173
  go_wp2_with fail
  have hb0 : Below w.heap.size w ((w.alloc (.cells (cellsRun r).toArray 235)).alloc (.cells (cells8 (List.replicate 32 0)).toArray 24)) := al (al (Below.refl _ _) _) _
  have ho0 : Row8 ((w.alloc (.cells (cellsRun r).toArray 235)).alloc (.cells (cells8 (List.replicate 32 0)).toArray 24)) (w.heap.size + 1) 24 (List.replicate 32 0) := Row8.new _ rfl (by simp)
  have hr0 := HR.out.alloc (.cells (cells8 (List.replicate 32 0)).toArray 24)
  have hs0 : ((w.alloc (.cells (cellsRun r).toArray 235)).alloc (.cells (cells8 (List.replicate 32 0)).toArray 24)).heap.size = w.heap.size + 1 + 1 := by simp
  change Calls _ _ _ (((w.alloc (.cells (cellsRun r).toArray 235)).alloc (.cells (cells8 (List.replicate 32 0)).toArray 24)).alloc _) _
  generalize ((w.alloc (.cells (cellsRun r).toArray 235)).alloc (.cells (cells8 (List.replicate 32 0)).toArray 24)) = w0 at *
  refine (puts_any w.heap.size r [128] _ _ ho (bytes_one 128 _ hs0.symm rfl) ?_ (hr0.alloc _) (by have := HM.out; simp; omega)).mono ?_
  · intro a n c he _
    simp only [Value.slice.injEq, Option.some.injEq] at he
    rw [← he.1]; simp; omega
  rintro e w1 ⟨rfl, hr1, hg1⟩
  have hb1 : Below w.heap.size w w1 := (hb0.alloc hb0.size _).grown hg1 (by simp; omega) (by simp)
  have ho1 := (ho0.alloc _).grown hg1 (by omega)
  have ok1 := putAll_ok [128] ho
  have m1 := putAll_many [128] r
  obtain ⟨r1, R1⟩ : ∃ r1, r1 = putAll r [128] := ⟨_, rfl⟩
  rw [← R1] at hr1 ok1 m1
  have RR := Lib.hid R1; clear R1
  clear hg1 ho0 hr0 hb0 hs0 w0
  have c74 := hr1.many ok1
  obtain ⟨q, hq⟩ : ∃ q, q = r1.many % 64 := ⟨_, rfl⟩
  have tq : Int.tmod (r1.many : Int) 64 = (q : Int) := by rw [Int.tmod_eq_emod_of_nonneg (by omega)]; omega
  have q1 : (r1.many : Int) % 64 = (q : Int) := by omega
  have q3 : (q : Int) < 64 := by omega
  have Q := Lib.hid hq; clear hq
  obtain ⟨z, hz⟩ : ∃ z, z = (120 - q) % 64 := ⟨_, rfl⟩
  have wz : IntKind.u64.wrap (120 - (q : Int)) = 120 - (q : Int) := by
    simp only [IntKind.wrap, IntKind.bits, IntKind.signed, Bool.false_and, Bool.false_eq_true, if_false]; omega
  have tz : Int.tmod (120 - (q : Int)) 64 = (z : Int) := by rw [Int.tmod_eq_emod_of_nonneg (by omega)]; omega
  have ez : (120 - (q : Int)) % 64 = (z : Int) := by omega
  have lz : z < 64 := by omega
  have Z := Lib.hid hz; clear hz
  have M1 := Lib.hid m1; clear m1
  go_wp2_with (at_make; go_loud (refine wpList_make_row _ rfl _ _ _ rfl 5 i0 (.int .u8 0) Tryz.underlying39 HI.out HZ.out.1 HZ.out.2.1 rfl _ _ z rfl rfl (by rw [HZ.out.2.2]; omega) (by omega) ?_))
  refine (puts_any w.heap.size r1 (List.replicate z 0) _ _ ok1 (bytes_zeros z _ rfl (by unfold maxLen; omega)) ?_ (hr1.alloc _) (by have := HM.out; have := M1.out; simp at *; omega)).mono ?_
  · intro a n c he _
    simp only [Value.slice.injEq, Option.some.injEq] at he
    rw [← he.1]; have := hr1.lt; simp; omega
  rintro e w2 ⟨rfl, hr2, hg2⟩
  have hb2 : Below w.heap.size w w2 := (al hb1 _).grown hg2 (by have := hb1.size; simp; omega) (by simp)
  have ho2 := (ho1.alloc _).grown hg2 (by omega)
  have ok2 := putAll_ok (List.replicate z 0) ok1
  have m2 := putAll_many (List.replicate z 0) r1
  have e2 : putAll r1 (List.replicate z 0) = putAll (putAll r [128]) (List.replicate ((120 - (r.many + 1) % 64) % 64) 0) := by
    rw [Z.out, Q.out, M1.out, RR.out]; rfl
  generalize putAll r1 (List.replicate z 0) = r2 at *
  clear hg2 hr1 ho1 hb1
  have m2' : r2.many < 72057594037927936 + 100 := by rw [m2, M1.out]; have := HM.out; simp; omega
  clear m2
  have M2 := Lib.hid m2'; clear m2'
  have E2 := Lib.hid e2; clear e2
  clear c74 tq q1 wz tz ez
  go_wp2_with fail
  obtain ⟨m, hm⟩ : ∃ m, m = r.many * 8 := ⟨_, rfl⟩
  have hm' : (r.many : Int) * 8 = (m : Int) := by omega
  have hml : (m : Int) < 18446744073709551616 := by omega
  have Hm := Lib.hid hm; clear hm
  go_loopw [5] (fun v W => ∃ k : Nat, k ≤ 8 ∧ v = .int .i64 (56 - 8 * (k : Int)) ∧ RunAt W w.heap.size 235 (putAll r2 ((be8 m).take k)) ∧ Row8 W (w.heap.size + 1) 24 (List.replicate 32 0) ∧ Below w.heap.size w W) (fun v _ => (intOf v + 8).toNat)
  case atStart => exact ⟨0, by omega, rfl, hr2, ho2, hb2⟩
  case round =>
    obtain ⟨k, hk, rfl, hr3, ho3, hb3⟩ := hrel
    rw [hm']
    by_cases hlt : k < 8
    · obtain ⟨sh, hsh⟩ : ∃ sh : Nat, sh = 56 - 8 * k := ⟨_, rfl⟩
      have e : (56 : Int) - 8 * (k : Int) = (sh : Int) := by omega
      rw [e]
      have sh1 : (sh : Int) ≤ 56 := by omega
      clear e
      clear hm' n1
      have hx : (m : Int) / 2 ^ (56 - 8 * k) % 256 = (((UInt8.ofNat (m >>> (56 - 8 * k))).toNat : Nat) : Int) := by
        rw [UInt8.toNat_ofNat', Nat.shiftRight_eq_div_pow]; push_cast; rfl
      have Hx := Lib.hid hx; clear hx
      go_wp2_with fail
      rw [Hx.out]
      have okk := putAll_ok ((be8 m).take k) ok2
      have mk := putAll_many ((be8 m).take k) r2
      refine (puts_any w.heap.size (putAll r2 ((be8 m).take k)) [UInt8.ofNat (m >>> (56 - 8 * k))] _ _ okk (bytes_one _ _ rfl rfl) ?_ (hr3.alloc _) (by rw [mk]; have := M2.out; simp [be8]; omega)).mono ?_
      · intro a n c he _
        simp only [Value.slice.injEq, Option.some.injEq] at he
        rw [← he.1]; have := hr3.lt; simp; omega
      rintro e w3 ⟨rfl, hr4, hg4⟩
      have hb4 : Below w.heap.size w w3 := (al hb3 _).grown hg4 (by have := hb3.size; simp; omega) (by simp)
      have ho4 := (ho3.alloc _).grown hg4 (by omega)
      rw [← putAll_append, ← be8_take m k hlt] at hr4
      clear hg4 okk mk ho3 hr3 hb3
      go_wp2_with fail
      refine ⟨⟨k + 1, by omega, ?_, hr4, ho4, hb4⟩, by simp [intOf]; omega⟩
      congr 1; omega
    · obtain rfl : k = 8 := by omega
      have hr4 : RunAt wr w.heap.size 235 (finish r) := by
        have : finish r = putAll r2 ((be8 m).take 8) := by rw [finish, E2.out, Hm.out]; rfl
        rw [this]; exact hr3
      rw [show (56 : Int) - 8 * ((8 : Nat) : Int) = -8 from rfl]
      clear hr3 hm' n1
      have okf : (finish r).ok := putAll_ok _ (putAll_ok _ (putAll_ok _ ho))
      go_wp2_with fail
      have HC := Lib.hid c73; clear c73
      clear ho2 hr2 hb2
      go_loopw [30] (fun v W => ∃ i : Nat, i ≤ 32 ∧ v = .int .i64 (i : Int) ∧ RunAt W w.heap.size 235 (finish r) ∧ Row8 W (w.heap.size + 1) 24 (told32 (finish r).s i) ∧ Below w.heap.size w W) (fun v _ => 32 - (intOf v).toNat)
      case atStart => exact ⟨0, by omega, rfl, hr4, ho3, hb3⟩
      case round =>
        obtain ⟨i, hi, rfl, hr5, ho5, hb5⟩ := hrel
        clear hr4 ho3 hb3
        by_cases hl5 : i < 32
        · have c5 := hr5.num okf (i := i / 4) (by omega)
          have hlt := length_told32 (finish r).s i
          have c6 := ho5.cell (i := i) (by omega)
          have f6 := ho5.free i
          have hset := ho5.set i (UInt8.ofNat (((finish r).s.getD (i / 4) 0).toNat >>> (8 * (3 - i % 4))))
          have hold : (told32 (finish r).s i).set i (UInt8.ofNat (((finish r).s.getD (i / 4) 0).toNat >>> (8 * (3 - i % 4)))) = told32 (finish r).s (i + 1) := rfl
          rw [hold] at hset
          clear hold hlt
          generalize (told32 (finish r).s i).getD i 0 = old at c6
          generalize (finish r).s.getD (i / 4) 0 = x at *
          have HS := Lib.hid hset; clear hset
          obtain ⟨t, ht⟩ : ∃ t, t = 8 * (3 - i % 4) := ⟨_, rfl⟩
          rw [← ht] at HS
          have tm : Int.tmod (i : Int) 4 = (i : Int) % 4 := Int.tmod_eq_emod_of_nonneg (by omega)
          have sb : IntKind.i64.wrap (3 - (i : Int) % 4) = 3 - (i : Int) % 4 := by rw [IntKind.wrap_i64]; omega
          have sm : IntKind.i64.wrap (8 * (3 - (i : Int) % 4)) = (t : Int) := by rw [IntKind.wrap_i64]; omega
          have sm' : 8 * (3 - (i : Int) % 4) = (t : Int) := by omega
          have tl : (t : Int) < 32 := by omega
          have hT := Lib.hid ht; clear ht
          have hi' : (i : Int) < 32 := by omega
          have hx : uv x / 2 ^ t % 256 = (((UInt8.ofNat (x.toNat >>> t)).toNat : Nat) : Int) := by
            rw [UInt8.toNat_ofNat', Nat.shiftRight_eq_div_pow]; unfold uv; push_cast; rfl
          have Hx := Lib.hid hx; clear hx
          go_wp2_with fail
          rw [Hx.out]
          exact ⟨⟨i + 1, by omega, by simp, hr5.other _ _ (by simp), HS.out, hb5.setCell (by simp) _⟩, by simp [intOf]; omega⟩
        · have h32 : i = 32 := by omega
          have hrg : wr.rangeAt (w.heap.size + 1) 0 (cellsOf (sumOf r)) := by rw [cellsOf_sumOf]; rw [h32] at ho5; exact ho5.range
          have hth : wr.there (w.heap.size + 1) 0 32 := there_range hrg (size_cellsOf _) ho5.free
          rw [h32]
          clear ho5 h32
          go_wp2_with (first
            | (refine wpList_load_sum rfl _ rfl (w.heap.size + 1) 0 rfl (sumOf r) hrg ?_)
            | (refine wpList_store_sum rfl _ _ rfl (w.heap.size + 1) 0 (sumOf r) rfl rfl hth ?_))
          exact bodyPost_ret (results_sum Tryz.results173 _ _ _ _ rfl (World.there_setCells hth _ _ _)) rfl ⟨rfl, setCells_below _ (by omega) _ _ _ _ hb5⟩
theorem bytes_below {B : Nat} {w w' : World} {v : Value} {l : List UInt8} (h : BytesAt w v l) (hb : Below B w w') (hB : w.heap.size ≤ B) : BytesAt w' v l := by
  obtain ⟨a, cap, hv, h1, h2, h3⟩ := h
  refine ⟨a, cap, hv, h1, h2, ?_⟩
  by_cases hl : l = []
  · exact .inl hl
  · obtain ⟨b, o, ha, hr⟩ := h3.resolve_left hl
    exact .inr ⟨b, o, ha, range_below hb hr (Nat.lt_of_lt_of_le (range_lt hr (by unfold cells8; simpa using hl)) hB)⟩
theorem bytes_apart {w : World} {v : Value} {l : List UInt8} (h : BytesAt w v l) {p : Nat} (hp : w.heap.size ≤ p) : ∀ a n c, v = .slice (some a) n c → l ≠ [] → a.block ≠ p := by
  intro a n c he hl
  obtain ⟨a', cap, rfl, h1, h2, h3⟩ := h
  obtain ⟨b, o, rfl, hr⟩ := h3.resolve_left hl
  simp only [Value.slice.injEq, Option.some.injEq] at he
  rw [← he.1]
  have := range_lt hr (by unfold cells8; simpa using hl)
  simp; omega
theorem infoRun : (Tryz.prog.info? 235).map (·.size) = some 74 := by kernel_rfl
theorem run_range {W : World} {p : Nat} {t : TypeId} {r : RunS} (h : RunAt W p t r) : W.rangeAt p 0 (cellsRun r) := fun j v hv => by
  rw [cell_of_row W p _ _ t (0, 0) h, Nat.zero_add]; simpa using hv
set_option maxRecDepth 100000 in
theorem of_any (l : List UInt8) (v : Value) (w : World) (hv : BytesAt w v l) (hl : l.length < 72057594037927936) : Calls Tryz.prog 122 #[v] w fun e w' => e = .returned (sv (sha l)) ∧ Below w.heap.size w w' := by
  have R0 : Res w 32 (w.alloc (.cells (cells8 (List.replicate 32 0)).toArray 24)) := Res.start _ _ _ _ (by rfl)
  have HL := Lib.hid hl; clear hl
  go_enter Tryz.func122, Tryz.ntmps122
  go_wp2_with fail
  change Calls _ _ _ (w.alloc (.cells (cells8 (List.replicate 32 0)).toArray 24)) _
  have s0 : (w.alloc (.cells (cells8 (List.replicate 32 0)).toArray 24)).heap.size = w.heap.size + 1 := by simp
  generalize w.alloc (.cells (cells8 (List.replicate 32 0)).toArray 24) = w0 at *
  refine (new_any w0).mono ?_
  rintro e w1 ⟨p, rfl, hp, hr1, hb1⟩
  have R1 := R0.call_at hb1 (by omega)
  have hv1 := bytes_below hv R1.below (Nat.le_refl _)
  go_wp2_with fail
  refine (puts_any p run0 l _ _ run0_ok hv1 ?_ hr1 (by rw [show run0.many = 0 from rfl]; have := HL.out; omega)).mono ?_
  · exact bytes_apart hv (by omega)
  rintro e w2 ⟨rfl, hr2, hg2⟩
  have ok2 := putAll_ok l run0_ok
  have m2 := putAll_many l run0
  have hb2 : Below w.heap.size w w2 := R1.below.grown hg2 R1.below.size (by simp; omega)
  have ht2 : w2.there w.heap.size 0 32 := there_block (hg2.block _ (there_lt R1.there (by omega)) (by simp; omega)) R1.there
  have R2 : Res w 32 w2 := ⟨hb2, ht2⟩
  have hs2 := run_range hr2
  have hsz := length_cellsRun ok2
  have hsha : sumOf (putAll run0 l) = sha l := rfl
  have HS := Lib.hid hsha; clear hsha
  have M2 := Lib.hid m2; clear m2
  generalize putAll run0 l = r2 at *
  go_wp2_with (first
    | (refine wpList_load_mid rfl _ _ rfl p 0 rfl (cellsRun r2) _ hs2 Tryz.underlying235 rfl (by rw [hsz]; exact infoRun) ?_)
    | (go_at_call 173; refine (ended_any r2 _ ok2 (by rw [M2.out, show run0.many = 0 from rfl]; have := HL.out; omega)).mono ?_; rintro e w3 ⟨rfl, hb3⟩)
    | (refine wpList_store_sum rfl _ _ rfl w.heap.size 0 (sumOf r2) rfl rfl (R2.call (by omega) hb3).there ?_))
  rw [HS.out]
  have R3 := (R2.call (by omega) hb3).store (cellsOf (sha l))
  exact bodyPost_ret (results_sum Tryz.results122 _ _ _ _ rfl R3.there) rfl ⟨rfl, R3.below⟩
end Go.Proofs.YtfmgoehnbaiamaaGreatDoor
