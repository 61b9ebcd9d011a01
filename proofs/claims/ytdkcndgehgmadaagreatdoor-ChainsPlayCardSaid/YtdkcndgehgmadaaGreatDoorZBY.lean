/-
  Joined: CQ3, Args3, CA6.
-/
import Derived.Test.YtdkcndgehgmadaaGreatDoorZBX
import Derived.Test.YtdkcndgehgmadaaGreatDoorZBT
import Derived.Test.YtdkcndgehgmadaaGreatDoorZAJ
import Derived.Test.YtdkcndgehgmadaaGreatDoorZAQ
import Derived.SizedLaws
-- The law ChainsPlay: its first loop; the law.
open Go Go.RowKit Alm
namespace Go.Proofs.YtdkcndgehgmadaaGreatDoor
def ask1 (w : World) (c q ln n1 : Nat) (v0a v1a : Option Addr) (v0c v1c : Nat) (l : List (List UInt8)) (a : Act) (W : World) : Prop := ∃ (i : Nat) (va : Value), i ≤ ln ∧ FrAt a [(0, .slice v0a ln v0c), (1, .slice v1a n1 v1c), (5, .pointer (some ⟨c, 0, none⟩)), (6, .pointer (some ⟨q, 0, none⟩)), (7, va), (8, .int .i64 (i : Int))] ∧ PlayN w W c q i va (kept (l.take i))
def mu1 (ln : Nat) (a : Act) (_ : World) : Nat := ln - (intOf (a.tmps.getD 8 undef)).toNat
set_option maxRecDepth 100000 in
theorem head1 {W : World} {c q ln n1 i : Nat} {v0a v1a : Option Addr} {v0c v1c : Nat} {va : Value} {K : Act → World → Prop} {Q : Exit → Act → World → Prop} (a : Act) (hA : FrAt a [(0, .slice v0a ln v0c), (1, .slice v1a n1 v1c), (5, .pointer (some ⟨c, 0, none⟩)), (6, .pointer (some ⟨q, 0, none⟩)), (7, va), (8, .int .i64 (i : Int))]) (hi : i ≤ ln) (_hn : ln < 1000)
    (h1 : i < ln → ∀ a', FrAt a' [(0, .slice v0a ln v0c), (1, .slice v1a n1 v1c), (5, .pointer (some ⟨c, 0, none⟩)), (6, .pointer (some ⟨q, 0, none⟩)), (7, va), (8, .int .i64 (i : Int))] → K a' W) (h2 : i = ln → ∀ a', FrAt a' [(0, .slice v0a ln v0c), (1, .slice v1a n1 v1c), (5, .pointer (some ⟨c, 0, none⟩)), (6, .pointer (some ⟨q, 0, none⟩)), (7, va), (8, .int .i64 (i : Int))] → Q (.exit 0) a' W) : Code.wp Tryz.prog (fstC loop1C) (Exit.then K Q) a W := by
  have H1 := Lib.hid h1
  have H2 := Lib.hid h2
  clear h1 h2
  by_cases hlt : i < ln
  · have d1 : (i : Int) < (ln : Int) := by omega
    have d2 : decide (i < ln) = true := decide_eq_true hlt
    obtain ⟨g, rfl, s0, s1, s5, s6, s7, s8, -⟩ := hA.form
    change g 0 = .slice v0a ln v0c at s0
    change g 1 = .slice v1a n1 v1c at s1
    change g 5 = .pointer (some ⟨c, 0, none⟩) at s5
    change g 6 = .pointer (some ⟨q, 0, none⟩) at s6
    change g 7 = va at s7
    change g 8 = .int .i64 (i : Int) at s8
    unfold frG
    rw [s0, s1, s5, s6, s7, s8]
    clear s0 s1 s5 s6 s7 s8 hA
    conv => arg 2; whnf
    go_wp2_with fail
    exact H1.out hlt _ ⟨rfl, rfl, rfl, rfl, rfl, rfl, rfl, rfl, trivial⟩
  · have d1 : ¬ (i : Int) < (ln : Int) := by omega
    have d2 : decide (i < ln) = false := decide_eq_false hlt
    have HE := Lib.hid (show i = ln by omega)
    clear hlt hi
    obtain ⟨g, rfl, s0, s1, s5, s6, s7, s8, -⟩ := hA.form
    change g 0 = .slice v0a ln v0c at s0
    change g 1 = .slice v1a n1 v1c at s1
    change g 5 = .pointer (some ⟨c, 0, none⟩) at s5
    change g 6 = .pointer (some ⟨q, 0, none⟩) at s6
    change g 7 = va at s7
    change g 8 = .int .i64 (i : Int) at s8
    unfold frG
    rw [s0, s1, s5, s6, s7, s8]
    clear s0 s1 s5 s6 s7 s8 hA
    conv => arg 2; whnf
    go_wp2_with fail
    exact H2.out HE.out _ ⟨rfl, rfl, rfl, rfl, rfl, rfl, rfl, rfl, trivial⟩
set_option maxRecDepth 100000 in
theorem inc1 {W : World} {c q ln n1 i : Nat} {v0a v1a : Option Addr} {v0c v1c : Nat} {va : Value} {K : Act → World → Prop} {Q : Exit → Act → World → Prop} (a : Act) (hA : FrAt a [(0, .slice v0a ln v0c), (1, .slice v1a n1 v1c), (5, .pointer (some ⟨c, 0, none⟩)), (6, .pointer (some ⟨q, 0, none⟩)), (7, va), (8, .int .i64 (i : Int))]) (hi : i < 1000)
    (h1 : ∀ a', FrAt a' [(0, .slice v0a ln v0c), (1, .slice v1a n1 v1c), (5, .pointer (some ⟨c, 0, none⟩)), (6, .pointer (some ⟨q, 0, none⟩)), (7, va), (8, .int .i64 ((i + 1 : Nat) : Int))] → K a' W) : Code.wp Tryz.prog (sndC (sndC loop1C)) (Exit.then K Q) a W := by
  have H1 := Lib.hid h1
  have hw := wrapn (k := i) (by omega)
  clear h1
  obtain ⟨g, rfl, s0, s1, s5, s6, s7, s8, -⟩ := hA.form
  change g 0 = .slice v0a ln v0c at s0
  change g 1 = .slice v1a n1 v1c at s1
  change g 5 = .pointer (some ⟨c, 0, none⟩) at s5
  change g 6 = .pointer (some ⟨q, 0, none⟩) at s6
  change g 7 = va at s7
  change g 8 = .int .i64 (i : Int) at s8
  unfold frG
  rw [s0, s1, s5, s6, s7, s8]
  clear s0 s1 s5 s6 s7 s8 hA
  conv => arg 2; whnf
  go_wp2_with fail
  refine H1.out _ ⟨rfl, rfl, rfl, rfl, rfl, rfl, rfl, ?_, trivial⟩
  first
    | exact congrArg (Value.int .i64) hw
    | exact congrArg (Value.int .i64) (show (i : Int) + 1 = ((i + 1 : Nat) : Int) by omega)
theorem play_loop1 {w W : World} {c q ln n1 : Nat} {l : List (List UInt8)} {Q : Exit → Act → World → Prop} (a : Act) (v0a v1a : Option Addr) (v0c v1c : Nat) (va0 : Value)
    (hA : FrAt a [(0, .slice v0a ln v0c), (1, .slice v1a n1 v1c), (5, .pointer (some ⟨c, 0, none⟩)), (6, .pointer (some ⟨q, 0, none⟩)), (7, va0), (8, .int .i64 ((0 : Nat) : Int))]) (hS : PlayN w W c q 0 va0 []) (hv : ListsAt w (.slice v0a ln v0c) l) (hln : l.length = ln) (hn : ln < 100) (hs : ∀ x ∈ l, x.length ≤ 40000)
    (hexit : ∀ a' W' va, FrAt a' [(0, .slice v0a ln v0c), (1, .slice v1a n1 v1c), (5, .pointer (some ⟨c, 0, none⟩)), (6, .pointer (some ⟨q, 0, none⟩)), (7, va), (8, .int .i64 (ln : Int))] → PlayN w W' c q ln va (kept l) → Q (.exit 0) a' W') : Code.wp Tryz.prog (.loop loop1C) Q a W := by
  refine wp_loop (ask1 w c q ln n1 v0a v1a v0c v1c l) (mu1 ln) ⟨0, va0, Nat.zero_le _, hA, hS⟩ (fun a0 W hI => ?_)
  obtain ⟨i, va, hi, hA0, hP⟩ := hI
  have m0 : mu1 ln a0 W = ln - i := by
    unfold mu1
    rw [show a0.tmps.getD 8 undef = .int .i64 (i : Int) from hA0.vals.2.2.2.2.2.1]
    simp [intOf]
  rw [m0]
  rw [loop1_eq]
  refine wp_seq (head1 a0 hA0 hi (by omega) (fun hlt a hA => ?_) (fun he a hA => ?_))
  · refine wp_seq (in_block ?_)
    obtain ⟨cs, C, F, HB, SB, HS, SS, hS⟩ := hP
    have hil : i < l.length := by omega
    have h0 : l ≠ [] := by intro h; rw [h] at hil; simp at hil
    obtain ⟨lb, lo, c9, hf, _, _⟩ := hv.form h0
    simp only [Value.slice.injEq] at hf
    obtain ⟨rfl, -, rfl⟩ := hf
    obtain ⟨u, hu, hub⟩ := hv.cell (sp := none) hil
    have hub2 := hub
    obtain ⟨ua, uc, rfl, _, _, _⟩ := hub2
    have hbl := hs _ (List.getElem_mem hil)
    have hst : l.take (i + 1) = l.take i ++ [l[i]] := List.take_succ_eq_append_getElem hil
    have hkl : (kept (l.take i)).length < 1000 := by have := kept_len (l.take i); rw [List.length_take] at this; omega
    have hend : ∀ a2 W' va', FrAt a2 [(0, .slice (some ⟨lb, lo, none⟩) ln v0c), (1, .slice v1a n1 v1c), (5, .pointer (some ⟨c, 0, none⟩)), (6, .pointer (some ⟨q, 0, none⟩)), (7, va'), (8, .int .i64 ((i + 1 : Nat) : Int))] → PlayN w W' c q (i + 1) va' (kept (l.take (i + 1))) → ask1 w c q ln n1 (some ⟨lb, lo, none⟩) v1a v0c v1c l a2 W' ∧ mu1 ln a2 W' < ln - i := fun a2 W' va' hA2 hP' => by
      refine ⟨⟨i + 1, va', hlt, hA2, hP'⟩, ?_⟩
      unfold mu1
      rw [show a2.tmps.getD 8 undef = .int .i64 ((i + 1 : Nat) : Int) from hA2.vals.2.2.2.2.2.1]
      simp only [intOf, Int.toNat_natCast]
      omega
    by_cases hb : (l[i]).length ≤ 16384
    · refine play_addS a hA hS (by omega) hkl hlt hu hub rfl (by omega) hb (fun a' W' va' hA' hP' => ?_)
      show Code.wp _ _ _ _ _
      refine inc1 a' hA' (by omega) (fun a2 hA2 => hend a2 W' va' hA2 ?_)
      rw [hst, kept_snocS _ _ hb]
      exact hP'
    · refine play_addL a hA hS (by omega) hkl hlt hu hub rfl (by omega) (by omega) (fun a' W' va' hA' hP' => ?_)
      show Code.wp _ _ _ _ _
      refine inc1 a' hA' (by omega) (fun a2 hA2 => hend a2 W' va' hA2 ?_)
      rw [hst, kept_snocL _ _ (by omega)]
      exact hP'
  · subst he
    rw [List.take_of_length_le (by omega)] at hP
    exact hexit a W va hA hP
set_option maxRecDepth 100000 in
theorem play_end {w W : World} {c q nb : Nat} {va : Value} {all : List (List UInt8)} (a : Act) (hA : FrAt a [(6, .pointer (some ⟨q, 0, none⟩))]) (hP : PlayN w W c q nb va all) (hnb : nb < 256) :
    Code.wp Tryz.prog (dropN 9 playC) (bodyPost Tryz.prog Tryz.f6 fun e w' => e = .returned (.bool true) ∧ Below w.heap.size w w') a W := by
  obtain ⟨cs, C, F, HB, SB, HS, SS, hS⟩ := hP
  have HS1 := Lib.hid (And.intro hS hnb)
  clear hS hnb
  obtain ⟨g, rfl, s6, -⟩ := hA.form
  change g 6 = .pointer (some ⟨q, 0, none⟩) at s6
  unfold frG
  rw [s6]
  clear s6 hA
  conv => arg 2; whnf
  go_wp2_with (go_at_call 16; refine Hid.out ?_)
  refine Lib.hid ?_
  refine (apart_both w.heap.size q nb F HB HS SB SS W HS1.out.1.bk HS1.out.2 (by have := HS1.out.1.hB; have := HS1.out.2; omega) (by have := HS1.out.1.hS; have := HS1.out.2; omega)).mono ?_
  rintro e W1 ⟨rfl, hk⟩
  have HF := Lib.hid (HS1.out.1.below.trans (hk.below HS1.out.1.below.size (fun k h => (HS1.out.1.bk.lt h).1)))
  clear hk
  go_wp2_with fail
  exact bodyPost_ret (results_tmp rfl _ _ _) rfl ⟨rfl, HF.out⟩
set_option maxRecDepth 100000 in
theorem play_tail8 {w W : World} {c q nb N n1 : Nat} {va : Value} {v1a : Option Addr} {v1c : Nat} {all : List (List UInt8)} {asks : List (Nat × Nat)} (a : Act) (hA : FrAt a [(1, .slice v1a n1 v1c), (5, .pointer (some ⟨c, 0, none⟩)), (6, .pointer (some ⟨q, 0, none⟩)), (7, va), (11, .int .u64 (N : Int))]) (hP : PlayN w W c q nb va all) (has : AsksAt w (.slice v1a n1 v1c) asks) (hn1 : asks.length = n1) (hn : n1 ≤ 30) (hnb : nb ≤ 30) (hN : all.length = N) (hN2 : N < 1000) (hall : ∀ y ∈ all, y.length ≤ 16384) :
    Code.wp Tryz.prog (dropN 8 playC) (bodyPost Tryz.prog Tryz.f6 fun e w' => e = .returned (.bool true) ∧ Below w.heap.size w w') a W := by
  have H0 := Lib.hid (And.intro hP (And.intro has (And.intro hn1 (And.intro hn (And.intro hnb (And.intro hN (And.intro hN2 hall)))))))
  clear hP has hn1 hn hnb hN hN2 hall
  obtain ⟨g, rfl, s1, s5, s6, s7, s11, -⟩ := hA.form
  change g 1 = .slice v1a n1 v1c at s1
  change g 5 = .pointer (some ⟨c, 0, none⟩) at s5
  change g 6 = .pointer (some ⟨q, 0, none⟩) at s6
  change g 7 = va at s7
  change g 11 = .int .u64 (N : Int) at s11
  unfold frG
  rw [s1, s5, s6, s7, s11]
  clear s1 s5 s6 s7 s11 hA
  conv => arg 2; whnf
  refine wp_seq (wp_seq_k (fun K' hK' => ?_))
  have HK' := Lib.hid hK'
  clear hK'
  go_wp2_with fail
  refine HK'.out _ _ (in_block ?_)
  refine play_loop2 ?_ _ v1a v1c rfl ⟨rfl, rfl, rfl, rfl, rfl, rfl, rfl, rfl, trivial⟩ H0.out.1 H0.out.2.1 H0.out.2.2.1 (by have := H0.out.2.2.2.1; omega) (by have := H0.out.2.2.2.2.1; omega) H0.out.2.2.2.2.2.1 H0.out.2.2.2.2.2.2.1 H0.out.2.2.2.2.2.2.2 (fun a' W' hA' hP' => ?_)
  · intro c a d v w h; cases d <;> exact h
  · show Code.wp _ _ _ _ _
    exact play_end a' ⟨hA'.size, hA'.nod, hA'.vals.2.2.1, trivial⟩ hP' (by have := H0.out.2.2.2.1; have := H0.out.2.2.2.2.1; omega)
set_option maxRecDepth 100000 in
theorem play_tail6 {w W : World} {c q nb n1 : Nat} {va : Value} {v1a : Option Addr} {v1c : Nat} {all : List (List UInt8)} {asks : List (Nat × Nat)} (a : Act) (hA : FrAt a [(1, .slice v1a n1 v1c), (5, .pointer (some ⟨c, 0, none⟩)), (6, .pointer (some ⟨q, 0, none⟩)), (7, va)]) (hP : PlayN w W c q nb va all) (has : AsksAt w (.slice v1a n1 v1c) asks) (hn1 : asks.length = n1) (hn : n1 ≤ 30) (hnb : nb ≤ 30) (hN2 : all.length < 1000) (hall : ∀ y ∈ all, y.length ≤ 16384) :
    Code.wp Tryz.prog (dropN 6 playC) (bodyPost Tryz.prog Tryz.f6 fun e w' => e = .returned (.bool true) ∧ Below w.heap.size w w') a W := by
  have hvf : ∃ ga ca, va = .slice ga all.length ca := by
    obtain ⟨cs, C, F, HB, SB, HS, SS, hS⟩ := hP
    exact all_form hS.allAt
  obtain ⟨ga, ca, rfl⟩ := hvf
  have HZ : Hid (Calls Tryz.prog 34 #[.pointer (some ⟨c, 0, none⟩)] W fun e w' => e = .returned (.int .u64 (all.length : Int)) ∧ W = w') := Lib.hid (by
    obtain ⟨cs, C, F, HB, SB, HS, SS, hS⟩ := hP
    exact csize_at _ W c all hS.ch.at_)
  obtain ⟨N, hN⟩ : ∃ N, N = all.length := ⟨_, rfl⟩
  rw [← hN] at HZ hA hN2 hP
  have H0 := Lib.hid (And.intro hP (And.intro has (And.intro hn1 (And.intro hn (And.intro hnb (And.intro hN.symm hall))))))
  have HN3 := Lib.hid hN2
  have k4 : IntKind.u64.wrap (N : Int) = (N : Int) := by rw [IntKind.wrap_u64]; omega
  have k5 : (N : Int) % 18446744073709551616 = (N : Int) := by omega
  clear hP has hn1 hn hnb hN hN2 hall
  obtain ⟨g, rfl, s1, s5, s6, s7, -⟩ := hA.form
  change g 1 = .slice v1a n1 v1c at s1
  change g 5 = .pointer (some ⟨c, 0, none⟩) at s5
  change g 6 = .pointer (some ⟨q, 0, none⟩) at s6
  change g 7 = .slice ga N ca at s7
  unfold frG
  rw [s1, s5, s6, s7]
  clear s1 s5 s6 s7 hA
  conv => arg 2; whnf
  refine wp_cut 2 ?_
  intro T hT
  dsimp only [cutN]
  replace hT := Lib.hid hT
  go_wp2_with (go_at_call 34; refine HZ.out.mono ?_; rintro e W1 ⟨rfl, rfl⟩)
  refine hT.out _ _ ?_
  exact play_tail8 _ ⟨rfl, rfl, rfl, rfl, rfl, rfl, rfl, trivial⟩ H0.out.1 H0.out.2.1 H0.out.2.2.1 H0.out.2.2.2.1 H0.out.2.2.2.2.1 H0.out.2.2.2.2.2.1 HN3.out H0.out.2.2.2.2.2.2
set_option maxRecDepth 100000 in
theorem play_tail5 {w W : World} {c q ln n1 : Nat} {v0a v1a : Option Addr} {v0c v1c : Nat} {l : List (List UInt8)} {asks : List (Nat × Nat)} (a : Act) (hA : FrAt a [(0, .slice v0a ln v0c), (1, .slice v1a n1 v1c), (5, .pointer (some ⟨c, 0, none⟩)), (6, .pointer (some ⟨q, 0, none⟩)), (7, .slice none 0 0)]) (hP : PlayN w W c q 0 (.slice none 0 0) []) (hv : ListsAt w (.slice v0a ln v0c) l) (hln : l.length = ln) (hn0 : ln ≤ 30) (hs : ∀ x ∈ l, x.length ≤ 40000) (has : AsksAt w (.slice v1a n1 v1c) asks) (hn1 : asks.length = n1) (hn : n1 ≤ 30) :
    Code.wp Tryz.prog (dropN 5 playC) (bodyPost Tryz.prog Tryz.f6 fun e w' => e = .returned (.bool true) ∧ Below w.heap.size w w') a W := by
  have H0 := Lib.hid (And.intro hP (And.intro hv (And.intro hln (And.intro hn0 (And.intro hs (And.intro has (And.intro hn1 hn)))))))
  clear hP hv hln hn0 hs has hn1 hn
  obtain ⟨g, rfl, s0, s1, s5, s6, s7, -⟩ := hA.form
  change g 0 = .slice v0a ln v0c at s0
  change g 1 = .slice v1a n1 v1c at s1
  change g 5 = .pointer (some ⟨c, 0, none⟩) at s5
  change g 6 = .pointer (some ⟨q, 0, none⟩) at s6
  change g 7 = .slice none 0 0 at s7
  unfold frG
  rw [s0, s1, s5, s6, s7]
  clear s0 s1 s5 s6 s7 hA
  conv => arg 2; whnf
  refine wp_seq (wp_seq_k (fun K' hK' => ?_))
  have HK' := Lib.hid hK'
  clear hK'
  go_wp2_with fail
  refine HK'.out _ _ (in_block ?_)
  refine play_loop1 _ v0a v1a v0c v1c (.slice none 0 0) ⟨rfl, rfl, rfl, rfl, rfl, rfl, rfl, rfl, trivial⟩ H0.out.1 H0.out.2.1 H0.out.2.2.1 (by have := H0.out.2.2.2.1; omega) H0.out.2.2.2.2.1 (fun a' W' va hA' hP' => ?_)
  show Code.wp _ _ _ _ _
  exact play_tail6 a' ⟨hA'.size, hA'.nod, hA'.vals.2.1, hA'.vals.2.2.1, hA'.vals.2.2.2.1, hA'.vals.2.2.2.2.1, trivial⟩ hP' H0.out.2.2.2.2.2.1 H0.out.2.2.2.2.2.2.1 H0.out.2.2.2.2.2.2.2 H0.out.2.2.2.1 (by have := kept_len l; have := H0.out.2.2.1; have := H0.out.2.2.2.1; omega) (kept_all l)
set_option maxRecDepth 100000 in
set_option maxHeartbeats 2000000 in
theorem chainsPlay_law (l : List (List UInt8)) (v0 : Value) (asks : List (Nat × Nat)) (v1 : Value) (w : World) (hv : ListsAt w v0 l) (has : AsksAt w v1 asks) (hn : l.length ≤ LIM) (hs : ∀ x ∈ l, x.length ≤ LIM) :
    Calls Tryz.prog 6 #[v0, v1] w fun e w' => e = .returned (.bool true) ∧ Below w.heap.size w w' := by
  have HZ := Lib.hid (blsz_any l v0 w hv hn hs)
  have HV := Lib.hid (And.intro hv has)
  have hp9 : bsz l ≤ 1048576 + LIM := bszGo_lt l _ hs (by omega)
  obtain ⟨v0a, v0c, rfl, _, _, _⟩ := hv
  obtain ⟨v1a, v1c, rfl, _, _, _⟩ := has
  obtain ⟨p, hp⟩ : ∃ p, p = bsz l := ⟨_, rfl⟩
  rw [← hp] at HZ hp9
  obtain ⟨ln, hln⟩ : ∃ n, n = l.length := ⟨_, rfl⟩
  obtain ⟨n1, hn1⟩ : ∃ n, n = asks.length := ⟨_, rfl⟩
  rw [← hln] at HZ HV hn ⊢
  rw [← hn1] at HV ⊢
  unfold LIM at hn hp9
  have HE := Lib.hid (And.intro hp (And.intro hln hn1))
  clear hp hln hn1 hs
  by_cases c1 : 30 < ln
  · have d1 : (30 : Int) < (ln : Int) := by omega
    clear c1 hn hp9
    go_enter Tryz.func6, Tryz.ntmps6
    go_wp2_with fail
    exact bodyPost_ret (results_tmp rfl _ _ _) rfl ⟨rfl, Below.refl _ _⟩
  have d1 : ¬ (30 : Int) < (ln : Int) := by omega
  by_cases c2 : 30 < n1
  · have d2 : (30 : Int) < (n1 : Int) := by omega
    clear c1 hn hp9 c2
    go_enter Tryz.func6, Tryz.ntmps6
    go_wp2_with fail
    exact bodyPost_ret (results_tmp rfl _ _ _) rfl ⟨rfl, Below.refl _ _⟩
  have d2 : ¬ (30 : Int) < (n1 : Int) := by omega
  have p0 : (p : Int) ≤ 140737489403904 := by omega
  by_cases c3 : 40000 < p
  · have d3 : (40000 : Int) < (p : Int) := by omega
    clear c1 hn hp9 c2 c3
    go_enter Tryz.func6, Tryz.ntmps6
    go_wp2_with (go_at_call 28; refine HZ.out.mono ?_; rintro e w1 ⟨rfl, rfl⟩)
    exact bodyPost_ret (results_tmp rfl _ _ _) rfl ⟨rfl, Below.refl _ _⟩
  have d3 : ¬ (40000 : Int) < (p : Int) := by omega
  have HN := Lib.hid (And.intro c1 (And.intro c2 c3))
  clear c1 hn hp9 c2 c3
  go_enter Tryz.func6, Tryz.ntmps6
  refine wp_cut 5 ?_
  intro T hT
  dsimp only [cutN]
  replace hT := Lib.hid hT
  go_wp2_with (first
    | (go_at_call 28; refine HZ.out.mono ?_; rintro e w1 ⟨rfl, rfl⟩)
    | (go_at_call 29; refine Hid.out ?_))
  refine Lib.hid ?_
  refine (chain_new w).mono ?_
  rintro e W1 ⟨c, C, rfl, hc, hb⟩
  have hbk := mbook_new W1 w.heap.size hb.size
  have hba := al (Below.refl W1.heap.size W1) (.cells #[.int .i64 0, .slice none 0 0, .slice none 0 0, .slice none 0 0, .slice none 0 0, .slice none 0 0, .slice none 0 0, .slice none 0 0, .slice none 0 0, .slice none 0 0] 44)
  have hS : PlayS w (W1.alloc (.cells #[.int .i64 0, .slice none 0 0, .slice none 0 0, .slice none 0 0, .slice none 0 0, .slice none 0 0, .slice none 0 0, .slice none 0 0, .slice none 0 0, .slice none 0 0] 44)) c W1.heap.size 0 (.slice none 0 0) [] [] [] C (fun _ => .slice none 0 0) [] (fun _ => []) [] (fun _ => []) := by
    refine ⟨hb.trans (hba.mono hb.size), hc.below hba, hbk, World.ownsRow_nil _ _ _ _, Each.nil w, fun k hk hm => ?_, fun k hk => (by cases hk), Nat.le_refl _, Nat.le_refl _⟩
    have h1 := (hc.lt hk).2
    rcases hm with e | e | e
    · omega
    · rcases e with e | ⟨i, hi, _⟩
      · cases e
      · simp at hi
    · rcases e with e | ⟨i, hi, _⟩
      · cases e
      · simp at hi
  have HS := Lib.hid hS
  clear hS hbk hba hc hb
  go_wp2_with fail
  refine hT.out _ _ ?_
  have hsz := bsz_le 40000 (by omega) l (by have := HN.out.2.2; have := HE.out.1; omega)
  exact play_tail5 _ ⟨rfl, rfl, rfl, rfl, rfl, rfl, rfl, trivial⟩ ⟨_, _, _, _, _, _, _, HS.out⟩ HV.out.1 HE.out.2.1.symm (by have := HN.out.1; omega) hsz.2 HV.out.2 HE.out.2.2.symm (by have := HN.out.2.1; omega)
end Go.Proofs.YtdkcndgehgmadaaGreatDoor
-- Arguments of a law, opened: bytes.
open Go Go.RowKit Go.ChangeShapes Go.WideShapes Go.ChangeAt Alm
namespace Go.Proofs.YtdkcndgehgmadaaGreatDoor
section
variable {H : Type} {enc : TypeId × Value → H} {P : Program} {w : World} {base : Nat} {spare : Nat → Bool} {held : Bool}
/-- A list of bytes among the arguments. -/
theorem open_u8s {t e : TypeId} {fuel : Nat} {cs : List Value} {x : DataW H × List MemPlace} (ht : P.underlying t = some (.slice e)) (he : P.underlying e = some (.int .u8)) (hce : P.cellsOf e = 1)
    (h : DataW.trod enc P w base spare held fuel t cs = some x) : ∃ v l, cs = [v] ∧ BytesAt w v l := by
  rcases Deep.open_slice ht h with ⟨rfl, _⟩ | ⟨a, len, cap, m, n, D, Pl, rfl, hb, hl, hm, hmm, _, hel⟩
  · exact ⟨_, [], rfl, ⟨none, 0, rfl, Nat.le_refl _, by unfold maxLen; omega, .inl rfl⟩⟩
  · have hlm : len ≤ m := by rw [hmm]; split <;> omega
    have one : ∀ i, i < len → ∃ s : UInt8, (a.add i).spot = none ∧ w.rangeAt (a.add i).block (a.add i).off [u8v s] := fun i hi => by
      obtain ⟨cs', h1, h2⟩ := hel i (by omega)
      rw [hce, Nat.mul_one] at h1
      obtain ⟨z, hz, _, hw⟩ := DataW.trod_int he h2
      have hb : 0 ≤ z ∧ z ≤ 255 := by simpa [Lit.wf, IntKind.min, IntKind.max, IntKind.signed, IntKind.bits] using hw
      subst hz
      obtain ⟨h3, _, h4⟩ := range_of_cells h1 (by omega)
      refine ⟨UInt8.ofNat z.toNat, h3, ?_⟩
      have : u8v (UInt8.ofNat z.toNat) = .int .u8 z := by
        unfold u8v
        have : (UInt8.ofNat z.toNat).toNat = z.toNat := by
          rw [UInt8.toNat_ofNat']; omega
        rw [this]
        congr 1; omega
      rw [this]; exact h4
    obtain ⟨f, hf⟩ := Deep.choose_lt one
    refine ⟨_, (List.range len).map f, rfl, ⟨some a, cap, by simp, by simpa using hl, hm, ?_⟩⟩
    by_cases h0 : len = 0
    · subst h0; exact .inl rfl
    · right
      have hsp : a.spot = none := by
        have := (hf 0 (by omega)).1
        simpa [Addr.add] using this
      refine ⟨a.block, a.off, by cases a; simp_all, fun j v hv => ?_⟩
      have hj : j < len := by
        have := (List.getElem?_eq_some_iff.1 hv).1
        simpa [cells8] using this
      have h1 := (hf j hj).2 0 _ rfl
      have e : a.add j = ⟨a.block, a.off + j, none⟩ := by
        unfold Addr.add
        split
        · rename_i h0; subst h0; cases a; simp_all
        · rfl
      rw [e] at h1
      have e2 : v = u8v (f j) := by
        unfold cells8 at hv
        simp [hj] at hv
        exact hv.symm
      rw [e2]
      simpa using h1
end
section
variable {H : Type} {enc : TypeId × Value → H} {W : World} {base : Nat} {spare : Nat → Bool} {held : Bool} {r : Reach} {b2 : Nat}
set_option maxRecDepth 100000 in
theorem arg_bytes {fuel : Nat} {v : Value} {x : DataW H × List MemPlace} (h : DataW.trod enc Tryz.prog W base spare held fuel 65 v.cells.toList = some x) (hok : Value.okWide Tryz.prog W r b2 65 v) : ∃ l, BytesAt W v l := by
  obtain ⟨v', l, hc, hs⟩ := open_u8s Tryz.underlying65 Tryz.underlying5 cells_byte h
  obtain ⟨a, n, c, rfl⟩ := okWide_slice Tryz.underlying65 hok
  have : v' = .slice a n c := by simpa [Value.cells] using hc.symm
  subst this
  exact ⟨l, hs⟩
end
end Go.Proofs.YtdkcndgehgmadaaGreatDoor
-- Arguments of a law, opened, with what the form's own reach says of their lengths: lists of lists of bytes.
open Go Go.RowKit Go.ChangeShapes Go.WideShapes Go.ChangeAt Alm
namespace Go.Proofs.YtdkcndgehgmadaaGreatDoor
section
variable {H : Type} {enc : TypeId × Value → H} {P : Program} {w : World} {base : Nat} {spare : Nat → Bool} {held : Bool}
/-- A list of bytes among the arguments. -/
theorem open_u8z {t e : TypeId} {fuel : Nat} {cs : List Value} {x : DataW H × List MemPlace} (ht : P.underlying t = some (.slice e)) (he : P.underlying e = some (.int .u8)) (hce : P.cellsOf e = 1) (hbe : P.bytesOf e = 1)
    (h : DataW.trod enc P w base spare held fuel t cs = some x) : ∃ v l, cs = [v] ∧ BytesAt w v l ∧ ∀ R, (∀ k ∈ x.1.weights P t, k ≤ R) → l.length ≤ R := by
  obtain ⟨v, l, hv, hb⟩ := open_u8s ht he hce h
  refine ⟨v, l, hv, hb, fun R hR => ?_⟩
  obtain ⟨a', cap', rfl, _, _, _⟩ := hb
  rcases Deep.open_slice ht h with ⟨h1, _⟩ | ⟨a, len, cap, m, n, D, Pl, h1, _, _, _, _, hx, _⟩
  · rw [hv] at h1
    simp only [List.cons.injEq, Value.slice.injEq, and_true] at h1
    omega
  · rw [hv] at h1
    simp only [List.cons.injEq, Value.slice.injEq, and_true] at h1
    rw [hx] at hR
    have := hR (len + (m - len)) (by simp [DataW.weights, ht, hbe])
    omega
end
theorem bytes_byte : Tryz.prog.bytesOf 5 = 1 := by kernel_rfl
theorem cells_bytes : Tryz.prog.cellsOf 65 = 1 := by kernel_rfl
section
variable {H : Type} {enc : TypeId × Value → H} {P : Program} {w : World} {base : Nat} {spare : Nat → Bool} {held : Bool}
theorem weights_mem_all {e : TypeId} : ∀ {ds : List (DataW H)} {d : DataW H}, d ∈ ds → ∀ k ∈ d.weights P e, k ∈ DataW.weightsAll P e ds
  | d0 :: r, d, hd, k, hk => by
    simp only [DataW.weightsAll, List.mem_append]
    rcases List.mem_cons.1 hd with rfl | hd
    · exact .inl hk
    · exact .inr (weights_mem_all hd k hk)
/-- A list of lists of bytes among the arguments. -/
theorem open_lists {t e u : TypeId} {fuel : Nat} {cs : List Value} {x : DataW H × List MemPlace} (ht : P.underlying t = some (.slice e)) (he : P.underlying e = some (.slice u)) (hu : P.underlying u = some (.int .u8)) (hce : P.cellsOf e = 1) (hcu : P.cellsOf u = 1) (hbe : 1 ≤ P.bytesOf e) (hbu : P.bytesOf u = 1)
    (h : DataW.trod enc P w base spare held fuel t cs = some x) : ∃ v ls, cs = [v] ∧ ListsAt w v ls ∧ ∀ R, (∀ k ∈ x.1.weights P t, k ≤ R) → ls.length ≤ R ∧ ∀ y ∈ ls, y.length ≤ R := by
  rcases Deep.open_slice ht h with ⟨rfl, hx⟩ | ⟨a, len, cap, m, n, D, Pl, rfl, hb, hl, hm, hmm, hx, hel⟩
  · exact ⟨_, [], rfl, ⟨none, 0, rfl, Nat.le_refl _, by unfold maxLen; omega, .inl rfl⟩, fun R _ => ⟨Nat.zero_le _, fun y hy => by cases hy⟩⟩
  · have hlm : len ≤ m := by rw [hmm]; split <;> omega
    have one : ∀ i, i < len → ∃ s : List UInt8, (a.add i).spot = none ∧ (∃ v, w.cell? (a.add i) = some v ∧ BytesAt w v s) ∧ ∀ R, (∀ k ∈ (D i).weights P e, k ≤ R) → s.length ≤ R := fun i hi => by
      obtain ⟨cs', h1, h2⟩ := hel i (by omega)
      rw [hce, Nat.mul_one] at h1
      obtain ⟨v, l, rfl, hbv, hw⟩ := open_u8z he hu hcu hbu h2
      obtain ⟨h3, _, h4⟩ := range_of_cells h1 (by omega)
      refine ⟨l, h3, ⟨v, ?_, hbv⟩, hw⟩
      have := h4 0 v rfl
      rw [Nat.add_zero] at this
      have e2 : a.add i = ⟨(a.add i).block, (a.add i).off, none⟩ := by
        rw [← h3]
      rw [e2]; exact this
    obtain ⟨f, hf⟩ := Deep.choose_lt one
    refine ⟨_, (List.range len).map f, rfl, ⟨some a, cap, by simp, by simpa using hl, hm, ?_⟩, fun R hR => ?_⟩
    · by_cases h0 : len = 0
      · subst h0; exact .inl rfl
      · right
        have hsp : a.spot = none := by
          have := (hf 0 (by omega)).1
          simpa [Addr.add] using this
        refine ⟨a.block, a.off, by cases a; simp_all, fun j hj => ?_⟩
        have hj' : j < len := by simpa using hj
        obtain ⟨v, hv, hbv⟩ := (hf j hj').2.1
        have e : a.add j = ⟨a.block, a.off + j, none⟩ := by
          unfold Addr.add
          split
          · rename_i h0; subst h0; cases a; simp_all
          · rfl
        rw [e] at hv
        exact ⟨v, hv, by simpa using hbv⟩
    · rw [hx] at hR
      simp only [DataW.weights, ht, List.mem_cons, List.mem_append, List.length_map, List.length_range] at hR
      constructor
      · have h1 := hR _ (.inl rfl)
        have h2 : (len + (m - len)) * 1 ≤ (len + (m - len)) * P.bytesOf e := Nat.mul_le_mul_left _ hbe
        simp only [List.length_map, List.length_range]
        omega
      · intro y hy
        obtain ⟨j, hj, rfl⟩ := List.mem_map.1 hy
        rw [List.mem_range] at hj
        refine (hf j hj).2.2 R fun k hk => hR k (.inr (.inl (weights_mem_all (List.mem_map.2 ⟨j, List.mem_range.2 hj, rfl⟩) k hk)))
end
section
variable {H : Type} {enc : TypeId × Value → H} {W : World} {base : Nat} {spare : Nat → Bool} {held : Bool} {r : Reach} {b2 : Nat}
theorem bytes_bytes : 1 ≤ Tryz.prog.bytesOf 65 := by
  have : Tryz.prog.bytesOf 65 = 24 := by kernel_rfl
  omega
set_option maxRecDepth 100000 in
theorem arg_lists {fuel : Nat} {v : Value} {x : DataW H × List MemPlace} (h : DataW.trod enc Tryz.prog W base spare held fuel 60 v.cells.toList = some x) (hok : Value.okWide Tryz.prog W r b2 60 v) :
    ∃ ls, ListsAt W v ls ∧ ∀ R, (∀ k ∈ x.1.weights Tryz.prog 60, k ≤ R) → ls.length ≤ R ∧ ∀ y ∈ ls, y.length ≤ R := by
  obtain ⟨v', ls, hc, hs, hw⟩ := open_lists Tryz.underlying60 Tryz.underlying65 Tryz.underlying5 cells_bytes cells_byte bytes_bytes bytes_byte h
  obtain ⟨a, n, c, rfl⟩ := okWide_slice Tryz.underlying60 hok
  have : v' = .slice a n c := by simpa [Value.cells] using hc.symm
  subst this
  exact ⟨ls, hs, hw⟩
end
end Go.Proofs.YtdkcndgehgmadaaGreatDoor
