/-
  Joined: W5, W6.
-/
import Derived.Test.YtfmgoehnbaiamaaGreatDoorZAJ
import Derived.Deep.OwnRows
import Derived.Lib.AppendZeros
-- Walk: shas.New, (shas.Run).ended, shas.Of.
open Go Go.RowKit Alm
namespace Go.Proofs.YtfmgoehnbaiamaaGreatDoor
theorem build_run : ∀ w, (Instr.build 235 #[(0, Value.bool true), (1, Value.agg (cells32 begin8).toArray)]).run Tryz.prog w = .ok (.agg (cellsRun run0).toArray) w := by
  intro w; kernel_rfl
set_option maxRecDepth 100000 in
theorem new_any (w : World) : Calls Tryz.prog 171 #[] w fun e w' => ∃ p, e = .returned (.pointer (some ⟨p, 0, none⟩)) ∧ w.heap.size ≤ p ∧ RunAt w' p 235 run0 ∧ Below w.heap.size w w' := by
  go_enter Tryz.func171, Tryz.ntmps171
  go_wp2_with (first
    | (refine wpList_build_by rfl _ _ rfl (.agg (cellsRun run0).toArray) build_run ?_)
    | (go_at_call 185; refine (begin_any _).mono ?_; rintro e w1 ⟨rfl, hb⟩))
  exact bodyPost_ret (results_tmp rfl _ _ _) rfl ⟨_, rfl, hb.size, RunAt.new _ (by kernel_rfl) rfl, al hb _⟩
theorem bytes_one {w : World} {b : Nat} {c : Value} (x : UInt8) (t : TypeId) (hb : b = w.heap.size) (hc : c = .int .u8 (x.toNat : Int)) : BytesAt (w.alloc (.cells #[c] t)) (.slice (some ⟨b, 0, none⟩) 1 1) [x] :=
  ⟨_, 1, rfl, by simp, by decide, .inr ⟨_, _, rfl, by subst hb; subst hc; exact range_new _ _ _ _ rfl⟩⟩
theorem bytes_zeros {w : World} {b : Nat} (n : Nat) (t : TypeId) (hb : b = w.heap.size) (hn : n ≤ maxLen) : BytesAt (w.alloc (.cells (madeCells #[.int .u8 0] n) t)) (.slice (some ⟨b, 0, none⟩) n n) (List.replicate n 0) :=
  ⟨_, n, by rw [List.length_replicate], by rw [List.length_replicate]; exact Nat.le_refl _, hn, .inr ⟨_, _, rfl, by subst hb; exact range_new _ _ _ _ (by rw [toList_madeCells_one, cells8, List.map_replicate]; rfl)⟩⟩
theorem be8_take (m k : Nat) (h : k < 8) : (be8 m).take (k + 1) = (be8 m).take k ++ [UInt8.ofNat (m >>> (56 - 8 * k))] := by
  rw [List.take_add_one]; simp [be8, h]
theorem there_range {W : World} {b o n : Nat} {cs : List Value} (h : W.rangeAt b o cs) (hn : cs.toArray.size = n) (hf : ∀ i, W.frozen? ⟨b, i, none⟩ = false) : W.there b o n := fun j hj => by
  have hj' : j < cs.length := by rw [List.size_toArray] at hn; omega
  rw [h j cs[j] (List.getElem?_eq_getElem hj')]
  exact ⟨rfl, hf _⟩
theorem infoByteZ : (Tryz.prog.info? 5).map (fun i => (i.zero, i.size, i.bytes)) = some (some (.int .u8 0), 1, 1) := by kernel_rfl
set_option maxRecDepth 100000 in
set_option maxHeartbeats 1000000 in
theorem ended_any (r : RunS) (w : World) (ho : r.ok) (hm : r.many < 72057594037927936) : Calls Tryz.prog 173 #[.agg (cellsRun r).toArray] w fun e w' => e = .returned (sv (sumOf r)) ∧ Below w.heap.size w w' := by
  have hr : RunAt (w.alloc (.cells (cellsRun r).toArray 235)) w.heap.size 235 r := RunAt.new _ rfl rfl
  have c73 : (cellsRun r)[73]? = some (.int .u64 (r.many : Int)) := by have := cellsRun_many ho; simpa using this
  have HR := Lib.hid hr; clear hr
  have n1 : (r.many : Int) * 8 < 18446744073709551616 := by omega
  have HM := Lib.hid hm; clear hm
  obtain ⟨i0, hi0, hz0⟩ := Option.map_eq_some_iff.1 infoByteZ
  simp only [Prod.mk.injEq] at hz0
  have HI := Lib.hid hi0; clear hi0
  have HZ := Lib.hid hz0; clear hz0
  go_enter Tryz.func173, Tryz.ntmps173
  go_wp2_with fail
  have hb0 : Below w.heap.size w ((w.alloc (.cells (cellsRun r).toArray 235)).alloc (.cells (cells8 (List.replicate 32 0)).toArray 24)) := al (al (Below.refl _ _) _) _
  have ho0 : Row8 ((w.alloc (.cells (cellsRun r).toArray 235)).alloc (.cells (cells8 (List.replicate 32 0)).toArray 24)) (w.heap.size + 1) 24 (List.replicate 32 0) := Row8.new _ rfl (by simp)
  have hr0 := HR.out.alloc (.cells (cells8 (List.replicate 32 0)).toArray 24)
  have hs0 : ((w.alloc (.cells (cellsRun r).toArray 235)).alloc (.cells (cells8 (List.replicate 32 0)).toArray 24)).heap.size = w.heap.size + 1 + 1 := by simp
  change Calls _ _ _ (((w.alloc (.cells (cellsRun r).toArray 235)).alloc (.cells (cells8 (List.replicate 32 0)).toArray 24)).alloc _) _
  generalize ((w.alloc (.cells (cellsRun r).toArray 235)).alloc (.cells (cells8 (List.replicate 32 0)).toArray 24)) = w0 at *
  refine (puts_any w.heap.size r [128] _ _ ho (bytes_one 128 _ hs0.symm rfl) ?_ (hr0.alloc _) (by have := HM.out; simp; omega)).mono ?_
  · intro a n c he _
    simp only [Value.slice.injEq, Option.some.injEq] at he
    rw [← he.1]; simp; omega
  rintro e w1 ⟨rfl, hr1, hg1⟩
  have hb1 : Below w.heap.size w w1 := (hb0.alloc hb0.size _).grown hg1 (by simp; omega) (by simp)
  have ho1 := (ho0.alloc _).grown hg1 (by omega)
  have ok1 := putAll_ok [128] ho
  have m1 := putAll_many [128] r
  obtain ⟨r1, R1⟩ : ∃ r1, r1 = putAll r [128] := ⟨_, rfl⟩
  rw [← R1] at hr1 ok1 m1
  have RR := Lib.hid R1; clear R1
  clear hg1 ho0 hr0 hb0 hs0 w0
  have c74 := hr1.many ok1
  obtain ⟨q, hq⟩ : ∃ q, q = r1.many % 64 := ⟨_, rfl⟩
  have tq : Int.tmod (r1.many : Int) 64 = (q : Int) := by rw [Int.tmod_eq_emod_of_nonneg (by omega)]; omega
  have q1 : (r1.many : Int) % 64 = (q : Int) := by omega
  have q3 : (q : Int) < 64 := by omega
  have Q := Lib.hid hq; clear hq
  obtain ⟨z, hz⟩ : ∃ z, z = (120 - q) % 64 := ⟨_, rfl⟩
  have wz : IntKind.u64.wrap (120 - (q : Int)) = 120 - (q : Int) := by
    simp only [IntKind.wrap, IntKind.bits, IntKind.signed, Bool.false_and, Bool.false_eq_true, if_false]; omega
  have tz : Int.tmod (120 - (q : Int)) 64 = (z : Int) := by rw [Int.tmod_eq_emod_of_nonneg (by omega)]; omega
  have ez : (120 - (q : Int)) % 64 = (z : Int) := by omega
  have lz : z < 64 := by omega
  have Z := Lib.hid hz; clear hz
  have M1 := Lib.hid m1; clear m1
  go_wp2_with (at_make; go_loud (refine wpList_make_row _ rfl _ _ _ rfl 5 i0 (.int .u8 0) Tryz.underlying39 HI.out HZ.out.1 HZ.out.2.1 rfl _ _ z rfl rfl (by rw [HZ.out.2.2]; omega) (by omega) ?_))
  refine (puts_any w.heap.size r1 (List.replicate z 0) _ _ ok1 (bytes_zeros z _ rfl (by unfold maxLen; omega)) ?_ (hr1.alloc _) (by have := HM.out; have := M1.out; simp at *; omega)).mono ?_
  · intro a n c he _
    simp only [Value.slice.injEq, Option.some.injEq] at he
    rw [← he.1]; have := hr1.lt; simp; omega
  rintro e w2 ⟨rfl, hr2, hg2⟩
  have hb2 : Below w.heap.size w w2 := (al hb1 _).grown hg2 (by have := hb1.size; simp; omega) (by simp)
  have ho2 := (ho1.alloc _).grown hg2 (by omega)
  have ok2 := putAll_ok (List.replicate z 0) ok1
  have m2 := putAll_many (List.replicate z 0) r1
  have e2 : putAll r1 (List.replicate z 0) = putAll (putAll r [128]) (List.replicate ((120 - (r.many + 1) % 64) % 64) 0) := by
    rw [Z.out, Q.out, M1.out, RR.out]; rfl
  generalize putAll r1 (List.replicate z 0) = r2 at *
  clear hg2 hr1 ho1 hb1
  have m2' : r2.many < 72057594037927936 + 100 := by rw [m2, M1.out]; have := HM.out; simp; omega
  clear m2
  have M2 := Lib.hid m2'; clear m2'
  have E2 := Lib.hid e2; clear e2
  clear c74 tq q1 wz tz ez
  go_wp2_with fail
  obtain ⟨m, hm⟩ : ∃ m, m = r.many * 8 := ⟨_, rfl⟩
  have hm' : (r.many : Int) * 8 = (m : Int) := by omega
  have hml : (m : Int) < 18446744073709551616 := by omega
  have Hm := Lib.hid hm; clear hm
  go_loopw [5] (fun v W => ∃ k : Nat, k ≤ 8 ∧ v = .int .i64 (56 - 8 * (k : Int)) ∧ RunAt W w.heap.size 235 (putAll r2 ((be8 m).take k)) ∧ Row8 W (w.heap.size + 1) 24 (List.replicate 32 0) ∧ Below w.heap.size w W) (fun v _ => (intOf v + 8).toNat)
  case atStart => exact ⟨0, by omega, rfl, hr2, ho2, hb2⟩
  case round =>
    obtain ⟨k, hk, rfl, hr3, ho3, hb3⟩ := hrel
    rw [hm']
    by_cases hlt : k < 8
    · obtain ⟨sh, hsh⟩ : ∃ sh : Nat, sh = 56 - 8 * k := ⟨_, rfl⟩
      have e : (56 : Int) - 8 * (k : Int) = (sh : Int) := by omega
      rw [e]
      have sh1 : (sh : Int) ≤ 56 := by omega
      clear e
      clear hm' n1
      have hx : (m : Int) / 2 ^ (56 - 8 * k) % 256 = (((UInt8.ofNat (m >>> (56 - 8 * k))).toNat : Nat) : Int) := by
        rw [UInt8.toNat_ofNat', Nat.shiftRight_eq_div_pow]; push_cast; rfl
      have Hx := Lib.hid hx; clear hx
      go_wp2_with fail
      rw [Hx.out]
      have okk := putAll_ok ((be8 m).take k) ok2
      have mk := putAll_many ((be8 m).take k) r2
      refine (puts_any w.heap.size (putAll r2 ((be8 m).take k)) [UInt8.ofNat (m >>> (56 - 8 * k))] _ _ okk (bytes_one _ _ rfl rfl) ?_ (hr3.alloc _) (by rw [mk]; have := M2.out; simp [be8]; omega)).mono ?_
      · intro a n c he _
        simp only [Value.slice.injEq, Option.some.injEq] at he
        rw [← he.1]; have := hr3.lt; simp; omega
      rintro e w3 ⟨rfl, hr4, hg4⟩
      have hb4 : Below w.heap.size w w3 := (al hb3 _).grown hg4 (by have := hb3.size; simp; omega) (by simp)
      have ho4 := (ho3.alloc _).grown hg4 (by omega)
      rw [← putAll_append, ← be8_take m k hlt] at hr4
      clear hg4 okk mk ho3 hr3 hb3
      go_wp2_with fail
      refine ⟨⟨k + 1, by omega, ?_, hr4, ho4, hb4⟩, by simp [intOf]; omega⟩
      congr 1; omega
    · obtain rfl : k = 8 := by omega
      have hr4 : RunAt wr w.heap.size 235 (finish r) := by
        have : finish r = putAll r2 ((be8 m).take 8) := by rw [finish, E2.out, Hm.out]; rfl
        rw [this]; exact hr3
      rw [show (56 : Int) - 8 * ((8 : Nat) : Int) = -8 from rfl]
      clear hr3 hm' n1
      have okf : (finish r).ok := putAll_ok _ (putAll_ok _ (putAll_ok _ ho))
      go_wp2_with fail
      have HC := Lib.hid c73; clear c73
      clear ho2 hr2 hb2
      go_loopw [30] (fun v W => ∃ i : Nat, i ≤ 32 ∧ v = .int .i64 (i : Int) ∧ RunAt W w.heap.size 235 (finish r) ∧ Row8 W (w.heap.size + 1) 24 (told32 (finish r).s i) ∧ Below w.heap.size w W) (fun v _ => 32 - (intOf v).toNat)
      case atStart => exact ⟨0, by omega, rfl, hr4, ho3, hb3⟩
      case round =>
        obtain ⟨i, hi, rfl, hr5, ho5, hb5⟩ := hrel
        clear hr4 ho3 hb3
        by_cases hl5 : i < 32
        · have c5 := hr5.num okf (i := i / 4) (by omega)
          have hlt := length_told32 (finish r).s i
          have c6 := ho5.cell (i := i) (by omega)
          have f6 := ho5.free i
          have hset := ho5.set i (UInt8.ofNat (((finish r).s.getD (i / 4) 0).toNat >>> (8 * (3 - i % 4))))
          have hold : (told32 (finish r).s i).set i (UInt8.ofNat (((finish r).s.getD (i / 4) 0).toNat >>> (8 * (3 - i % 4)))) = told32 (finish r).s (i + 1) := rfl
          rw [hold] at hset
          clear hold hlt
          generalize (told32 (finish r).s i).getD i 0 = old at c6
          generalize (finish r).s.getD (i / 4) 0 = x at *
          have HS := Lib.hid hset; clear hset
          obtain ⟨t, ht⟩ : ∃ t, t = 8 * (3 - i % 4) := ⟨_, rfl⟩
          rw [← ht] at HS
          have tm : Int.tmod (i : Int) 4 = (i : Int) % 4 := Int.tmod_eq_emod_of_nonneg (by omega)
          have sb : IntKind.i64.wrap (3 - (i : Int) % 4) = 3 - (i : Int) % 4 := by rw [IntKind.wrap_i64]; omega
          have sm : IntKind.i64.wrap (8 * (3 - (i : Int) % 4)) = (t : Int) := by rw [IntKind.wrap_i64]; omega
          have sm' : 8 * (3 - (i : Int) % 4) = (t : Int) := by omega
          have tl : (t : Int) < 32 := by omega
          have hT := Lib.hid ht; clear ht
          have hi' : (i : Int) < 32 := by omega
          have hx : uv x / 2 ^ t % 256 = (((UInt8.ofNat (x.toNat >>> t)).toNat : Nat) : Int) := by
            rw [UInt8.toNat_ofNat', Nat.shiftRight_eq_div_pow]; unfold uv; push_cast; rfl
          have Hx := Lib.hid hx; clear hx
          go_wp2_with fail
          rw [Hx.out]
          exact ⟨⟨i + 1, by omega, by simp, hr5.other _ _ (by simp), HS.out, hb5.setCell (by simp) _⟩, by simp [intOf]; omega⟩
        · have h32 : i = 32 := by omega
          have hrg : wr.rangeAt (w.heap.size + 1) 0 (cellsOf (sumOf r)) := by rw [cellsOf_sumOf]; rw [h32] at ho5; exact ho5.range
          have hth : wr.there (w.heap.size + 1) 0 32 := there_range hrg (size_cellsOf _) ho5.free
          rw [h32]
          clear ho5 h32
          go_wp2_with (first
            | (refine wpList_load_sum rfl _ rfl (w.heap.size + 1) 0 rfl (sumOf r) hrg ?_)
            | (refine wpList_store_sum rfl _ _ rfl (w.heap.size + 1) 0 (sumOf r) rfl rfl hth ?_))
          exact bodyPost_ret (results_sum Tryz.results173 _ _ _ _ rfl (World.there_setCells hth _ _ _)) rfl ⟨rfl, setCells_below _ (by omega) _ _ _ _ hb5⟩
theorem bytes_below {B : Nat} {w w' : World} {v : Value} {l : List UInt8} (h : BytesAt w v l) (hb : Below B w w') (hB : w.heap.size ≤ B) : BytesAt w' v l := by
  obtain ⟨a, cap, hv, h1, h2, h3⟩ := h
  refine ⟨a, cap, hv, h1, h2, ?_⟩
  by_cases hl : l = []
  · exact .inl hl
  · obtain ⟨b, o, ha, hr⟩ := h3.resolve_left hl
    exact .inr ⟨b, o, ha, range_below hb hr (Nat.lt_of_lt_of_le (range_lt hr (by unfold cells8; simpa using hl)) hB)⟩
theorem bytes_apart {w : World} {v : Value} {l : List UInt8} (h : BytesAt w v l) {p : Nat} (hp : w.heap.size ≤ p) : ∀ a n c, v = .slice (some a) n c → l ≠ [] → a.block ≠ p := by
  intro a n c he hl
  obtain ⟨a', cap, rfl, h1, h2, h3⟩ := h
  obtain ⟨b, o, rfl, hr⟩ := h3.resolve_left hl
  simp only [Value.slice.injEq, Option.some.injEq] at he
  rw [← he.1]
  have := range_lt hr (by unfold cells8; simpa using hl)
  simp; omega
theorem infoRun : (Tryz.prog.info? 235).map (·.size) = some 74 := by kernel_rfl
theorem run_range {W : World} {p : Nat} {t : TypeId} {r : RunS} (h : RunAt W p t r) : W.rangeAt p 0 (cellsRun r) := fun j v hv => by
  rw [cell_of_row W p _ _ t (0, 0) h, Nat.zero_add]; simpa using hv
set_option maxRecDepth 100000 in
theorem of_any (l : List UInt8) (v : Value) (w : World) (hv : BytesAt w v l) (hl : l.length < 72057594037927936) : Calls Tryz.prog 122 #[v] w fun e w' => e = .returned (sv (sha l)) ∧ Below w.heap.size w w' := by
  have R0 : Res w 32 (w.alloc (.cells (cells8 (List.replicate 32 0)).toArray 24)) := Res.start _ _ _ _ (by rfl)
  have HL := Lib.hid hl; clear hl
  go_enter Tryz.func122, Tryz.ntmps122
  go_wp2_with fail
  change Calls _ _ _ (w.alloc (.cells (cells8 (List.replicate 32 0)).toArray 24)) _
  have s0 : (w.alloc (.cells (cells8 (List.replicate 32 0)).toArray 24)).heap.size = w.heap.size + 1 := by simp
  generalize w.alloc (.cells (cells8 (List.replicate 32 0)).toArray 24) = w0 at *
  refine (new_any w0).mono ?_
  rintro e w1 ⟨p, rfl, hp, hr1, hb1⟩
  have R1 := R0.call_at hb1 (by omega)
  have hv1 := bytes_below hv R1.below (Nat.le_refl _)
  go_wp2_with fail
  refine (puts_any p run0 l _ _ run0_ok hv1 ?_ hr1 (by rw [show run0.many = 0 from rfl]; have := HL.out; omega)).mono ?_
  · exact bytes_apart hv (by omega)
  rintro e w2 ⟨rfl, hr2, hg2⟩
  have ok2 := putAll_ok l run0_ok
  have m2 := putAll_many l run0
  have hb2 : Below w.heap.size w w2 := R1.below.grown hg2 R1.below.size (by simp; omega)
  have ht2 : w2.there w.heap.size 0 32 := there_block (hg2.block _ (there_lt R1.there (by omega)) (by simp; omega)) R1.there
  have R2 : Res w 32 w2 := ⟨hb2, ht2⟩
  have hs2 := run_range hr2
  have hsz := length_cellsRun ok2
  have hsha : sumOf (putAll run0 l) = sha l := rfl
  have HS := Lib.hid hsha; clear hsha
  have M2 := Lib.hid m2; clear m2
  generalize putAll run0 l = r2 at *
  go_wp2_with (first
    | (refine wpList_load_mid rfl _ _ rfl p 0 rfl (cellsRun r2) _ hs2 Tryz.underlying235 rfl (by rw [hsz]; exact infoRun) ?_)
    | (go_at_call 173; refine (ended_any r2 _ ok2 (by rw [M2.out, show run0.many = 0 from rfl]; have := HL.out; omega)).mono ?_; rintro e w3 ⟨rfl, hb3⟩)
    | (refine wpList_store_sum rfl _ _ rfl w.heap.size 0 (sumOf r2) rfl rfl (R2.call (by omega) hb3).there ?_))
  rw [HS.out]
  have R3 := (R2.call (by omega) hb3).store (cellsOf (sha l))
  exact bodyPost_ret (results_sum Tryz.results122 _ _ _ _ rfl R3.there) rfl ⟨rfl, R3.below⟩
end Go.Proofs.YtfmgoehnbaiamaaGreatDoor
-- Walks: slices.Grow of no bytes, slices.Concat of parts of bytes.
namespace Go.Proofs.YtfmgoehnbaiamaaGreatDoor
set_option maxRecDepth 100000 in
theorem grow_any (n : Nat) (w : World) (hn : 1 ≤ n) (hl : n ≤ 140737488355328) : Calls Tryz.prog 174 #[.slice none 0 0, .int .i64 n] w fun e w' => ∃ v, e = .returned v ∧ w'.ownsRow w.heap.size 5 1 v 0 [] ∧ Below w.heap.size w w' := by
  obtain ⟨i0, hi0, hz0⟩ := Option.map_eq_some_iff.1 infoByteZ
  simp only [Prod.mk.injEq] at hz0
  have happ := Lib.run_append_nil_zeros (P := Tryz.prog) w 39 3 39 5 i0 (.int .u8 0) .i64 .i64 Tryz.underlying39 Tryz.underlying3 hi0 hz0.1 n (by omega) (by omega) (by omega) (by rw [hz0.2.2]; omega)
  generalize hcap : grownCap w n 0 5 = cap2 at happ
  have hcapge : n ≤ cap2 := by rw [← hcap]; exact grownCap_ge w _ 0 _
  have hcaple : cap2 ≤ maxLen := by rw [← hcap]; exact grownCap_le_maxLen w _ 0 _ (by unfold maxLen; omega)
  generalize hZ : (Builtin.zeroCells (Value.int .u8 0).cells n ++ Builtin.zeroCells (Value.int .u8 0).cells (cap2 - n)) = Z at happ
  have hZs : Z.size = cap2 := by rw [← hZ]; simp [size_zeroCells, Value.cells]; omega
  have HC := Lib.hid hcaple; clear hcaple hcap hZ hi0 hz0
  have HZ := Lib.hid hZs; clear hZs
  have hn' : (1 : Int) ≤ (n : Int) := by omega
  go_enter Tryz.func174, Tryz.ntmps174
  go_wp2_with (at_builtin; refine Lib.wpList_append_run _ rfl _ _ _ _ rfl _ _ rfl rfl _ _ happ ?_)
  exact bodyPost_ret (results_tmp rfl _ _ _) rfl ⟨_, rfl, ⟨by simp, .inr ⟨_, cap2, Z, rfl, Nat.le_refl _, heap_alloc_new w _, Nat.zero_le _, HC.out, by rw [Nat.mul_one]; exact HZ.out, by simp⟩⟩, (al (Below.refl _ _) _).drew⟩
theorem flat_take (ls : List (List UInt8)) (j : Nat) (h : j < ls.length) : (ls.take (j + 1)).flatten = (ls.take j).flatten ++ ls.getD j [] := by
  rw [List.take_add_one, List.flatten_append, List.getElem?_eq_getElem h]; simp [h]
theorem flat_take_le (ls : List (List UInt8)) (j : Nat) : (ls.take j).flatten.length ≤ ls.flatten.length := by
  conv => rhs; rw [← List.take_append_drop j ls, List.flatten_append, List.length_append]
  omega
theorem own_mono {w : World} {base base' : Nat} {e : TypeId} {size : Nat} {v : Value} {n : Nat} {xs : List Value} (h : w.ownsRow base' e size v n xs) (hb : base ≤ base') : w.ownsRow base e size v n xs := by
  refine ⟨h.1, ?_⟩
  rcases h.2 with h2 | ⟨g, cap, cur, h3, h4, h5⟩
  · exact .inl h2
  · exact .inr ⟨g, cap, cur, h3, Nat.le_trans hb h4, h5⟩
theorem own_base {w : World} {base : Nat} {e : TypeId} {size : Nat} {v : Value} {n : Nat} {xs : List Value} (h : w.ownsRow base e size v n xs) : ∀ k, v.ownBlock = some k → base ≤ k := by
  intro k hk
  rcases h.2 with ⟨rfl, _⟩ | ⟨g, cap, cur, rfl, h4, _⟩
  · cases hk
  · simp only [Value.ownBlock, Option.some.injEq] at hk; omega
theorem own_range {w : World} {base : Nat} {e : TypeId} {size : Nat} {v : Value} {n : Nat} {xs : List Value} (h : w.ownsRow base e size v n xs) (hn : 1 ≤ n) : ∃ g cap, v = .slice (some ⟨g, 0, none⟩) n cap ∧ n ≤ cap ∧ cap ≤ maxLen ∧ base ≤ g ∧ w.rangeAt g 0 xs := by
  rcases h.2 with ⟨rfl, h0⟩ | ⟨g, cap, cur, rfl, h4, hg, hnc, hcm, hsz, htk⟩
  · omega
  · refine ⟨g, cap, rfl, hnc, hcm, h4, fun j v hj => ?_⟩
    rw [cell_of_row w g _ cur e (0, 0) hg, Nat.zero_add]
    rw [← htk, List.getElem?_take] at hj
    split at hj
    · simpa using hj
    · cases hj
theorem bytes_own {w : World} {base : Nat} {e : TypeId} {v : Value} {l : List UInt8} (h : w.ownsRow base e 1 v l.length (cells8 l)) (hn : 1 ≤ l.length) : BytesAt w v l := by
  obtain ⟨g, cap, rfl, h1, h2, _, h3⟩ := own_range h hn
  exact ⟨_, cap, rfl, h1, h2, .inr ⟨_, _, rfl, h3⟩⟩
/-- Parts of bytes, each one with something in it, in a row of slices. -/
def PartsAt (w : World) (b o : Nat) (vs : List Value) (ls : List (List UInt8)) : Prop :=
  w.rangeAt b o vs ∧ vs.length = ls.length ∧ ∀ j, j < ls.length → ∃ a n c, vs.getD j undef = .slice (some a) n c ∧ n = (ls.getD j []).length ∧ n ≤ c ∧ ∃ b' o', a = ⟨b', o', none⟩ ∧ w.rangeAt b' o' (cells8 (ls.getD j [])) ∧ b' < w.heap.size
theorem parts_cell {w : World} {b o : Nat} {vs : List Value} {ls : List (List UInt8)} (h : PartsAt w b o vs ls) {j : Nat} (hj : j < ls.length) : w.cell? ⟨b, o + j, none⟩ = some (vs.getD j undef) := by
  refine h.1 j _ ?_
  have : j < vs.length := by rw [h.2.1]; exact hj
  rw [List.getElem?_eq_getElem this]; simp [this]
set_option maxRecDepth 100000 in
theorem concat_any (vs : List Value) (ls : List (List UInt8)) (b o cap : Nat) (w : World) (h : PartsAt w b o vs ls) (hc : ls.length ≤ cap) (hk : ls.length ≤ 1000) (hpos : 1 ≤ ls.flatten.length) (hl : ls.flatten.length ≤ 140737488355328) :
    Calls Tryz.prog 123 #[.slice (some ⟨b, o, none⟩) ls.length cap] w fun e w' => ∃ v, e = .returned v ∧ BytesAt w' v ls.flatten ∧ Below w.heap.size w w' := by
  obtain ⟨k, hkk⟩ : ∃ k, k = ls.length := ⟨_, rfl⟩
  rw [← hkk] at hc hk ⊢
  have HK := Lib.hid hkk; clear hkk
  have HL := Lib.hid hl; clear hl
  have HP := Lib.hid hpos; clear hpos
  have hk' : (k : Int) ≤ 1000 := by omega
  go_enter Tryz.func123, Tryz.ntmps123
  go_wp2_with fail
  go_loopw [3, 11] (fun s i W => ∃ j : Nat, j ≤ k ∧ i = .int .i64 (j : Int) ∧ s = .int .i64 ((ls.take j).flatten.length : Int) ∧ Below w.heap.size w W) (fun _ i _ => k - (intOf i).toNat)
  case atStart => exact ⟨0, by omega, rfl, rfl, Below.refl _ _⟩
  case round =>
    obtain ⟨j, hj, rfl, rfl, hB⟩ := hrel
    by_cases hlt : j < k
    · have hlt' : (j : Int) < (k : Int) := by omega
      have hc0 := parts_cell h (j := j) (by rw [← HK.out]; exact hlt)
      have hc1 : wr.cell? ⟨b, o + j, none⟩ = some (vs.getD j undef) := (hB.cell (p := ⟨b, o + j, none⟩) (World.block_lt_of_cell? w _ hc0)).trans hc0
      obtain ⟨a, n, c, hv, hn, hnc, -⟩ := h.2.2 j (by rw [← HK.out]; exact hlt)
      rw [hv] at hc1
      clear hc0 hv
      have hft := flat_take ls j (by rw [← HK.out]; exact hlt)
      have hfl := congrArg List.length hft
      rw [List.length_append, ← hn] at hfl
      have hle := flat_take_le ls (j + 1)
      have hmx := HL.out
      obtain ⟨s1, hs1⟩ : ∃ s, s = (ls.take j).flatten.length := ⟨_, rfl⟩
      obtain ⟨s2, hs2⟩ : ∃ s, s = (ls.take (j + 1)).flatten.length := ⟨_, rfl⟩
      rw [← hs1, ← hs2] at hfl
      rw [← hs2] at hle
      rw [← hs1]
      have hsum : IntKind.i64.wrap ((s1 : Int) + (n : Int)) = (s2 : Int) := by rw [IntKind.wrap_i64]; omega
      have HS2 := Lib.hid hs2
      clear hft hn hs1 hs2 hfl hle hmx
      go_wp2_with fail
      exact ⟨⟨j + 1, by omega, by simp, by rw [HS2.out], hB⟩, by simp [intOf]; omega⟩
    · have hjk : j = k := by omega
      subst hjk
      have htk : ls.take j = ls := List.take_of_length_le (by rw [HK.out]; exact Nat.le_refl _)
      rw [htk]
      obtain ⟨T, hT⟩ : ∃ T, T = ls.flatten.length := ⟨_, rfl⟩
      rw [← hT]
      have hT1 : 1 ≤ T := by rw [hT]; exact HP.out
      have hT2 : T ≤ 140737488355328 := by rw [hT]; exact HL.out
      have HT := Lib.hid hT; clear hT
      have Ht := Lib.hid htk; clear htk
      have G := Lib.hid (grow_any T wr hT1 hT2); clear hT1 hT2
      go_wp2_with fail
      refine G.out.mono ?_
      rintro e w1 ⟨v, rfl, ho1, hb1⟩
      obtain ⟨i0, hi0, hz0⟩ := Option.map_eq_some_iff.1 infoByteZ
      simp only [Prod.mk.injEq] at hz0
      have HI := Lib.hid hi0; clear hi0
      have HZ := Lib.hid hz0; clear hz0
      have hB1 : Below w.heap.size w w1 := hB.trans (hb1.mono hB.size)
      have ho1' : w1.ownsRow w.heap.size 5 1 v 0 [] := own_mono ho1 hB.size
      clear ho1 hb1 hB G
      go_wp2_with fail
      go_loopw [6, 27] (fun v i W => ∃ q : Nat, q ≤ j ∧ i = .int .i64 (q : Int) ∧ W.ownsRow w.heap.size 5 1 v (ls.take q).flatten.length (cells8 (ls.take q).flatten) ∧ Below w.heap.size w W) (fun _ i _ => j - (intOf i).toNat)
      case atStart => exact ⟨0, by omega, rfl, ho1', hB1⟩
      case round =>
        clear hB1 ho1'
        obtain ⟨q, hq, rfl, ho2, hB2⟩ := hrel
        by_cases hlt2 : q < j
        · have hlt' : (q : Int) < (j : Int) := by omega
          have hc0 := parts_cell h (j := q) (by rw [← HK.out]; exact hlt2)
          have hc1 := (hB2.cell (p := ⟨b, o + q, none⟩) (World.block_lt_of_cell? w _ hc0)).trans hc0
          obtain ⟨a, n, c, hv, hn, hnc, b', o', rfl, hrg, hb'⟩ := h.2.2 q (by rw [← HK.out]; exact hlt2)
          rw [hv] at hc1
          clear hc0 hv
          have hrg' := range_below hB2 hrg hb'
          have hft := flat_take ls q (by rw [← HK.out]; exact hlt2)
          have hfl := congrArg List.length hft
          rw [List.length_append, ← hn] at hfl
          have hle := flat_take_le ls (q + 1)
          have hmx := HL.out
          have hnn : (ls.take q).flatten.length + n ≤ 140737488355328 := by omega
          have HN := Lib.hid hnn; clear hnn
          have HF := Lib.hid hft; clear hft
          have HFL := Lib.hid hfl; clear hfl
          have HNn := Lib.hid hn; clear hn
          clear hle hmx hrg
          go_wp2_with (at_builtin; refine wpList_append_own _ rfl _ _ _ rfl w.heap.size 5 i0 (.int .u8 0) 1 1 Tryz.underlying39 HI.out HZ.out.1 HZ.out.2.1 HZ.out.2.2 rfl (by decide) _ _ _ rfl ho2 ⟨b', o', none⟩ n c (cells8 (ls.getD q [])) rfl (by rw [length_cells8, HNn.out]; omega) (fun j u hj => by rw [Addr.add_mid]; exact hrg' j u hj) (oneCell_cells8 _) (by unfold maxLen; have := HN.out; omega) (by have := HN.out; omega) hB2.size ?_; intro v' w2 ho3 hg3 _)
          rw [← HFL.out, ← cells8_append, ← HF.out] at ho3
          exact ⟨⟨q + 1, by omega, by simp, ho3, hB2.grown hg3 hB2.size (own_base ho2)⟩, by simp [intOf]; omega⟩
        · have hqj : q = j := by omega
          subst hqj
          rw [Ht.out] at ho2
          go_wp2_with fail
          exact bodyPost_ret (results_tmp rfl _ _ _) rfl ⟨_, rfl, bytes_own ho2 HP.out, hB2⟩
end Go.Proofs.YtfmgoehnbaiamaaGreatDoor
