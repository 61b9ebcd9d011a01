/-
  Walks: chains that are not there, or that no call made.
-/
import Derived.Test.YtdkcndgehgmadaaG3
import Derived.Test.YtdkcndgehgmadaaE0
import Derived.WalkMore
open Go Go.RowKit Alm
namespace Go.Proofs.Ytdkcndgehgmadaa
/-- A chain that is not there, or that no call made. -/
def CVoid (w : World) (v : Value) : Prop := v = .pointer none ∨ ∃ p, v = .pointer (some ⟨p, 0, none⟩) ∧ w.cell? ⟨p, 0, none⟩ = some (.pointer none)
theorem CVoid.below {w w' : World} {v : Value} (h : CVoid w v) (hb : Below w.heap.size w w') : CVoid w' v := by
  rcases h with rfl | ⟨p, rfl, h⟩
  · exact .inl rfl
  · exact .inr ⟨p, rfl, (hb.cell (p := ⟨p, 0, none⟩) (World.block_lt_of_cell? w _ h)).trans h⟩
theorem cnone_void (v : Value) (w : World) (h : CVoid w v) : Calls Try.prog 75 #[v] w fun e w' => e = .returned (.bool true) ∧ w = w' := by
  rcases h with rfl | ⟨p, rfl, h⟩
  · go_enter Try.func75, Try.ntmps75
    go_wp2_with fail
    exact bodyPost_ret (results_tmp rfl _ _ _) rfl ⟨rfl, rfl⟩
  · go_enter Try.func75, Try.ntmps75
    go_wp2_with fail
    exact bodyPost_ret (results_tmp rfl _ _ _) rfl ⟨rfl, rfl⟩
theorem cadd_void (b : Value) (v : Value) (w : World) (h : CVoid w v) : Calls Try.prog 43 #[v, b] w fun e w' => e = .returned (.int .i64 2) ∧ w = w' := by
  go_enter Try.func43, Try.ntmps43
  go_wp2_with fail
  go_wp2_with (go_at_call 75; refine (cnone_void v _ h).mono ?_; rintro e w1 ⟨rfl, rfl⟩)
  exact bodyPost_ret (results_tmp rfl _ _ _) rfl ⟨rfl, rfl⟩
theorem csize_void (v : Value) (w : World) (h : CVoid w v) : Calls Try.prog 44 #[v] w fun e w' => e = .returned (.int .u64 0) ∧ w = w' := by
  go_enter Try.func44, Try.ntmps44
  go_wp2_with (go_at_call 75; refine (cnone_void v _ h).mono ?_; rintro e w1 ⟨rfl, rfl⟩)
  exact bodyPost_ret (results_tmp rfl _ _ _) rfl ⟨rfl, rfl⟩
theorem centry_void (n : Int) (v : Value) (w : World) (h : CVoid w v) : Calls Try.prog 38 #[v, .int .u64 n] w fun e w' => e = .returned (.tuple #[.slice none 0 0, .int .i64 2]) ∧ w = w' := by
  go_enter Try.func38, Try.ntmps38
  go_wp2_with fail
  go_wp2_with (go_at_call 75; refine (cnone_void v _ h).mono ?_; rintro e w1 ⟨rfl, rfl⟩)
  exact bodyPost_ret (results_tmp2 rfl _ _ _) rfl ⟨rfl, rfl⟩
theorem csums_void (n : Int) (t : Value) (v : Value) (w : World) (h : CVoid w v) : Calls Try.prog 82 #[v, .int .u64 n, t] w fun e w' => e = .returned (.tuple #[.slice none 0 0, .int .i64 2]) ∧ w = w' := by
  go_enter Try.func82, Try.ntmps82
  go_wp2_with fail
  go_wp2_with (go_at_call 75; refine (cnone_void v _ h).mono ?_; rintro e w1 ⟨rfl, rfl⟩)
  exact bodyPost_ret (results_tmp2 rfl _ _ _) rfl ⟨rfl, rfl⟩
theorem csum_void (n : Int) (t : Value) (v : Value) (w : World) (h : CVoid w v) : Calls Try.prog 78 #[v, .int .u64 n, t] w fun e w' => e = .returned (.tuple #[sv zeroSum, .int .i64 2]) ∧ Below w.heap.size w w' := by
  have R0 : Res w 32 (w.alloc (.cells (cells8 (List.replicate 32 0)).toArray 24)) := Res.start _ _ _ _ (by rfl)
  have h' := h.below R0.below
  have hz : (w.alloc (.cells (cells8 (List.replicate 32 0)).toArray 24)).rangeAt w.heap.size 0 (cellsOf zeroSum) := range_new w _ _ _ (by rw [cellsOf_zeroSum])
  have HZ := Lib.hid hz; clear hz
  go_enter Try.func78, Try.ntmps78
  go_wp2_with fail
  go_wp2_with (first
    | (go_at_call 75; refine (cnone_void v _ h').mono ?_; rintro e w1 ⟨rfl, rfl⟩)
    | (refine wpList_load_sum rfl _ rfl w.heap.size 0 rfl zeroSum HZ.out ?_)
    | (refine wpList_store_sum rfl _ _ rfl w.heap.size 0 zeroSum rfl rfl R0.there ?_))
  exact bodyPost_ret (results_cell_tmp Try.results78 _ _ w.heap.size 0 (cellsOf zeroSum) _ rfl (range_stored _ _ _ _ (by rw [length_cellsOf]; exact World.there_setCells R0.there _ _ _)) Try.underlying24 rfl (by rw [length_cellsOf]; exact infoSum)) rfl ⟨rfl, (R0.store _).below⟩
theorem cmark_void (n : Int) (v : Value) (w : World) (h : CVoid w v) : Calls Try.prog 39 #[v, .int .u64 n] w fun e w' => e = .returned (.tuple #[sv zeroSum, .int .i64 2]) ∧ Below w.heap.size w w' := by
  have R0 : Res w 32 (w.alloc (.cells (cells8 (List.replicate 32 0)).toArray 24)) := Res.start _ _ _ _ (by rfl)
  have h' := h.below R0.below
  go_enter Try.func39, Try.ntmps39
  go_wp2_with (first
    | (go_at_call 78; refine (csum_void _ _ v (w.alloc (.cells (cells8 (List.replicate 32 0)).toArray 24)) h').mono ?_; rintro e w1 ⟨rfl, hb1⟩)
    | (refine wpList_store_sum rfl _ _ rfl w.heap.size 0 zeroSum rfl rfl (R0.call (by omega) hb1).there ?_))
  have RS := (R0.call (by omega) hb1).store (cellsOf zeroSum)
  exact bodyPost_ret (results_cell_tmp Try.results39 _ _ w.heap.size 0 (cellsOf zeroSum) _ rfl (range_stored _ _ _ _ (by rw [length_cellsOf]; exact RS.there)) Try.underlying24 rfl (by rw [length_cellsOf]; exact infoSum)) rfl ⟨rfl, RS.below⟩
theorem croot_void (n : Int) (v : Value) (w : World) (h : CVoid w v) : Calls Try.prog 40 #[v, .int .u64 n] w fun e w' => e = .returned (.tuple #[sv zeroSum, .int .i64 2]) ∧ Below w.heap.size w w' := by
  have R0 : Res w 32 (w.alloc (.cells (cells8 (List.replicate 32 0)).toArray 24)) := Res.start _ _ _ _ (by rfl)
  have h' := h.below R0.below
  go_enter Try.func40, Try.ntmps40
  go_wp2_with (first
    | (go_at_call 78; refine (csum_void _ _ v (w.alloc (.cells (cells8 (List.replicate 32 0)).toArray 24)) h').mono ?_; rintro e w1 ⟨rfl, hb1⟩)
    | (refine wpList_store_sum rfl _ _ rfl w.heap.size 0 zeroSum rfl rfl (R0.call (by omega) hb1).there ?_))
  have RS := (R0.call (by omega) hb1).store (cellsOf zeroSum)
  exact bodyPost_ret (results_cell_tmp Try.results40 _ _ w.heap.size 0 (cellsOf zeroSum) _ rfl (range_stored _ _ _ _ (by rw [length_cellsOf]; exact RS.there)) Try.underlying24 rfl (by rw [length_cellsOf]; exact infoSum)) rfl ⟨rfl, RS.below⟩
theorem cpath_void (m n : Int) (v : Value) (w : World) (h : CVoid w v) : Calls Try.prog 41 #[v, .int .u64 m, .int .u64 n] w fun e w' => e = .returned (.tuple #[.slice none 0 0, .int .i64 2]) ∧ w = w' := by
  have hmf : ∀ (fn : Fn) (first cap : Array Value) (w : World), (Instr.makeFunc fn first cap).run Try.prog w = .ok (.func fn first cap) w := fun _ _ _ _ => rfl
  go_enter Try.func41, Try.ntmps41
  go_wp2_with (go_at_call 82; refine (csums_void _ _ v _ h).mono ?_; rintro e w1 ⟨rfl, rfl⟩)
  exact bodyPost_ret (results_tmp2 rfl _ _ _) rfl ⟨rfl, rfl⟩
theorem clink_void (m n : Int) (v : Value) (w : World) (h : CVoid w v) : Calls Try.prog 42 #[v, .int .u64 m, .int .u64 n] w fun e w' => e = .returned (.tuple #[.slice none 0 0, .int .i64 2]) ∧ w = w' := by
  have hmf : ∀ (fn : Fn) (first cap : Array Value) (w : World), (Instr.makeFunc fn first cap).run Try.prog w = .ok (.func fn first cap) w := fun _ _ _ _ => rfl
  go_enter Try.func42, Try.ntmps42
  go_wp2_with (go_at_call 82; refine (csums_void _ _ v _ h).mono ?_; rintro e w1 ⟨rfl, rfl⟩)
  exact bodyPost_ret (results_tmp2 rfl _ _ _) rfl ⟨rfl, rfl⟩
theorem cmark_void' {z : Sum} (hz : Hid (z = zeroSum)) (n : Int) (v : Value) (w : World) (h : CVoid w v) : Calls Try.prog 39 #[v, .int .u64 n] w fun e w' => e = .returned (.tuple #[sv z, .int .i64 2]) ∧ Below w.heap.size w w' := by
  rw [hz.out]; exact cmark_void n v w h
theorem croot_void' {z : Sum} (hz : Hid (z = zeroSum)) (n : Int) (v : Value) (w : World) (h : CVoid w v) : Calls Try.prog 40 #[v, .int .u64 n] w fun e w' => e = .returned (.tuple #[sv z, .int .i64 2]) ∧ Below w.heap.size w w' := by
  rw [hz.out]; exact croot_void n v w h
/-- What stands in the law's own variables. -/
def CS (w : World) (W : World) : Prop := W.cell? ⟨w.heap.size + 1, 0, none⟩ = some (.pointer none) ∧ W.cell? ⟨w.heap.size + 1, 1, none⟩ = some (.pointer (some ⟨w.heap.size, 0, none⟩)) ∧ W.cell? ⟨w.heap.size, 0, none⟩ = some (.pointer none) ∧ Below w.heap.size w W
theorem CS.below {w W W' : World} (h : CS w W) (hb : Below W.heap.size W W') : CS w W' :=
  ⟨(hb.cell (p := ⟨w.heap.size + 1, 0, none⟩) (World.block_lt_of_cell? W _ h.1)).trans h.1, (hb.cell (p := ⟨w.heap.size + 1, 1, none⟩) (World.block_lt_of_cell? W _ h.2.1)).trans h.2.1, (hb.cell (p := ⟨w.heap.size, 0, none⟩) (World.block_lt_of_cell? W _ h.2.2.1)).trans h.2.2.1, h.2.2.2.trans (hb.mono h.2.2.2.size)⟩
set_option maxRecDepth 100000 in
set_option maxHeartbeats 1000000 in
theorem chainsNone_any (b : Value) (m n : Int) (w : World) : Calls Try.prog 13 #[b, .int .u64 m, .int .u64 n] w fun e w' => e = .returned (.bool true) ∧ Below w.heap.size w w' := by
  obtain ⟨z, hz⟩ : ∃ z, z = zeroSum := ⟨_, rfl⟩
  have HZ := Lib.hid hz; clear hz
  go_enter Try.func13, Try.ntmps13
  go_wp2_with fail
  go_loopw [8] (fun v W => ∃ k : Nat, k ≤ 2 ∧ v = .int .i64 (k : Int) ∧ CS w W) (fun v _ => 2 - (intOf v).toNat)
  case atStart =>
    refine ⟨0, by omega, rfl, ?_, ?_, ?_, al (al (Below.refl _ _) _) _⟩
    · have := range_new (w.alloc (.cells #[.pointer none, .slice none 0 0] 58)) #[.pointer none, .pointer (some ⟨w.heap.size, 0, none⟩)] 55 _ rfl 0 _ rfl
      rw [World.size_alloc] at this; exact this
    · have := range_new (w.alloc (.cells #[.pointer none, .slice none 0 0] 58)) #[.pointer none, .pointer (some ⟨w.heap.size, 0, none⟩)] 55 _ rfl 1 _ rfl
      rw [World.size_alloc] at this; exact this
    · exact World.rangeAt_alloc (range_new w #[.pointer none, .slice none 0 0] 58 _ rfl) _ 0 _ rfl
  case round =>
    obtain ⟨k, hk, rfl, hS⟩ := hrel
    have HS := Lib.hid hS; clear hS
    have hcases : k = 0 ∨ k = 1 ∨ k = 2 := by omega
    clear hk
    rcases hcases with rfl | rfl | rfl
    · have g := HS.out.1
      go_wp2_with (first
        | (have _ := HT; refine wpList_var_sum (by rfl) rfl _ _ rfl z rfl rfl ?_; intro W3 hb _ _ _; replace HS := Lib.hid (HS.out.below hb); clear hb HT; have g := HS.out.1)
        | (go_at_call 38; refine (centry_void _ _ _ (.inl rfl)).mono ?_; rintro e w1 ⟨rfl, rfl⟩)
        | (go_at_call 39; refine (cmark_void' HZ _ _ _ (.inl rfl)).mono ?_; rintro e w2 ⟨rfl, hb⟩; replace HS := Lib.hid (HS.out.below hb); clear hb g; have HT := Lib.hid trivial)
        | (go_at_call 40; refine (croot_void' HZ _ _ _ (.inl rfl)).mono ?_; rintro e w2 ⟨rfl, hb⟩; replace HS := Lib.hid (HS.out.below hb); clear hb g; have HT := Lib.hid trivial)
        | (go_at_call 41; refine (cpath_void _ _ _ _ (.inl rfl)).mono ?_; rintro e w1 ⟨rfl, rfl⟩)
        | (go_at_call 42; refine (clink_void _ _ _ _ (.inl rfl)).mono ?_; rintro e w1 ⟨rfl, rfl⟩)
        | (go_at_call 43; refine (cadd_void _ _ _ (.inl rfl)).mono ?_; rintro e w1 ⟨rfl, rfl⟩)
        | (go_at_call 44; refine (csize_void _ _ (.inl rfl)).mono ?_; rintro e w1 ⟨rfl, rfl⟩))
      exact ⟨⟨1, by omega, rfl, HS.out⟩, by simp [intOf]⟩
    · have g := HS.out.2.1
      go_wp2_with (first
        | (have _ := HT; refine wpList_var_sum (by rfl) rfl _ _ rfl z rfl rfl ?_; intro W3 hb _ _ _; replace HS := Lib.hid (HS.out.below hb); clear hb HT; have g := HS.out.2.1)
        | (go_at_call 38; refine (centry_void _ _ _ (.inr ⟨_, rfl, HS.out.2.2.1⟩)).mono ?_; rintro e w1 ⟨rfl, rfl⟩)
        | (go_at_call 39; refine (cmark_void' HZ _ _ _ (.inr ⟨_, rfl, HS.out.2.2.1⟩)).mono ?_; rintro e w2 ⟨rfl, hb⟩; replace HS := Lib.hid (HS.out.below hb); clear hb g; have HT := Lib.hid trivial)
        | (go_at_call 40; refine (croot_void' HZ _ _ _ (.inr ⟨_, rfl, HS.out.2.2.1⟩)).mono ?_; rintro e w2 ⟨rfl, hb⟩; replace HS := Lib.hid (HS.out.below hb); clear hb g; have HT := Lib.hid trivial)
        | (go_at_call 41; refine (cpath_void _ _ _ _ (.inr ⟨_, rfl, HS.out.2.2.1⟩)).mono ?_; rintro e w1 ⟨rfl, rfl⟩)
        | (go_at_call 42; refine (clink_void _ _ _ _ (.inr ⟨_, rfl, HS.out.2.2.1⟩)).mono ?_; rintro e w1 ⟨rfl, rfl⟩)
        | (go_at_call 43; refine (cadd_void _ _ _ (.inr ⟨_, rfl, HS.out.2.2.1⟩)).mono ?_; rintro e w1 ⟨rfl, rfl⟩)
        | (go_at_call 44; refine (csize_void _ _ (.inr ⟨_, rfl, HS.out.2.2.1⟩)).mono ?_; rintro e w1 ⟨rfl, rfl⟩))
      exact ⟨⟨2, by omega, rfl, HS.out⟩, by simp [intOf]⟩
    · go_wp2_with fail
      exact bodyPost_ret (results_tmp rfl _ _ _) rfl ⟨rfl, HS.out.2.2.2⟩
end Go.Proofs.Ytdkcndgehgmadaa
