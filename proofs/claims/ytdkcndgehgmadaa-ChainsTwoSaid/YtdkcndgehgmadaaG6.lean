/-
  Walks: links.Check's 'leads', at its ends.
-/
import Derived.Test.YtdkcndgehgmadaaG5
open Go Go.RowKit Alm
namespace Go.Proofs.Ytdkcndgehgmadaa
/-- The arguments of leads. -/
abbrev leadsArgs (m n : Nat) (e : Bool) (A N L : Nat) : Array Value := #[.int .u64 (m : Int), .int .u64 (n : Int), .bool e, .pointer (some ⟨A, 0, none⟩), .pointer (some ⟨N, 0, none⟩), .pointer (some ⟨L, 0, none⟩)]
set_option maxRecDepth 100000 in
set_option maxHeartbeats 1000000 in
theorem leads_edge (B A N L c : Nat) (a : Sum) (n : Nat) (p : List Sum) (w : World) (hI : LeadsIn w A N L c a) (hp : LeftAt B w c p) : Calls Try.prog 73 (leadsArgs n n true A N L) w (LeadsOf B w c (some ((a, a), p))) := by
  have R0 : Res w 64 (w.alloc (.cells (cells8 (List.replicate 64 0)).toArray 105)) := Res.start _ _ _ _ (by rfl)
  have HA := Lib.hid (R0.range hI.sum)
  have hfin : LeadsOf B w c (some ((a, a), p)) (.returned (.tuple #[bv a a, .nilIface])) ((w.alloc (.cells (cells8 (List.replicate 64 0)).toArray 105)).setCells w.heap.size 0 (cells2 a a)) :=
    ⟨.of_below (R0.store _).below, rfl, hp.below (R0.store _).below⟩
  have HF := Lib.hid hfin; clear hfin hI hp
  go_enter Try.func73, Try.ntmps73
  go_wp2_with (first
      | (refine wpList_load_sum rfl _ rfl A 0 rfl a HA.out ?_)
      | (refine wpList_build_both rfl _ rfl a a rfl ?_)
      | (refine wpList_store_both rfl _ _ rfl w.heap.size 0 a a rfl rfl R0.there ?_))
  refine bodyPost_ret (results_cell_tmp Try.results73 _ _ w.heap.size 0 (cells2 a a) _ rfl (range_stored _ _ _ _ (by rw [length_cells2]; exact World.there_setCells R0.there _ _ _)) Try.underlying105 rfl (by rw [length_cells2]; exact infoBoth)) rfl ?_
  exact HF.out
set_option maxRecDepth 100000 in
set_option maxHeartbeats 1000000 in
theorem leads_told (B A N L c : Nat) (a : Sum) (n : Nat) (p : List Sum) (w : World) (hB : B ≤ w.heap.size) (hI : LeadsIn w A N L c a) (hp : LeftAt B w c p) : Calls Try.prog 73 (leadsArgs n n false A N L) w (LeadsOf B w c (told p)) := by
  have R0 : Res w 64 (w.alloc (.cells (cells8 (List.replicate 64 0)).toArray 105)) := Res.start _ _ _ _ (by rfl)
  have HN := Lib.hid (R0.cell hI.next)
  have hp0 := hp.below R0.below
  have hbw := R0.below
  have hc := hp.lt
  have ht := R0.there
  have HBz := Lib.hid hB; clear hB
  have HW := Lib.hid (And.intro hp0 (And.intro hbw (And.intro hc ht)))
  clear hI hp hp0 hbw hc ht R0
  go_enter Try.func73, Try.ntmps73
  go_wp2_with (first
      | (refine wpList_load_next rfl _ rfl N (nextFn c) rfl HN.out ?_))
  refine (next_any B (w.alloc (.cells (cells8 (List.replicate 64 0)).toArray 105)) c p HW.out.1).mono ?_
  intro e1 w1 hn
  have hk1 := hn.keeps
  obtain ⟨s, ev, he, hl⟩ := hn.form
  subst he
  have hbw := HW.out.2.1
  have hc := HW.out.2.2.1
  have ht := HW.out.2.2.2
  have hne : w.heap.size ≠ c := Nat.ne_of_gt hc
  have ht1 : w1.there w.heap.size 0 64 := hk1.there ht (by decide) hne
  have hsz : w.heap.size < w1.heap.size := there_lt ht1 (by decide)
  have hk0 : Keeps (· = c) w w1 := (Keeps.of_below hbw).trans hk1
  have R1 : Res w1 32 (w1.alloc (.cells (cells8 (List.replicate 32 0)).toArray 24)) := Res.start _ _ _ _ (by rfl)
  have HT1 := Lib.hid R1.there
  have hR := R1.store (cellsOf s)
  have HR2 := Lib.hid (range_stored w1.heap.size (cellsOf s) 0 _ (by rw [length_cellsOf]; exact hR.there))
  have ht2 := there_block (hR.below.block _ hsz) ht1
  have HT2 := Lib.hid ht2
  have hk3 := keeps_setCells_ w.heap.size (cells2 s s) 0 ((w1.alloc (.cells (cells8 (List.replicate 32 0)).toArray 24)).setCells w1.heap.size 0 (cellsOf s))
  have HF := Lib.hid (hl.end_ ((hk0.trans (.of_below hR.below)).trans' hk3 (fun i hi => .inr (Nat.le_of_eq hi.symm))) (fun r h => (h.below hR.below).keep hk3 (fun e => hne e.symm) (fun k hk _ => hk ▸ HBz.out)))
  have HX := Lib.hid (range_stored w.heap.size (cells2 s s) 0 _ (by rw [length_cells2]; exact World.there_setCells ht2 w.heap.size 0 (cells2 s s)))
  clear hn hl hbw hc ht hne ht1 hsz hk0 R1 hR hk1 hk3 ht2
  go_wp2_with (first
      | (refine wpList_load_sum rfl _ rfl w1.heap.size 0 rfl s HR2.out ?_)
      | (refine wpList_build_both rfl _ rfl s s rfl ?_)
      | (refine wpList_store_sum rfl _ _ rfl w1.heap.size 0 s rfl rfl HT1.out ?_)
      | (refine wpList_store_both rfl _ _ rfl w.heap.size 0 s s rfl rfl HT2.out ?_))
  refine bodyPost_ret (results_cell_tmp Try.results73 _ _ w.heap.size 0 (cells2 s s) _ rfl HX.out Try.underlying105 rfl (by rw [length_cells2]; exact infoBoth)) rfl ?_
  exact HF.out
end Go.Proofs.Ytdkcndgehgmadaa
