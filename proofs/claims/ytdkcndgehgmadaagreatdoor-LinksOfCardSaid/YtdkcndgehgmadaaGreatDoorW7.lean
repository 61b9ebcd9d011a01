/-
  Walks: leaves.Node.
-/
import Derived.Test.YtdkcndgehgmadaaGreatDoorW6
import Derived.Deep.RegionWith
open Go Go.RowKit Alm
namespace Go.Proofs.YtdkcndgehgmadaaGreatDoor
/-- A node over two sums. -/
def node (l r : Sum) : Sum := sha (1 :: (l.toList ++ r.toList))
theorem parts_three {w : World} {p q a b : Nat} (l r : Sum) (hp : p < w.heap.size) (t : TypeId)
    (h1 : w.rangeAt p 0 (cells8 [1])) (h2 : w.rangeAt a 0 (cellsOf l)) (h3 : w.rangeAt b 0 (cellsOf r)) (ha : a < w.heap.size) (hb : b < w.heap.size) (hq : q = w.heap.size) :
    PartsAt (w.alloc (.cells #[.slice (some ⟨p, 0, none⟩) 1 1, .slice (some ⟨a, 0, none⟩) 32 32, .slice (some ⟨b, 0, none⟩) 32 32] t)) q 0 [.slice (some ⟨p, 0, none⟩) 1 1, .slice (some ⟨a, 0, none⟩) 32 32, .slice (some ⟨b, 0, none⟩) 32 32] [[1], l.toList, r.toList] := by
  subst hq
  have hB := al (Below.refl w.heap.size w) (.cells #[.slice (some ⟨p, 0, none⟩) 1 1, .slice (some ⟨a, 0, none⟩) 32 32, .slice (some ⟨b, 0, none⟩) 32 32] t)
  refine ⟨range_new _ _ _ _ rfl, rfl, fun j hj => ?_⟩
  have hj' : j < 3 := hj
  match j, hj' with
  | 0, _ => exact ⟨_, _, _, rfl, rfl, by decide, p, 0, rfl, range_below hB h1 hp, by simp; omega⟩
  | 1, _ => exact ⟨_, _, _, rfl, by simp, by decide, a, 0, rfl, range_below hB h2 ha, by simp; omega⟩
  | 2, _ => exact ⟨_, _, _, rfl, by simp, by decide, b, 0, rfl, range_below hB h3 hb, by simp; omega⟩
/-- A store of many cells, as one step of a region that draws. -/
theorem step_store_mid {P : Program} {ops : Array Oper} {op : Oper} {a : Act} {w : World} {K : Act → World → Prop} {Q : Exit → Act → World → Prop} {E : Prop} (hg : op.guard = none) (ty : TypeId) (x y : Operand) (ho : op.op = .store ty x y)
    (b o : Nat) (cells : Array Value) (hx : a.eval x = .pointer (some ⟨b, o, none⟩)) (hy : a.eval y = .agg cells)
    (ht : w.there b o cells.size) (hi : (P.info? ty).map (·.size) = some cells.size) (h1 : cells.all (·.oneCell') = true)
    (h : K (a.put op.dst undef) (w.setCells b o cells.toList)) : if Region.wanted op (yielded ops a.tmps) = true then op.wp P a w K Q else E := by
  have hw : Region.wanted op (yielded ops a.tmps) = true := by simp [Region.wanted, hg]
  rw [if_pos hw]
  exact wp_store_mid ty x y ho b o cells hx hy ht hi h1 h
theorem parts_drew {w : World} {b o : Nat} {vs : List Value} {ls : List (List UInt8)} (h : PartsAt w b o vs ls) : PartsAt w.drew b o vs ls := ⟨h.1, h.2.1, h.2.2⟩
set_option maxRecDepth 100000 in
set_option maxHeartbeats 400000 in
theorem node_any (l r : Sum) (w : World) : Calls Tryz.prog 69 #[sv l, sv r] w fun e w' => e = .returned (sv (node l r)) ∧ Below w.heap.size w w' := by
  obtain ⟨s, hsn⟩ : ∃ s, s = node l r := ⟨_, rfl⟩
  have hsf : sha [[1], l.toList, r.toList].flatten = s := by rw [hsn, node]; congr 1; simp
  rw [← hsn]
  have HSF := Lib.hid hsf; clear hsf hsn
  go_enter Tryz.func69, Tryz.ntmps69
  go_wp2_with fail
  change Code.wp _ _ _ _ (((w.alloc (.cells (cellsOf l).toArray 24)).alloc (.cells (cellsOf r).toArray 24)).alloc (.cells (cells8 (List.replicate 32 0)).toArray 24))
  have hB : Below w.heap.size w (((w.alloc (.cells (cellsOf l).toArray 24)).alloc (.cells (cellsOf r).toArray 24)).alloc (.cells (cells8 (List.replicate 32 0)).toArray 24)) := al (al (al (Below.refl _ _) _) _) _
  have hs : (((w.alloc (.cells (cellsOf l).toArray 24)).alloc (.cells (cellsOf r).toArray 24)).alloc (.cells (cells8 (List.replicate 32 0)).toArray 24)).heap.size = w.heap.size + 1 + 1 + 1 := by simp
  have h1 : (((w.alloc (.cells (cellsOf l).toArray 24)).alloc (.cells (cellsOf r).toArray 24)).alloc (.cells (cells8 (List.replicate 32 0)).toArray 24)).rangeAt w.heap.size 0 (cellsOf l) :=
    World.rangeAt_alloc (World.rangeAt_alloc (range_new w (cellsOf l).toArray 24 _ rfl) _) _
  have h2 : (((w.alloc (.cells (cellsOf l).toArray 24)).alloc (.cells (cellsOf r).toArray 24)).alloc (.cells (cells8 (List.replicate 32 0)).toArray 24)).rangeAt (w.heap.size + 1) 0 (cellsOf r) :=
    World.rangeAt_alloc (by have := range_new (w.alloc (.cells (cellsOf l).toArray 24)) (cellsOf r).toArray 24 _ rfl; simpa using this) _
  have h3 : (((w.alloc (.cells (cellsOf l).toArray 24)).alloc (.cells (cellsOf r).toArray 24)).alloc (.cells (cells8 (List.replicate 32 0)).toArray 24)).there (w.heap.size + 1 + 1) 0 32 := by
    have := Res.start ((w.alloc (.cells (cellsOf l).toArray 24)).alloc (.cells (cellsOf r).toArray 24)) 32 (cells8 (List.replicate 32 0)).toArray 24 (by rfl)
    have := this.there
    rw [show ((w.alloc (.cells (cellsOf l).toArray 24)).alloc (.cells (cellsOf r).toArray 24)).heap.size = w.heap.size + 1 + 1 from by simp] at this
    exact this
  generalize (((w.alloc (.cells (cellsOf l).toArray 24)).alloc (.cells (cellsOf r).toArray 24)).alloc (.cells (cells8 (List.replicate 32 0)).toArray 24)) = w0 at *
  have hw1 : (w0.alloc (.cells #[.int .u8 1] 5)).heap.size = w.heap.size + 1 + 1 + 1 + 1 := by simp [hs]
  have hP := parts_three (w := w0.alloc (.cells #[.int .u8 1] 5)) (q := w.heap.size + 1 + 1 + 1 + 1) (p := w.heap.size + 1 + 1 + 1) l r (by rw [hw1]; omega) 65 (by rw [← hs]; exact range_new _ _ _ _ rfl) (World.rangeAt_alloc h1 _) (World.rangeAt_alloc h2 _) (by rw [hw1]; omega) (by rw [hw1]; omega) hw1.symm
  have hQ : Below w.heap.size w ((w0.alloc (.cells #[.int .u8 1] 5)).alloc (.cells #[.slice (some ⟨w.heap.size + 1 + 1 + 1, 0, none⟩) 1 1, .slice (some ⟨w.heap.size, 0, none⟩) 32 32, .slice (some ⟨w.heap.size + 1, 0, none⟩) 32 32] 65)) := al (al hB _) _
  have hR := World.there_alloc (World.there_alloc h3 (.cells #[.int .u8 1] 5)) (.cells #[.slice (some ⟨w.heap.size + 1 + 1 + 1, 0, none⟩) 1 1, .slice (some ⟨w.heap.size, 0, none⟩) 32 32, .slice (some ⟨w.heap.size + 1, 0, none⟩) 32 32] 65)
  have hT : w.heap.size + 1 + 1 < ((w0.alloc (.cells #[.int .u8 1] 5)).alloc (.cells #[.slice (some ⟨w.heap.size + 1 + 1 + 1, 0, none⟩) 1 1, .slice (some ⟨w.heap.size, 0, none⟩) 32 32, .slice (some ⟨w.heap.size + 1, 0, none⟩) 32 32] 65)).heap.size := by simp [hs]
  have HP := Lib.hid hP; clear hP
  have HQ := Lib.hid hQ; clear hQ
  have HR := Lib.hid hR; clear hR
  have HT := Lib.hid hT; clear hT
  clear h1 h2 h3 hB hw1
  refine wp_region_any (by kernel_rfl) ?_
  change wpAny _ _ _ _ _ _ _ (World.drew _)
  refine wpAny_take (i := 1) (v := .slice (some ⟨w.heap.size, 0, none⟩) 32 32) rfl (by kernel_rfl) (by kernel_rfl) (by kernel_rfl) (fun _ _ _ h => h) (Or.inl ⟨by rfl, by intro w; go_simp⟩) ?_
  refine wpAny_take (i := 2) (v := .slice (some ⟨w.heap.size + 1, 0, none⟩) 32 32) rfl (by kernel_rfl) (by kernel_rfl) (by kernel_rfl) (fun _ _ _ h => h) (Or.inl ⟨by rfl, by intro w; go_simp⟩) ?_
  refine wpAny_ready (rs := [0]) (by kernel_rfl) (by simp) ?_
  refine AllReady.cons rfl (fun K hK => ?_) (by exact AllReady.nil)
  go_simp
  refine hK _ _ ?_; clear hK K
  refine wpAny_ready (rs := [3]) (by kernel_rfl) (by simp) ?_
  refine AllReady.cons rfl (fun K hK => ?_) (by exact AllReady.nil)
  go_simp
  refine hK _ _ ?_; clear hK K
  refine wpAny_ready (rs := [4]) (by kernel_rfl) (by simp) ?_
  refine AllReady.cons rfl (fun K hK => ?_) (by exact AllReady.nil)
  go_simp
  refine (concat_any _ [[1], l.toList, r.toList] _ _ 3 _ (parts_drew HP.out) (by simp) (by simp) (by simp) (by simp)).mono ?_
  rintro e w1 ⟨v, rfl, hbv, hbw⟩
  refine hK _ _ ?_; clear hK K
  refine wpAny_ready (rs := [5]) (by kernel_rfl) (by simp) ?_
  refine AllReady.cons rfl (fun K hK => ?_) (by exact AllReady.nil)
  go_simp
  refine (of_any _ _ _ hbv (by simp)).mono ?_
  rw [HSF.out]
  rintro e w2 ⟨rfl, hbw2⟩
  refine hK _ _ ?_; clear hK K
  refine wpAny_ready (rs := [6]) (by kernel_rfl) (by simp) ?_
  refine AllReady.cons rfl (fun K hK => ?_) (by exact AllReady.nil)
  have R2 : Below w.heap.size w w2 := (HQ.out.drew.trans (hbw.mono HQ.out.size)).trans (hbw2.mono (HQ.out.drew.trans (hbw.mono HQ.out.size)).size)
  have ht2 : w2.there (w.heap.size + 1 + 1) 0 32 :=
    there_block (hbw2.block _ (Nat.lt_of_lt_of_le HT.out hbw.size)) (there_block (hbw.block _ HT.out) HR.out)
  refine step_store_mid rfl _ _ _ rfl (w.heap.size + 1 + 1) 0 _ rfl rfl (by rw [size_cellsOf]; exact ht2) (by rw [size_cellsOf]; exact infoSum) (all_cellsOf s) ?_
  refine hK _ _ ?_; clear hK K
  refine wpAny_done (by kernel_rfl) ?_ _
  go_wp2_with fail
  exact bodyPost_ret (results_sum Tryz.results69 _ _ _ _ rfl (World.there_setCells ht2 _ _ _)) rfl ⟨rfl, setCells_below _ (by omega) _ _ _ _ R2⟩
end Go.Proofs.YtdkcndgehgmadaaGreatDoor
