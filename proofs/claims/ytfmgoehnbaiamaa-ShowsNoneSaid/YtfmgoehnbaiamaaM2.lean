/-
  Walks: shows of maps that are not there, or that no call made.
-/
import Derived.Test.YtfmgoehnbaiamaaM1
import Derived.BigFrame
open Go Go.RowKit Alm
namespace Go.Proofs.Ytfmgoehnbaiamaa
/-- The show that tells nothing. -/
def showZ : List Value := cells8 (List.replicate 32 0) ++ [.slice none 0 0]
theorem length_showZ : showZ.length = 33 := by rfl
theorem all_showZ : showZ.toArray.all (·.oneCell') = true := by kernel_rfl
theorem infoShow : (Try.prog.info? 59).map (·.size) = some 33 := by kernel_rfl
theorem wpList_store_show {ops : Array Oper} {rest : List Oper} {op : Oper} {a : Act} {w : World} {Q : Exit → Act → World → Prop} (hgd : op.guard = none) (x y : Operand) (ho : op.op = .store 59 x y)
    (b o : Nat) (hx : a.eval x = .pointer (some ⟨b, o, none⟩)) (hy : a.eval y = .agg showZ.toArray) (ht : w.there b o 33)
    (h : wpList Try.prog ops Q rest (a.put op.dst undef) (w.setCells b o showZ)) : wpList Try.prog ops Q (op :: rest) a w :=
  wpList_store_mid hgd _ x y ho b o _ hx hy (by rw [List.size_toArray, length_showZ]; exact ht) (by rw [List.size_toArray, length_showZ]; exact infoShow) all_showZ (by simpa using h)
theorem wpList_var_show {ops : Array Oper} {rest : List Oper} {op : Oper} {a : Act} {w : World} {C : Array Value} {t : TypeId} {Q : Exit → Act → World → Prop} (hC : C.size = 33) (hgd : op.guard = none) (x y : Operand) (ho : op.op = .store 59 x y)
    (hx : a.eval x = .pointer (some ⟨w.heap.size, 0, none⟩)) (hy : a.eval y = .agg showZ.toArray)
    (h : ∀ W', Below w.heap.size w W' → W'.rangeAt w.heap.size 0 showZ → wpList Try.prog ops Q rest (a.put op.dst undef) W') : wpList Try.prog ops Q (op :: rest) a (w.alloc (.cells C t)) := by
  have ht : (w.alloc (.cells C t)).there w.heap.size 0 33 := by rw [← hC]; exact there_new _ _ _
  have ht2 := World.there_setCells ht w.heap.size 0 showZ
  exact wpList_store_show hgd x y ho w.heap.size 0 hx hy ht (h _ (setCells_below _ (Nat.le_refl _) _ 0 _ _ (al (Below.refl _ _) _)) (range_stored _ _ _ _ (by rw [length_showZ]; exact ht2)))
theorem wpG_load_sum {ops : Array Oper} {rest : List Oper} {op : Oper} {a : Act} {w : World} {Q : Exit → Act → World → Prop} (hw : Region.wanted op (yielded ops a.tmps) = true) (x : Operand) (ho : op.op = .load 29 x)
    (b o : Nat) (hx : a.eval x = .pointer (some ⟨b, o, none⟩)) (s : Sum) (hc : w.rangeAt b o (cellsOf s)) (h : wpList Try.prog ops Q rest (a.put op.dst (sv s)) w) : wpList Try.prog ops Q (op :: rest) a w :=
  BigFrame.wpList_want hw fun _ hK => wp_load_sum x ho b o hx s hc (hK _ _ h)
theorem results_cell_tmp {P : Program} {fn : Func} {p q : Tmp} {ty : TypeId} (h : fn.results = #[.cell p ty, .tmp q]) (tmps : Array Value) (w : World) (b o : Nat) (cs : List Value) (d : TypeDesc)
    (hp : tmps.getD p undef = .pointer (some ⟨b, o, none⟩)) (hc : w.rangeAt b o cs) (hu : P.underlying ty = some d) (hd : d.isRow = true) (hi : (P.info? ty).map (·.size) = some cs.length) :
    (results fn tmps).run P w = .ok (.tuple #[.agg cs.toArray, tmps.getD q undef]) w := by
  have hp' : tmps[p]?.getD undef = .pointer (some ⟨b, o, none⟩) := by simpa using hp
  simp [results, h, hp', asAddr, run_loadVar_mid w b o ty cs d hc hu hd hi]
theorem cells_show (s : Sum) (W : World) (b : Nat) (h : W.rangeAt b 0 showZ) : W.rangeAt b 0 (cellsOf zeroSum) ∧ W.cell? ⟨b, 32, none⟩ = some (.slice none 0 0) := by
  constructor
  · intro j v hv
    refine h j v ?_
    rw [cellsOf_zeroSum] at hv
    unfold showZ
    rw [List.getElem?_append_left (List.getElem?_eq_some_iff.1 hv).1]; exact hv
  · exact h 32 _ rfl
set_option maxRecDepth 100000 in
set_option maxHeartbeats 1000000 in
theorem showsOf_void (k : Sum) (v : Value) (w : World) (h : MVoid w v) : Calls Try.prog 35 #[v, sv k] w fun e w' => e = .returned (.tuple #[.agg showZ.toArray, .int .i64 2]) ∧ Below w.heap.size w w' := by
  have hb0 := al (Below.refl _ w) (.cells (cellsOf k).toArray 29)
  have hr0 := range_new w (cellsOf k).toArray 29 _ rfl
  have hz1 : (w.alloc (.cells (cellsOf k).toArray 29)).heap.size = w.heap.size + 1 := Array.size_push _
  have R1 : Res (w.alloc (.cells (cellsOf k).toArray 29)) 33 ((w.alloc (.cells (cellsOf k).toArray 29)).alloc (.cells (showZ).toArray 59)) := Res.start _ _ _ _ (by rfl)
  have HR := Lib.hid (R1.range hr0)
  have HB := Lib.hid (hb0.trans (R1.below.mono hb0.size))
  have HV := Lib.hid ((h.below hb0).below R1.below)
  have HT := Lib.hid (hz1 ▸ R1.there)
  clear hb0 hr0 hz1 R1
  go_enter Try.func35, Try.ntmps35
  go_wp2_with (refine wpList_load_sum rfl _ rfl w.heap.size 0 rfl k HR.out ?_)
  change Calls _ _ _ ((w.alloc (.cells (cellsOf k).toArray 29)).alloc (.cells (showZ).toArray 59)) _
  generalize (w.alloc (.cells (cellsOf k).toArray 29)).alloc (.cells (showZ).toArray 59) = W at *
  refine (mget_void k v W HV.out).mono ?_
  rintro e w2 ⟨rfl, hb⟩
  have ht2 : w2.there (w.heap.size + 1) 0 33 := (Keeps.of_below (X := fun _ => False) hb).there HT.out (by decide) (fun h => h)
  have HT2 := Lib.hid ht2
  have HB2 := Lib.hid (HB.out.trans (hb.mono HB.out.size))
  clear hb ht2 HR
  go_wp2_with (refine wpList_store_show rfl _ _ rfl (w.heap.size + 1) 0 rfl rfl HT2.out ?_)
  exact bodyPost_ret (results_cell_tmp Try.results35 _ _ (w.heap.size + 1) 0 showZ _ rfl (range_stored _ _ _ _ (by rw [length_showZ]; exact World.there_setCells HT2.out _ _ _)) Try.underlying59 rfl (by rw [length_showZ]; exact infoShow)) rfl ⟨rfl, setCells_below _ (Nat.le_succ _) _ 0 _ _ HB2.out⟩
set_option maxRecDepth 100000 in
set_option maxHeartbeats 1000000 in
theorem showsNone_any (k : Sum) (w : World) : Calls Try.prog 9 #[sv k] w fun e w' => e = .returned (.bool true) ∧ Below w.heap.size w w' := by
  have HR := Lib.hid (range_new w (cellsOf k).toArray 29 _ rfl)
  have HB := Lib.hid (al (Below.refl _ w) (.cells (cellsOf k).toArray 29))
  go_enter Try.func9, Try.ntmps9
  go_wp2_with (refine wpList_load_sum rfl _ rfl w.heap.size 0 rfl k HR.out ?_)
  refine (showsOf_void k _ _ (.inl rfl)).mono ?_
  rintro e w1 ⟨rfl, hb1⟩
  have HB1 := Lib.hid (HB.out.trans (hb1.mono HB.out.size))
  have HR1 := Lib.hid ((Keeps.of_below (X := fun _ => False) hb1).range HR.out (fun h => h))
  clear hb1 HB HR
  have HG := Lib.hid trivial
  go_wp2_with (first
    | (have _ := HG; refine wpList_var_show (by rfl) rfl _ _ rfl rfl rfl ?_; intro W2 hb2 hr2; have HB2 := Lib.hid (HB1.out.trans (hb2.mono HB1.out.size)); have HR2 := Lib.hid ((Keeps.of_below (X := fun _ => False) hb2).range HR1.out (fun h => h)); have HS2 := Lib.hid hr2; clear hb2 hr2 HG)
    | (refine wpList_load_sum rfl _ rfl w.heap.size 0 rfl k (World.rangeAt_alloc HR2.out _) ?_))
  generalize w1.heap.size = q1 at *
  have HV : Hid (MVoid (W2.alloc (.cells #[.map none] 52)) (.pointer (some ⟨W2.heap.size, 0, none⟩))) := Lib.hid (.inr ⟨_, rfl, range_new W2 #[.map none] 52 _ rfl 0 _ rfl⟩)
  refine (showsOf_void k _ _ HV.out).mono ?_
  rintro e w3 ⟨rfl, hb3⟩
  have hb4 := (al (Below.refl _ W2) (.cells #[.map none] 52)).trans (hb3.mono (by rw [World.size_alloc]; omega))
  have HB3 := Lib.hid (HB2.out.trans (hb4.mono HB2.out.size))
  have HS3 := Lib.hid ((Keeps.of_below (X := fun _ => False) hb4).range HS2.out (fun h => h))
  clear hb3 hb4 HB1 HB2 HR1 HR2 HS2 HV
  have HG := Lib.hid trivial
  have hq := mequal_zero
  go_wp2_with (first
    | (have _ := HG; refine wpList_var_show (by rfl) rfl _ _ rfl rfl rfl ?_; intro W4 hb hr; have HB4 := Lib.hid (HB3.out.trans (hb.mono HB3.out.size)); have HS4 := Lib.hid (cells_show zeroSum W4 _ ((Keeps.of_below (X := fun _ => False) hb).range HS3.out (fun h => h))); have HT4 := Lib.hid (cells_show zeroSum W4 _ hr); have c1 := HS4.out.2; have c2 := HT4.out.2; clear hb hr HG)
    | (refine wpG_load_sum (by rfl) _ rfl q1 0 rfl zeroSum HS4.out.1 ?_)
    | (refine wpG_load_sum (by rfl) _ rfl w3.heap.size 0 rfl zeroSum HT4.out.1 ?_))
  exact bodyPost_ret (results_tmp rfl _ _ _) rfl ⟨rfl, HB4.out⟩
end Go.Proofs.Ytfmgoehnbaiamaa
