/-
  Walks: the law FrontsTwo.
-/
import Derived.Test.YtdkcndgehgmadaaF7
import Derived.Test.YtdkcndgehgmadaaArgs
open Go Go.RowKit Alm
namespace Go.Proofs.Ytdkcndgehgmadaa
def FA (p : Nat) (v : Value) : Nat → Prop := fun k => k = p ∨ v.ownBlock = some k
def FS (v : Value) : Nat → Prop := fun k => v.ownBlock = some k
def Disj (A B : Nat → Prop) : Prop := ∀ k, A k → ¬ B k
theorem Disj.symm {A B : Nat → Prop} (h : Disj A B) : Disj B A := fun k hb ha => h k ha hb
def SRow (W : World) (v : Value) (l : List Sum) : Prop := W.ownsRow 0 24 32 v l.length (cellsAll l) ∧ (l = [] → v = .slice none 0 0)
/-- Two fronts, and two lists. -/
structure Two (w0 W : World) (pa pb : Nat) (va vb : Value) (la lb : List Sum) (vx vy : Value) (lx ly : List Sum) : Prop where
  fa : FrontAt W pa va la
  fb : FrontAt W pb vb lb
  sx : SRow W vx lx
  sy : SRow W vy ly
  below : Below w0.heap.size w0 W
  ua : ∀ k, FA pa va k → w0.heap.size ≤ k
  ub : ∀ k, FA pb vb k → w0.heap.size ≤ k
  ux : ∀ k, FS vx k → w0.heap.size ≤ k
  uy : ∀ k, FS vy k → w0.heap.size ≤ k
  ab : Disj (FA pa va) (FA pb vb)
  ax : Disj (FA pa va) (FS vx)
  ay : Disj (FA pa va) (FS vy)
  bx : Disj (FA pb vb) (FS vx)
  bY : Disj (FA pb vb) (FS vy)
  xy : Disj (FS vx) (FS vy)
section
variable {w0 W W' : World} {pa pb : Nat} {va vb : Value} {la lb : List Sum} {vx vy : Value} {lx ly : List Sum}
theorem Two.swap (h : Two w0 W pa pb va vb la lb vx vy lx ly) : Two w0 W pb pa vb va lb la vy vx ly lx :=
  ⟨h.fb, h.fa, h.sy, h.sx, h.below, h.ub, h.ua, h.uy, h.ux, h.ab.symm, h.bY, h.bx, h.ay, h.ax, h.xy.symm⟩
theorem SRow.keep {X : Nat → Prop} {v : Value} {l : List Sum} (h : SRow W v l) (hk : Keeps X W W') (hx : ∀ k, FS v k → ¬ X k) : SRow W' v l := ⟨hk.owns h.1 hx, h.2⟩
theorem SRow.lt {v : Value} {l : List Sum} (h : SRow W v l) {k : Nat} (hk : FS v k) : k < W.heap.size := own_lt h.1 hk
theorem FrontAt.flt {p : Nat} {v : Value} {l : List Sum} (h : FrontAt W p v l) {k : Nat} (hk : FA p v k) : k < W.heap.size := by
  rcases hk with rfl | hk
  · exact h.lt
  · exact own_lt h.2.1 hk
/-- Something else was written. -/
theorem Two.keep {X : Nat → Prop} (h : Two w0 W pa pb va vb la lb vx vy lx ly) (hk : Keeps X W W') (h0 : ∀ k, X k → w0.heap.size ≤ k) (xa : Disj (FA pa va) X) (xb : Disj (FA pb vb) X) (xx : Disj (FS vx) X) (xy : Disj (FS vy) X) :
    Two w0 W' pa pb va vb la lb vx vy lx ly :=
  ⟨h.fa.keep hk (xa _ (.inl rfl)) (fun k hv => xa k (.inr hv)), h.fb.keep hk (xb _ (.inl rfl)) (fun k hv => xb k (.inr hv)), h.sx.keep hk xx, h.sy.keep hk xy, h.below.trans (hk.below h.below.size h0), h.ua, h.ub, h.ux, h.uy, h.ab, h.ax, h.ay, h.bx, h.bY, h.xy⟩
theorem Two.mem (h : Two w0 W pa pb va vb la lb vx vy lx ly) (hb : Below W.heap.size W W') : Two w0 W' pa pb va vb la lb vx vy lx ly :=
  h.keep (X := fun _ => False) (.of_below hb) (fun _ h => h.elim) (fun _ _ h => h) (fun _ _ h => h) (fun _ _ h => h) (fun _ _ h => h)
/-- What is new is none of these. -/
theorem Two.new {g : Nat} (h : Two w0 W pa pb va vb la lb vx vy lx ly) (hg : W.heap.size ≤ g) : Disj (FA pa va) (· = g) ∧ Disj (FA pb vb) (· = g) ∧ Disj (FS vx) (· = g) ∧ Disj (FS vy) (· = g) :=
  ⟨fun k hk e => by have := h.fa.flt hk; omega, fun k hk e => by have := h.fb.flt hk; omega, fun k hk e => by have := h.sx.lt hk; omega, fun k hk e => by have := h.sy.lt hk; omega⟩
theorem two_add (s : Sum) (h : Two w0 W pa pb va vb la lb vx vy lx ly) (hl : la.length + 1 < 4000000000) : Calls Try.prog 32 #[.pointer (some ⟨pa, 0, none⟩), sv s] W fun e w' => e = .returned (.int .i64 0) ∧ ∃ va', Two w0 w' pa pb va' vb (la ++ [s]) lb vx vy lx ly := by
  refine (add_live W pa va la s h.fa hl).mono ?_
  rintro e w' ⟨va', rfl, hf, hk, hv⟩
  have hk' : Keeps (FA pa va) W w' := hk
  have hold : ∀ k, FA pa va' k → FA pa va k ∨ W.heap.size ≤ k := fun k hk => by
    rcases hk with rfl | hk
    · exact .inl (.inl rfl)
    · rcases hv k hk with h1 | h1
      · exact .inl (.inr h1)
      · exact .inr h1
  have dj : ∀ (B : Nat → Prop), Disj (FA pa va) B → (∀ k, B k → k < W.heap.size) → Disj (FA pa va') B := fun B hd hlt k hk hb => by
    rcases hold k hk with h1 | h1
    · exact hd k h1 hb
    · have := hlt k hb; omega
  refine ⟨rfl, va', ⟨hf, h.fb.keep hk' (h.ab.symm _ (.inl rfl)) (fun k hv => h.ab.symm k (.inr hv)), h.sx.keep hk' (fun k hk => h.ax.symm k hk), h.sy.keep hk' (fun k hk => h.ay.symm k hk), h.below.trans (hk'.below h.below.size h.ua), ?_, h.ub, h.ux, h.uy,
    dj _ h.ab (fun k hk => h.fb.flt hk), dj _ h.ax (fun k hk => h.sx.lt hk), dj _ h.ay (fun k hk => h.sy.lt hk), h.bx, h.bY, h.xy⟩⟩
  intro k hk
  rcases hold k hk with h1 | h1
  · exact h.ua k h1
  · exact Nat.le_trans h.below.size h1
theorem two_append {g cap : Nat} {l' : List Sum} (h : Two w0 W pa pb va vb la lb vx vy lx ly) (ho : W'.ownsRow 0 24 32 (.slice (some ⟨g, 0, none⟩) l'.length cap) l'.length (cellsAll l')) (hne : l' ≠ []) (hg : W.grownBy W' vx.ownBlock) (hat : vx.ownBlock = some g ∨ W.heap.size ≤ g) :
    Two w0 W' pa pb va vb la lb (.slice (some ⟨g, 0, none⟩) l'.length cap) vy l' ly := by
  have hk : Keeps (FS vx) W W' := .of_grown hg (fun k hk => hk)
  have hx0 : ∀ k, FS (.slice (some ⟨g, 0, none⟩) l'.length cap) k → FS vx k ∨ W.heap.size ≤ k := fun k hk => by
    have : g = k := by simpa [FS, Value.ownBlock] using hk
    subst this
    exact hat
  have dj : ∀ (B : Nat → Prop), Disj B (FS vx) → (∀ k, B k → k < W.heap.size) → Disj B (FS (.slice (some ⟨g, 0, none⟩) l'.length cap)) := fun B hd hlt k hb hk => by
    rcases hx0 k hk with h1 | h1
    · exact hd k hb h1
    · have := hlt k hb; omega
  refine ⟨h.fa.keep hk (h.ax _ (.inl rfl)) (fun k hv => h.ax k (.inr hv)), h.fb.keep hk (h.bx _ (.inl rfl)) (fun k hv => h.bx k (.inr hv)), ⟨ho, fun e => (hne e).elim⟩, h.sy.keep hk (fun k hk => h.xy.symm k hk), h.below.trans (hk.below h.below.size h.ux), h.ua, h.ub, ?_, h.uy, h.ab,
    dj _ h.ax (fun k hk => h.fa.flt hk), h.ay, dj _ h.bx (fun k hk => h.fb.flt hk), h.bY, (dj _ h.xy.symm (fun k hk => h.sy.lt hk)).symm⟩
  intro k hk
  rcases hx0 k hk with h1 | h1
  · exact h.ux k h1
  · exact Nat.le_trans h.below.size h1
theorem two_root (h : Two w0 W pa pb va vb la lb vx vy lx ly) : Calls Try.prog 30 #[.pointer (some ⟨pa, 0, none⟩)] W fun e w' => e = .returned (sv (rt la)) ∧ Two w0 w' pa pb va vb la lb vx vy lx ly :=
  (root_live W pa va la h.fa).mono fun e w' ⟨he, hb⟩ => ⟨he, h.mem hb⟩
theorem SRow.sums {v : Value} {l : List Sum} (h : SRow W v l) : SumsAt W v l := sums_own h.1
end
theorem wpList_build_sums {w : World} {ops : Array Oper} {rest : List Oper} {o : Oper} {a : Act} {Q : Exit → Act → World → Prop} (hgd : o.guard = none) (len : Nat) (parts : Array (Nat × Operand)) (ho : o.op = .buildSlice 22 len parts) (l : List Sum) (hl : l.length = len) (h0 : 0 < len) (h1 : len ≤ 1000)
    (hp : (parts.toList.map fun (i, x) => (i, a.eval x)) = (((l.map fun s => sv s)).zipIdx 0).map fun x => (x.2, x.1))
    (h : wpList Try.prog ops Q rest (a.put o.dst (.slice (some ⟨w.heap.size, 0, none⟩) len len)) (w.alloc (.cells (cellsAll l).toArray 24))) : wpList Try.prog ops Q (o :: rest) a w :=
  wpList_plain hgd fun _ hK => wp_build_sums len parts ho l hl h0 h1 hp (hK _ _ h)
theorem wpList_store_nine {ops : Array Oper} {rest : List Oper} {op : Oper} {a : Act} {w : World} {Q : Exit → Act → World → Prop} (hgd : op.guard = none) (x y : Operand) (ho : op.op = .store 24 x y)
    (b o : Nat) (hx : a.eval x = .pointer (some ⟨b, o, none⟩)) (hy : a.eval y = (Value.agg #[.int .u8 9, .int .u8 0, .int .u8 0, .int .u8 0, .int .u8 0, .int .u8 0, .int .u8 0, .int .u8 0, .int .u8 0, .int .u8 0, .int .u8 0, .int .u8 0, .int .u8 0, .int .u8 0, .int .u8 0, .int .u8 0, .int .u8 0, .int .u8 0, .int .u8 0, .int .u8 0, .int .u8 0, .int .u8 0, .int .u8 0, .int .u8 0, .int .u8 0, .int .u8 0, .int .u8 0, .int .u8 0, .int .u8 0, .int .u8 0, .int .u8 0, .int .u8 0]))
    (ht : w.there b o 32) (h : wpList Try.prog ops Q rest (a.put op.dst undef) (w.setCells b o (cellsOf (lit 9)))) : wpList Try.prog ops Q (op :: rest) a w :=
  wpList_store_sum hgd x y ho b o (lit 9) hx (hy.trans val_9) ht h
set_option maxRecDepth 100000 in
set_option maxHeartbeats 4000000 in
theorem frontsTwo_any (l : List Sum) (v : Value) (to : List Bool) (u : Value) (w : World) (hv : SumsAt w v l) (hu : BoolsAt w u to) : Calls Try.prog 8 #[v, u] w fun e w' => e = .returned (.bool true) ∧ Below w.heap.size w w' := by
  obtain ⟨a, cap, rfl, h1, h2, h3⟩ := hv
  obtain ⟨au, capu, rfl, hu1, hu2, hu3⟩ := hu
  obtain ⟨n, hn⟩ : ∃ n, n = l.length := ⟨_, rfl⟩
  obtain ⟨m, hm⟩ : ∃ m, m = to.length := ⟨_, rfl⟩
  rw [← hn] at h1 ⊢
  rw [← hm] at hu1 ⊢
  have HN := Lib.hid hn; clear hn
  have HM := Lib.hid hm; clear hm
  unfold maxLen at h2 hu2
  by_cases hgt : 150 < n
  · have hgt' : (150 : Int) < (n : Int) := by omega
    go_enter Try.func8, Try.ntmps8
    go_wp2_with fail
    refine (alive_fronts w).mono ?_
    rintro e w1 ⟨rfl, hb⟩
    go_wp2_with fail
    exact bodyPost_ret (results_tmp rfl _ _ _) rfl ⟨rfl, hb⟩
  have hle : decide ((150 : Int) < (n : Int)) = false := decide_eq_false (by omega)
  by_cases hgu : 1000 < m
  · have hgt' : (1000 : Int) < (m : Int) := by omega
    go_enter Try.func8, Try.ntmps8
    go_wp2_with fail
    refine (alive_fronts w).mono ?_
    rintro e w1 ⟨rfl, hb⟩
    go_wp2_with fail
    exact bodyPost_ret (results_tmp rfl _ _ _) rfl ⟨rfl, hb⟩
  have hlu : decide ((1000 : Int) < (m : Int)) = false := decide_eq_false (by omega)
  have hn0 : (n : Int) ≤ 150 := by omega
  have hm0 : (m : Int) ≤ 1000 := by omega
  go_enter Try.func8, Try.ntmps8
  go_wp2_with fail
  refine (new_front w).mono ?_
  rintro e w1 ⟨rfl, hF1, hB1⟩
  have hlt1 := hF1.lt
  go_wp2_with fail
  refine (new_front w1).mono ?_
  rintro e w2 ⟨rfl, hF2, hB2⟩
  have hT : Two w w2 w.heap.size w1.heap.size (.slice none 0 0) (.slice none 0 0) [] [] (.slice none 0 0) (.slice none 0 0) [] [] :=
    ⟨hF1.below hB2, hF2, ⟨World.ownsRow_nil _ _ _ _, fun _ => rfl⟩, ⟨World.ownsRow_nil _ _ _ _, fun _ => rfl⟩, hB1.trans (hB2.mono hB1.size),
      fun k hk => (by rcases hk with rfl | hk; exact Nat.le_refl _; cases hk), fun k hk => (by rcases hk with rfl | hk; exact hB1.size; cases hk), fun k hk => (by cases hk), fun k hk => (by cases hk),
      fun k hk hk2 => (by rcases hk with rfl | hk; rcases hk2 with h | h; omega; cases h; cases hk), fun k _ hk => (by cases hk), fun k _ hk => (by cases hk), fun k _ hk => (by cases hk), fun k _ hk => (by cases hk), fun k hk => (by cases hk)⟩
  obtain ⟨pa, hpa⟩ : ∃ pa, pa = w.heap.size := ⟨_, rfl⟩
  obtain ⟨pb, hpb⟩ : ∃ pb, pb = w1.heap.size := ⟨_, rfl⟩
  rw [← hpb] at hT ⊢
  have HT : Hid (Two w w2 pa pb (.slice none 0 0) (.slice none 0 0) [] [] (.slice none 0 0) (.slice none 0 0) [] []) := by rw [hpa]; exact hT
  rw [← hpa]
  clear hT hpa hpb hF1 hF2 hB1 hB2 hlt1
  go_wp2_with fail
  go_loopw [7, 8, 9] (fun vx vy i W => ∃ (j : Nat) (la lb : List Sum) (va vb : Value), j ≤ n ∧ i = .int .i64 (j : Int) ∧ la.length ≤ j ∧ lb.length ≤ j ∧ Two w W pa pb va vb la lb vx vy la lb) (fun _ _ i _ => n - (intOf i).toNat)
  case atStart => exact ⟨0, [], [], _, _, by omega, rfl, Nat.le_refl _, Nat.le_refl _, HT.out⟩
  case round =>
    clear HT
    obtain ⟨j, la, lb, va, vb, hj, rfl, hla, hlb, hT⟩ := hrel
    have HT := Lib.hid hT; clear hT
    by_cases hlt : j < n
    · have hlt' : (j : Int) < (n : Int) := by omega
      have hj0 : (0 : Int) ≤ (j : Int) := by omega
      have hne : l ≠ [] := by intro h; have := HN.out; rw [h] at this; simp at this; omega
      obtain ⟨b, o, rfl, hr⟩ := h3.resolve_left hne
      have hjl : j < l.length := by have := HN.out; omega
      have hxl : b < w.heap.size := range_lt (range_at hr hjl) (by intro h; have := length_cellsOf l[j]; rw [h] at this; cases this)
      have HXL := Lib.hid hxl
      have hx := Lib.hid (range_below HT.out.below (range_at hr hjl) hxl)
      have HXW := Lib.hid (range_at hr hjl)
      generalize l[j] = y at *
      clear hr hne hxl
      by_cases hjm : j < m
      · have hjm' : (j : Int) < (m : Int) := by omega
        have hnu : to ≠ [] := by intro h; have := HM.out; rw [h] at this; simp at this; omega
        obtain ⟨bu, ou, rfl, hru⟩ := hu3.resolve_left hnu
        have hju : j < to.length := by have := HM.out; omega
        have hcu : wr.cell? ⟨bu, ou + j, none⟩ = some (.bool to[j]) := by
          have h0 := hru j (.bool to[j]) (by simp [hju])
          exact (HT.out.below.cell (p := ⟨bu, ou + j, none⟩) (World.block_lt_of_cell? w _ h0)).trans h0
        clear hru hnu
        cases hto : to[j]
        · rw [hto] at hcu
          clear hto
          go_wp2_with (refine wpList_load_sum rfl _ rfl b (o + j * 32) rfl y hx.out ?_)
          refine (two_add y HT.out (by omega)).mono ?_
          rintro e w3 ⟨rfl, va3, hT⟩
          have HT3 := Lib.hid hT; clear hT HT
          have hx3 := Lib.hid (range_below HT3.out.below HXW.out HXL.out)
          have HT4 := Lib.hid (HT3.out.mem (al (Below.refl _ w3) (.cells (cellsAll [y]).toArray 24)))
          have hb4 : Hid ((w3.alloc (.cells (cellsAll [y]).toArray 24)).rangeAt w3.heap.size 0 (cellsAll [y])) := range_new w3 _ _ _ rfl
          go_wp2_with (first
            | (refine wpList_load_sum rfl _ rfl b (o + j * 32) rfl y hx3.out ?_)
            | (refine wpList_build_sums rfl 1 _ rfl [y] rfl (by omega) (by omega) rfl ?_)
            | (at_builtin; refine wpList_append_sums rfl _ _ rfl 0 _ la [y] la.length 1 rfl rfl (by rfl) HT4.out.sx.1 w3.heap.size 0 1 rfl hb4.out (by omega) (by omega) (by omega) ?_; intro g4 cap4 w5 ho5 hg5 hat5 hlt5))
          have hT5 := two_append HT4.out (l' := la ++ [y]) (by rw [List.length_append, List.length_singleton]; exact ho5) (by simp) hg5 (hat5.imp id (fun h => by rw [h]; exact Nat.le_refl _))
          rw [List.length_append, List.length_singleton] at hT5
          have HT5 := Lib.hid hT5
          clear hT5 HT3 HT4 hb4 hx3 ho5 hg5 hat5 hlt5
          have hlx : (la ++ [y]).length ≤ j + 1 := by rw [List.length_append, List.length_singleton]; omega
          have hly : lb.length ≤ j + 1 := by omega
          generalize la ++ [y] = lx at *
          generalize (Value.slice (some ⟨g4, 0, none⟩) (la.length + 1) cap4) = vx at *
          go_wp2_with fail
          refine (sums_live w5 pa _ _ HT5.out.fa).mono ?_
          rintro e w6 ⟨v6, rfl, hs, hb⟩
          have HT6 := Lib.hid (HT5.out.mem hb)
          clear hb
          obtain ⟨a6, q6, c6, rfl, hq6, hg6⟩ : ∃ a6 q6 c6, v6 = .slice a6 q6 c6 ∧ q6 ≤ 200 ∧ (q6 = 0 ∨ ∃ g, a6 = some ⟨g, 0, none⟩ ∧ w5.heap.size ≤ g ∧ w6.there g 0 (32 * q6)) := by
            rcases hs with ⟨rfl, _⟩ | ⟨g, c, rfl, _, hc1, hc2, hgb, _, hth⟩
            · exact ⟨none, 0, 0, rfl, by omega, .inl rfl⟩
            · have hk6 := HT5.out.fa.len
              have := bits_le lx.length
              exact ⟨_, _, c, rfl, by omega, .inr ⟨g, rfl, hgb, hth⟩⟩
          have hdis : ∀ g, w5.heap.size ≤ g → Disj (FA pa _) (· = g) ∧ Disj (FA pb _) (· = g) ∧ Disj (FS _) (· = g) ∧ Disj (FS _) (· = g) := fun g hg => HT5.out.new hg
          have HD := Lib.hid hdis
          have hs5 := HT5.out.below.size
          clear hs hdis HT5
          have hq6' : (q6 : Int) ≤ 200 := by omega
          go_wp2_with fail
          go_loopw [11] (fun k W => ∃ q : Nat, q ≤ q6 ∧ k = .int .i64 (q : Int) ∧ Two w W pa pb _ _ lx lb _ _ lx lb ∧ (q6 = 0 ∨ ∃ g, a6 = some ⟨g, 0, none⟩ ∧ w5.heap.size ≤ g ∧ W.there g 0 (32 * q6))) (fun k _ => q6 - (intOf k).toNat)
          case atStart => exact ⟨0, by omega, rfl, HT6.out, hg6⟩
          case round =>
            clear HT6 hg6
            obtain ⟨q, hq, rfl, hT, hg⟩ := hrel
            have HT7 := Lib.hid hT; clear hT
            by_cases hqq : q < q6
            · have hqq' : (q : Int) < (q6 : Int) := by omega
              have hq0 : (0 : Int) ≤ (q : Int) := by omega
              obtain ⟨g, rfl, hgg, hth⟩ := hg.resolve_left (by omega)
              have HTH := Lib.hid hth; clear hth hg
              have hst9 : Hid (wr.there g (q * 32) 32) := fun k hk => by have := HTH.out (q * 32 + k) (by omega); rwa [Nat.zero_add] at this
              go_wp2_with (refine wpList_store_nine rfl _ _ rfl g (q * 32) rfl rfl hst9.out ?_)
              have hle8 : w.heap.size ≤ g := Nat.le_trans hs5 hgg
              have HT8 := Lib.hid (HT7.out.keep (keeps_setCells g (cellsOf (lit 9)) (q * 32) _) (fun k hk => hk ▸ hle8) (HD.out g hgg).1 (HD.out g hgg).2.1 (HD.out g hgg).2.2.1 (HD.out g hgg).2.2.2)
              have HTH8 := Lib.hid (World.there_setCells HTH.out g (q * 32) (cellsOf (lit 9)))
              clear HT7 HTH
              go_wp2_with fail
              exact ⟨⟨q + 1, by omega, by simp, HT8.out, .inr ⟨g, rfl, hgg, HTH8.out⟩⟩, by simp [intOf]; omega⟩
            · have hqe : q = q6 := by omega
              subst hqe
              go_wp2_with fail
              exact ⟨⟨j + 1, _, _, _, _, by omega, by simp, hlx, hly, HT7.out⟩, by simp [intOf]; omega⟩
        · rw [hto] at hcu
          clear hto
          go_wp2_with (refine wpList_load_sum rfl _ rfl b (o + j * 32) rfl y hx.out ?_)
          refine (two_add y HT.out.swap (by omega)).mono ?_
          rintro e w3 ⟨rfl, va3, hT⟩
          have HT3 := Lib.hid hT; clear hT HT
          have hx3 := Lib.hid (range_below HT3.out.below HXW.out HXL.out)
          have HT4 := Lib.hid (HT3.out.mem (al (Below.refl _ w3) (.cells (cellsAll [y]).toArray 24)))
          have hb4 : Hid ((w3.alloc (.cells (cellsAll [y]).toArray 24)).rangeAt w3.heap.size 0 (cellsAll [y])) := range_new w3 _ _ _ rfl
          go_wp2_with (first
            | (refine wpList_load_sum rfl _ rfl b (o + j * 32) rfl y hx3.out ?_)
            | (refine wpList_build_sums rfl 1 _ rfl [y] rfl (by omega) (by omega) rfl ?_)
            | (at_builtin; refine wpList_append_sums rfl _ _ rfl 0 _ lb [y] lb.length 1 rfl rfl (by rfl) HT4.out.sx.1 w3.heap.size 0 1 rfl hb4.out (by omega) (by omega) (by omega) ?_; intro g4 cap4 w5 ho5 hg5 hat5 hlt5))
          have hT5 := two_append HT4.out (l' := lb ++ [y]) (by rw [List.length_append, List.length_singleton]; exact ho5) (by simp) hg5 (hat5.imp id (fun h => by rw [h]; exact Nat.le_refl _))
          rw [List.length_append, List.length_singleton] at hT5
          have HT5 := Lib.hid hT5.swap
          clear hT5 HT3 HT4 hb4 hx3 ho5 hg5 hat5 hlt5
          have hly : (lb ++ [y]).length ≤ j + 1 := by rw [List.length_append, List.length_singleton]; omega
          have hlx : la.length ≤ j + 1 := by omega
          generalize lb ++ [y] = ly at *
          generalize (Value.slice (some ⟨g4, 0, none⟩) (lb.length + 1) cap4) = vy at *
          go_wp2_with fail
          refine (sums_live w5 pa _ _ HT5.out.fa).mono ?_
          rintro e w6 ⟨v6, rfl, hs, hb⟩
          have HT6 := Lib.hid (HT5.out.mem hb)
          clear hb
          obtain ⟨a6, q6, c6, rfl, hq6, hg6⟩ : ∃ a6 q6 c6, v6 = .slice a6 q6 c6 ∧ q6 ≤ 200 ∧ (q6 = 0 ∨ ∃ g, a6 = some ⟨g, 0, none⟩ ∧ w5.heap.size ≤ g ∧ w6.there g 0 (32 * q6)) := by
            rcases hs with ⟨rfl, _⟩ | ⟨g, c, rfl, _, hc1, hc2, hgb, _, hth⟩
            · exact ⟨none, 0, 0, rfl, by omega, .inl rfl⟩
            · have hk6 := HT5.out.fa.len
              have := bits_le la.length
              exact ⟨_, _, c, rfl, by omega, .inr ⟨g, rfl, hgb, hth⟩⟩
          have hdis : ∀ g, w5.heap.size ≤ g → Disj (FA pa _) (· = g) ∧ Disj (FA pb _) (· = g) ∧ Disj (FS _) (· = g) ∧ Disj (FS _) (· = g) := fun g hg => HT5.out.new hg
          have HD := Lib.hid hdis
          have hs5 := HT5.out.below.size
          clear hs hdis HT5
          have hq6' : (q6 : Int) ≤ 200 := by omega
          go_wp2_with fail
          go_loopw [11] (fun k W => ∃ q : Nat, q ≤ q6 ∧ k = .int .i64 (q : Int) ∧ Two w W pa pb _ _ la ly _ _ la ly ∧ (q6 = 0 ∨ ∃ g, a6 = some ⟨g, 0, none⟩ ∧ w5.heap.size ≤ g ∧ W.there g 0 (32 * q6))) (fun k _ => q6 - (intOf k).toNat)
          case atStart => exact ⟨0, by omega, rfl, HT6.out, hg6⟩
          case round =>
            clear HT6 hg6
            obtain ⟨q, hq, rfl, hT, hg⟩ := hrel
            have HT7 := Lib.hid hT; clear hT
            by_cases hqq : q < q6
            · have hqq' : (q : Int) < (q6 : Int) := by omega
              have hq0 : (0 : Int) ≤ (q : Int) := by omega
              obtain ⟨g, rfl, hgg, hth⟩ := hg.resolve_left (by omega)
              have HTH := Lib.hid hth; clear hth hg
              have hst9 : Hid (wr.there g (q * 32) 32) := fun k hk => by have := HTH.out (q * 32 + k) (by omega); rwa [Nat.zero_add] at this
              go_wp2_with (refine wpList_store_nine rfl _ _ rfl g (q * 32) rfl rfl hst9.out ?_)
              have hle8 : w.heap.size ≤ g := Nat.le_trans hs5 hgg
              have HT8 := Lib.hid (HT7.out.keep (keeps_setCells g (cellsOf (lit 9)) (q * 32) _) (fun k hk => hk ▸ hle8) (HD.out g hgg).1 (HD.out g hgg).2.1 (HD.out g hgg).2.2.1 (HD.out g hgg).2.2.2)
              have HTH8 := Lib.hid (World.there_setCells HTH.out g (q * 32) (cellsOf (lit 9)))
              clear HT7 HTH
              go_wp2_with fail
              exact ⟨⟨q + 1, by omega, by simp, HT8.out, .inr ⟨g, rfl, hgg, HTH8.out⟩⟩, by simp [intOf]; omega⟩
            · have hqe : q = q6 := by omega
              subst hqe
              go_wp2_with fail
              exact ⟨⟨j + 1, _, _, _, _, by omega, by simp, hlx, hly, HT7.out⟩, by simp [intOf]; omega⟩
      · have hjm' : decide ((j : Int) < (m : Int)) = false := decide_eq_false (by omega)
        go_wp2_with (refine wpList_load_sum rfl _ rfl b (o + j * 32) rfl y hx.out ?_)
        refine (two_add y HT.out (by omega)).mono ?_
        rintro e w3 ⟨rfl, va3, hT⟩
        have HT3 := Lib.hid hT; clear hT HT
        have hx3 := Lib.hid (range_below HT3.out.below HXW.out HXL.out)
        have HT4 := Lib.hid (HT3.out.mem (al (Below.refl _ w3) (.cells (cellsAll [y]).toArray 24)))
        have hb4 : Hid ((w3.alloc (.cells (cellsAll [y]).toArray 24)).rangeAt w3.heap.size 0 (cellsAll [y])) := range_new w3 _ _ _ rfl
        go_wp2_with (first
          | (refine wpList_load_sum rfl _ rfl b (o + j * 32) rfl y hx3.out ?_)
          | (refine wpList_build_sums rfl 1 _ rfl [y] rfl (by omega) (by omega) rfl ?_)
          | (at_builtin; refine wpList_append_sums rfl _ _ rfl 0 _ la [y] la.length 1 rfl rfl (by rfl) HT4.out.sx.1 w3.heap.size 0 1 rfl hb4.out (by omega) (by omega) (by omega) ?_; intro g4 cap4 w5 ho5 hg5 hat5 hlt5))
        have hT5 := two_append HT4.out (l' := la ++ [y]) (by rw [List.length_append, List.length_singleton]; exact ho5) (by simp) hg5 (hat5.imp id (fun h => by rw [h]; exact Nat.le_refl _))
        rw [List.length_append, List.length_singleton] at hT5
        have HT5 := Lib.hid hT5
        clear hT5 HT3 HT4 hb4 hx3 ho5 hg5 hat5 hlt5
        have hlx : (la ++ [y]).length ≤ j + 1 := by rw [List.length_append, List.length_singleton]; omega
        have hly : lb.length ≤ j + 1 := by omega
        generalize la ++ [y] = lx at *
        generalize (Value.slice (some ⟨g4, 0, none⟩) (la.length + 1) cap4) = vx at *
        go_wp2_with fail
        refine (sums_live w5 pa _ _ HT5.out.fa).mono ?_
        rintro e w6 ⟨v6, rfl, hs, hb⟩
        have HT6 := Lib.hid (HT5.out.mem hb)
        clear hb
        obtain ⟨a6, q6, c6, rfl, hq6, hg6⟩ : ∃ a6 q6 c6, v6 = .slice a6 q6 c6 ∧ q6 ≤ 200 ∧ (q6 = 0 ∨ ∃ g, a6 = some ⟨g, 0, none⟩ ∧ w5.heap.size ≤ g ∧ w6.there g 0 (32 * q6)) := by
          rcases hs with ⟨rfl, _⟩ | ⟨g, c, rfl, _, hc1, hc2, hgb, _, hth⟩
          · exact ⟨none, 0, 0, rfl, by omega, .inl rfl⟩
          · have hk6 := HT5.out.fa.len
            have := bits_le lx.length
            exact ⟨_, _, c, rfl, by omega, .inr ⟨g, rfl, hgb, hth⟩⟩
        have hdis : ∀ g, w5.heap.size ≤ g → Disj (FA pa _) (· = g) ∧ Disj (FA pb _) (· = g) ∧ Disj (FS _) (· = g) ∧ Disj (FS _) (· = g) := fun g hg => HT5.out.new hg
        have HD := Lib.hid hdis
        have hs5 := HT5.out.below.size
        clear hs hdis HT5
        have hq6' : (q6 : Int) ≤ 200 := by omega
        go_wp2_with fail
        go_loopw [11] (fun k W => ∃ q : Nat, q ≤ q6 ∧ k = .int .i64 (q : Int) ∧ Two w W pa pb _ _ lx lb _ _ lx lb ∧ (q6 = 0 ∨ ∃ g, a6 = some ⟨g, 0, none⟩ ∧ w5.heap.size ≤ g ∧ W.there g 0 (32 * q6))) (fun k _ => q6 - (intOf k).toNat)
        case atStart => exact ⟨0, by omega, rfl, HT6.out, hg6⟩
        case round =>
          clear HT6 hg6
          obtain ⟨q, hq, rfl, hT, hg⟩ := hrel
          have HT7 := Lib.hid hT; clear hT
          by_cases hqq : q < q6
          · have hqq' : (q : Int) < (q6 : Int) := by omega
            have hq0 : (0 : Int) ≤ (q : Int) := by omega
            obtain ⟨g, rfl, hgg, hth⟩ := hg.resolve_left (by omega)
            have HTH := Lib.hid hth; clear hth hg
            have hst9 : Hid (wr.there g (q * 32) 32) := fun k hk => by have := HTH.out (q * 32 + k) (by omega); rwa [Nat.zero_add] at this
            go_wp2_with (refine wpList_store_nine rfl _ _ rfl g (q * 32) rfl rfl hst9.out ?_)
            have hle8 : w.heap.size ≤ g := Nat.le_trans hs5 hgg
            have HT8 := Lib.hid (HT7.out.keep (keeps_setCells g (cellsOf (lit 9)) (q * 32) _) (fun k hk => hk ▸ hle8) (HD.out g hgg).1 (HD.out g hgg).2.1 (HD.out g hgg).2.2.1 (HD.out g hgg).2.2.2)
            have HTH8 := Lib.hid (World.there_setCells HTH.out g (q * 32) (cellsOf (lit 9)))
            clear HT7 HTH
            go_wp2_with fail
            exact ⟨⟨q + 1, by omega, by simp, HT8.out, .inr ⟨g, rfl, hgg, HTH8.out⟩⟩, by simp [intOf]; omega⟩
          · have hqe : q = q6 := by omega
            subst hqe
            go_wp2_with fail
            exact ⟨⟨j + 1, _, _, _, _, by omega, by simp, hlx, hly, HT7.out⟩, by simp [intOf]; omega⟩
    · have hjn : j = n := by omega
      subst hjn
      have hes := eq_sums_same
      go_wp2_with fail
      refine (alive_fronts wr).mono ?_
      rintro e w3 ⟨rfl, hb⟩
      have HT3 := Lib.hid (HT.out.mem hb); clear hb HT
      go_wp2_with fail
      refine (two_root HT3.out).mono ?_
      rintro e w4 ⟨rfl, hT⟩
      have HT4 := Lib.hid hT; clear hT HT3
      go_wp2_with fail
      refine (rt_any la _ _ HT4.out.sx.sums).mono ?_
      rintro e w5 ⟨rfl, hb⟩
      have HT5 := Lib.hid (HT4.out.mem hb); clear hb HT4
      go_wp2_with fail
      refine (two_root HT5.out.swap).mono ?_
      rintro e w6 ⟨rfl, hT⟩
      have HT6 := Lib.hid hT.swap; clear hT HT5
      go_wp2_with fail
      refine (rt_any lb _ _ HT6.out.sy.sums).mono ?_
      rintro e w7 ⟨rfl, hb⟩
      have HT7 := Lib.hid (HT6.out.mem hb); clear hb HT6
      go_wp2_with fail
      exact bodyPost_ret (results_tmp rfl _ _ _) rfl ⟨rfl, HT7.out.below⟩
end Go.Proofs.Ytdkcndgehgmadaa
