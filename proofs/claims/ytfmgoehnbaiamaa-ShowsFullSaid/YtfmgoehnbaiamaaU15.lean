/-
  Walk: law 15's alive.
-/
import Derived.Test.YtfmgoehnbaiamaaU14
import Derived.Lib.SlBytesConst
import Derived.Lib.SlBytesRow
open Go Go.RowKit Alm
namespace Go.Proofs.Ytfmgoehnbaiamaa
theorem bytes_marked (w : World) (x : UInt8) : BytesAt (w.alloc (.cells #[.int .u8 ((x.toNat : Nat) : Int)] 5 (1, 2))) (.slice (some ⟨w.heap.size, 0, none⟩) 1 1) [x] := by
  refine ⟨_, 1, rfl, Nat.le_refl _, by decide, .inr ⟨w.heap.size, 0, rfl, fun j v hv => ?_⟩⟩
  have hh : (w.alloc (.cells #[.int .u8 ((x.toNat : Nat) : Int)] 5 (1, 2))).heap[w.heap.size]? = some (.cells #[.int .u8 ((x.toNat : Nat) : Int)] 5 (1, 2)) := by
    show (w.heap.push _)[w.heap.size]? = _
    simp
  rw [cell_of_row _ _ _ _ _ (1, 2) hh, Nat.zero_add]
  have hj : j < 1 := by have := (List.getElem?_eq_some_iff.1 hv).1; simpa [cells8] using this
  have : j = 0 := by omega
  subst this
  simpa [cells8, u8v] using hv
theorem bytes_string {w : World} {v : Value} (x : UInt8) (h : BytesAt w v [x]) : (convert 34 9 v).run Try.prog w = .ok (.string ⟨#[x]⟩) w := by
  obtain ⟨a, cap, rfl, h1, h2, h3⟩ := h
  obtain ⟨b, o, rfl, hr⟩ := h3.resolve_left (by simp)
  exact Lib.run_convert_whole w 34 5 9 Try.underlying34 Try.underlying5 Try.underlying9 b o ⟨#[x]⟩ (fun i hi => by
    have hi' : i = 0 := by have : i < 1 := hi; omega
    subst hi'
    exact hr 0 _ rfl) cap
/-- What alive has in hand. -/
structure AV (w W : World) (p b n : Nat) (l : List Ent) (R : List (Nat × Sum)) (B : List (Value × List UInt8)) : Prop where
  map : MapIn W p b n l
  r : ∀ q ∈ R, W.rangeAt q.1 0 (cellsOf q.2)
  y : ∀ q ∈ B, BytesAt W q.1 q.2
  bw : Below w.heap.size w W
  hb : w.heap.size ≤ b
theorem AV.below {w W W' : World} {p b n : Nat} {l : List Ent} {R : List (Nat × Sum)} {B : List (Value × List UInt8)} (h : AV w W p b n l R B) (hb : Below W.heap.size W W') : AV w W' p b n l R B :=
  ⟨h.map.below hb, fun q hq => (Keeps.of_below (X := fun _ => False) hb).range (h.r q hq) (fun h => h), fun q hq => bytes_below (h.y q hq) hb (Nat.le_refl _), h.bw.trans (hb.mono h.bw.size), h.hb⟩
theorem AV.addR {w W : World} {p b n : Nat} {l : List Ent} {R : List (Nat × Sum)} {B : List (Value × List UInt8)} (h : AV w W p b n l R B) {z : Nat} {s : Sum} (hr : W.rangeAt z 0 (cellsOf s)) : AV w W p b n l ((z, s) :: R) B :=
  ⟨h.map, fun q hq => by rcases List.mem_cons.1 hq with rfl | hq; exact hr; exact h.r q hq, h.y, h.bw, h.hb⟩
theorem AV.addY {w W : World} {p b n : Nat} {l : List Ent} {R : List (Nat × Sum)} {B : List (Value × List UInt8)} (h : AV w W p b n l R B) {v : Value} {s : List UInt8} (hr : BytesAt W v s) : AV w W p b n l R ((v, s) :: B) :=
  ⟨h.map, h.r, fun q hq => by rcases List.mem_cons.1 hq with rfl | hq; exact hr; exact h.y q hq, h.bw, h.hb⟩
theorem cellsOf_ne (s : Sum) : cellsOf s ≠ [] := fun h => by have := length_cellsOf s; rw [h] at this; cases this
theorem AV.put {w W W' : World} {p b n n' : Nat} {l l' : List Ent} {R : List (Nat × Sum)} {B : List (Value × List UInt8)} (h : AV w W p b n l R B) (hm : MapIn W' p b n' l') (hk : Keeps (fun i => i = b) W W') : AV w W' p b n' l' R B :=
  ⟨hm, fun q hq => hk.range (h.r q hq) (range_maps h.map.on (h.r q hq) (cellsOf_ne _)), fun q hq => bytes_maps h.map.on hk (h.y q hq), h.bw.trans (hk.below h.bw.size (fun k hk => by have := h.hb; omega)), h.hb⟩
theorem one_put : Keys.putB [] (lit 7) [97] = [(lit 7, [97])] := rfl
theorem one_del : Keys.putB [(lit 7, [97])] (lit 7) [] = [] := by
  unfold Keys.putB Keys.del
  simp
theorem one_get : Keys.get [(lit 7, [97])] (lit 7) = [97] := by
  simp [Keys.get]
theorem one_get8 : Keys.get [(lit 7, [97])] (lit 8) = [] :=
  Keys.get_none fun p hp => by rw [List.mem_singleton.1 hp]; exact lit_ne (by decide)
theorem zeros257 (w : World) (base : Nat) (v : Value) (h : w.ownsRow base 5 1 v 257 (madeCells (Value.int .u8 0).cells (257 * 1)).toList) : BytesAt w v (List.replicate 257 0) := by
  have e : (madeCells (Value.int .u8 0).cells (257 * 1)).toList = cells8 (List.replicate 257 0) := by kernel_rfl
  rw [e] at h
  have hl : (List.replicate 257 (0 : UInt8)).length = 257 := List.length_replicate
  exact bytes_own (by rw [hl]; exact h) (by rw [hl]; omega)
set_option maxRecDepth 100000 in
set_option maxHeartbeats 2000000 in
theorem alive15_any (w : World) : Calls Try.prog 20 #[] w fun e w' => e = .returned (.bool true) ∧ Below w.heap.size w w' := by
  have kc := fun (w : World) (C : Array Value) (n c : Nat) => Lib.run_convert_bytes_const (P := Try.prog) w 34 5 C n c Try.underlying34 Try.underlying5
  obtain ⟨ea, hea⟩ : ∃ y, y = em 256 := ⟨_, rfl⟩
  obtain ⟨eo, heo⟩ : ∃ y, y = rootOf [(lit 7, [97])] := ⟨_, rfl⟩
  have hne : eo ≠ ea := by rw [hea, heo]; exact root_one_ne
  have HY := Lib.hid (And.intro hea (And.intro heo hne))
  clear hea heo hne
  go_enter Try.func20, Try.ntmps20
  go_wp2_with fail
  refine (mnew_any w).mono ?_
  rintro e w1 ⟨rfl, hm, hb⟩
  obtain ⟨p, hp⟩ : ∃ p, p = w.heap.size + 1 := ⟨_, rfl⟩
  obtain ⟨b, hbb⟩ : ∃ b, b = w.heap.size := ⟨_, rfl⟩
  rw [← hp, ← hbb] at hm
  rw [← hp]
  have HA := Lib.hid (show AV w w1 p b 0 [] [] [] from ⟨hm, by simp, by simp, hb, by omega⟩)
  clear hm hb hp hbb
  go_wp2_with fail
  have HR := Lib.hid (mroot_any w1 p b 0 [] HA.out.map (by simp))
  rw [show prs [] = [] from rfl, root_nil, ← HY.out.1] at HR
  refine HR.out.mono ?_
  rintro e w2 ⟨rfl, hb⟩
  have HA2 := Lib.hid (HA.out.below hb)
  clear HA HR hb
  have HG := Lib.hid trivial
  go_wp2_with (have _ := HG; refine wpList_var_sum (by rfl) rfl _ _ rfl ea rfl rfl ?_; intro w3 hb hr _; obtain ⟨z3, hz3⟩ : ∃ x, x = w2.heap.size := ⟨_, rfl⟩; rw [← hz3] at hr ⊢; have HA3 := Lib.hid ((HA2.out.below hb).addR hr); clear HG hb hr hz3 HA2)
  have b1 := al (Below.refl _ w3) (.cells #[.int .u8 97] 5 (1, 2))
  have hy1 : BytesAt (w3.alloc (.cells #[.int .u8 97] 5 (1, 2))) (.slice (some ⟨w3.heap.size, 0, none⟩) 1 1) [97] := bytes_marked w3 97
  have H4 := Lib.hid (And.intro (HA3.out.below b1) hy1)
  clear HA3 b1 hy1
  rw [val_7]
  refine (mput_any (lit 7) [97] _ _ p b 0 [] H4.out.1.map (by omega) H4.out.2).mono ?_
  rintro e w4 ⟨rfl, l1, hm, hp, hk⟩
  rw [show prs [] = [] from rfl, one_put] at hp
  rw [show (if ([97] : List UInt8).length > 256 then (3 : Int) else 0) = 0 from rfl]
  have HA4 := Lib.hid (H4.out.1.put hm hk)
  have HL1 := Lib.hid hp
  clear H4 hm hp hk
  go_wp2_with fail
  rw [val_7]
  have HR := Lib.hid (mget_any (lit 7) w4 p b 1 l1 HA4.out.map)
  rw [HL1.out, one_get] at HR
  refine HR.out.mono ?_
  rintro e w5 ⟨v4, rfl, hN, hb⟩
  obtain ⟨a4, c4, rfl, _, _, _⟩ := hN.1
  have HA5 := Lib.hid ((HA4.out.below hb).addY hN.1)
  clear HA4 HR hN hb
  go_wp2_with fail
  rw [val_8]
  have HR := Lib.hid (mget_any (lit 8) w5 p b 1 l1 HA5.out.map)
  rw [HL1.out, one_get8] at HR
  refine HR.out.mono ?_
  rintro e w6 ⟨v6, rfl, hN, hb⟩
  obtain ⟨a6, c6, rfl, _, _, _⟩ := hN.1
  have HA6 := Lib.hid (HA5.out.below hb)
  clear HA5 HR hN hb
  go_wp2_with fail
  have HR := Lib.hid (mroot_any w6 p b 1 l1 HA6.out.map (by have := congrArg List.length HL1.out; simp [prs] at this; omega))
  rw [HL1.out, ← HY.out.2.1] at HR
  refine HR.out.mono ?_
  rintro e w7 ⟨rfl, hb⟩
  have HA7 := Lib.hid (HA6.out.below hb)
  clear HA6 HR hb
  have HG := Lib.hid trivial
  go_wp2_with (have _ := HG; refine wpList_var_sum (by rfl) rfl _ _ rfl eo rfl rfl ?_; intro w8 hb hr _; obtain ⟨z8, hz8⟩ : ∃ x, x = w7.heap.size := ⟨_, rfl⟩; rw [← hz8] at hr ⊢; have HA8 := Lib.hid ((HA7.out.below hb).addR hr); clear HG hb hr hz8 HA7)
  rw [val_7]
  refine (mput_any (lit 7) [] (.slice none 0 0) _ p b 1 l1 HA8.out.map (by omega) ⟨none, 0, rfl, by simp, by unfold maxLen; omega, .inl rfl⟩).mono ?_
  rintro e w9 ⟨rfl, l2, hm, hp, hk⟩
  rw [HL1.out, one_del] at hp
  rw [show (if ([] : List UInt8).length > 256 then (3 : Int) else 0) = 0 from rfl]
  have HA9 := Lib.hid (HA8.out.put hm hk)
  have HL2 := Lib.hid hp
  clear HA8 hm hp hk
  go_wp2_with fail
  have HR := Lib.hid (mpairs_any w9 p b 2 l2 HA9.out.map (by have := congrArg List.length HL2.out; simp [prs] at this; rw [this]; simp))
  rw [HL2.out] at HR
  refine HR.out.mono ?_
  rintro e w10 ⟨v10, rfl, hN, hb⟩
  obtain ⟨a10, c10, rfl, _, _⟩ := pairs_form hN
  have HA10 := Lib.hid (HA9.out.below hb)
  clear HA9 HR hN hb
  go_wp2_with fail
  have HR := Lib.hid (mroot_any w10 p b 2 l2 HA10.out.map (by have := congrArg List.length HL2.out; simp [prs] at this; rw [this]; simp))
  rw [HL2.out, root_nil, ← HY.out.1] at HR
  refine HR.out.mono ?_
  rintro e w11 ⟨rfl, hb⟩
  have HA11 := Lib.hid (HA10.out.below hb)
  clear HA10 HR hb
  have HG := Lib.hid trivial
  obtain ⟨i0, hi0, hz0⟩ := Option.map_eq_some_iff.1 infoByteZ
  simp only [Prod.mk.injEq] at hz0
  have HI := Lib.hid (And.intro hi0 hz0)
  clear hi0 hz0
  go_wp2_with (first
    | (have _ := HG; refine wpList_var_sum (by rfl) rfl _ _ rfl ea rfl rfl ?_; intro w12 hb hr _; obtain ⟨z12, hz12⟩ : ∃ x, x = w11.heap.size := ⟨_, rfl⟩; rw [← hz12] at hr ⊢; have HA12 := Lib.hid ((HA11.out.below hb).addR hr); clear HG hb hr hz12 HA11)
    | (at_make; refine wpList_make_full _ rfl _ _ _ rfl w12.heap.size 5 i0 (.int .u8 0) 1 Try.underlying34 HI.out.1 HI.out.2.1 HI.out.2.2.1 .i64 .i64 257 257 257 rfl rfl rfl rfl (by rw [HI.out.2.2.2]; omega) (by unfold maxLen; omega) (Nat.le_refl _) ?_; intro w13 ho hg; have HA13 := Lib.hid (HA12.out.below (Keeps.below (B := w12.heap.size) (Keeps.of_grown (X := fun _ => False) hg (fun k hk => by cases hk)) (Nat.le_refl _) (fun _ h => h.elim))); have HZ := Lib.hid (zeros257 _ _ _ ho); clear ho hg HA12; generalize w12.heap.size = g13 at *))
  rw [val_7]
  refine (mput_any (lit 7) (List.replicate 257 0) _ _ p b 2 l2 HA13.out.map (by omega) HZ.out).mono ?_
  rintro e w14 ⟨rfl, l3, hm, hp, hk⟩
  rw [show (if (List.replicate 257 (0 : UInt8)).length > 256 then (3 : Int) else 0) = 3 from by rw [List.length_replicate]; rfl]
  have HA14 := Lib.hid (HA13.out.put hm hk)
  clear HA13 hm hp hk HZ HI
  clear kc
  go_wp2_with fail
  refine wp_region_sched (fun V => AV w V p b 3 l3 [(z12, ea), (z8, eo), (z3, ea)] [(.slice a4 1 c4, [97])]) [.s 0, .e 1 true, .t 2, .t 3, .t 4, .t 5, .t 6, .t 7, .t 8, .t 9, .t 10, .t 11, .t 12, .s 13, .t 14, .t 15, .t 16, .t 17, .t 18, .t 19, .t 20, .t 21, .t 22, .t 23, .t 24, .t 25, .s 26, .e 27 true, .t 28, .t 29, .t 30, .t 31, .t 32, .t 33, .t 34, .t 35, .t 36, .t 37, .t 38, .t 39, .s 40, .e 41 true, .t 42, .t 43, .t 44, .t 45, .t 46, .t 47, .t 48] (by kernel_rfl) (by kernel_rfl) (by intro c a d v w h; cases d <;> exact h) ?_
  have HS := Lib.hid (HA14.out.below (Below.refl _ _).drew)
  clear HA14
  generalize w14.drew = V at *
  have hes := eq_sums_same ea
  have heo : ∀ w, (Op.equalIn 10000 29 (.agg (cellsOf eo).toArray) (.agg (cellsOf ea).toArray)).run Try.prog w = .ok false w := fun w => by rw [eq_sums, decide_eq_false HY.out.2.2]
  refine wpS_load_sum (by exact HS.out) rfl (by rfl) _ (by rfl) z3 0 (by rfl) ea (fun W hW => hW.r (z3, ea) (by simp)) ?_
  try simp only [Act.put, List.setIfInBounds_toArray, List.set_cons_zero, List.set_cons_succ]
  refine wpS_k rfl (by rfl) (fun K hK => ?_)
  go_simp
  have HR := Lib.hid (empty_any 256 V (Nat.le_refl _))
  rw [← HY.out.1] at HR
  refine HR.out.mono ?_
  rintro e V1 ⟨rfl, hb⟩
  have HS1 := Lib.hid (HS.out.below hb)
  clear HS HR hb
  refine hK _ _ ⟨by exact HS1.out, ?_⟩; clear hK K
  try simp only [Act.put, List.setIfInBounds_toArray, List.set_cons_zero, List.set_cons_succ]
  iterate 11
    refine wpS_t rfl (v := ?_) (by rfl) (fun W => ?_) ?_
    rotate_left
    · go_simp
      try rfl
    try simp only [Act.put, List.setIfInBounds_toArray, List.set_cons_zero, List.set_cons_succ]
  refine wpS_s (by exact HS1.out) rfl (v := .string ⟨#[97]⟩) (by rfl) (fun W hW => ?_) ?_
  · have hq := bytes_string 97 (hW.y _ (List.mem_cons_self ..))
    go_simp
  try simp only [Act.put, List.setIfInBounds_toArray, List.set_cons_zero, List.set_cons_succ]
  iterate 12
    refine wpS_t rfl (v := ?_) (by rfl) (fun W => ?_) ?_
    rotate_left
    · go_simp
      try rfl
    try simp only [Act.put, List.setIfInBounds_toArray, List.set_cons_zero, List.set_cons_succ]
  refine wpS_load_sum (by exact HS1.out) rfl (by rfl) _ (by rfl) z8 0 (by rfl) eo (fun W hW => hW.r (z8, eo) (by simp)) ?_
  try simp only [Act.put, List.setIfInBounds_toArray, List.set_cons_zero, List.set_cons_succ]
  refine wpS_k rfl (by rfl) (fun K hK => ?_)
  refine wp_load_sum _ (by rfl) z3 0 (by rfl) ea (HS1.out.r (z3, ea) (by simp)) ?_
  refine hK _ _ ⟨by exact HS1.out, ?_⟩; clear hK K
  try simp only [Act.put, List.setIfInBounds_toArray, List.set_cons_zero, List.set_cons_succ]
  iterate 12
    refine wpS_t rfl (v := ?_) (by rfl) (fun W => ?_) ?_
    rotate_left
    · go_simp
      try rfl
    try simp only [Act.put, List.setIfInBounds_toArray, List.set_cons_zero, List.set_cons_succ]
  refine wpS_load_sum (by exact HS1.out) rfl (by rfl) _ (by rfl) z12 0 (by rfl) ea (fun W hW => hW.r (z12, ea) (by simp)) ?_
  try simp only [Act.put, List.setIfInBounds_toArray, List.set_cons_zero, List.set_cons_succ]
  refine wpS_k rfl (by rfl) (fun K hK => ?_)
  refine wp_load_sum _ (by rfl) z3 0 (by rfl) ea (HS1.out.r (z3, ea) (by simp)) ?_
  refine hK _ _ ⟨by exact HS1.out, ?_⟩; clear hK K
  try simp only [Act.put, List.setIfInBounds_toArray, List.set_cons_zero, List.set_cons_succ]
  iterate 7
    refine wpS_t rfl (v := ?_) (by rfl) (fun W => ?_) ?_
    rotate_left
    · go_simp
      try rfl
    try simp only [Act.put, List.setIfInBounds_toArray, List.set_cons_zero, List.set_cons_succ]
  refine wpS_done ?_
  go_wp2_with fail
  exact bodyPost_ret (results_tmp rfl _ _ _) rfl ⟨rfl, HS1.out.bw⟩
end Go.Proofs.Ytfmgoehnbaiamaa
