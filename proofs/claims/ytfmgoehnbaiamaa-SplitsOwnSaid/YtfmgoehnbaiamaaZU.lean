/-
  Merged: U14, U15, U16.
-/
import Derived.Test.YtfmgoehnbaiamaaU13
import Derived.Lib.SlBytesConst
import Derived.Lib.SlBytesRow
-- Values: what the tree of one pair (7, "a") comes to is not what is empty (the kernel runs the sums on Nat).
open Go Go.RowKit Alm
namespace Go.Proofs.Ytfmgoehnbaiamaa
noncomputable def fe (n : Nat) : Nat → Nat := @Nat.rec (fun _ => Nat → Nat) (fun e => e) (fun _ ih e => ih (Fast.fside 4 e e)) n
noncomputable def fz (n : Nat) : Nat → Nat → Nat := @Nat.rec (fun _ => Nat → Nat → Nat) (fun _ x => x) (fun _ ih e x => ih (Fast.fside 4 e e) (Fast.fside 4 x e)) n
noncomputable def fo (n : Nat) : Nat → Nat → Nat := @Nat.rec (fun _ => Nat → Nat → Nat) (fun _ x => x) (fun _ ih e x => ih (Fast.fside 4 e e) (Fast.fside 4 e x)) n
theorem fe_succ (m : Nat) : fe (m + 1) = fun e => fe m (Fast.fside 4 e e) := by unfold fe; exact rfl
theorem fz_succ (m : Nat) : fz (m + 1) = fun e x => fz m (Fast.fside 4 e e) (Fast.fside 4 x e) := by unfold fz; exact rfl
theorem fo_succ (m : Nat) : fo (m + 1) = fun e x => fo m (Fast.fside 4 e e) (Fast.fside 4 e x) := by unfold fo; exact rfl
theorem sd_num (l r : Sum) : Fast.snum (sd l r) = Fast.fside 4 (Fast.snum l) (Fast.snum r) := by
  rw [sd_eq]; exact Fast.sha_side 4 l r
theorem fe_em (m : Nat) : ∀ n, Fast.snum (em (n + m)) = fe m (Fast.snum (em n)) := by
  induction m with
  | zero => intro n; rfl
  | succ m ih =>
    intro n
    rw [show n + (m + 1) = (n + 1) + m by omega, ih (n + 1), em_succ, sd_num, fe_succ]
noncomputable def own (p : Keys.Pr) (n : Nat) : Sum := Keys.at' sd z0 vl n [p]
theorem own_succ (p : Keys.Pr) (n : Nat) : own p (n + 1) = if (Keys.kn p.1).testBit n then sd (em n) (own p n) else sd (own p n) (em n) :=
  Keys.at_one sd z0 vl (List.mem_singleton.2 rfl) (fun a ha b hb => by rw [List.mem_singleton.1 ha, List.mem_singleton.1 hb])
theorem fz_own (p : Keys.Pr) (m : Nat) : ∀ n, (∀ i, i < m → (Keys.kn p.1).testBit (n + i) = false) → Fast.snum (own p (n + m)) = fz m (Fast.snum (em n)) (Fast.snum (own p n)) := by
  induction m with
  | zero => intro n _; rfl
  | succ m ih =>
    intro n h
    rw [show n + (m + 1) = (n + 1) + m by omega, ih (n + 1) (fun i hi => by rw [show n + 1 + i = n + (i + 1) by omega]; exact h _ (by omega)), em_succ, sd_num, own_succ, show (Keys.kn p.1).testBit n = false from h 0 (by omega), if_neg (by simp), sd_num, fz_succ]
theorem fo_own (p : Keys.Pr) (m : Nat) : ∀ n, (∀ i, i < m → (Keys.kn p.1).testBit (n + i) = true) → Fast.snum (own p (n + m)) = fo m (Fast.snum (em n)) (Fast.snum (own p n)) := by
  induction m with
  | zero => intro n _; rfl
  | succ m ih =>
    intro n h
    rw [show n + (m + 1) = (n + 1) + m by omega, ih (n + 1) (fun i hi => by rw [show n + 1 + i = n + (i + 1) by omega]; exact h _ (by omega)), em_succ, sd_num, own_succ, show (Keys.kn p.1).testBit n = true from h 0 (by omega), if_pos rfl, sd_num, fo_succ]
def keyL (b : UInt8) : List UInt8 := b :: List.replicate 31 0
theorem lit_list : (lit 7).toList = keyL 7 := by
  rw [lit_eq]; decide +kernel
theorem kn_lit7 : Keys.kn (lit 7) = 3166189940082864718613269121331309980362851143201109172953918312716374638592 := by
  show Fast.bnum (lit 7).toList = _
  rw [lit_list]
  decide +kernel
theorem z0_num : Fast.snum z0 = 99398763056634537812744552006896172984671876672520535998211840060697129507206 := by
  rw [z0_eq, Fast.sha_one [2] (by decide +kernel)]
  decide +kernel
theorem vl7_num : Fast.snum (vl (lit 7) [97]) = 242657674665213473843774506549976558325038764387086008339012763694100396816 := by
  rw [vl_eq]
  show Fast.snum (if ([97] : List UInt8) = [] then sha [2] else sha (3 :: ((lit 7).toList ++ [97]))) = _
  rw [if_neg (by simp), lit_list, Fast.sha_one _ (by decide +kernel)]
  decide +kernel
set_option maxRecDepth 100000 in
theorem e248 : fe 248 99398763056634537812744552006896172984671876672520535998211840060697129507206 = 68140388362105375494314006093594760818977815925103957317883493373949186056752 := by decide +kernel
set_option maxRecDepth 100000 in
theorem x248 : fz 248 99398763056634537812744552006896172984671876672520535998211840060697129507206 242657674665213473843774506549976558325038764387086008339012763694100396816 = 39879781450614273605033675958458221438017456252812787195162588908220725413578 := by decide +kernel
theorem e251 : fe 3 68140388362105375494314006093594760818977815925103957317883493373949186056752 = 85172016557300867396114426918393380223422963544648758708490665601848222747028 := by decide +kernel
theorem x251 : fo 3 68140388362105375494314006093594760818977815925103957317883493373949186056752 39879781450614273605033675958458221438017456252812787195162588908220725413578 = 41606347832100986460027060673293755527441169975157026494080011883348961212834 := by decide +kernel
theorem e256 : fe 5 85172016557300867396114426918393380223422963544648758708490665601848222747028 = 101485918506868654540925232552280317464023543783006852893364056163955127562937 := by decide +kernel
theorem x256 : fz 5 85172016557300867396114426918393380223422963544648758708490665601848222747028 41606347832100986460027060673293755527441169975157026494080011883348961212834 = 93751589679066156886896582684178673071918153984191008976201999186463036900291 := by decide +kernel
theorem em_to {n m k a b : Nat} (h : Fast.snum (em n) = a) (hk : n + m = k) (hf : fe m a = b) : Fast.snum (em k) = b := by
  subst hk
  rw [fe_em, h, hf]
theorem own_z {p : Keys.Pr} {n m k K e a b : Nat} (hK : Keys.kn p.1 = K) (hb : ∀ i, i < m → Nat.testBit K (n + i) = false) (he : Fast.snum (em n) = e) (hx : Fast.snum (own p n) = a) (hk : n + m = k) (hf : fz m e a = b) : Fast.snum (own p k) = b := by
  subst hk
  rw [fz_own p m n (by rw [hK]; exact hb), he, hx, hf]
theorem own_o {p : Keys.Pr} {n m k K e a b : Nat} (hK : Keys.kn p.1 = K) (hb : ∀ i, i < m → Nat.testBit K (n + i) = true) (he : Fast.snum (em n) = e) (hx : Fast.snum (own p n) = a) (hk : n + m = k) (hf : fo m e a = b) : Fast.snum (own p k) = b := by
  subst hk
  rw [fo_own p m n (by rw [hK]; exact hb), he, hx, hf]
theorem em0 : Fast.snum (em 0) = 99398763056634537812744552006896172984671876672520535998211840060697129507206 := z0_num
theorem em248 : Fast.snum (em 248) = 68140388362105375494314006093594760818977815925103957317883493373949186056752 := em_to em0 rfl e248
theorem em251 : Fast.snum (em 251) = 85172016557300867396114426918393380223422963544648758708490665601848222747028 := em_to em248 rfl e251
theorem em256 : Fast.snum (em 256) = 101485918506868654540925232552280317464023543783006852893364056163955127562937 := em_to em251 rfl e256
theorem bits0 : ∀ i, i < 248 → Nat.testBit 3166189940082864718613269121331309980362851143201109172953918312716374638592 (0 + i) = false := by decide +kernel
theorem bits1 : ∀ i, i < 3 → Nat.testBit 3166189940082864718613269121331309980362851143201109172953918312716374638592 (248 + i) = true := by decide +kernel
theorem bits2 : ∀ i, i < 5 → Nat.testBit 3166189940082864718613269121331309980362851143201109172953918312716374638592 (251 + i) = false := by decide +kernel
theorem own0 : Fast.snum (own (lit 7, [97]) 0) = 242657674665213473843774506549976558325038764387086008339012763694100396816 := vl7_num
theorem own248 : Fast.snum (own (lit 7, [97]) 248) = 39879781450614273605033675958458221438017456252812787195162588908220725413578 := own_z kn_lit7 bits0 em0 own0 rfl x248
theorem own251 : Fast.snum (own (lit 7, [97]) 251) = 41606347832100986460027060673293755527441169975157026494080011883348961212834 := own_o kn_lit7 bits1 em248 own248 rfl x251
theorem own256 : Fast.snum (own (lit 7, [97]) 256) = 93751589679066156886896582684178673071918153984191008976201999186463036900291 := own_z kn_lit7 bits2 em251 own251 rfl x256
theorem root_one_ne : rootOf [(lit 7, [97])] ≠ em 256 := by
  intro h
  have e := own256.symm.trans ((congrArg Fast.snum (show own (lit 7, [97]) 256 = em 256 from h)).trans em256)
  exact absurd e (by decide +kernel)
theorem root_nil : rootOf [] = em 256 := Keys.at_nil sd z0 vl 256
end Go.Proofs.Ytfmgoehnbaiamaa
-- Walk: law 15's alive.
namespace Go.Proofs.Ytfmgoehnbaiamaa
theorem bytes_marked (w : World) (x : UInt8) : BytesAt (w.alloc (.cells #[.int .u8 ((x.toNat : Nat) : Int)] 5 (1, 2))) (.slice (some ⟨w.heap.size, 0, none⟩) 1 1) [x] := by
  refine ⟨_, 1, rfl, Nat.le_refl _, by decide, .inr ⟨w.heap.size, 0, rfl, fun j v hv => ?_⟩⟩
  have hh : (w.alloc (.cells #[.int .u8 ((x.toNat : Nat) : Int)] 5 (1, 2))).heap[w.heap.size]? = some (.cells #[.int .u8 ((x.toNat : Nat) : Int)] 5 (1, 2)) := by
    show (w.heap.push _)[w.heap.size]? = _
    simp
  rw [cell_of_row _ _ _ _ _ (1, 2) hh, Nat.zero_add]
  have hj : j < 1 := by have := (List.getElem?_eq_some_iff.1 hv).1; simpa [cells8] using this
  have : j = 0 := by omega
  subst this
  simpa [cells8, u8v] using hv
theorem bytes_string {w : World} {v : Value} (x : UInt8) (h : BytesAt w v [x]) : (convert 34 9 v).run Try.prog w = .ok (.string ⟨#[x]⟩) w := by
  obtain ⟨a, cap, rfl, h1, h2, h3⟩ := h
  obtain ⟨b, o, rfl, hr⟩ := h3.resolve_left (by simp)
  exact Lib.run_convert_whole w 34 5 9 Try.underlying34 Try.underlying5 Try.underlying9 b o ⟨#[x]⟩ (fun i hi => by
    have hi' : i = 0 := by have : i < 1 := hi; omega
    subst hi'
    exact hr 0 _ rfl) cap
/-- What alive has in hand. -/
structure AV (w W : World) (p b n : Nat) (l : List Ent) (R : List (Nat × Sum)) (B : List (Value × List UInt8)) : Prop where
  map : MapIn W p b n l
  r : ∀ q ∈ R, W.rangeAt q.1 0 (cellsOf q.2)
  y : ∀ q ∈ B, BytesAt W q.1 q.2
  bw : Below w.heap.size w W
  hb : w.heap.size ≤ b
theorem AV.below {w W W' : World} {p b n : Nat} {l : List Ent} {R : List (Nat × Sum)} {B : List (Value × List UInt8)} (h : AV w W p b n l R B) (hb : Below W.heap.size W W') : AV w W' p b n l R B :=
  ⟨h.map.below hb, fun q hq => (Keeps.of_below (X := fun _ => False) hb).range (h.r q hq) (fun h => h), fun q hq => bytes_below (h.y q hq) hb (Nat.le_refl _), h.bw.trans (hb.mono h.bw.size), h.hb⟩
theorem AV.addR {w W : World} {p b n : Nat} {l : List Ent} {R : List (Nat × Sum)} {B : List (Value × List UInt8)} (h : AV w W p b n l R B) {z : Nat} {s : Sum} (hr : W.rangeAt z 0 (cellsOf s)) : AV w W p b n l ((z, s) :: R) B :=
  ⟨h.map, fun q hq => by rcases List.mem_cons.1 hq with rfl | hq; exact hr; exact h.r q hq, h.y, h.bw, h.hb⟩
theorem AV.addY {w W : World} {p b n : Nat} {l : List Ent} {R : List (Nat × Sum)} {B : List (Value × List UInt8)} (h : AV w W p b n l R B) {v : Value} {s : List UInt8} (hr : BytesAt W v s) : AV w W p b n l R ((v, s) :: B) :=
  ⟨h.map, h.r, fun q hq => by rcases List.mem_cons.1 hq with rfl | hq; exact hr; exact h.y q hq, h.bw, h.hb⟩
theorem cellsOf_ne (s : Sum) : cellsOf s ≠ [] := fun h => by have := length_cellsOf s; rw [h] at this; cases this
theorem AV.put {w W W' : World} {p b n n' : Nat} {l l' : List Ent} {R : List (Nat × Sum)} {B : List (Value × List UInt8)} (h : AV w W p b n l R B) (hm : MapIn W' p b n' l') (hk : Keeps (fun i => i = b) W W') : AV w W' p b n' l' R B :=
  ⟨hm, fun q hq => hk.range (h.r q hq) (range_maps h.map.on (h.r q hq) (cellsOf_ne _)), fun q hq => bytes_maps h.map.on hk (h.y q hq), h.bw.trans (hk.below h.bw.size (fun k hk => by have := h.hb; omega)), h.hb⟩
theorem one_put : Keys.putB [] (lit 7) [97] = [(lit 7, [97])] := rfl
theorem one_del : Keys.putB [(lit 7, [97])] (lit 7) [] = [] := by
  unfold Keys.putB Keys.del
  simp
theorem one_get : Keys.get [(lit 7, [97])] (lit 7) = [97] := by
  simp [Keys.get]
theorem one_get8 : Keys.get [(lit 7, [97])] (lit 8) = [] :=
  Keys.get_none fun p hp => by rw [List.mem_singleton.1 hp]; exact lit_ne (by decide)
theorem zeros257 (w : World) (base : Nat) (v : Value) (h : w.ownsRow base 5 1 v 257 (madeCells (Value.int .u8 0).cells (257 * 1)).toList) : BytesAt w v (List.replicate 257 0) := by
  have e : (madeCells (Value.int .u8 0).cells (257 * 1)).toList = cells8 (List.replicate 257 0) := by kernel_rfl
  rw [e] at h
  have hl : (List.replicate 257 (0 : UInt8)).length = 257 := List.length_replicate
  exact bytes_own (by rw [hl]; exact h) (by rw [hl]; omega)
set_option maxRecDepth 100000 in
set_option maxHeartbeats 2000000 in
theorem alive15_any (w : World) : Calls Try.prog 20 #[] w fun e w' => e = .returned (.bool true) ∧ Below w.heap.size w w' := by
  have kc := fun (w : World) (C : Array Value) (n c : Nat) => Lib.run_convert_bytes_const (P := Try.prog) w 34 5 C n c Try.underlying34 Try.underlying5
  obtain ⟨ea, hea⟩ : ∃ y, y = em 256 := ⟨_, rfl⟩
  obtain ⟨eo, heo⟩ : ∃ y, y = rootOf [(lit 7, [97])] := ⟨_, rfl⟩
  have hne : eo ≠ ea := by rw [hea, heo]; exact root_one_ne
  have HY := Lib.hid (And.intro hea (And.intro heo hne))
  clear hea heo hne
  go_enter Try.func20, Try.ntmps20
  go_wp2_with fail
  refine (mnew_any w).mono ?_
  rintro e w1 ⟨rfl, hm, hb⟩
  obtain ⟨p, hp⟩ : ∃ p, p = w.heap.size + 1 := ⟨_, rfl⟩
  obtain ⟨b, hbb⟩ : ∃ b, b = w.heap.size := ⟨_, rfl⟩
  rw [← hp, ← hbb] at hm
  rw [← hp]
  have HA := Lib.hid (show AV w w1 p b 0 [] [] [] from ⟨hm, by simp, by simp, hb, by omega⟩)
  clear hm hb hp hbb
  go_wp2_with fail
  have HR := Lib.hid (mroot_any w1 p b 0 [] HA.out.map (by simp))
  rw [show prs [] = [] from rfl, root_nil, ← HY.out.1] at HR
  refine HR.out.mono ?_
  rintro e w2 ⟨rfl, hb⟩
  have HA2 := Lib.hid (HA.out.below hb)
  clear HA HR hb
  have HG := Lib.hid trivial
  go_wp2_with (have _ := HG; refine wpList_var_sum (by rfl) rfl _ _ rfl ea rfl rfl ?_; intro w3 hb hr _; obtain ⟨z3, hz3⟩ : ∃ x, x = w2.heap.size := ⟨_, rfl⟩; rw [← hz3] at hr ⊢; have HA3 := Lib.hid ((HA2.out.below hb).addR hr); clear HG hb hr hz3 HA2)
  have b1 := al (Below.refl _ w3) (.cells #[.int .u8 97] 5 (1, 2))
  have hy1 : BytesAt (w3.alloc (.cells #[.int .u8 97] 5 (1, 2))) (.slice (some ⟨w3.heap.size, 0, none⟩) 1 1) [97] := bytes_marked w3 97
  have H4 := Lib.hid (And.intro (HA3.out.below b1) hy1)
  clear HA3 b1 hy1
  rw [val_7]
  refine (mput_any (lit 7) [97] _ _ p b 0 [] H4.out.1.map (by omega) H4.out.2).mono ?_
  rintro e w4 ⟨rfl, l1, hm, hp, hk⟩
  rw [show prs [] = [] from rfl, one_put] at hp
  rw [show (if ([97] : List UInt8).length > 256 then (3 : Int) else 0) = 0 from rfl]
  have HA4 := Lib.hid (H4.out.1.put hm hk)
  have HL1 := Lib.hid hp
  clear H4 hm hp hk
  go_wp2_with fail
  rw [val_7]
  have HR := Lib.hid (mget_any (lit 7) w4 p b 1 l1 HA4.out.map)
  rw [HL1.out, one_get] at HR
  refine HR.out.mono ?_
  rintro e w5 ⟨v4, rfl, hN, hb⟩
  obtain ⟨a4, c4, rfl, _, _, _⟩ := hN.1
  have HA5 := Lib.hid ((HA4.out.below hb).addY hN.1)
  clear HA4 HR hN hb
  go_wp2_with fail
  rw [val_8]
  have HR := Lib.hid (mget_any (lit 8) w5 p b 1 l1 HA5.out.map)
  rw [HL1.out, one_get8] at HR
  refine HR.out.mono ?_
  rintro e w6 ⟨v6, rfl, hN, hb⟩
  obtain ⟨a6, c6, rfl, _, _, _⟩ := hN.1
  have HA6 := Lib.hid (HA5.out.below hb)
  clear HA5 HR hN hb
  go_wp2_with fail
  have HR := Lib.hid (mroot_any w6 p b 1 l1 HA6.out.map (by have := congrArg List.length HL1.out; simp [prs] at this; omega))
  rw [HL1.out, ← HY.out.2.1] at HR
  refine HR.out.mono ?_
  rintro e w7 ⟨rfl, hb⟩
  have HA7 := Lib.hid (HA6.out.below hb)
  clear HA6 HR hb
  have HG := Lib.hid trivial
  go_wp2_with (have _ := HG; refine wpList_var_sum (by rfl) rfl _ _ rfl eo rfl rfl ?_; intro w8 hb hr _; obtain ⟨z8, hz8⟩ : ∃ x, x = w7.heap.size := ⟨_, rfl⟩; rw [← hz8] at hr ⊢; have HA8 := Lib.hid ((HA7.out.below hb).addR hr); clear HG hb hr hz8 HA7)
  rw [val_7]
  refine (mput_any (lit 7) [] (.slice none 0 0) _ p b 1 l1 HA8.out.map (by omega) ⟨none, 0, rfl, by simp, by unfold maxLen; omega, .inl rfl⟩).mono ?_
  rintro e w9 ⟨rfl, l2, hm, hp, hk⟩
  rw [HL1.out, one_del] at hp
  rw [show (if ([] : List UInt8).length > 256 then (3 : Int) else 0) = 0 from rfl]
  have HA9 := Lib.hid (HA8.out.put hm hk)
  have HL2 := Lib.hid hp
  clear HA8 hm hp hk
  go_wp2_with fail
  have HR := Lib.hid (mpairs_any w9 p b 2 l2 HA9.out.map (by have := congrArg List.length HL2.out; simp [prs] at this; rw [this]; simp))
  rw [HL2.out] at HR
  refine HR.out.mono ?_
  rintro e w10 ⟨v10, rfl, hN, hb⟩
  obtain ⟨a10, c10, rfl, _, _⟩ := pairs_form hN
  have HA10 := Lib.hid (HA9.out.below hb)
  clear HA9 HR hN hb
  go_wp2_with fail
  have HR := Lib.hid (mroot_any w10 p b 2 l2 HA10.out.map (by have := congrArg List.length HL2.out; simp [prs] at this; rw [this]; simp))
  rw [HL2.out, root_nil, ← HY.out.1] at HR
  refine HR.out.mono ?_
  rintro e w11 ⟨rfl, hb⟩
  have HA11 := Lib.hid (HA10.out.below hb)
  clear HA10 HR hb
  have HG := Lib.hid trivial
  obtain ⟨i0, hi0, hz0⟩ := Option.map_eq_some_iff.1 infoByteZ
  simp only [Prod.mk.injEq] at hz0
  have HI := Lib.hid (And.intro hi0 hz0)
  clear hi0 hz0
  go_wp2_with (first
    | (have _ := HG; refine wpList_var_sum (by rfl) rfl _ _ rfl ea rfl rfl ?_; intro w12 hb hr _; obtain ⟨z12, hz12⟩ : ∃ x, x = w11.heap.size := ⟨_, rfl⟩; rw [← hz12] at hr ⊢; have HA12 := Lib.hid ((HA11.out.below hb).addR hr); clear HG hb hr hz12 HA11)
    | (at_make; refine wpList_make_full _ rfl _ _ _ rfl w12.heap.size 5 i0 (.int .u8 0) 1 Try.underlying34 HI.out.1 HI.out.2.1 HI.out.2.2.1 .i64 .i64 257 257 257 rfl rfl rfl rfl (by rw [HI.out.2.2.2]; omega) (by unfold maxLen; omega) (Nat.le_refl _) ?_; intro w13 ho hg; have HA13 := Lib.hid (HA12.out.below (Keeps.below (B := w12.heap.size) (Keeps.of_grown (X := fun _ => False) hg (fun k hk => by cases hk)) (Nat.le_refl _) (fun _ h => h.elim))); have HZ := Lib.hid (zeros257 _ _ _ ho); clear ho hg HA12; generalize w12.heap.size = g13 at *))
  rw [val_7]
  refine (mput_any (lit 7) (List.replicate 257 0) _ _ p b 2 l2 HA13.out.map (by omega) HZ.out).mono ?_
  rintro e w14 ⟨rfl, l3, hm, hp, hk⟩
  rw [show (if (List.replicate 257 (0 : UInt8)).length > 256 then (3 : Int) else 0) = 3 from by rw [List.length_replicate]; rfl]
  have HA14 := Lib.hid (HA13.out.put hm hk)
  clear HA13 hm hp hk HZ HI
  clear kc
  go_wp2_with fail
  refine wp_region_sched (fun V => AV w V p b 3 l3 [(z12, ea), (z8, eo), (z3, ea)] [(.slice a4 1 c4, [97])]) [.s 0, .e 1 true, .t 2, .t 3, .t 4, .t 5, .t 6, .t 7, .t 8, .t 9, .t 10, .t 11, .t 12, .s 13, .t 14, .t 15, .t 16, .t 17, .t 18, .t 19, .t 20, .t 21, .t 22, .t 23, .t 24, .t 25, .s 26, .e 27 true, .t 28, .t 29, .t 30, .t 31, .t 32, .t 33, .t 34, .t 35, .t 36, .t 37, .t 38, .t 39, .s 40, .e 41 true, .t 42, .t 43, .t 44, .t 45, .t 46, .t 47, .t 48] (by kernel_rfl) (by kernel_rfl) (by intro c a d v w h; cases d <;> exact h) ?_
  have HS := Lib.hid (HA14.out.below (Below.refl _ _).drew)
  clear HA14
  generalize w14.drew = V at *
  have hes := eq_sums_same ea
  have heo : ∀ w, (Op.equalIn 10000 29 (.agg (cellsOf eo).toArray) (.agg (cellsOf ea).toArray)).run Try.prog w = .ok false w := fun w => by rw [eq_sums, decide_eq_false HY.out.2.2]
  refine wpS_load_sum (by exact HS.out) rfl (by rfl) _ (by rfl) z3 0 (by rfl) ea (fun W hW => hW.r (z3, ea) (by simp)) ?_
  try simp only [Act.put, List.setIfInBounds_toArray, List.set_cons_zero, List.set_cons_succ]
  refine wpS_k rfl (by rfl) (fun K hK => ?_)
  go_simp
  have HR := Lib.hid (empty_any 256 V (Nat.le_refl _))
  rw [← HY.out.1] at HR
  refine HR.out.mono ?_
  rintro e V1 ⟨rfl, hb⟩
  have HS1 := Lib.hid (HS.out.below hb)
  clear HS HR hb
  refine hK _ _ ⟨by exact HS1.out, ?_⟩; clear hK K
  try simp only [Act.put, List.setIfInBounds_toArray, List.set_cons_zero, List.set_cons_succ]
  iterate 11
    refine wpS_t rfl (v := ?_) (by rfl) (fun W => ?_) ?_
    rotate_left
    · go_simp
      try rfl
    try simp only [Act.put, List.setIfInBounds_toArray, List.set_cons_zero, List.set_cons_succ]
  refine wpS_s (by exact HS1.out) rfl (v := .string ⟨#[97]⟩) (by rfl) (fun W hW => ?_) ?_
  · have hq := bytes_string 97 (hW.y _ (List.mem_cons_self ..))
    go_simp
  try simp only [Act.put, List.setIfInBounds_toArray, List.set_cons_zero, List.set_cons_succ]
  iterate 12
    refine wpS_t rfl (v := ?_) (by rfl) (fun W => ?_) ?_
    rotate_left
    · go_simp
      try rfl
    try simp only [Act.put, List.setIfInBounds_toArray, List.set_cons_zero, List.set_cons_succ]
  refine wpS_load_sum (by exact HS1.out) rfl (by rfl) _ (by rfl) z8 0 (by rfl) eo (fun W hW => hW.r (z8, eo) (by simp)) ?_
  try simp only [Act.put, List.setIfInBounds_toArray, List.set_cons_zero, List.set_cons_succ]
  refine wpS_k rfl (by rfl) (fun K hK => ?_)
  refine wp_load_sum _ (by rfl) z3 0 (by rfl) ea (HS1.out.r (z3, ea) (by simp)) ?_
  refine hK _ _ ⟨by exact HS1.out, ?_⟩; clear hK K
  try simp only [Act.put, List.setIfInBounds_toArray, List.set_cons_zero, List.set_cons_succ]
  iterate 12
    refine wpS_t rfl (v := ?_) (by rfl) (fun W => ?_) ?_
    rotate_left
    · go_simp
      try rfl
    try simp only [Act.put, List.setIfInBounds_toArray, List.set_cons_zero, List.set_cons_succ]
  refine wpS_load_sum (by exact HS1.out) rfl (by rfl) _ (by rfl) z12 0 (by rfl) ea (fun W hW => hW.r (z12, ea) (by simp)) ?_
  try simp only [Act.put, List.setIfInBounds_toArray, List.set_cons_zero, List.set_cons_succ]
  refine wpS_k rfl (by rfl) (fun K hK => ?_)
  refine wp_load_sum _ (by rfl) z3 0 (by rfl) ea (HS1.out.r (z3, ea) (by simp)) ?_
  refine hK _ _ ⟨by exact HS1.out, ?_⟩; clear hK K
  try simp only [Act.put, List.setIfInBounds_toArray, List.set_cons_zero, List.set_cons_succ]
  iterate 7
    refine wpS_t rfl (v := ?_) (by rfl) (fun W => ?_) ?_
    rotate_left
    · go_simp
      try rfl
    try simp only [Act.put, List.setIfInBounds_toArray, List.set_cons_zero, List.set_cons_succ]
  refine wpS_done ?_
  go_wp2_with fail
  exact bodyPost_ret (results_tmp rfl _ _ _) rfl ⟨rfl, HS1.out.bw⟩
end Go.Proofs.Ytfmgoehnbaiamaa
-- Walk: almonerlaw15.MapsOne.
namespace Go.Proofs.Ytfmgoehnbaiamaa
theorem own_empty (k : Sum) : ∀ n, own (k, []) n = em n
  | 0 => by rw [em_zero]; exact vl_nil k
  | n + 1 => by rw [own_succ, own_empty k n, em_succ]; split <;> rfl
theorem root_put (k : Sum) (bs : List UInt8) (h : bs.length ≤ 256) : rootOf (Keys.putB [] k bs) = own (k, bs) 256 := by
  unfold Keys.putB
  rw [if_neg (by omega)]
  by_cases hb : bs = []
  · rw [if_pos hb, hb, own_empty]; exact root_nil
  · rw [if_neg hb]; rfl
/-- Two sums of the caller's, and what was there before. -/
structure OV (w0 W : World) (z6 z7 : Nat) (s e : Sum) : Prop where
  bw : Below w0.heap.size w0 W
  r6 : W.rangeAt z6 0 (cellsOf s)
  t6 : W.there z6 0 32
  r7 : W.rangeAt z7 0 (cellsOf e)
  t7 : W.there z7 0 32
  g6 : w0.heap.size ≤ z6
  g7 : w0.heap.size ≤ z7
  ne : z6 ≠ z7
theorem OV.below {w0 W W' : World} {z6 z7 : Nat} {s e : Sum} (h : OV w0 W z6 z7 s e) (hb : Below W.heap.size W W') : OV w0 W' z6 z7 s e :=
  have kk := Keeps.of_below (X := fun _ => False) hb
  ⟨h.bw.trans (hb.mono h.bw.size), kk.range h.r6 (fun h => h), kk.there h.t6 (by decide) (fun h => h), kk.range h.r7 (fun h => h), kk.there h.t7 (by decide) (fun h => h), h.g6, h.g7, h.ne⟩
theorem OV.set6 {w0 W : World} {z6 z7 : Nat} {s e : Sum} (h : OV w0 W z6 z7 s e) (x : Sum) : OV w0 (W.setCells z6 0 (cellsOf x)) z6 z7 x e :=
  ⟨h.bw.trans ((keeps_setCells_ z6 (cellsOf x) 0 W).below h.bw.size (fun k hk => by have := h.g6; omega)), range_stored z6 (cellsOf x) 0 W (by rw [length_cellsOf]; exact World.there_setCells h.t6 _ _ _), World.there_setCells h.t6 _ _ _, (keeps_setCells_ z6 (cellsOf x) 0 W).range h.r7 (fun e => h.ne e.symm), World.there_setCells h.t7 _ _ _, h.g6, h.g7, h.ne⟩
theorem OV.set7 {w0 W : World} {z6 z7 : Nat} {s e : Sum} (h : OV w0 W z6 z7 s e) (x : Sum) : OV w0 (W.setCells z7 0 (cellsOf x)) z6 z7 s x :=
  ⟨h.bw.trans ((keeps_setCells_ z7 (cellsOf x) 0 W).below h.bw.size (fun k hk => by have := h.g7; omega)), (keeps_setCells_ z7 (cellsOf x) 0 W).range h.r6 h.ne, World.there_setCells h.t6 _ _ _, range_stored z7 (cellsOf x) 0 W (by rw [length_cellsOf]; exact World.there_setCells h.t7 _ _ _), World.there_setCells h.t7 _ _ _, h.g6, h.g7, h.ne⟩
set_option maxRecDepth 100000 in
set_option maxHeartbeats 2000000 in
theorem mapsOne_any (k : Sum) (bs : List UInt8) (v : Value) (w : World) (hv : BytesAt w v bs) : Calls Try.prog 5 #[sv k, v] w fun e w' => e = .returned (.bool true) ∧ Below w.heap.size w w' := by
  obtain ⟨z2, hz2⟩ : ∃ z, z = w.heap.size := ⟨_, rfl⟩
  have hb0 := al (Below.refl _ w) (.cells (cellsOf k).toArray 29)
  have hr0 : (w.alloc (.cells (cellsOf k).toArray 29)).rangeAt z2 0 (cellsOf k) := by rw [hz2]; exact range_new w (cellsOf k).toArray 29 _ rfl
  have hv0 := bytes_below hv hb0 (Nat.le_refl _)
  have H0 := Lib.hid (And.intro hb0 (And.intro hr0 hv0))
  obtain ⟨a, cap, rfl, h1, h2, _⟩ := hv
  obtain ⟨N, hN⟩ : ∃ N, N = bs.length := ⟨_, rfl⟩
  rw [← hN] at H0 h1 ⊢
  have HN := Lib.hid (And.intro hN trivial)
  have HZ2 := Lib.hid hz2
  clear hN hb0 hr0 hv0 h2
  go_enter Try.func5, Try.ntmps5
  go_wp2_with fail
  rw [← hz2]
  clear hz2
  generalize w.alloc (.cells (cellsOf k).toArray 29) = w1 at *
  refine (mnew_any w1).mono ?_
  rintro e w2 ⟨rfl, hm, hb⟩
  obtain ⟨p, hp⟩ : ∃ p, p = w1.heap.size + 1 := ⟨_, rfl⟩
  obtain ⟨b, hbb⟩ : ∃ b, b = w1.heap.size := ⟨_, rfl⟩
  rw [← hp, ← hbb] at hm
  rw [← hp]
  have H2 := Lib.hid (And.intro hm (And.intro (H0.out.1.trans (hb.mono H0.out.1.size)) (And.intro (show w2.rangeAt z2 0 (cellsOf k) from (Keeps.of_below (X := fun _ => False) hb).range H0.out.2.1 (fun h => h)) (And.intro (bytes_below H0.out.2.2 hb (Nat.le_refl _)) (show w.heap.size ≤ b by have := H0.out.1.size; omega)))))
  clear hm hb hp hbb H0
  go_wp2_with (refine wpList_load_sum rfl _ rfl z2 0 rfl k H2.out.2.2.1 ?_)
  refine (mput_any k bs _ _ p b 0 [] H2.out.1 (by omega) H2.out.2.2.2.1).mono ?_
  rintro e w3 ⟨rfl, l, hm, hp, hk⟩
  have H3 := Lib.hid (And.intro hm (And.intro (H2.out.2.1.trans (hk.below H2.out.2.1.size (fun k hk => by have := H2.out.2.2.2.2; omega))) (And.intro (hk.range H2.out.2.2.1 (range_maps H2.out.1.on H2.out.2.2.1 (cellsOf_ne _))) (bytes_maps H2.out.1.on hk H2.out.2.2.2.1))))
  have HL := Lib.hid (show prs l = Keys.putB [] k bs from hp)
  clear hm hp hk H2
  by_cases c1 : 256 < N
  · have d1 : decide (256 < (N : Int)) = true := by simp; omega
    have d1' : decide (256 < N) = true := by simpa using c1
    rw [if_pos (show bs.length > 256 by rw [← HN.out.1]; exact c1)]
    go_wp2_with fail
    refine (alive15_any w3).mono ?_
    rintro e w4 ⟨rfl, hb⟩
    have HB := Lib.hid (H3.out.2.1.trans (hb.mono H3.out.2.1.size))
    clear hb H3
    go_wp2_with fail
    exact bodyPost_ret (results_tmp rfl _ _ _) rfl ⟨rfl, HB.out⟩
  · rw [if_neg (show ¬ bs.length > 256 by rw [← HN.out.1]; exact c1)]
    have HC := Lib.hid (show bs.length ≤ 256 by rw [← HN.out.1]; omega)
    clear c1
    have hes := eq_sums_same (own (k, bs) 256)
    have HES := Lib.hid hes
    clear hes
    obtain ⟨S0, hS0⟩ : ∃ s, s = vl k bs := ⟨_, rfl⟩
    have HV := Lib.hid (vl_any k bs _ w3 H3.out.2.2.2 (by have := HC.out; omega))
    rw [← hS0] at HV
    have HS0 := Lib.hid (show S0 = own (k, bs) 0 from hS0)
    clear hS0
    go_wp2_with (refine wpList_load_sum rfl _ rfl z2 0 rfl k H3.out.2.2.1 ?_)
    refine HV.out.mono ?_
    rintro e w4 ⟨rfl, hb4⟩
    have H4 := Lib.hid hb4
    clear hb4 HV
    have HG := Lib.hid trivial
    go_wp2_with (have _ := HG; refine wpList_var_sum (by rfl) rfl _ _ rfl S0 rfl rfl ?_; intro w5 hb hr ht; obtain ⟨z6, hz6⟩ : ∃ x, x = w4.heap.size := ⟨_, rfl⟩; rw [← hz6] at hr ht ⊢; have H5 := Lib.hid (And.intro (H4.out.trans (hb.mono H4.out.size)) (And.intro hr (And.intro ht (show w3.heap.size ≤ z6 by rw [hz6]; exact H4.out.size)))); clear HG hb hr ht hz6 H4)
    have HE := Lib.hid (empty_any 0 w5 (by omega))
    rw [em_zero] at HE
    refine HE.out.mono ?_
    rintro e w6 ⟨rfl, hb⟩
    have hz67 : z6 < w6.heap.size := Nat.lt_of_lt_of_le (there_lt H5.out.2.2.1 (by decide)) hb.size
    have H6 := Lib.hid (And.intro (H5.out.1.trans (hb.mono H5.out.1.size)) (And.intro ((Keeps.of_below (X := fun _ => False) hb).range H5.out.2.1 (fun h => h)) (And.intro ((Keeps.of_below (X := fun _ => False) hb).there H5.out.2.2.1 (by decide) (fun h => h)) (And.intro H5.out.2.2.2 hz67))))
    clear hb hz67 H5 HE
    have HG := Lib.hid trivial
    go_wp2_with (have _ := HG; refine wpList_var_sum (by rfl) rfl _ _ rfl z0 rfl rfl ?_; intro w7 hb hr ht; obtain ⟨z7, hz7⟩ : ∃ x, x = w6.heap.size := ⟨_, rfl⟩; rw [← hz7] at hr ht ⊢; have H7 := Lib.hid (show OV w3 w7 z6 z7 S0 z0 from ⟨H6.out.1.trans (hb.mono H6.out.1.size), (Keeps.of_below (X := fun _ => False) hb).range H6.out.2.1 (fun h => h), (Keeps.of_below (X := fun _ => False) hb).there H6.out.2.2.1 (by decide) (fun h => h), hr, ht, H6.out.2.2.2.1, by rw [hz7]; exact H6.out.1.size, by rw [hz7]; exact Nat.ne_of_lt H6.out.2.2.2.2⟩); clear HG hb hr ht hz7 H6)
    go_loopw [8] (fun d W => ∃ h : Nat, h ≤ 256 ∧ d = .int .i64 (255 - (h : Int)) ∧ OV w3 W z6 z7 (own (k, bs) h) (em h)) (fun d _ => (intOf d + 1).toNat)
    case atStart => exact ⟨0, by omega, rfl, by rw [← HS0.out, em_zero]; exact H7.out⟩
    case round =>
      clear H7
      obtain ⟨h, hh, rfl, hO⟩ := hrel
      have HO := Lib.hid hO
      clear hO
      by_cases hlt : h < 256
      · obtain ⟨D, hD⟩ : ∃ D, D = 255 - h := ⟨_, rfl⟩
        have hd : (255 : Int) - (h : Int) = (D : Int) := by omega
        rw [hd]
        have c1 : decide ((0 : Int) ≤ (D : Int)) = true := by simp
        obtain ⟨q, hq⟩ : ∃ q, q = (Keys.kn k >>> (255 - D)) % 2 := ⟨_, rfl⟩
        have hDh : 255 - D = h := by omega
        have HD := Lib.hid (And.intro hD (And.intro hd hlt))
        have HQ := Lib.hid (show q = (Keys.kn k >>> h) % 2 by rw [hq, hDh])
        have HB := Lib.hid (bit_any k D wr (by omega))
        rw [← hq] at HB
        have hr2 := (Keeps.of_below (X := fun _ => False) HO.out.bw).range H3.out.2.2.1 (fun h => h)
        have HK := Lib.hid hr2
        obtain ⟨A, hA⟩ : ∃ A, A = own (k, bs) h := ⟨_, rfl⟩
        obtain ⟨E, hE⟩ : ∃ E, E = em h := ⟨_, rfl⟩
        rw [← hA, ← hE] at HO
        have HAE := Lib.hid (And.intro hA hE)
        clear hD hd hlt hq hDh hr2 hh hA hE
        go_wp2_with (refine wpList_load_sum rfl _ rfl z2 0 rfl k HK.out ?_)
        refine HB.out.mono ?_
        rintro e w8 ⟨rfl, hb⟩
        have HO8 := Lib.hid (HO.out.below hb)
        clear hb HO HB HK
        by_cases hq0 : q = 0
        · subst hq0
          have hnx : own (k, bs) (h + 1) = sd A E := by
            rw [own_succ, Keys.bit_odd, ← HQ.out, HAE.out.1, HAE.out.2]; rfl
          have HX := Lib.hid hnx
          clear hnx
          have HG := Lib.hid trivial
          go_wp2_with (first
            | (have _ := HG; refine wpList_load_sum rfl _ rfl z6 0 rfl A HO8.out.r6 ?_)
            | (have _ := HG; refine wpList_load_sum rfl _ rfl z7 0 rfl E HO8.out.r7 ?_))
          refine (sd_any A E w8).mono ?_
          rintro e w9 ⟨rfl, hb⟩
          have HO9 := Lib.hid (HO8.out.below hb)
          clear hb HO8
          go_wp2_with (first
            | (have _ := HG; refine wpList_store_sum rfl _ _ rfl z6 0 (sd A E) rfl rfl HO9.out.t6 ?_; have HO10 := Lib.hid (HO9.out.set6 (sd A E)); clear HG HO9; generalize w9.setCells z6 0 (cellsOf (sd A E)) = w10 at *)
            | (refine wpList_load_sum rfl _ rfl z7 0 rfl E HO10.out.r7 ?_))
          refine (sd_any E E w10).mono ?_
          rintro e w11 ⟨rfl, hb⟩
          have HO11 := Lib.hid (HO10.out.below hb)
          clear hb HO10
          have HG := Lib.hid trivial
          go_wp2_with (have _ := HG; refine wpList_store_sum rfl _ _ rfl z7 0 (sd E E) rfl rfl HO11.out.t7 ?_; have HO12 := Lib.hid (HO11.out.set7 (sd E E)); clear HG HO11; generalize w11.setCells z7 0 (cellsOf (sd E E)) = w12 at *)
          have hw : wrap64 ((D : Int) - 1) = (D : Int) - 1 := by have := HD.out.1; unfold wrap64; omega
          rw [hw]
          refine ⟨⟨h + 1, by have := HD.out.2.2; omega, congrArg _ (by have := HD.out.2.1; omega), by rw [HX.out, em_succ, ← HAE.out.2]; exact HO12.out⟩, ?_⟩
          simp only [intOf]
          omega
        · have hq1 : q = 1 := by have := HQ.out; omega
          subst hq1
          clear hq0
          have hnx : own (k, bs) (h + 1) = sd E A := by
            rw [own_succ, Keys.bit_odd, ← HQ.out, HAE.out.1, HAE.out.2]; rfl
          have HX := Lib.hid hnx
          clear hnx
          have HG := Lib.hid trivial
          go_wp2_with (first
            | (have _ := HG; refine wpList_load_sum rfl _ rfl z6 0 rfl A HO8.out.r6 ?_)
            | (have _ := HG; refine wpList_load_sum rfl _ rfl z7 0 rfl E HO8.out.r7 ?_))
          refine (sd_any E A w8).mono ?_
          rintro e w9 ⟨rfl, hb⟩
          have HO9 := Lib.hid (HO8.out.below hb)
          clear hb HO8
          go_wp2_with (first
            | (have _ := HG; refine wpList_store_sum rfl _ _ rfl z6 0 (sd E A) rfl rfl HO9.out.t6 ?_; have HO10 := Lib.hid (HO9.out.set6 (sd E A)); clear HG HO9; generalize w9.setCells z6 0 (cellsOf (sd E A)) = w10 at *)
            | (refine wpList_load_sum rfl _ rfl z7 0 rfl E HO10.out.r7 ?_))
          refine (sd_any E E w10).mono ?_
          rintro e w11 ⟨rfl, hb⟩
          have HO11 := Lib.hid (HO10.out.below hb)
          clear hb HO10
          have HG := Lib.hid trivial
          go_wp2_with (have _ := HG; refine wpList_store_sum rfl _ _ rfl z7 0 (sd E E) rfl rfl HO11.out.t7 ?_; have HO12 := Lib.hid (HO11.out.set7 (sd E E)); clear HG HO11; generalize w11.setCells z7 0 (cellsOf (sd E E)) = w12 at *)
          have hw : wrap64 ((D : Int) - 1) = (D : Int) - 1 := by have := HD.out.1; unfold wrap64; omega
          rw [hw]
          refine ⟨⟨h + 1, by have := HD.out.2.2; omega, congrArg _ (by have := HD.out.2.1; omega), by rw [HX.out, em_succ, ← HAE.out.2]; exact HO12.out⟩, ?_⟩
          simp only [intOf]
          omega
      · have e : h = 256 := by omega
        subst e
        clear hlt hh
        have c1 : decide ((0 : Int) ≤ (255 : Int) - ((256 : Nat) : Int)) = false := by decide
        have hA : rootOf (prs l) = own (k, bs) 256 := by rw [HL.out]; exact root_put k bs HC.out
        obtain ⟨A, hA2⟩ : ∃ A, A = own (k, bs) 256 := ⟨_, rfl⟩
        rw [← hA2] at hA HO HES
        have HA := Lib.hid hA
        clear hA hA2
        go_wp2_with fail
        refine wp_region_sched (fun V => OV w3 V z6 z7 A (em 256)) [.e 0 true, .t 1, .t 2, .s 4, .e 3 true, .t 5, .t 6, .t 7] (by kernel_rfl) (by kernel_rfl) (by intro c a d v w h; cases d <;> exact h) ?_
        have HS := Lib.hid (HO.out.below (Below.refl _ _).drew)
        clear HO
        generalize wr.drew = V at *
        refine wpS_k rfl (by rfl) (fun K hK => ?_)
        go_simp
        refine (alive15_any V).mono ?_
        rintro e V1 ⟨rfl, hb⟩
        have HS1 := Lib.hid (HS.out.below hb)
        clear HS hb
        refine hK _ _ ⟨by exact HS1.out, ?_⟩; clear hK K
        try simp only [Act.put, List.setIfInBounds_toArray, List.set_cons_zero, List.set_cons_succ]
        iterate 2
          refine wpS_t rfl (v := ?_) (by rfl) (fun W => ?_) ?_
          rotate_left
          · go_simp
            try rfl
          try simp only [Act.put, List.setIfInBounds_toArray, List.set_cons_zero, List.set_cons_succ]
        refine wpS_load_sum (by exact HS1.out) rfl (by rfl) _ (by rfl) z6 0 (by rfl) A (fun W hW => hW.r6) ?_
        try simp only [Act.put, List.setIfInBounds_toArray, List.set_cons_zero, List.set_cons_succ]
        refine wpS_k rfl (by rfl) (fun K hK => ?_)
        go_simp
        have HR := Lib.hid (mroot_any V1 p b (0 + 1) l (H3.out.1.below HS1.out.bw) (by
          have := congrArg List.length HL.out
          have h2 := length_putB [] k bs
          simp [prs] at this
          simp at h2
          omega))
        rw [HA.out] at HR
        refine HR.out.mono ?_
        rintro e V2 ⟨rfl, hb⟩
        have HS2 := Lib.hid (HS1.out.below hb)
        clear HS1 HR hb
        refine hK _ _ ⟨by exact HS2.out, ?_⟩; clear hK K
        try simp only [Act.put, List.setIfInBounds_toArray, List.set_cons_zero, List.set_cons_succ]
        have hes := HES.out
        iterate 3
          refine wpS_t rfl (v := ?_) (by rfl) (fun W => ?_) ?_
          rotate_left
          · go_simp
            try rfl
          try simp only [Act.put, List.setIfInBounds_toArray, List.set_cons_zero, List.set_cons_succ]
        refine wpS_done ?_
        go_wp2_with fail
        exact bodyPost_ret (results_tmp rfl _ _ _) rfl ⟨rfl, H3.out.2.1.trans (HS2.out.bw.mono H3.out.2.1.size)⟩
end Go.Proofs.Ytfmgoehnbaiamaa
