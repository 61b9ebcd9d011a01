/-
  Joined: CP2, CQ1, CP3.
-/
import Derived.Test.YtdkcndgehgmadaaGreatDoorZBG
import Derived.Test.YtdkcndgehgmadaaGreatDoorZBR
import Derived.Test.YtdkcndgehgmadaaGreatDoorZBS
import Derived.Test.YtdkcndgehgmadaaGreatDoorZBT
import Derived.Test.YtdkcndgehgmadaaGreatDoorZBH
-- The law ChainsPlay: its code in parts; frames of its slots.
open Go Go.RowKit Alm
namespace Alm
def fstC : Code → Code
  | .seq a _ => a
  | c => c
def sndC : Code → Code
  | .seq _ b => b
  | c => c
def blkC : Code → Code
  | .block _ c => c
  | c => c
def lupC : Code → Code
  | .loop c => c
  | c => c
/-- What stands in some slots. -/
def SlotsL (t : Array Value) : List (Nat × Value) → Prop
  | [] => True
  | x :: r => t.getD x.1 undef = x.2 ∧ SlotsL t r
end Alm
namespace Go.Proofs.YtdkcndgehgmadaaGreatDoor
noncomputable def playC : Code := (Tryz.f6.body).getD .skip
noncomputable def loop1C : Code := lupC (blkC (sndC (fstC (dropN 5 playC))))
noncomputable def loop2C : Code := lupC (blkC (sndC (fstC (dropN 8 playC))))
noncomputable def body2C : Code := blkC (fstC (sndC loop2C))
/-- A frame of as many slots. -/
def frG (g : Nat → Value) : Act := ⟨#[g 0, g 1, g 2, g 3, g 4, g 5, g 6, g 7, g 8, g 9, g 10, g 11, g 12, g 13, g 14, g 15, g 16, g 17, g 18, g 19, g 20, g 21, g 22, g 23, g 24, g 25, g 26, g 27, g 28, g 29, g 30, g 31, g 32, g 33, g 34, g 35, g 36, g 37, g 38, g 39, g 40, g 41, g 42, g 43, g 44, g 45, g 46, g 47, g 48, g 49, g 50, g 51, g 52, g 53, g 54, g 55, g 56, g 57, g 58, g 59, g 60, g 61, g 62, g 63, g 64, g 65, g 66, g 67, g 68, g 69, g 70, g 71, g 72, g 73, g 74, g 75, g 76, g 77, g 78, g 79, g 80, g 81, g 82, g 83, g 84, g 85, g 86, g 87, g 88, g 89, g 90, g 91, g 92, g 93, g 94, g 95, g 96, g 97, g 98, g 99, g 100, g 101, g 102, g 103, g 104, g 105, g 106, g 107, g 108, g 109, g 110, g 111, g 112, g 113, g 114, g 115, g 116, g 117, g 118, g 119, g 120, g 121, g 122, g 123, g 124, g 125, g 126, g 127, g 128, g 129, g 130, g 131, g 132, g 133, g 134, g 135, g 136, g 137, g 138, g 139, g 140, g 141, g 142, g 143, g 144, g 145, g 146, g 147, g 148, g 149, g 150, g 151, g 152, g 153, g 154, g 155, g 156, g 157, g 158, g 159, g 160, g 161, g 162, g 163, g 164, g 165, g 166, g 167, g 168, g 169, g 170, g 171, g 172, g 173, g 174, g 175, g 176, g 177, g 178, g 179, g 180, g 181, g 182, g 183, g 184, g 185, g 186, g 187, g 188, g 189, g 190, g 191, g 192, g 193, g 194, g 195, g 196, g 197, g 198, g 199, g 200, g 201, g 202, g 203, g 204, g 205, g 206, g 207, g 208, g 209, g 210, g 211, g 212, g 213, g 214, g 215, g 216, g 217, g 218, g 219, g 220, g 221, g 222, g 223, g 224, g 225, g 226, g 227, g 228, g 229, g 230, g 231, g 232, g 233, g 234, g 235, g 236, g 237, g 238, g 239, g 240, g 241, g 242, g 243, g 244, g 245, g 246, g 247, g 248, g 249, g 250, g 251, g 252, g 253, g 254, g 255, g 256, g 257, g 258, g 259, g 260, g 261, g 262, g 263, g 264, g 265, g 266, g 267, g 268, g 269, g 270, g 271, g 272], []⟩
set_option maxRecDepth 100000 in
theorem frG_eq (g : Nat → Value) : frG g = ⟨((List.range 273).map g).toArray, []⟩ := rfl
structure FrAt (a : Act) (l : List (Nat × Value)) : Prop where
  size : a.tmps.size = 273
  nod : a.defers = []
  vals : SlotsL a.tmps l
theorem FrAt.form {a : Act} {l : List (Nat × Value)} (h : FrAt a l) : ∃ g, a = frG g ∧ SlotsL (frG g).tmps l := by
  refine ⟨fun i => a.tmps.getD i undef, ?_, ?_⟩
  · obtain ⟨t, d⟩ := a
    have hd : d = [] := h.nod
    have hs : t.size = 273 := h.size
    subst hd
    rw [frG_eq]
    congr 1
    apply Array.ext
    · simp [hs]
    · intro i h1 h2
      simp [Array.getD, h1]
  · have e : a = frG fun i => a.tmps.getD i undef := by
      obtain ⟨t, d⟩ := a
      have hd : d = [] := h.nod
      have hs : t.size = 273 := h.size
      subst hd
      rw [frG_eq]
      congr 1
      apply Array.ext
      · simp [hs]
      · intro i h1 h2
        simp [Array.getD, h1]
    rw [← e]
    exact h.vals
/-- A list is told, with the Book between. -/
def PlayN (w W : World) (c q nb : Nat) (va : Value) (all : List (List UInt8)) : Prop := ∃ cs C F HB SB HS SS, PlayS w W c q nb va all all cs C F HB SB HS SS
/-- What stands behind an ask's answers. -/
structure AskI (w W : World) (c q nb : Nat) (va : Value) (all : List (List UInt8)) (cs : List Value) (C : Nat → Prop) (F : Nat → Value) (HB : List Held) (SB : Nat → List (List Value)) (HS : List Held) (SS : Nat → List (List Value)) (x p z : Value) (X : List UInt8) (P Z : List Sum) : Prop where
  s : PlayS w W c q nb va all all cs C F HB SB HS SS
  ex : Lie W w.heap.size 1 x (ones X)
  ep : Lie W w.heap.size 32 p (P.map cellsOf)
  ez : Lie W w.heap.size 32 z (Z.map cellsOf)
  xl : Loose W q va C F HB HS x
  pl : Loose W q va C F HB HS p
  zl : Loose W q va C F HB HS z
  px : ∀ k, p.ownBlock = some k → x.ownBlock ≠ some k
  zx : ∀ k, z.ownBlock = some k → x.ownBlock ≠ some k
  zp : ∀ k, z.ownBlock = some k → p.ownBlock ≠ some k
theorem AskI.mem {w W W' : World} {c q nb : Nat} {va : Value} {all : List (List UInt8)} {cs : List Value} {C : Nat → Prop} {F : Nat → Value} {HB HS : List Held} {SB SS : Nat → List (List Value)} {x p z : Value} {X : List UInt8} {P Z : List Sum} (h : AskI w W c q nb va all cs C F HB SB HS SS x p z X P Z) (hb : Below W.heap.size W W') : AskI w W' c q nb va all cs C F HB SB HS SS x p z X P Z :=
  ⟨h.s.mem hb, h.ex.below hb, h.ep.below hb, h.ez.below hb, h.xl.mem hb.size, h.pl.mem hb.size, h.zl.mem hb.size, h.px, h.zx, h.zp⟩
theorem lie_slice {W : World} {base size : Nat} {v : Value} {xs : List (List Value)} (h : Lie W base size v xs) : ∃ a n c, v = .slice a n c ∧ xs.length = n := by
  obtain ⟨a, cap, hv⟩ := h.form
  exact ⟨a, _, cap, hv, rfl⟩
end Go.Proofs.YtdkcndgehgmadaaGreatDoor
-- The law ChainsPlay: an entry is added, and told to the Book.
open Go Go.RowKit Alm
namespace Go.Proofs.YtdkcndgehgmadaaGreatDoor
noncomputable def body1C : Code := blkC (fstC (sndC loop1C))
set_option maxRecDepth 100000 in
set_option maxHeartbeats 2000000 in
theorem play_addS {w W : World} {c q nb i lb lo ln lc un : Nat} {va v1 : Value} {ua : Option Addr} {uc : Nat} {l1 : List (List UInt8)} {b : List UInt8} {cs : List Value} {C : Nat → Prop} {F : Nat → Value} {HB HS0 : List Held} {SB SS : Nat → List (List Value)} {K : Act → World → Prop} {Q : Exit → Act → World → Prop} (a : Act) (hA : FrAt a [(0, .slice (some ⟨lb, lo, none⟩) ln lc), (1, v1), (5, .pointer (some ⟨c, 0, none⟩)), (6, .pointer (some ⟨q, 0, none⟩)), (7, va), (8, .int .i64 (i : Int))])
    (hS : PlayS w W c q nb va l1 l1 cs C F HB SB HS0 SS) (hnb : nb < 1000) (hl1 : l1.length < 1000) (hi : i < ln) (hc0 : w.cell? ⟨lb, lo + i, none⟩ = some (.slice ua un uc)) (hu : BytesAt w (.slice ua un uc) b) (hun : b.length = un) (hbl : un < 900000) (hsm : un ≤ 16384)
    (hK : ∀ a' W' va', FrAt a' [(0, .slice (some ⟨lb, lo, none⟩) ln lc), (1, v1), (5, .pointer (some ⟨c, 0, none⟩)), (6, .pointer (some ⟨q, 0, none⟩)), (7, va'), (8, .int .i64 (i : Int))] → PlayN w W' c q (nb + 1) va' (l1 ++ [b]) → K a' W') :
    Code.wp Tryz.prog body1C (Exit.then K Q) a W := by
  have c0 := bcl hS.below hc0
  have j0 : (0 : Int) ≤ (i : Int) := by omega
  have j1 : (i : Int) < (ln : Int) := by omega
  have z1 : (un : Int) ≤ 16384 := by omega
  have z2 : decide (un ≤ 16384) = true := decide_eq_true (by omega)
  have HC := Lib.hid (And.intro hc0 (And.intro hu (And.intro hun hbl)))
  have HS := Lib.hid (And.intro hS (And.intro hnb (And.intro hl1 hsm)))
  have HK := Lib.hid hK
  clear hc0 hu hun hbl hS hnb hl1 hK hsm hi
  obtain ⟨g, rfl, s0, s1, s5, s6, s7, s8, -⟩ := hA.form
  change g 0 = .slice (some ⟨lb, lo, none⟩) ln lc at s0
  change g 1 = v1 at s1
  change g 5 = .pointer (some ⟨c, 0, none⟩) at s5
  change g 6 = .pointer (some ⟨q, 0, none⟩) at s6
  change g 7 = va at s7
  change g 8 = .int .i64 (i : Int) at s8
  unfold frG
  rw [s0, s1, s5, s6, s7, s8]
  clear s0 s1 s5 s6 s7 s8 hA
  conv => arg 2; whnf
  go_wp2_with (go_at_call 30; refine Hid.out ?_)
  refine Lib.hid ?_
  refine (twin_bytes b _ W (bytes_below HC.out.2.1 HS.out.1.below (Nat.le_refl _)) (by have := HC.out.2.2; omega)).mono ?_
  rintro e W1 ⟨t, rfl, ht, hb⟩
  have hs1 := HS.out.1.mem hb
  have htl := ht.lie
  have htb := fun k hk => htl.lt k hk
  have hlo := HS.out.1.loose (W' := W1) htb
  have htf := ht
  obtain ⟨tg, tc, rfl, -⟩ := htf
  have hmt := ht.lie.mono (base' := w.heap.size) HS.out.1.below.size
  have H1 := Lib.hid (And.intro hs1 (And.intro ht (And.intro hlo hmt)))
  have cc := bcl hs1.below HC.out.1
  obtain ⟨B1, hB1⟩ : ∃ B1, B1 = W.heap.size := ⟨_, rfl⟩
  rw [← hB1] at H1
  rw [HC.out.2.2.1] at H1 ⊢
  clear hb c0 hs1 ht htl htb hlo hmt hB1 cc
  go_wp2_with (go_at_call 31; refine Hid.out ?_)
  refine Lib.hid ?_
  refine (chain_add H1.out.1.ch b _ H1.out.2.1.bytes H1.out.1.below.size (by have := HS.out.2.2.1; omega) (by have := HC.out.2.2.1; have := HS.out.2.2.2; omega)).mono ?_
  rintro e W2 ⟨rfl, C2, hc2, hC2, hk⟩
  have hs2 := H1.out.1.add hc2 hC2 hk
  have ht2 := H1.out.2.1.keep hk (fun k hk2 e => (H1.out.2.2.1 k hk2).2.1 e)
  have hm2 := H1.out.2.2.2.keep hk (fun k hk2 e => (H1.out.2.2.1 k hk2).2.1 e)
  have hlo2 := H1.out.2.2.1.add hC2 hk.size
  have H2 := Lib.hid (And.intro hs2 (And.intro ht2 (And.intro hlo2 hm2)))
  clear hc2 hC2 hk ht2 hm2 hlo2
  have cc := bcl hs2.below HC.out.1
  clear hs2
  go_wp2_with (go_at_call 32; refine Hid.out ?_)
  refine Lib.hid ?_
  have h2t := H2.out.2.1
  rw [show Value.slice (some ⟨tg, 0, none⟩) un tc = Value.slice (some ⟨tg, 0, none⟩) b.length tc by rw [HC.out.2.2.1]] at h2t
  have hlb := left_bytes b _ (.slice ua un uc) B1 W2 h2t (bytes_below HC.out.2.1 H2.out.1.below (Nat.le_refl _)) (by have := HC.out.2.2; omega)
  rw [HC.out.2.2.1] at hlb
  clear h2t
  refine hlb.mono ?_
  clear hlb
  rintro e W3 ⟨rfl, hb⟩
  have hs3 := H2.out.1.mem hb
  have H3 := Lib.hid (And.intro hs3 (And.intro (H2.out.2.2.2.below hb) (H2.out.2.2.1.mem hb.size)))
  have cc := bcl hs3.below HC.out.1
  clear hb hs3
  go_wp2_with (refine wpList_plain rfl fun K hK => wp_lit_list _ rfl ua un uc rfl (hK _ _ ?_); refine Hid.out ?_)
  refine Lib.hid ?_
  have hr4 := range_new W3 #[.slice ua un uc] 65 _ rfl
  have hba := al (Below.refl W3.heap.size W3) (.cells #[.slice ua un uc] 65)
  have H4 := Lib.hid (And.intro (H3.out.1.mem hba) (And.intro (H3.out.2.1.below hba) (And.intro (H3.out.2.2.mem hba.size) hr4)))
  clear hr4 hba cc
  obtain ⟨X4, hX4⟩ : ∃ X4, X4 = W3.heap.size := ⟨_, rfl⟩
  rw [← hX4] at H4 ⊢
  clear hX4
  generalize W3.alloc (.cells #[.slice ua un uc] 65) = W4 at *
  go_wp2_with (at_builtin; refine Hid.out ?_)
  refine Lib.hid ?_
  refine wpList_plain rfl fun K2 hK2 => ?_
  refine wp_append_list (W0 := w) _ _ rfl w.heap.size H4.out.1.below.size _ cs l1 l1.length rfl rfl H4.out.1.row H4.out.1.each X4 1 ua un uc b rfl H4.out.2.2.2 HC.out.2.1 (by have := HS.out.2.2.1; omega) ?_
  intro g5 c5 W5 ho5 hE5 hg5 hat5
  have hv5 : ∀ k, (Value.slice (some ⟨g5, 0, none⟩) (l1.length + 1) c5).ownBlock = some k → va.ownBlock = some k ∨ W4.heap.size ≤ k := fun k hk => by
    obtain rfl : g5 = k := by simpa [Value.ownBlock] using hk
    rcases hat5 with h | h
    · exact .inl h
    · exact .inr (by omega)
  have hk5 : Keeps (fun k => va.ownBlock = some k) W4 W5 := Keeps.of_grown hg5 (fun k hk => hk)
  have hs5 := H4.out.1.app (l2' := l1 ++ [b]) (by rw [List.length_append, List.length_singleton]; exact ho5) hE5 hg5 hv5
  have H5 := Lib.hid (And.intro hs5 (And.intro (H4.out.2.1.keep hk5 (fun k hk e => (H4.out.2.2.1 k hk).2.2.2 e)) (H4.out.2.2.1.app hv5 hk5.size)))
  clear ho5 hE5 hg5 hat5 hv5 hk5 hs5
  refine hK2 _ _ ?_
  clear hK2
  go_wp2_with (go_at_call 33; refine Hid.out ?_)
  refine Lib.hid ?_
  refine (tell_bytes (some ⟨tg, 0, none⟩) un tc (ones b) w.heap.size q nb F HB HS0 SB SS W5 H5.out.1.bk H5.out.2.1 (fun k hk => (H5.out.2.2 k hk).2.2.1) (by have := HS.out.2.1; omega) (by have := H5.out.1.hB; have := HS.out.2.1; omega) (by rw [ones_len]; have := HC.out.2.2; omega)).mono ?_
  rintro e W6 ⟨rfl, v5, hm, hv, hk⟩
  have hT := H5.out.1.told1 H5.out.2.2 hm hv hk
  have H6 := Lib.hid hT
  clear hT hm hv hk
  go_wp2_with fail
  exact HK.out _ _ _ ⟨rfl, rfl, rfl, rfl, rfl, rfl, rfl, rfl, trivial⟩ ⟨_, _, _, _, _, _, _, H6.out⟩
set_option maxRecDepth 100000 in
set_option maxHeartbeats 2000000 in
theorem play_addL {w W : World} {c q nb i lb lo ln lc un : Nat} {va v1 : Value} {ua : Option Addr} {uc : Nat} {l1 : List (List UInt8)} {b : List UInt8} {cs : List Value} {C : Nat → Prop} {F : Nat → Value} {HB HS0 : List Held} {SB SS : Nat → List (List Value)} {K : Act → World → Prop} {Q : Exit → Act → World → Prop} (a : Act) (hA : FrAt a [(0, .slice (some ⟨lb, lo, none⟩) ln lc), (1, v1), (5, .pointer (some ⟨c, 0, none⟩)), (6, .pointer (some ⟨q, 0, none⟩)), (7, va), (8, .int .i64 (i : Int))])
    (hS : PlayS w W c q nb va l1 l1 cs C F HB SB HS0 SS) (hnb : nb < 1000) (hl1 : l1.length < 1000) (hi : i < ln) (hc0 : w.cell? ⟨lb, lo + i, none⟩ = some (.slice ua un uc)) (hu : BytesAt w (.slice ua un uc) b) (hun : b.length = un) (hbl : un < 900000) (hsm : 16384 < un)
    (hK : ∀ a' W' va', FrAt a' [(0, .slice (some ⟨lb, lo, none⟩) ln lc), (1, v1), (5, .pointer (some ⟨c, 0, none⟩)), (6, .pointer (some ⟨q, 0, none⟩)), (7, va'), (8, .int .i64 (i : Int))] → PlayN w W' c q (nb + 1) va' l1 → K a' W') :
    Code.wp Tryz.prog body1C (Exit.then K Q) a W := by
  have c0 := bcl hS.below hc0
  have j0 : (0 : Int) ≤ (i : Int) := by omega
  have j1 : (i : Int) < (ln : Int) := by omega
  have z1 : ¬ (un : Int) ≤ 16384 := by omega
  have z2 : decide (un ≤ 16384) = false := decide_eq_false (by omega)
  have HC := Lib.hid (And.intro hc0 (And.intro hu (And.intro hun hbl)))
  have HS := Lib.hid (And.intro hS (And.intro hnb (And.intro hl1 hsm)))
  have HK := Lib.hid hK
  clear hc0 hu hun hbl hS hnb hl1 hK hsm hi
  obtain ⟨g, rfl, s0, s1, s5, s6, s7, s8, -⟩ := hA.form
  change g 0 = .slice (some ⟨lb, lo, none⟩) ln lc at s0
  change g 1 = v1 at s1
  change g 5 = .pointer (some ⟨c, 0, none⟩) at s5
  change g 6 = .pointer (some ⟨q, 0, none⟩) at s6
  change g 7 = va at s7
  change g 8 = .int .i64 (i : Int) at s8
  unfold frG
  rw [s0, s1, s5, s6, s7, s8]
  clear s0 s1 s5 s6 s7 s8 hA
  conv => arg 2; whnf
  go_wp2_with (go_at_call 30; refine Hid.out ?_)
  refine Lib.hid ?_
  refine (twin_bytes b _ W (bytes_below HC.out.2.1 HS.out.1.below (Nat.le_refl _)) (by have := HC.out.2.2; omega)).mono ?_
  rintro e W1 ⟨t, rfl, ht, hb⟩
  have hs1 := HS.out.1.mem hb
  have htl := ht.lie
  have htb := fun k hk => htl.lt k hk
  have hlo := HS.out.1.loose (W' := W1) htb
  have htf := ht
  obtain ⟨tg, tc, rfl, -⟩ := htf
  have hmt := ht.lie.mono (base' := w.heap.size) HS.out.1.below.size
  have H1 := Lib.hid (And.intro hs1 (And.intro ht (And.intro hlo hmt)))
  have cc := bcl hs1.below HC.out.1
  obtain ⟨B1, hB1⟩ : ∃ B1, B1 = W.heap.size := ⟨_, rfl⟩
  rw [← hB1] at H1
  rw [HC.out.2.2.1] at H1 ⊢
  clear hb c0 hs1 ht htl htb hlo hmt hB1 cc
  go_wp2_with (go_at_call 31; refine Hid.out ?_)
  refine Lib.hid ?_
  refine (chain_long H1.out.1.ch (some ⟨tg, 0, none⟩) un tc HS.out.2.2.2).mono ?_
  rintro e W2 ⟨rfl, hw⟩
  have H2 := H1
  rw [hw] at H2
  have hs2 := H2.out.1
  clear hw
  have cc := bcl hs2.below HC.out.1
  clear hs2
  go_wp2_with (go_at_call 32; refine Hid.out ?_)
  refine Lib.hid ?_
  have h2t := H2.out.2.1
  rw [show Value.slice (some ⟨tg, 0, none⟩) un tc = Value.slice (some ⟨tg, 0, none⟩) b.length tc by rw [HC.out.2.2.1]] at h2t
  have hlb := left_bytes b _ (.slice ua un uc) B1 W2 h2t (bytes_below HC.out.2.1 H2.out.1.below (Nat.le_refl _)) (by have := HC.out.2.2; omega)
  rw [HC.out.2.2.1] at hlb
  clear h2t
  refine hlb.mono ?_
  clear hlb
  rintro e W3 ⟨rfl, hb⟩
  have hs3 := H2.out.1.mem hb
  have H3 := Lib.hid (And.intro hs3 (And.intro (H2.out.2.2.2.below hb) (H2.out.2.2.1.mem hb.size)))
  have cc := bcl hs3.below HC.out.1
  clear hb hs3
  clear cc
  go_wp2_with (go_at_call 33; refine Hid.out ?_)
  refine Lib.hid ?_
  refine (tell_bytes (some ⟨tg, 0, none⟩) un tc (ones b) w.heap.size q nb F HB HS0 SB SS W3 H3.out.1.bk H3.out.2.1 (fun k hk => (H3.out.2.2 k hk).2.2.1) (by have := HS.out.2.1; omega) (by have := H3.out.1.hB; have := HS.out.2.1; omega) (by rw [ones_len]; have := HC.out.2.2; omega)).mono ?_
  rintro e W6 ⟨rfl, v5, hm, hv, hk⟩
  have hT := H3.out.1.told1 H3.out.2.2 hm hv hk
  have H6 := Lib.hid hT
  clear hT hm hv hk
  go_wp2_with fail
  exact HK.out _ _ _ ⟨rfl, rfl, rfl, rfl, rfl, rfl, rfl, rfl, trivial⟩ ⟨_, _, _, _, _, _, _, H6.out⟩
end Go.Proofs.YtdkcndgehgmadaaGreatDoor
-- The law ChainsPlay: what an ask is answered is told to the Book.
open Go Go.RowKit Alm
namespace Go.Proofs.YtdkcndgehgmadaaGreatDoor
set_option maxRecDepth 100000 in
set_option maxHeartbeats 1000000 in
theorem play_tell {w W : World} {c q nb N j : Nat} {va v1 : Value} {all : List (List UInt8)} {cs : List Value} {C : Nat → Prop} {F : Nat → Value} {HB HS : List Held} {SB SS : Nat → List (List Value)} {x p z : Value} {X : List UInt8} {P Z : List Sum} {K : Act → World → Prop} {Q : Exit → Act → World → Prop} (a : Act) (hA : FrAt a [(1, v1), (5, .pointer (some ⟨c, 0, none⟩)), (6, .pointer (some ⟨q, 0, none⟩)), (7, va), (11, .int .u64 (N : Int)), (12, .int .i64 (j : Int)), (15, x), (21, p), (23, z)]) (hI : AskI w W c q nb va all cs C F HB SB HS SS x p z X P Z) (hnb : nb < 1000) (hX : X.length < 900000) (hP : P.length < 900000) (hZ : Z.length < 900000)
    (hK : ∀ a' W', FrAt a' [(1, v1), (5, .pointer (some ⟨c, 0, none⟩)), (6, .pointer (some ⟨q, 0, none⟩)), (7, va), (11, .int .u64 (N : Int)), (12, .int .i64 (j : Int))] → PlayN w W' c q (nb + 3) va all → K a' W') :
    Code.wp Tryz.prog (dropN 11 body2C) (Exit.then K Q) a W := by
  have hsx := lie_slice hI.ex
  have hsp := lie_slice hI.ep
  have hsz := lie_slice hI.ez
  obtain ⟨xa, xn, xc, rfl, hxn⟩ := hsx
  obtain ⟨pa, pn, pc, rfl, hpn⟩ := hsp
  obtain ⟨za, zn, zc, rfl, hzn⟩ := hsz
  have HI := Lib.hid (And.intro hI (And.intro hnb (And.intro hX (And.intro hP hZ))))
  have HK := Lib.hid hK
  clear hI hnb hX hP hZ hK hxn hpn hzn
  obtain ⟨g, rfl, s1, s5, s6, s7, s11, s12, s15, s21, s23, -⟩ := hA.form
  change g 1 = v1 at s1
  change g 5 = .pointer (some ⟨c, 0, none⟩) at s5
  change g 6 = .pointer (some ⟨q, 0, none⟩) at s6
  change g 7 = va at s7
  change g 11 = .int .u64 (N : Int) at s11
  change g 12 = .int .i64 (j : Int) at s12
  change g 15 = .slice xa xn xc at s15
  change g 21 = .slice pa pn pc at s21
  change g 23 = .slice za zn zc at s23
  unfold frG
  rw [s1, s5, s6, s7, s11, s12, s15, s21, s23]
  clear s1 s5 s6 s7 s11 s12 s15 s21 s23 hA
  conv => arg 2; whnf
  go_wp2_with (go_at_call 33; refine Hid.out ?_)
  refine Lib.hid ?_
  refine (tell_bytes xa xn xc (ones X) w.heap.size q nb F HB HS SB SS W HI.out.1.s.bk HI.out.1.ex (fun k hk => (HI.out.1.xl k hk).2.2.1) (by have := HI.out.2.1; omega) (by have := HI.out.1.s.hB; have := HI.out.2.1; omega) (by rw [ones_len]; exact HI.out.2.2.1)).mono ?_
  rintro e W1 ⟨rfl, v5, hm, hv, hk⟩
  have hT := HI.out.1.s.told1 HI.out.1.xl hm hv hk
  have hp := HI.out.1.ep.keep hk (fun k hk2 e => (HI.out.1.pl k hk2).2.2.1 (by
    rcases e with e | e
    · exact .inl e
    · exact .inr (.inl (.inl e))))
  have hz := HI.out.1.ez.keep hk (fun k hk2 e => (HI.out.1.zl k hk2).2.2.1 (by
    rcases e with e | e
    · exact .inl e
    · exact .inr (.inl (.inl e))))
  have hpl := Loose.told1 (n := nb) (x := .slice xa xn xc) HI.out.1.pl hv HI.out.1.px hk.size
  have hzl := Loose.told1 (n := nb) (x := .slice xa xn xc) HI.out.1.zl hv HI.out.1.zx hk.size
  have H1 := Lib.hid (And.intro hT (And.intro hp (And.intro hz (And.intro hpl hzl))))
  clear hT hp hz hpl hzl hm hv hk
  go_wp2_with (go_at_call 15; refine Hid.out ?_)
  refine Lib.hid ?_
  refine (tell_sums pa pn pc _ w.heap.size q (nb + 1) _ _ HS _ SS W1 H1.out.1.bk H1.out.2.1 (fun k hk => (H1.out.2.2.2.1 k hk).2.2.1) (by have := HI.out.2.1; omega) (by have := HI.out.1.s.hS; have := HI.out.2.1; omega) (by rw [List.length_map]; exact HI.out.2.2.2.1)).mono ?_
  rintro e W2 ⟨rfl, v6, hm, hv, hk⟩
  have hT := H1.out.1.told5 H1.out.2.2.2.1 hm hv hk
  have hz := H1.out.2.2.1.keep hk (fun k hk2 e => (H1.out.2.2.2.2 k hk2).2.2.1 (by
    rcases e with e | e
    · exact .inl e
    · exact .inr (.inr (.inl e))))
  have hzl := Loose.told5 (n := nb + 1) (x := .slice pa pn pc) H1.out.2.2.2.2 hv HI.out.1.zp hk.size
  have H2 := Lib.hid (And.intro hT (And.intro hz hzl))
  clear hT hz hzl hm hv hk
  go_wp2_with (go_at_call 15; refine Hid.out ?_)
  refine Lib.hid ?_
  refine (tell_sums za zn zc _ w.heap.size q (nb + 2) _ _ _ _ _ W2 H2.out.1.bk H2.out.2.1 (fun k hk => (H2.out.2.2 k hk).2.2.1) (by have := HI.out.2.1; omega) (by have := H2.out.1.hS; have := HI.out.2.1; omega) (by rw [List.length_map]; exact HI.out.2.2.2.2)).mono ?_
  rintro e W3 ⟨rfl, v7, hm, hv, hk⟩
  have hT := H2.out.1.told5 H2.out.2.2 hm hv hk
  have H3 := Lib.hid hT
  clear hT hm hv hk
  go_wp2_with fail
  exact HK.out _ _ ⟨rfl, rfl, rfl, rfl, rfl, rfl, rfl, rfl, trivial⟩ ⟨_, _, _, _, _, _, _, H3.out⟩
end Go.Proofs.YtdkcndgehgmadaaGreatDoor
