/-
  Joined: Y1, Y2.
-/
import Derived.Test.YtfmgoehnbaiamaaGreatDoorZAH
-- Plain: sums of bytes reckoned on numbers, so that the kernel reckons one in no time. No program in sight.
namespace Alm
namespace Fast
def s1 (E : Nat) : Nat := Nat.mod (Nat.xor (Nat.xor (Nat.shiftRight E 6) (Nat.shiftRight E 11)) (Nat.shiftRight E 25)) 4294967296
def s0 (E : Nat) : Nat := Nat.mod (Nat.xor (Nat.xor (Nat.shiftRight E 2) (Nat.shiftRight E 13)) (Nat.shiftRight E 22)) 4294967296
def g0 (x E : Nat) : Nat := Nat.mod (Nat.xor (Nat.xor (Nat.shiftRight E 7) (Nat.shiftRight E 18)) (Nat.shiftRight x 3)) 4294967296
def g1 (x E : Nat) : Nat := Nat.mod (Nat.xor (Nat.xor (Nat.shiftRight E 17) (Nat.shiftRight E 19)) (Nat.shiftRight x 10)) 4294967296
def ch (e f g : Nat) : Nat := Nat.xor (Nat.land e (Nat.xor f g)) g
def mj (a b c : Nat) : Nat := Nat.lor (Nat.land a (Nat.lor b c)) (Nat.land b c)
def t1 (k w e f g h : Nat) : Nat := Nat.add (Nat.add (Nat.add (Nat.add h k) w) (s1 (Nat.mul e 4294967297))) (ch e f g)
def t2 (a b c : Nat) : Nat := Nat.add (s0 (Nat.mul a 4294967297)) (mj a b c)
def nw (w0 w1 w9 w14 : Nat) : Nat := Nat.mod (Nat.add (Nat.add (Nat.add w0 w9) (g0 w1 (Nat.mul w1 4294967297))) (g1 w14 (Nat.mul w14 4294967297))) 4294967296
abbrev F : Type := Nat → Nat → Nat → Nat → Nat → Nat → Nat → Nat → Nat → Nat → Nat → Nat → Nat → Nat → Nat → Nat → Nat → Nat → Nat → Nat → Nat → Nat → Nat → Nat → Nat
def pack (a b c d e f g h : Nat) : Nat := Nat.add h (Nat.mul 4294967296 (Nat.add g (Nat.mul 4294967296 (Nat.add f (Nat.mul 4294967296 (Nat.add e (Nat.mul 4294967296 (Nat.add d (Nat.mul 4294967296 (Nat.add c (Nat.mul 4294967296 (Nat.add b (Nat.mul 4294967296 a)))))))))))))
def step (k : Nat) (ih : F) : F := fun a b c d e f g h w0 w1 w2 w3 w4 w5 w6 w7 w8 w9 w10 w11 w12 w13 w14 w15 => ih (Nat.mod (Nat.add (t1 k w0 e f g h) (t2 a b c)) 4294967296) a b c (Nat.mod (Nat.add d (t1 k w0 e f g h)) 4294967296) e f g w1 w2 w3 w4 w5 w6 w7 w8 w9 w10 w11 w12 w13 w14 w15 (nw w0 w1 w9 w14)
noncomputable def run (ks : List Nat) : F := @List.rec Nat (fun _ => F) (fun a b c d e f g h _ _ _ _ _ _ _ _ _ _ _ _ _ _ _ _ => pack a b c d e f g h) (fun k _ ih => step k ih) ks
def tbl : List Nat := [1116352408, 1899447441, 3049323471, 3921009573, 961987163, 1508970993, 2453635748, 2870763221, 3624381080, 310598401, 607225278, 1426881987, 1925078388, 2162078206, 2614888103, 3248222580, 3835390401, 4022224774, 264347078, 604807628, 770255983, 1249150122, 1555081692, 1996064986, 2554220882, 2821834349, 2952996808, 3210313671, 3336571891, 3584528711, 113926993, 338241895, 666307205, 773529912, 1294757372, 1396182291, 1695183700, 1986661051, 2177026350, 2456956037, 2730485921, 2820302411, 3259730800, 3345764771, 3516065817, 3600352804, 4094571909, 275423344, 430227734, 506948616, 659060556, 883997877, 958139571, 1322822218, 1537002063, 1747873779, 1955562222, 2024104815, 2227730452, 2361852424, 2428436474, 2756734187, 3204031479, 3329325298]
def pk2 (s r : Nat) : Nat := pack (Nat.mod (Nat.add (Nat.shiftRight s 224) (Nat.shiftRight r 224)) 4294967296) (Nat.mod (Nat.add (Nat.shiftRight s 192) (Nat.shiftRight r 192)) 4294967296) (Nat.mod (Nat.add (Nat.shiftRight s 160) (Nat.shiftRight r 160)) 4294967296) (Nat.mod (Nat.add (Nat.shiftRight s 128) (Nat.shiftRight r 128)) 4294967296) (Nat.mod (Nat.add (Nat.shiftRight s 96) (Nat.shiftRight r 96)) 4294967296) (Nat.mod (Nat.add (Nat.shiftRight s 64) (Nat.shiftRight r 64)) 4294967296) (Nat.mod (Nat.add (Nat.shiftRight s 32) (Nat.shiftRight r 32)) 4294967296) (Nat.mod (Nat.add (Nat.shiftRight s 0) (Nat.shiftRight r 0)) 4294967296)
noncomputable def block (s b : Nat) : Nat := pk2 s (run tbl (Nat.mod (Nat.shiftRight s 224) 4294967296) (Nat.mod (Nat.shiftRight s 192) 4294967296) (Nat.mod (Nat.shiftRight s 160) 4294967296) (Nat.mod (Nat.shiftRight s 128) 4294967296) (Nat.mod (Nat.shiftRight s 96) 4294967296) (Nat.mod (Nat.shiftRight s 64) 4294967296) (Nat.mod (Nat.shiftRight s 32) 4294967296) (Nat.mod (Nat.shiftRight s 0) 4294967296) (Nat.mod (Nat.shiftRight b 480) 4294967296) (Nat.mod (Nat.shiftRight b 448) 4294967296) (Nat.mod (Nat.shiftRight b 416) 4294967296) (Nat.mod (Nat.shiftRight b 384) 4294967296) (Nat.mod (Nat.shiftRight b 352) 4294967296) (Nat.mod (Nat.shiftRight b 320) 4294967296) (Nat.mod (Nat.shiftRight b 288) 4294967296) (Nat.mod (Nat.shiftRight b 256) 4294967296) (Nat.mod (Nat.shiftRight b 224) 4294967296) (Nat.mod (Nat.shiftRight b 192) 4294967296) (Nat.mod (Nat.shiftRight b 160) 4294967296) (Nat.mod (Nat.shiftRight b 128) 4294967296) (Nat.mod (Nat.shiftRight b 96) 4294967296) (Nat.mod (Nat.shiftRight b 64) 4294967296) (Nat.mod (Nat.shiftRight b 32) 4294967296) (Nat.mod (Nat.shiftRight b 0) 4294967296))
def iv : Nat := 47962653771679561900652889051773562940742041696833059450490514104358170316057

/-! ### numbers of 32 bits -/
/-! ### bytes as a number -/
def bnum (l : List UInt8) : Nat := l.foldl (fun n b => n * 256 + b.toNat) 0
theorem foldl_bnum : ∀ (l : List UInt8) (n : Nat), l.foldl (fun n b => n * 256 + b.toNat) n = n * 256 ^ l.length + bnum l
  | [], n => by simp [bnum]
  | c :: l, n => by
    unfold bnum
    rw [List.foldl_cons, List.foldl_cons, foldl_bnum l, foldl_bnum l, List.length_cons, Nat.pow_succ, Nat.zero_mul, Nat.zero_add, Nat.add_mul, Nat.mul_assoc, Nat.mul_comm 256]
    omega
theorem bnum_append (x y : List UInt8) : bnum (x ++ y) = bnum x * 256 ^ y.length + bnum y := by
  unfold bnum; rw [List.foldl_append, foldl_bnum]; rfl
theorem bnum_lt : ∀ (l : List UInt8), bnum l < 256 ^ l.length
  | [] => by simp [bnum]
  | c :: l => by
    have h := bnum_append [c] l
    rw [List.singleton_append] at h
    rw [h, List.length_cons, Nat.pow_succ]
    have := bnum_lt l
    have hc : c.toNat < 256 := c.toNat_lt
    have e : bnum [c] = c.toNat := by simp [bnum]
    rw [e]
    calc c.toNat * 256 ^ l.length + bnum l < c.toNat * 256 ^ l.length + 256 ^ l.length := by omega
      _ = (c.toNat + 1) * 256 ^ l.length := by rw [Nat.add_mul, Nat.one_mul]
      _ ≤ 256 * 256 ^ l.length := Nat.mul_le_mul_right _ (by omega)
      _ = 256 ^ l.length * 256 := Nat.mul_comm _ _
theorem bnum_inj : ∀ (x y : List UInt8), x.length = y.length → bnum x = bnum y → x = y
  | [], [], _, _ => rfl
  | [], _ :: _, h, _ => by cases h
  | _ :: _, [], h, _ => by cases h
  | a :: x, b :: y, h, e => by
    have hl : x.length = y.length := by simpa using h
    have ha := bnum_append [a] x
    have hb := bnum_append [b] y
    rw [List.singleton_append] at ha hb
    rw [ha, hb, hl] at e
    have h1 := bnum_lt x
    have h2 := bnum_lt y
    rw [hl] at h1
    have e1 : bnum [a] = a.toNat := by simp [bnum]
    have e2 : bnum [b] = b.toNat := by simp [bnum]
    rw [e1, e2] at e
    have hpos : 0 < 256 ^ y.length := Nat.lt_of_le_of_lt (Nat.zero_le _) h2
    have q1 : (a.toNat * 256 ^ y.length + bnum x) / 256 ^ y.length = a.toNat := by
      rw [Nat.mul_comm, Nat.mul_add_div hpos, Nat.div_eq_of_lt h1, Nat.add_zero]
    have q2 : (b.toNat * 256 ^ y.length + bnum y) / 256 ^ y.length = b.toNat := by
      rw [Nat.mul_comm, Nat.mul_add_div hpos, Nat.div_eq_of_lt h2, Nat.add_zero]
    have hab : a.toNat = b.toNat := by rw [← q1, ← q2, e]
    have hxy : bnum x = bnum y := by rw [hab] at e; omega
    rw [UInt8.toNat_inj.1 hab, bnum_inj x y hl hxy]
/-! ### a block -/
/-! ### a sum's number -/
def snum (s : Sum) : Nat := bnum s.toList
theorem snum_inj {a b : Sum} (h : snum a = snum b) : a = b := Vector.toList_inj.1 (bnum_inj _ _ (by simp) h)
theorem snum_lt (a : Sum) : snum a < 2 ^ 256 := by
  have h := bnum_lt a.toList
  have e : a.toList.length = 32 := by simp
  rw [e] at h
  exact h
/-! ### sums of one block, of two -/
end Fast
end Alm
-- Plain law: trees over keys, built from below (as the program's text does) and told from above (as the document does). No program in sight.
namespace Alm
namespace Keys
/-- The number of a key. -/
abbrev kn (k : Sum) : Nat := Fast.snum k
theorem kn_inj {a b : Sum} (h : kn a = kn b) : a = b := Fast.snum_inj h
/-- Pairs: a key, and what stands there. -/
abbrev Pr := Sum × List UInt8
section
variable {α : Type} (sd : α → α → α) (e0 : α) (vl : Sum → List UInt8 → α)
/-- What is empty, so high above the keys. -/
def emp : Nat → α
  | 0 => e0
  | n + 1 => sd (emp n) (emp n)
/-- What pairs come to, so high above the keys. -/
def at' : Nat → List Pr → α
  | 0, [] => e0
  | 0, p :: _ => vl p.1 p.2
  | n + 1, l => sd (at' n (l.filter fun p => !(kn p.1).testBit n)) (at' n (l.filter fun p => (kn p.1).testBit n))
theorem at_nil : ∀ n, at' sd e0 vl n [] = emp sd e0 n
  | 0 => rfl
  | n + 1 => by rw [at', List.filter_nil, List.filter_nil, at_nil n, emp]
/-- Rising pairs. -/
def Rise {β : Type} (l : List (Sum × β)) : Prop := l.Pairwise fun p q => kn p.1 < kn q.1
/-- Pairs that agree above a height. -/
def Same (n : Nat) (g : List Pr) : Prop := ∀ p ∈ g, ∀ q ∈ g, kn p.1 >>> n = kn q.1 >>> n
theorem shr_succ (x n : Nat) : x >>> n = 2 * (x >>> (n + 1)) + (if x.testBit n then 1 else 0) := by
  rw [Nat.shiftRight_succ, Nat.testBit]
  have h := Nat.mod_two_eq_zero_or_one (x >>> n)
  have e : (1 &&& x >>> n) = (x >>> n) % 2 := by rw [Nat.and_comm, Nat.and_one_is_mod]
  rw [e]
  rcases h with h | h <;> rw [h] <;> simp <;> omega
/-! ### from below -/
/-- One height more: of first keys and what they come to. -/
def up (n : Nat) : List (Sum × α) → List (Sum × α)
  | [] => []
  | [x] => [(x.1, if (kn x.1).testBit n then sd (emp sd e0 n) x.2 else sd x.2 (emp sd e0 n))]
  | x :: y :: r => if kn x.1 >>> (n + 1) = kn y.1 >>> (n + 1) then (x.1, sd x.2 y.2) :: up n r else (x.1, if (kn x.1).testBit n then sd (emp sd e0 n) x.2 else sd x.2 (emp sd e0 n)) :: up n (y :: r)
/-- A group's first key, and what it comes to. -/
def told (n : Nat) (g : List Pr) : Sum × α := ((g.headD (Vector.replicate 32 0, [])).1, at' sd e0 vl n g)
theorem bit_odd (x n : Nat) : x.testBit n = decide ((x >>> n) % 2 = 1) := by
  rw [Nat.testBit, Nat.and_comm, Nat.and_one_is_mod]
  have := Nat.mod_two_eq_zero_or_one (x >>> n)
  rcases this with h | h <;> rw [h] <;> rfl
end

/-! ### what stands at keys -/
/-- A pair more, where it belongs; what stood at its key is gone. -/
def put {β : Type} (k : Sum) (v : β) : List (Sum × β) → List (Sum × β)
  | [] => [(k, v)]
  | p :: r => if kn k < kn p.1 then (k, v) :: p :: r else if k = p.1 then (k, v) :: r else p :: put k v r
def del {β : Type} (k : Sum) (l : List (Sum × β)) : List (Sum × β) := l.filter fun p => decide (p.1 ≠ k)
def get (l : List Pr) (k : Sum) : List UInt8 := match l.find? (fun p => decide (p.1 = k)) with | some p => p.2 | none => []
/-- What the program's Put makes of pairs. -/
def putB (l : List Pr) (k : Sum) (v : List UInt8) : List Pr := if v.length > 256 then l else if v = [] then del k l else put k v l
theorem mem_put {β : Type} {k : Sum} {v : β} : ∀ {l : List (Sum × β)}, Rise l → ∀ {p : Sum × β}, p ∈ put k v l ↔ p = (k, v) ∨ (p ∈ l ∧ p.1 ≠ k)
  | [], _, p => by simp [put]
  | q :: r, h, p => by
    obtain ⟨h1, h2⟩ := List.pairwise_cons.1 h
    rw [put]
    split
    · rename_i hlt
      rw [List.mem_cons]
      constructor
      · rintro (rfl | hp)
        · exact .inl rfl
        · refine .inr ⟨hp, fun e => ?_⟩
          rcases List.mem_cons.1 hp with rfl | hp
          · rw [e] at hlt; omega
          · have := h1 p hp; rw [e] at this; omega
      · rintro (rfl | ⟨hp, _⟩)
        · exact .inl rfl
        · exact .inr hp
    · rename_i hlt
      split
      · rename_i he
        subst he
        rw [List.mem_cons, List.mem_cons]
        constructor
        · rintro (rfl | hp)
          · exact .inl rfl
          · exact .inr ⟨.inr hp, fun e => by have := h1 p hp; rw [e] at this; omega⟩
        · rintro (rfl | ⟨rfl | hp, hne⟩)
          · exact .inl rfl
          · exact absurd rfl hne
          · exact .inr hp
      · rename_i he
        rw [List.mem_cons, mem_put h2, List.mem_cons]
        constructor
        · rintro (rfl | rfl | ⟨hp, hne⟩)
          · exact .inr ⟨.inl rfl, fun e => he e.symm⟩
          · exact .inl rfl
          · exact .inr ⟨.inr hp, hne⟩
        · rintro (rfl | ⟨rfl | hp, hne⟩)
          · exact .inr (.inl rfl)
          · exact .inl rfl
          · exact .inr (.inr ⟨hp, hne⟩)
theorem rise_put {β : Type} {k : Sum} {v : β} : ∀ {l : List (Sum × β)}, Rise l → Rise (put k v l)
  | [], _ => List.pairwise_singleton _ _
  | q :: r, h => by
    obtain ⟨h1, h2⟩ := List.pairwise_cons.1 h
    rw [put]
    split
    · rename_i hlt
      refine List.pairwise_cons.2 ⟨fun p hp => ?_, h⟩
      rcases List.mem_cons.1 hp with rfl | hp
      · exact hlt
      · exact Nat.lt_trans hlt (h1 p hp)
    · rename_i hlt
      split
      · rename_i he
        subst he
        exact List.pairwise_cons.2 ⟨h1, h2⟩
      · rename_i he
        refine List.pairwise_cons.2 ⟨fun p hp => ?_, rise_put h2⟩
        rcases (mem_put h2).1 hp with rfl | ⟨hp, _⟩
        · have : kn k ≠ kn q.1 := fun e => he (kn_inj e)
          show kn q.1 < kn k
          omega
        · exact h1 p hp
theorem rise_del {β : Type} {k : Sum} {l : List (Sum × β)} (h : Rise l) : Rise (del k l) := h.sublist List.filter_sublist
theorem rise_putB {l : List Pr} (h : Rise l) (k : Sum) (v : List UInt8) : Rise (putB l k v) := by
  unfold putB
  split
  · exact h
  · split
    · exact rise_del h
    · exact rise_put h
theorem mem_del {β : Type} {k : Sum} {l : List (Sum × β)} {p : Sum × β} : p ∈ del k l ↔ p ∈ l ∧ p.1 ≠ k := by simp [del]
/-- Two rising lists of the same members are one. -/
theorem rise_ext {β : Type} : ∀ {a b : List (Sum × β)}, Rise a → Rise b → (∀ p, p ∈ a ↔ p ∈ b) → a = b
  | [], [], _, _, _ => rfl
  | [], q :: _, _, _, h => by have := (h q).2 List.mem_cons_self; cases this
  | p :: _, [], _, _, h => by have := (h p).1 List.mem_cons_self; cases this
  | p :: a, q :: b, ha, hb, h => by
    obtain ⟨a1, a2⟩ := List.pairwise_cons.1 ha
    obtain ⟨b1, b2⟩ := List.pairwise_cons.1 hb
    have e : p = q := by
      rcases List.mem_cons.1 ((h p).1 List.mem_cons_self) with e | hp
      · exact e
      · rcases List.mem_cons.1 ((h q).2 List.mem_cons_self) with e | hq
        · exact e.symm
        · have := b1 p hp; have := a1 q hq; omega
    subst e
    have hne : ∀ r, r ∈ a → r ≠ p := fun r hr e => by have := a1 r hr; rw [e] at this; omega
    have hne2 : ∀ r, r ∈ b → r ≠ p := fun r hr e => by have := b1 r hr; rw [e] at this; omega
    rw [rise_ext a2 b2 fun r => ⟨fun hr => (List.mem_cons.1 ((h r).1 (List.mem_cons_of_mem _ hr))).resolve_left (hne r hr), fun hr => (List.mem_cons.1 ((h r).2 (List.mem_cons_of_mem _ hr))).resolve_left (hne2 r hr)⟩]
theorem rise_key {β : Type} {l : List (Sum × β)} (h : Rise l) {p q : Sum × β} (hp : p ∈ l) (hq : q ∈ l) (e : p.1 = q.1) : p = q := by
  induction l with
  | nil => cases hp
  | cons x r ih =>
    obtain ⟨h1, h2⟩ := List.pairwise_cons.1 h
    rcases List.mem_cons.1 hp with e1 | hp' <;> rcases List.mem_cons.1 hq with e2 | hq'
    · rw [e1, e2]
    · have := h1 q hq'; rw [← e1, e] at this; omega
    · have := h1 p hp'; rw [← e2, e] at this; omega
    · exact ih h2 hp' hq'
theorem put_map {β γ : Type} (f : β → γ) (k : Sum) (v : β) : ∀ l : List (Sum × β), (put k v l).map (fun p => (p.1, f p.2)) = put k (f v) (l.map fun p => (p.1, f p.2))
  | [] => rfl
  | p :: r => by
    rw [put, List.map_cons, put]
    by_cases h1 : kn k < kn p.1
    · rw [if_pos h1, if_pos h1]; rfl
    · rw [if_neg h1, if_neg h1]
      by_cases h2 : k = p.1
      · rw [if_pos h2, if_pos h2]; rfl
      · rw [if_neg h2, if_neg h2, List.map_cons, put_map f k v r]
theorem del_map {β γ : Type} (f : β → γ) (k : Sum) (l : List (Sum × β)) : (del k l).map (fun p => (p.1, f p.2)) = del k (l.map fun p => (p.1, f p.2)) := by
  unfold del
  rw [List.filter_map]; rfl
theorem rise_map {β γ : Type} (f : β → γ) {l : List (Sum × β)} (h : Rise l) : Rise (l.map fun p => (p.1, f p.2)) := by
  unfold Rise
  rw [List.pairwise_map]; exact h
theorem length_put {β : Type} (k : Sum) (v : β) : ∀ l : List (Sum × β), (put k v l).length ≤ l.length + 1
  | [] => by simp [put]
  | p :: r => by
    rw [put]
    split
    · simp
    · split
      · simp
      · have := length_put k v r; simp only [List.length_cons]; omega
theorem length_del {β : Type} (k : Sum) (l : List (Sum × β)) : (del k l).length ≤ l.length := List.length_filter_le _ _
/-- Bytes of one length stand in the order of their numbers. -/
theorem before_bnum : ∀ (x y : List UInt8), x.length = y.length → Go.bytesBefore x y = decide (Fast.bnum x < Fast.bnum y)
  | [], [], _ => rfl
  | [], _ :: _, h => by cases h
  | _ :: _, [], h => by cases h
  | a :: x, b :: y, h => by
    have hl : x.length = y.length := by simpa using h
    have ha := Fast.bnum_append [a] x
    have hb := Fast.bnum_append [b] y
    rw [List.singleton_append] at ha hb
    have e1 : Fast.bnum [a] = a.toNat := by simp [Fast.bnum]
    have e2 : Fast.bnum [b] = b.toNat := by simp [Fast.bnum]
    rw [e1] at ha
    rw [e2] at hb
    have h1 := Fast.bnum_lt x
    have h2 := Fast.bnum_lt y
    rw [hl] at ha h1
    rw [Go.bytesBefore, before_bnum x y hl, ha, hb]
    generalize 256 ^ y.length = M at *
    generalize Fast.bnum x = X at *
    generalize Fast.bnum y = Y at *
    have hlt : (a < b) = (a.toNat < b.toNat) := by rw [UInt8.lt_iff_toNat_lt]
    have heq : (a == b) = decide (a.toNat = b.toNat) := by
      by_cases e : a = b
      · subst e; simp
      · have : a.toNat ≠ b.toNat := fun h => e (UInt8.toNat_inj.1 h)
        simp [e, this]
    rw [heq]
    simp only [hlt]
    generalize a.toNat = p at *
    generalize b.toNat = q at *
    rcases Nat.lt_trichotomy p q with h3 | h3 | h3
    · have h4 : p * M + M ≤ q * M := by rw [← Nat.succ_mul]; exact Nat.mul_le_mul_right _ h3
      have h5 : p * M + X < q * M + Y := by omega
      simp [h3, h5]
    · subst h3
      have h5 : (p * M + X < p * M + Y) = (X < Y) := by apply propext; omega
      simp [h5]
    · have h4 : q * M + M ≤ p * M := by rw [← Nat.succ_mul]; exact Nat.mul_le_mul_right _ h3
      have h5 : ¬ (p * M + X < q * M + Y) := by omega
      have h6 : ¬ p < q := by omega
      have h7 : ¬ p = q := by omega
      simp [h5, h6, h7]
theorem before_kn (a b : Sum) : Go.bytesBefore a.toList b.toList = decide (kn a < kn b) := before_bnum _ _ (by simp)
end Keys
end Alm
