/-
  Plain law: trees over keys, built from below (as the program's text does) and told from above (as the document does). No program in sight.
-/
import Derived.Test.YtfmgoehnbaiamaaGreatDoorZAM
namespace Alm
namespace Keys
/-- The number of a key. -/
abbrev kn (k : Sum) : Nat := Fast.snum k
theorem kn_inj {a b : Sum} (h : kn a = kn b) : a = b := Fast.snum_inj h
/-- Pairs: a key, and what stands there. -/
abbrev Pr := Sum × List UInt8
section
variable {α : Type} (sd : α → α → α) (e0 : α) (vl : Sum → List UInt8 → α)
/-- What is empty, so high above the keys. -/
def emp : Nat → α
  | 0 => e0
  | n + 1 => sd (emp n) (emp n)
/-- What pairs come to, so high above the keys. -/
def at' : Nat → List Pr → α
  | 0, [] => e0
  | 0, p :: _ => vl p.1 p.2
  | n + 1, l => sd (at' n (l.filter fun p => !(kn p.1).testBit n)) (at' n (l.filter fun p => (kn p.1).testBit n))
theorem at_nil : ∀ n, at' sd e0 vl n [] = emp sd e0 n
  | 0 => rfl
  | n + 1 => by rw [at', List.filter_nil, List.filter_nil, at_nil n, emp]
/-- Rising pairs. -/
def Rise {β : Type} (l : List (Sum × β)) : Prop := l.Pairwise fun p q => kn p.1 < kn q.1
/-- Pairs that agree above a height. -/
def Same (n : Nat) (g : List Pr) : Prop := ∀ p ∈ g, ∀ q ∈ g, kn p.1 >>> n = kn q.1 >>> n
theorem shr_succ (x n : Nat) : x >>> n = 2 * (x >>> (n + 1)) + (if x.testBit n then 1 else 0) := by
  rw [Nat.shiftRight_succ, Nat.testBit]
  have h := Nat.mod_two_eq_zero_or_one (x >>> n)
  have e : (1 &&& x >>> n) = (x >>> n) % 2 := by rw [Nat.and_comm, Nat.and_one_is_mod]
  rw [e]
  rcases h with h | h <;> rw [h] <;> simp <;> omega
theorem same_up {n : Nat} {g : List Pr} (h : Same n g) : Same (n + 1) g := fun p hp q hq => by
  rw [Nat.shiftRight_succ, Nat.shiftRight_succ, h p hp q hq]
theorem bit_same {n : Nat} {x y : Nat} (h : x >>> n = y >>> n) : x.testBit n = y.testBit n := by
  rw [Nat.testBit, Nat.testBit, h]
theorem at_one {n : Nat} {g : List Pr} {p : Pr} (hp : p ∈ g) (h : Same n g) : at' sd e0 vl (n + 1) g = if (kn p.1).testBit n then sd (emp sd e0 n) (at' sd e0 vl n g) else sd (at' sd e0 vl n g) (emp sd e0 n) := by
  rw [at']
  by_cases hb : (kn p.1).testBit n = true
  · have h1 : g.filter (fun p => !(kn p.1).testBit n) = [] := List.filter_eq_nil_iff.2 fun q hq => by rw [bit_same (h q hq p hp), hb]; simp
    have h2 : g.filter (fun p => (kn p.1).testBit n) = g := List.filter_eq_self.2 fun q hq => by rw [bit_same (h q hq p hp), hb]
    rw [if_pos hb, h1, h2, at_nil]
  · have hb' : (kn p.1).testBit n = false := by simpa using hb
    have h1 : g.filter (fun p => !(kn p.1).testBit n) = g := List.filter_eq_self.2 fun q hq => by rw [bit_same (h q hq p hp), hb']; rfl
    have h2 : g.filter (fun p => (kn p.1).testBit n) = [] := List.filter_eq_nil_iff.2 fun q hq => by rw [bit_same (h q hq p hp), hb']; simp
    rw [if_neg hb, h1, h2, at_nil]
theorem at_two {n : Nat} {g h : List Pr} {p q : Pr} (hp : p ∈ g) (hq : q ∈ h) (sg : Same n g) (sh : Same n h) (hlt : kn p.1 >>> n < kn q.1 >>> n) (heq : kn p.1 >>> (n + 1) = kn q.1 >>> (n + 1)) :
    at' sd e0 vl (n + 1) (g ++ h) = sd (at' sd e0 vl n g) (at' sd e0 vl n h) ∧ (kn p.1).testBit n = false ∧ (kn q.1).testBit n = true := by
  have e1 := shr_succ (kn p.1) n
  have e2 := shr_succ (kn q.1) n
  rw [heq] at e1
  have b1 : (kn p.1).testBit n = false := by
    cases hb : (kn p.1).testBit n
    · rfl
    · rw [hb] at e1; simp only [if_true] at e1; split at e2 <;> omega
  have b2 : (kn q.1).testBit n = true := by
    cases hb : (kn q.1).testBit n
    · rw [hb] at e2; rw [b1] at e1; simp only [Bool.false_eq_true, if_false] at e1 e2; omega
    · rfl
  refine ⟨?_, b1, b2⟩
  rw [at', List.filter_append, List.filter_append]
  have h1 : g.filter (fun p => !(kn p.1).testBit n) = g := List.filter_eq_self.2 fun r hr => by rw [bit_same (sg r hr p hp), b1]; rfl
  have h2 : g.filter (fun p => (kn p.1).testBit n) = [] := List.filter_eq_nil_iff.2 fun r hr => by rw [bit_same (sg r hr p hp), b1]; simp
  have h3 : h.filter (fun p => !(kn p.1).testBit n) = [] := List.filter_eq_nil_iff.2 fun r hr => by rw [bit_same (sh r hr q hq), b2]; simp
  have h4 : h.filter (fun p => (kn p.1).testBit n) = h := List.filter_eq_self.2 fun r hr => by rw [bit_same (sh r hr q hq), b2]
  rw [h1, h2, h3, h4, List.append_nil, List.nil_append]

/-! ### from below -/
/-- One height more: of first keys and what they come to. -/
def up (n : Nat) : List (Sum × α) → List (Sum × α)
  | [] => []
  | [x] => [(x.1, if (kn x.1).testBit n then sd (emp sd e0 n) x.2 else sd x.2 (emp sd e0 n))]
  | x :: y :: r => if kn x.1 >>> (n + 1) = kn y.1 >>> (n + 1) then (x.1, sd x.2 y.2) :: up n r else (x.1, if (kn x.1).testBit n then sd (emp sd e0 n) x.2 else sd x.2 (emp sd e0 n)) :: up n (y :: r)
/-- So many heights. -/
def ups (l : List (Sum × α)) : Nat → List (Sum × α)
  | 0 => l
  | n + 1 => up sd e0 n (ups l n)
/-- Groups of pairs that agree above a height. -/
structure Grp (n : Nat) (l : List Pr) (gs : List (List Pr)) : Prop where
  flat : gs.flatten = l
  each : ∀ g ∈ gs, g ≠ [] ∧ Same n g
  apart : gs.Pairwise fun g h => ∀ p ∈ g, ∀ q ∈ h, kn p.1 >>> n < kn q.1 >>> n
/-- A group's first key, and what it comes to. -/
def told (n : Nat) (g : List Pr) : Sum × α := ((g.headD (Vector.replicate 32 0, [])).1, at' sd e0 vl n g)
/-- Groups, merged. -/
def mrg (n : Nat) : List (List Pr) → List (List Pr)
  | [] => []
  | [g] => [g]
  | g :: h :: r => if kn (g.headD (Vector.replicate 32 0, [])).1 >>> (n + 1) = kn (h.headD (Vector.replicate 32 0, [])).1 >>> (n + 1) then (g ++ h) :: mrg n r else g :: mrg n (h :: r)
theorem head_mem {g : List Pr} (h : g ≠ []) (z : Pr) : g.headD z ∈ g := by
  match g, h with
  | p :: r, _ => exact List.mem_cons_self
theorem mrg_sub (n : Nat) : ∀ (m : Nat) (gs : List (List Pr)), gs.length ≤ m → (mrg n gs).flatten = gs.flatten
  | _, [], _ => rfl
  | _, [g], _ => rfl
  | 0, _ :: _ :: _, h => by simp at h
  | m + 1, g :: h :: r, hl => by
    simp only [List.length_cons] at hl
    rw [mrg]
    split
    · rw [List.flatten_cons, mrg_sub n m r (by omega), List.flatten_cons, List.flatten_cons, List.append_assoc]
    · rw [List.flatten_cons, mrg_sub n m (h :: r) (by simp only [List.length_cons]; omega)]; rfl
theorem shr_lt {n x y : Nat} (h : x >>> n < y >>> n) : x >>> (n + 1) ≤ y >>> (n + 1) := by
  rw [Nat.shiftRight_succ, Nat.shiftRight_succ]; omega
theorem grp_tail {n : Nat} {g : List Pr} {gs : List (List Pr)} {l : List Pr} (h : Grp n l (g :: gs)) : Grp n gs.flatten gs :=
  ⟨rfl, fun x hx => h.each x (List.mem_cons_of_mem _ hx), (List.pairwise_cons.1 h.apart).2⟩
theorem mem_mrg {n : Nat} {l : List Pr} {gs : List (List Pr)} (x : List Pr) (hx : x ∈ mrg n gs) (p : Pr) (hp : p ∈ x) (hf : (mrg n gs).flatten = gs.flatten) : p ∈ gs.flatten := by
  rw [← hf]; exact List.mem_flatten.2 ⟨x, hx, hp⟩
theorem mrg_grp (n : Nat) : ∀ (m : Nat) (gs : List (List Pr)) (l : List Pr), gs.length ≤ m → Grp n l gs → Grp (n + 1) l (mrg n gs)
  | _, [], l, _, h => ⟨h.flat, (fun _ hx => by cases hx), List.Pairwise.nil⟩
  | _, [g], l, _, h => ⟨h.flat, fun x hx => by
      rw [mrg, List.mem_singleton] at hx
      subst hx
      have := h.each x (List.mem_singleton.2 rfl)
      exact ⟨this.1, same_up this.2⟩, by rw [mrg]; exact List.pairwise_singleton _ _⟩
  | 0, _ :: _ :: _, _, h, _ => by simp at h
  | m + 1, g :: h :: r, l, hl, hG => by
    simp only [List.length_cons] at hl
    have hfl := mrg_sub n (m + 1) (g :: h :: r) (by simp only [List.length_cons]; omega)
    obtain ⟨hg1, hg2⟩ := hG.each g List.mem_cons_self
    obtain ⟨hh1, hh2⟩ := hG.each h (List.mem_cons_of_mem _ List.mem_cons_self)
    obtain ⟨ap1, ap2⟩ := List.pairwise_cons.1 hG.apart
    obtain ⟨ap3, ap4⟩ := List.pairwise_cons.1 ap2
    have t1 := grp_tail hG
    have t2 := grp_tail t1
    rw [mrg] at hfl ⊢
    split at hfl
    · rename_i he
      rw [if_pos he]
      have ih := mrg_grp n m r _ (by omega) t2
      refine ⟨hfl.trans hG.flat, fun x hx => ?_, List.pairwise_cons.2 ⟨fun x hx p hp q hq => ?_, ih.apart⟩⟩
      · rcases List.mem_cons.1 hx with rfl | hx
        · refine ⟨fun e => hg1 (List.append_eq_nil_iff.1 e).1, fun p hp q hq => ?_⟩
          have key : ∀ p ∈ g ++ h, kn p.1 >>> (n + 1) = kn (g.headD (Vector.replicate 32 0, [])).1 >>> (n + 1) := fun p hp => by
            rcases List.mem_append.1 hp with hp | hp
            · exact same_up hg2 p hp _ (head_mem hg1 _)
            · rw [he]; exact same_up hh2 p hp _ (head_mem hh1 _)
          rw [key p hp, key q hq]
        · exact ih.each x hx
      · have hq2 : q ∈ r.flatten := mem_mrg (l := l) x hx q hq ih.flat
        obtain ⟨y, hy, hqy⟩ := List.mem_flatten.1 hq2
        have hph : kn p.1 >>> (n + 1) = kn (h.headD (Vector.replicate 32 0, [])).1 >>> (n + 1) := by
          rcases List.mem_append.1 hp with hp | hp
          · rw [← he]; exact same_up hg2 p hp _ (head_mem hg1 _)
          · exact same_up hh2 p hp _ (head_mem hh1 _)
        have hlt1 := ap3 y hy _ (head_mem hh1 (Vector.replicate 32 0, [])) q hqy
        have hlt0 := ap1 h List.mem_cons_self _ (head_mem hg1 (Vector.replicate 32 0, [])) _ (head_mem hh1 (Vector.replicate 32 0, []))
        rw [hph]
        have s1 := shr_succ (kn (g.headD (Vector.replicate 32 0, [])).1) n
        have s2 := shr_succ (kn (h.headD (Vector.replicate 32 0, [])).1) n
        have s3 := shr_succ (kn q.1) n
        rw [he] at s1
        split at s1 <;> split at s2 <;> split at s3 <;> omega
    · rename_i he
      rw [if_neg he]
      have ih := mrg_grp n m (h :: r) _ (by simp only [List.length_cons]; omega) t1
      refine ⟨hfl.trans hG.flat, fun x hx => ?_, List.pairwise_cons.2 ⟨fun x hx p hp q hq => ?_, ih.apart⟩⟩
      · rcases List.mem_cons.1 hx with rfl | hx
        · exact ⟨hg1, same_up hg2⟩
        · exact ih.each x hx
      · have hq2 : q ∈ (h :: r).flatten := mem_mrg (l := l) x hx q hq ih.flat
        obtain ⟨y, hy, hqy⟩ := List.mem_flatten.1 hq2
        rw [same_up hg2 p hp _ (head_mem hg1 (Vector.replicate 32 0, []))]
        have hlt0 := ap1 h List.mem_cons_self _ (head_mem hg1 (Vector.replicate 32 0, [])) _ (head_mem hh1 (Vector.replicate 32 0, []))
        have hle := shr_lt hlt0
        have hle2 : kn (h.headD (Vector.replicate 32 0, [])).1 >>> (n + 1) ≤ kn q.1 >>> (n + 1) := by
          rcases List.mem_cons.1 hy with rfl | hy
          · exact Nat.le_of_eq (same_up hh2 _ (head_mem hh1 _) q hqy)
          · exact shr_lt (ap3 y hy _ (head_mem hh1 (Vector.replicate 32 0, [])) q hqy)
        omega
theorem headD_append {g h : List Pr} (hg : g ≠ []) (z : Pr) : (g ++ h).headD z = g.headD z := by
  match g, hg with
  | p :: r, _ => rfl
theorem up_told (n : Nat) : ∀ (m : Nat) (gs : List (List Pr)) (l : List Pr), gs.length ≤ m → Grp n l gs → up sd e0 n (gs.map (told sd e0 vl n)) = (mrg n gs).map (told sd e0 vl (n + 1))
  | _, [], l, _, h => rfl
  | _, [g], l, _, h => by
    obtain ⟨h1, h2⟩ := h.each g (List.mem_singleton.2 rfl)
    have := at_one sd e0 vl (head_mem h1 (Vector.replicate 32 0, [])) h2
    simp only [List.map_cons, List.map_nil, up, mrg, told]
    rw [this]
  | 0, _ :: _ :: _, _, h, _ => by simp at h
  | m + 1, g :: h :: r, l, hl, hG => by
    simp only [List.length_cons] at hl
    obtain ⟨hg1, hg2⟩ := hG.each g List.mem_cons_self
    obtain ⟨hh1, hh2⟩ := hG.each h (List.mem_cons_of_mem _ List.mem_cons_self)
    obtain ⟨ap1, ap2⟩ := List.pairwise_cons.1 hG.apart
    have t1 := grp_tail hG
    have t2 := grp_tail t1
    have hlt0 := ap1 h List.mem_cons_self _ (head_mem hg1 (Vector.replicate 32 0, [])) _ (head_mem hh1 (Vector.replicate 32 0, []))
    by_cases he : kn (g.headD (Vector.replicate 32 0, [])).1 >>> (n + 1) = kn (h.headD (Vector.replicate 32 0, [])).1 >>> (n + 1)
    · have ih := up_told n m r _ (by omega) t2
      have h2 := (at_two sd e0 vl (head_mem hg1 (Vector.replicate 32 0, [])) (head_mem hh1 (Vector.replicate 32 0, [])) hg2 hh2 hlt0 he).1
      simp only [List.map_cons, up, mrg, told]
      rw [if_pos he, if_pos he, List.map_cons]
      simp only [told]
      rw [h2, headD_append hg1]
      congr 1
    · have ih := up_told n m (h :: r) _ (by simp only [List.length_cons]; omega) t1
      have h1 := at_one sd e0 vl (head_mem hg1 (Vector.replicate 32 0, [])) hg2
      simp only [List.map_cons, up, mrg, told] at ih ⊢
      rw [if_neg he, if_neg he, List.map_cons, ih]
      simp only [told]
      rw [h1]
/-- The pairs one by one are groups. -/
theorem grp_start {l : List Pr} (h : Rise l) : Grp 0 l (l.map fun p => [p]) := by
  refine ⟨?_, fun g hg => ?_, ?_⟩
  · induction l with
    | nil => rfl
    | cons p r ih => rw [List.map_cons, List.flatten_cons, ih (List.pairwise_cons.1 h).2]; rfl
  · obtain ⟨p, _, rfl⟩ := List.mem_map.1 hg
    refine ⟨by simp, fun a ha b hb => ?_⟩
    rw [List.mem_singleton] at ha hb
    rw [ha, hb]
  · rw [List.pairwise_map]
    refine h.imp fun {a b} hab p hp q hq => ?_
    rw [List.mem_singleton] at hp hq
    subst hp; subst hq
    simpa using hab
theorem ups_grp {l : List Pr} (h : Rise l) : ∀ n, ∃ gs, Grp n l gs ∧ ups sd e0 (l.map fun p => (p.1, vl p.1 p.2)) n = gs.map (told sd e0 vl n)
  | 0 => ⟨_, grp_start h, by
      rw [ups, List.map_map]
      apply List.map_congr_left
      intro p _; rfl⟩
  | n + 1 => by
    obtain ⟨gs, h1, h2⟩ := ups_grp h n
    exact ⟨_, mrg_grp n gs.length gs l (Nat.le_refl _) h1, by rw [ups, h2, up_told sd e0 vl n gs.length gs l (Nat.le_refl _) h1]⟩
theorem ups_heads {l : List Pr} (h : Rise l) (n : Nat) : (ups sd e0 (l.map fun p => (p.1, vl p.1 p.2)) n).Pairwise fun x y => kn x.1 >>> n < kn y.1 >>> n := by
  obtain ⟨gs, h1, h2⟩ := ups_grp sd e0 vl h n
  rw [h2, List.pairwise_map]
  refine h1.apart.imp_of_mem fun {a b} ha hb hab => ?_
  exact hab _ (head_mem (h1.each a ha).1 _) _ (head_mem (h1.each b hb).1 _)
theorem length_up (n : Nat) : ∀ (m : Nat) (l : List (Sum × α)), l.length ≤ m → (up sd e0 n l).length ≤ l.length
  | _, [], _ => Nat.le_refl _
  | _, [x], _ => Nat.le_refl _
  | 0, _ :: _ :: _, h => by simp at h
  | m + 1, x :: y :: r, h => by
    simp only [List.length_cons] at h
    rw [up]
    split
    · have := length_up n m r (by omega); simp only [List.length_cons]; omega
    · have := length_up n m (y :: r) (by simp only [List.length_cons]; omega); simp only [List.length_cons] at this ⊢; omega
theorem length_ups (l : List (Sum × α)) : ∀ n, (ups sd e0 l n).length ≤ l.length
  | 0 => Nat.le_refl _
  | n + 1 => Nat.le_trans (length_up sd e0 n _ _ (Nat.le_refl _)) (length_ups l n)
theorem bit_odd (x n : Nat) : x.testBit n = decide ((x >>> n) % 2 = 1) := by
  rw [Nat.testBit, Nat.and_comm, Nat.and_one_is_mod]
  have := Nat.mod_two_eq_zero_or_one (x >>> n)
  rcases this with h | h <;> rw [h] <;> rfl
/-- One alone, at a height. -/
def lone (n : Nat) (x : Sum × α) : α := if (kn x.1).testBit n then sd (emp sd e0 n) x.2 else sd x.2 (emp sd e0 n)
theorem up_last (n : Nat) (x : Sum × α) : up sd e0 n [x] = [(x.1, lone sd e0 n x)] := rfl
theorem up_lone (n : Nat) (x y : Sum × α) (r : List (Sum × α)) (h : kn x.1 >>> (n + 1) ≠ kn y.1 >>> (n + 1)) : up sd e0 n (x :: y :: r) = (x.1, lone sd e0 n x) :: up sd e0 n (y :: r) := by
  rw [up, if_neg h]; rfl
theorem up_both (n : Nat) (x y : Sum × α) (r : List (Sum × α)) (h : kn x.1 >>> (n + 1) = kn y.1 >>> (n + 1)) : up sd e0 n (x :: y :: r) = (x.1, sd x.2 y.2) :: up sd e0 n r := by
  rw [up, if_pos h]
/-- Of two that are put together the first one's bit is 0. -/
theorem low_bit {x y n : Nat} (h : x >>> n < y >>> n) (e : x >>> (n + 1) = y >>> (n + 1)) : (x >>> n) % 2 = 0 := by
  rw [Nat.shiftRight_succ, Nat.shiftRight_succ] at e
  omega
/-- FROM BELOW AS FROM ABOVE: behind all heights there is at most one, and that is what all pairs come to. -/
theorem ups_all {l : List Pr} (h : Rise l) (hl : l ≠ []) : ∃ k, ups sd e0 (l.map fun p => (p.1, vl p.1 p.2)) 256 = [(k, at' sd e0 vl 256 l)] := by
  obtain ⟨gs, h1, h2⟩ := ups_grp sd e0 vl h 256
  have hz : ∀ p : Pr, kn p.1 >>> 256 = 0 := fun p => by
    rw [Nat.shiftRight_eq_div_pow]; exact Nat.div_eq_of_lt (Fast.snum_lt _)
  match gs, h1, h2 with
  | [], h1, _ => exact absurd h1.flat.symm hl
  | [g], h1, h2 =>
    have : g = l := by have := h1.flat; simpa using this
    subst this
    exact ⟨_, h2⟩
  | g :: h :: r, h1, _ =>
    obtain ⟨ap1, _⟩ := List.pairwise_cons.1 h1.apart
    have := ap1 h List.mem_cons_self _ (head_mem (h1.each g List.mem_cons_self).1 (Vector.replicate 32 0, [])) _ (head_mem (h1.each h (List.mem_cons_of_mem _ List.mem_cons_self)).1 (Vector.replicate 32 0, []))
    rw [hz, hz] at this
    omega
theorem ups_nil : ∀ n, ups sd e0 ([] : List (Sum × α)) n = []
  | 0 => rfl
  | n + 1 => by rw [ups, ups_nil n, up]
end

/-! ### what stands at keys -/
/-- A pair more, where it belongs; what stood at its key is gone. -/
def put {β : Type} (k : Sum) (v : β) : List (Sum × β) → List (Sum × β)
  | [] => [(k, v)]
  | p :: r => if kn k < kn p.1 then (k, v) :: p :: r else if k = p.1 then (k, v) :: r else p :: put k v r
def del {β : Type} (k : Sum) (l : List (Sum × β)) : List (Sum × β) := l.filter fun p => decide (p.1 ≠ k)
def get (l : List Pr) (k : Sum) : List UInt8 := match l.find? (fun p => decide (p.1 = k)) with | some p => p.2 | none => []
/-- What the program's Put makes of pairs. -/
def putB (l : List Pr) (k : Sum) (v : List UInt8) : List Pr := if v.length > 256 then l else if v = [] then del k l else put k v l
theorem mem_put {β : Type} {k : Sum} {v : β} : ∀ {l : List (Sum × β)}, Rise l → ∀ {p : Sum × β}, p ∈ put k v l ↔ p = (k, v) ∨ (p ∈ l ∧ p.1 ≠ k)
  | [], _, p => by simp [put]
  | q :: r, h, p => by
    obtain ⟨h1, h2⟩ := List.pairwise_cons.1 h
    rw [put]
    split
    · rename_i hlt
      rw [List.mem_cons]
      constructor
      · rintro (rfl | hp)
        · exact .inl rfl
        · refine .inr ⟨hp, fun e => ?_⟩
          rcases List.mem_cons.1 hp with rfl | hp
          · rw [e] at hlt; omega
          · have := h1 p hp; rw [e] at this; omega
      · rintro (rfl | ⟨hp, _⟩)
        · exact .inl rfl
        · exact .inr hp
    · rename_i hlt
      split
      · rename_i he
        subst he
        rw [List.mem_cons, List.mem_cons]
        constructor
        · rintro (rfl | hp)
          · exact .inl rfl
          · exact .inr ⟨.inr hp, fun e => by have := h1 p hp; rw [e] at this; omega⟩
        · rintro (rfl | ⟨rfl | hp, hne⟩)
          · exact .inl rfl
          · exact absurd rfl hne
          · exact .inr hp
      · rename_i he
        rw [List.mem_cons, mem_put h2, List.mem_cons]
        constructor
        · rintro (rfl | rfl | ⟨hp, hne⟩)
          · exact .inr ⟨.inl rfl, fun e => he e.symm⟩
          · exact .inl rfl
          · exact .inr ⟨.inr hp, hne⟩
        · rintro (rfl | ⟨rfl | hp, hne⟩)
          · exact .inr (.inl rfl)
          · exact .inl rfl
          · exact .inr (.inr ⟨hp, hne⟩)
theorem rise_put {β : Type} {k : Sum} {v : β} : ∀ {l : List (Sum × β)}, Rise l → Rise (put k v l)
  | [], _ => List.pairwise_singleton _ _
  | q :: r, h => by
    obtain ⟨h1, h2⟩ := List.pairwise_cons.1 h
    rw [put]
    split
    · rename_i hlt
      refine List.pairwise_cons.2 ⟨fun p hp => ?_, h⟩
      rcases List.mem_cons.1 hp with rfl | hp
      · exact hlt
      · exact Nat.lt_trans hlt (h1 p hp)
    · rename_i hlt
      split
      · rename_i he
        subst he
        exact List.pairwise_cons.2 ⟨h1, h2⟩
      · rename_i he
        refine List.pairwise_cons.2 ⟨fun p hp => ?_, rise_put h2⟩
        rcases (mem_put h2).1 hp with rfl | ⟨hp, _⟩
        · have : kn k ≠ kn q.1 := fun e => he (kn_inj e)
          show kn q.1 < kn k
          omega
        · exact h1 p hp
theorem rise_del {β : Type} {k : Sum} {l : List (Sum × β)} (h : Rise l) : Rise (del k l) := h.sublist List.filter_sublist
theorem mem_del {β : Type} {k : Sum} {l : List (Sum × β)} {p : Sum × β} : p ∈ del k l ↔ p ∈ l ∧ p.1 ≠ k := by simp [del]
/-- Two rising lists of the same members are one. -/
theorem rise_ext {β : Type} : ∀ {a b : List (Sum × β)}, Rise a → Rise b → (∀ p, p ∈ a ↔ p ∈ b) → a = b
  | [], [], _, _, _ => rfl
  | [], q :: _, _, _, h => by have := (h q).2 List.mem_cons_self; cases this
  | p :: _, [], _, _, h => by have := (h p).1 List.mem_cons_self; cases this
  | p :: a, q :: b, ha, hb, h => by
    obtain ⟨a1, a2⟩ := List.pairwise_cons.1 ha
    obtain ⟨b1, b2⟩ := List.pairwise_cons.1 hb
    have e : p = q := by
      rcases List.mem_cons.1 ((h p).1 List.mem_cons_self) with e | hp
      · exact e
      · rcases List.mem_cons.1 ((h q).2 List.mem_cons_self) with e | hq
        · exact e.symm
        · have := b1 p hp; have := a1 q hq; omega
    subst e
    have hne : ∀ r, r ∈ a → r ≠ p := fun r hr e => by have := a1 r hr; rw [e] at this; omega
    have hne2 : ∀ r, r ∈ b → r ≠ p := fun r hr e => by have := b1 r hr; rw [e] at this; omega
    rw [rise_ext a2 b2 fun r => ⟨fun hr => (List.mem_cons.1 ((h r).1 (List.mem_cons_of_mem _ hr))).resolve_left (hne r hr), fun hr => (List.mem_cons.1 ((h r).2 (List.mem_cons_of_mem _ hr))).resolve_left (hne2 r hr)⟩]
theorem rise_key {β : Type} {l : List (Sum × β)} (h : Rise l) {p q : Sum × β} (hp : p ∈ l) (hq : q ∈ l) (e : p.1 = q.1) : p = q := by
  induction l with
  | nil => cases hp
  | cons x r ih =>
    obtain ⟨h1, h2⟩ := List.pairwise_cons.1 h
    rcases List.mem_cons.1 hp with e1 | hp' <;> rcases List.mem_cons.1 hq with e2 | hq'
    · rw [e1, e2]
    · have := h1 q hq'; rw [← e1, e] at this; omega
    · have := h1 p hp'; rw [← e2, e] at this; omega
    · exact ih h2 hp' hq'
theorem put_map {β γ : Type} (f : β → γ) (k : Sum) (v : β) : ∀ l : List (Sum × β), (put k v l).map (fun p => (p.1, f p.2)) = put k (f v) (l.map fun p => (p.1, f p.2))
  | [] => rfl
  | p :: r => by
    rw [put, List.map_cons, put]
    by_cases h1 : kn k < kn p.1
    · rw [if_pos h1, if_pos h1]; rfl
    · rw [if_neg h1, if_neg h1]
      by_cases h2 : k = p.1
      · rw [if_pos h2, if_pos h2]; rfl
      · rw [if_neg h2, if_neg h2, List.map_cons, put_map f k v r]
theorem del_map {β γ : Type} (f : β → γ) (k : Sum) (l : List (Sum × β)) : (del k l).map (fun p => (p.1, f p.2)) = del k (l.map fun p => (p.1, f p.2)) := by
  unfold del
  rw [List.filter_map]; rfl
theorem rise_map {β γ : Type} (f : β → γ) {l : List (Sum × β)} (h : Rise l) : Rise (l.map fun p => (p.1, f p.2)) := by
  unfold Rise
  rw [List.pairwise_map]; exact h
theorem length_put {β : Type} (k : Sum) (v : β) : ∀ l : List (Sum × β), (put k v l).length ≤ l.length + 1
  | [] => by simp [put]
  | p :: r => by
    rw [put]
    split
    · simp
    · split
      · simp
      · have := length_put k v r; simp only [List.length_cons]; omega
theorem length_del {β : Type} (k : Sum) (l : List (Sum × β)) : (del k l).length ≤ l.length := List.length_filter_le _ _
/-- Bytes of one length stand in the order of their numbers. -/
theorem before_bnum : ∀ (x y : List UInt8), x.length = y.length → Go.bytesBefore x y = decide (Fast.bnum x < Fast.bnum y)
  | [], [], _ => rfl
  | [], _ :: _, h => by cases h
  | _ :: _, [], h => by cases h
  | a :: x, b :: y, h => by
    have hl : x.length = y.length := by simpa using h
    have ha := Fast.bnum_append [a] x
    have hb := Fast.bnum_append [b] y
    rw [List.singleton_append] at ha hb
    have e1 : Fast.bnum [a] = a.toNat := by simp [Fast.bnum]
    have e2 : Fast.bnum [b] = b.toNat := by simp [Fast.bnum]
    rw [e1] at ha
    rw [e2] at hb
    have h1 := Fast.bnum_lt x
    have h2 := Fast.bnum_lt y
    rw [hl] at ha h1
    rw [Go.bytesBefore, before_bnum x y hl, ha, hb]
    generalize 256 ^ y.length = M at *
    generalize Fast.bnum x = X at *
    generalize Fast.bnum y = Y at *
    have hlt : (a < b) = (a.toNat < b.toNat) := by rw [UInt8.lt_iff_toNat_lt]
    have heq : (a == b) = decide (a.toNat = b.toNat) := by
      by_cases e : a = b
      · subst e; simp
      · have : a.toNat ≠ b.toNat := fun h => e (UInt8.toNat_inj.1 h)
        simp [e, this]
    rw [heq]
    simp only [hlt]
    generalize a.toNat = p at *
    generalize b.toNat = q at *
    rcases Nat.lt_trichotomy p q with h3 | h3 | h3
    · have h4 : p * M + M ≤ q * M := by rw [← Nat.succ_mul]; exact Nat.mul_le_mul_right _ h3
      have h5 : p * M + X < q * M + Y := by omega
      simp [h3, h5]
    · subst h3
      have h5 : (p * M + X < p * M + Y) = (X < Y) := by apply propext; omega
      simp [h5]
    · have h4 : q * M + M ≤ p * M := by rw [← Nat.succ_mul]; exact Nat.mul_le_mul_right _ h3
      have h5 : ¬ (p * M + X < q * M + Y) := by omega
      have h6 : ¬ p < q := by omega
      have h7 : ¬ p = q := by omega
      simp [h5, h6, h7]
theorem before_kn (a b : Sum) : Go.bytesBefore a.toList b.toList = decide (kn a < kn b) := before_bnum _ _ (by simp)
end Keys
end Alm
