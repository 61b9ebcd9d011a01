/-
  Values: what the tree of one pair (7, "a") comes to is not what is empty (the kernel runs the sums on Nat).
-/
import Derived.Test.YtfmgoehnbaiamaaU13
open Go Go.RowKit Alm
namespace Go.Proofs.Ytfmgoehnbaiamaa
noncomputable def fe (n : Nat) : Nat → Nat := @Nat.rec (fun _ => Nat → Nat) (fun e => e) (fun _ ih e => ih (Fast.fside 4 e e)) n
noncomputable def fz (n : Nat) : Nat → Nat → Nat := @Nat.rec (fun _ => Nat → Nat → Nat) (fun _ x => x) (fun _ ih e x => ih (Fast.fside 4 e e) (Fast.fside 4 x e)) n
noncomputable def fo (n : Nat) : Nat → Nat → Nat := @Nat.rec (fun _ => Nat → Nat → Nat) (fun _ x => x) (fun _ ih e x => ih (Fast.fside 4 e e) (Fast.fside 4 e x)) n
theorem fe_succ (m : Nat) : fe (m + 1) = fun e => fe m (Fast.fside 4 e e) := by unfold fe; exact rfl
theorem fz_succ (m : Nat) : fz (m + 1) = fun e x => fz m (Fast.fside 4 e e) (Fast.fside 4 x e) := by unfold fz; exact rfl
theorem fo_succ (m : Nat) : fo (m + 1) = fun e x => fo m (Fast.fside 4 e e) (Fast.fside 4 e x) := by unfold fo; exact rfl
theorem sd_num (l r : Sum) : Fast.snum (sd l r) = Fast.fside 4 (Fast.snum l) (Fast.snum r) := by
  rw [sd_eq]; exact Fast.sha_side 4 l r
theorem fe_em (m : Nat) : ∀ n, Fast.snum (em (n + m)) = fe m (Fast.snum (em n)) := by
  induction m with
  | zero => intro n; rfl
  | succ m ih =>
    intro n
    rw [show n + (m + 1) = (n + 1) + m by omega, ih (n + 1), em_succ, sd_num, fe_succ]
noncomputable def own (p : Keys.Pr) (n : Nat) : Sum := Keys.at' sd z0 vl n [p]
theorem own_succ (p : Keys.Pr) (n : Nat) : own p (n + 1) = if (Keys.kn p.1).testBit n then sd (em n) (own p n) else sd (own p n) (em n) :=
  Keys.at_one sd z0 vl (List.mem_singleton.2 rfl) (fun a ha b hb => by rw [List.mem_singleton.1 ha, List.mem_singleton.1 hb])
theorem fz_own (p : Keys.Pr) (m : Nat) : ∀ n, (∀ i, i < m → (Keys.kn p.1).testBit (n + i) = false) → Fast.snum (own p (n + m)) = fz m (Fast.snum (em n)) (Fast.snum (own p n)) := by
  induction m with
  | zero => intro n _; rfl
  | succ m ih =>
    intro n h
    rw [show n + (m + 1) = (n + 1) + m by omega, ih (n + 1) (fun i hi => by rw [show n + 1 + i = n + (i + 1) by omega]; exact h _ (by omega)), em_succ, sd_num, own_succ, show (Keys.kn p.1).testBit n = false from h 0 (by omega), if_neg (by simp), sd_num, fz_succ]
theorem fo_own (p : Keys.Pr) (m : Nat) : ∀ n, (∀ i, i < m → (Keys.kn p.1).testBit (n + i) = true) → Fast.snum (own p (n + m)) = fo m (Fast.snum (em n)) (Fast.snum (own p n)) := by
  induction m with
  | zero => intro n _; rfl
  | succ m ih =>
    intro n h
    rw [show n + (m + 1) = (n + 1) + m by omega, ih (n + 1) (fun i hi => by rw [show n + 1 + i = n + (i + 1) by omega]; exact h _ (by omega)), em_succ, sd_num, own_succ, show (Keys.kn p.1).testBit n = true from h 0 (by omega), if_pos rfl, sd_num, fo_succ]
def keyL (b : UInt8) : List UInt8 := b :: List.replicate 31 0
theorem lit_list : (lit 7).toList = keyL 7 := by
  rw [lit_eq]; decide +kernel
theorem kn_lit7 : Keys.kn (lit 7) = 3166189940082864718613269121331309980362851143201109172953918312716374638592 := by
  show Fast.bnum (lit 7).toList = _
  rw [lit_list]
  decide +kernel
theorem z0_num : Fast.snum z0 = 99398763056634537812744552006896172984671876672520535998211840060697129507206 := by
  rw [z0_eq, Fast.sha_one [2] (by decide +kernel)]
  decide +kernel
theorem vl7_num : Fast.snum (vl (lit 7) [97]) = 242657674665213473843774506549976558325038764387086008339012763694100396816 := by
  rw [vl_eq]
  show Fast.snum (if ([97] : List UInt8) = [] then sha [2] else sha (3 :: ((lit 7).toList ++ [97]))) = _
  rw [if_neg (by simp), lit_list, Fast.sha_one _ (by decide +kernel)]
  decide +kernel
set_option maxRecDepth 100000 in
theorem e248 : fe 248 99398763056634537812744552006896172984671876672520535998211840060697129507206 = 68140388362105375494314006093594760818977815925103957317883493373949186056752 := by decide +kernel
set_option maxRecDepth 100000 in
theorem x248 : fz 248 99398763056634537812744552006896172984671876672520535998211840060697129507206 242657674665213473843774506549976558325038764387086008339012763694100396816 = 39879781450614273605033675958458221438017456252812787195162588908220725413578 := by decide +kernel
theorem e251 : fe 3 68140388362105375494314006093594760818977815925103957317883493373949186056752 = 85172016557300867396114426918393380223422963544648758708490665601848222747028 := by decide +kernel
theorem x251 : fo 3 68140388362105375494314006093594760818977815925103957317883493373949186056752 39879781450614273605033675958458221438017456252812787195162588908220725413578 = 41606347832100986460027060673293755527441169975157026494080011883348961212834 := by decide +kernel
theorem e256 : fe 5 85172016557300867396114426918393380223422963544648758708490665601848222747028 = 101485918506868654540925232552280317464023543783006852893364056163955127562937 := by decide +kernel
theorem x256 : fz 5 85172016557300867396114426918393380223422963544648758708490665601848222747028 41606347832100986460027060673293755527441169975157026494080011883348961212834 = 93751589679066156886896582684178673071918153984191008976201999186463036900291 := by decide +kernel
theorem em_to {n m k a b : Nat} (h : Fast.snum (em n) = a) (hk : n + m = k) (hf : fe m a = b) : Fast.snum (em k) = b := by
  subst hk
  rw [fe_em, h, hf]
theorem own_z {p : Keys.Pr} {n m k K e a b : Nat} (hK : Keys.kn p.1 = K) (hb : ∀ i, i < m → Nat.testBit K (n + i) = false) (he : Fast.snum (em n) = e) (hx : Fast.snum (own p n) = a) (hk : n + m = k) (hf : fz m e a = b) : Fast.snum (own p k) = b := by
  subst hk
  rw [fz_own p m n (by rw [hK]; exact hb), he, hx, hf]
theorem own_o {p : Keys.Pr} {n m k K e a b : Nat} (hK : Keys.kn p.1 = K) (hb : ∀ i, i < m → Nat.testBit K (n + i) = true) (he : Fast.snum (em n) = e) (hx : Fast.snum (own p n) = a) (hk : n + m = k) (hf : fo m e a = b) : Fast.snum (own p k) = b := by
  subst hk
  rw [fo_own p m n (by rw [hK]; exact hb), he, hx, hf]
theorem em0 : Fast.snum (em 0) = 99398763056634537812744552006896172984671876672520535998211840060697129507206 := z0_num
theorem em248 : Fast.snum (em 248) = 68140388362105375494314006093594760818977815925103957317883493373949186056752 := em_to em0 rfl e248
theorem em251 : Fast.snum (em 251) = 85172016557300867396114426918393380223422963544648758708490665601848222747028 := em_to em248 rfl e251
theorem em256 : Fast.snum (em 256) = 101485918506868654540925232552280317464023543783006852893364056163955127562937 := em_to em251 rfl e256
theorem bits0 : ∀ i, i < 248 → Nat.testBit 3166189940082864718613269121331309980362851143201109172953918312716374638592 (0 + i) = false := by decide +kernel
theorem bits1 : ∀ i, i < 3 → Nat.testBit 3166189940082864718613269121331309980362851143201109172953918312716374638592 (248 + i) = true := by decide +kernel
theorem bits2 : ∀ i, i < 5 → Nat.testBit 3166189940082864718613269121331309980362851143201109172953918312716374638592 (251 + i) = false := by decide +kernel
theorem own0 : Fast.snum (own (lit 7, [97]) 0) = 242657674665213473843774506549976558325038764387086008339012763694100396816 := vl7_num
theorem own248 : Fast.snum (own (lit 7, [97]) 248) = 39879781450614273605033675958458221438017456252812787195162588908220725413578 := own_z kn_lit7 bits0 em0 own0 rfl x248
theorem own251 : Fast.snum (own (lit 7, [97]) 251) = 41606347832100986460027060673293755527441169975157026494080011883348961212834 := own_o kn_lit7 bits1 em248 own248 rfl x251
theorem own256 : Fast.snum (own (lit 7, [97]) 256) = 93751589679066156886896582684178673071918153984191008976201999186463036900291 := own_z kn_lit7 bits2 em251 own251 rfl x256
theorem root_one_ne : rootOf [(lit 7, [97])] ≠ em 256 := by
  intro h
  have e := own256.symm.trans ((congrArg Fast.snum (show own (lit 7, [97]) 256 = em 256 from h)).trans em256)
  exact absurd e (by decide +kernel)
theorem root_nil : rootOf [] = em 256 := Keys.at_nil sd z0 vl 256
end Go.Proofs.Ytfmgoehnbaiamaa
