/-
  The row: ClashesLink.
-/
import Derived.Test.YtdkcndgehgmadaaZA
import Derived.Test.YtdkcndgehgmadaaZQ
open Go Go.RowKit Go.ChangeShapes Go.WideShapes Go.ChangeAt Alm
namespace Go.Proofs.Ytdkcndgehgmadaa
theorem clashesLink_read : ∀ t ∈ Try.f20.params.toList, Try.prog.readableRec t = true ∧ t < Try.prog.types.size := by
  have h : (Try.f20.params.toList.all fun t => Try.prog.readableRec t && decide (t < Try.prog.types.size)) = true := by kernel_rfl
  intro t ht
  have := List.all_eq_true.1 h t ht
  simpa using this
set_option maxRecDepth 100000 in
theorem clashesLink_lifted (os : Os) (started : os.Started) (H : Type) (enc : TypeId × Value → H) :
    ReturnsInHanded {} Try.checked os 20 .any (Rows.clashesLinkSpec.pre6 enc Try.prog Try.f20 Rows.clashesLinkRow.domain false) (Rows.clashesLinkSpec.post enc Try.prog Try.f20 false true false false) := by
  refine returnsInHanded_of_change_sized (C := Try.checked) own_ started (by kernel_rfl) Try.func20
    (ChangeSpec.witness6 (enc := enc) (C := Try.checked) false ⟨#[], #[.agg #[.slice none 0 0, .slice none 0 0, .int .i64 0, .slice none 0 0, .slice none 0 0]], []⟩ 8 (by kernel_rfl) (by kernel_rfl) (by kernel_rfl) (by kernel_rfl)) ?_
  intro W base args ds gs before hval0 hW _ hwt _
  have hval : ∀ (j : Nat) t v, Try.f20.params[j]? = some t → args[j]? = some v → Value.okWide Try.prog W .any base t v := hval0
  have hW' : DataW.Whole enc Try.prog Try.f20.params.toList Rows.clashesLinkSpec.vars false W args.toList ds gs before := hW
  obtain ⟨p, q, hA0, hV, rfl, _, _⟩ := hW
  have hA : DataW.TrodAll enc Try.prog W 0 (fun _ => true) true Try.f20.params.toList args.toList ds p := hA0
  rw [Try.params20] at hA hval hwt
  obtain ⟨v0, vs0, d0, ds0, p0, q0, hargs, rfl, rfl, h0, r0⟩ := trodAll_cons hA
  obtain ⟨rfl, rfl, rfl⟩ := trodAll_nil r0
  obtain rfl : args = #[v0] := by cases args; simp_all
  obtain ⟨rfl, rfl⟩ := trodVars_none hV
  have hR0 : ∀ k ∈ d0.weights Try.prog _, k ≤ reachBytes := fun k hk => by
    have := List.all_eq_true.1 hwt k (DataW.weights_mem_each (j := 0) rfl rfl k hk)
    simpa using this
  obtain ⟨fuel0, hf0⟩ := h0
  obtain ⟨vL0, vM0, at0, vB0, vS0, L0, M0, B0, S0, rfl, hL0, hM0, hB0, hS0, hz0⟩ := arg_said13 hf0 (hval 0 _ v0 rfl rfl)
  refine (clashesLink_any L0 M0 at0 B0 S0 vL0 vM0 vB0 vS0 W hL0 hM0 hB0 hS0 ⟨⟨Nat.le_trans (hz0 _ hR0).1.1 (by decide), fun x hx => Nat.le_trans ((hz0 _ hR0).1.2 x hx) (by decide)⟩, ⟨Nat.le_trans (hz0 _ hR0).2.1.1 (by decide), fun x hx => Nat.le_trans ((hz0 _ hR0).2.1.2 x hx) (by decide)⟩, Nat.le_trans (hz0 _ hR0).2.2.1 (by decide), Nat.le_trans (hz0 _ hR0).2.2.2 (by decide)⟩).mono fun e W' ⟨he, hB⟩ => ?_
  subst he
  exact ⟨_, rfl, law_post laidOut_ clashesLink_read _ Try.underlying4 rfl rfl rfl hW' hB⟩
theorem clashesLink_proved : Rows.ClashesLinkSaid :=
  OpenClaim.holds_of_wide 20 Try.f20 rfl rfl rfl rfl rfl rfl rfl ⟨rfl, rfl, rfl, rfl, rfl⟩ rfl rfl rfl rfl rfl (by kernel_rfl) Try.func20 (by change joinedFacts Try.prog _ _ Rows.clashesLinkSpec Rows.clashesLinkRow = true; unfold joinedFacts; rw [mayEnter_, liftsFinal_, make_]; kernel_rfl)
    (of_decide_eq_true (by kernel_rfl)) (by unfold Func.isWrapper; first | (rw [if_pos (by decide +kernel)]; kernel_rfl) | (rw [if_neg (by decide +kernel)]; exact ⟨rfl, rfl⟩))
    (fun os started H enc _ => clashesLink_lifted os started H enc)
end Go.Proofs.Ytdkcndgehgmadaa
