/-
  The row: SplitsTwo.
-/
import Derived.Test.YtfmgoehnbaiamaaZA11
import Derived.Test.YtfmgoehnbaiamaaZDT
open Go Go.RowKit Go.ChangeShapes Go.WideShapes Go.ChangeAt Alm
namespace Go.Proofs.Ytfmgoehnbaiamaa
theorem splitsTwo_read : ∀ t ∈ Try.f17.params.toList, Try.prog.readableRec t = true ∧ t < Try.prog.types.size := by
  have h : (Try.f17.params.toList.all fun t => Try.prog.readableRec t && decide (t < Try.prog.types.size)) = true := by kernel_rfl
  intro t ht
  have := List.all_eq_true.1 h t ht
  simpa using this
set_option maxRecDepth 100000 in
theorem splitsTwo_lifted (os : Os) (started : os.Started) (H : Type) (enc : TypeId × Value → H) :
    ReturnsInHanded {} Try.checked os 17 .any (Rows.splitsTwoSpec.pre6 enc Try.prog Try.f17 Rows.splitsTwoRow.domain false) (Rows.splitsTwoSpec.post enc Try.prog Try.f17 false true false false) := by
  refine returnsInHanded_of_change_sized (C := Try.checked) own_ started (by kernel_rfl) Try.func17
    (ChangeSpec.witness6 (enc := enc) (C := Try.checked) false ⟨#[], #[.agg (Array.replicate 32 (.int .u8 0) ++ #[.slice none 0 0, .slice none 0 0] ++ Array.replicate 32 (.int .u8 0) ++ #[.slice none 0 0] ++ Array.replicate 32 (.int .u8 0) ++ #[.slice none 0 0]), .agg (Array.replicate 32 (.int .u8 0))], []⟩ 8 (by kernel_rfl) (by kernel_rfl) (by kernel_rfl) (by kernel_rfl)) ?_
  intro W base args ds gs before hval0 hW _ hwt _
  have hval : ∀ (j : Nat) t v, Try.f17.params[j]? = some t → args[j]? = some v → Value.okWide Try.prog W .any base t v := hval0
  have hW' : DataW.Whole enc Try.prog Try.f17.params.toList Rows.splitsTwoSpec.vars false W args.toList ds gs before := hW
  obtain ⟨p, q, hA0, hV, rfl, _, _⟩ := hW
  have hA : DataW.TrodAll enc Try.prog W 0 (fun _ => true) true Try.f17.params.toList args.toList ds p := hA0
  rw [Try.params17] at hA hval hwt
  obtain ⟨v0, vs0, d0, ds0, p0, q0, hargs, rfl, rfl, h0, r0⟩ := trodAll_cons hA
  obtain ⟨v1, vs1, d1, ds1, p1, q1, rfl, rfl, rfl, h1, r1⟩ := trodAll_cons r0
  obtain ⟨rfl, rfl, rfl⟩ := trodAll_nil r1
  obtain rfl : args = #[v0, v1] := by cases args; simp_all
  obtain ⟨rfl, rfl⟩ := trodVars_none hV
  have hR0 : ∀ k ∈ d0.weights Try.prog _, k ≤ reachBytes := fun k hk => by
    have := List.all_eq_true.1 hwt k (DataW.weights_mem_each (j := 0) rfl rfl k hk)
    simpa using this
  obtain ⟨fuel0, hf0⟩ := h0
  obtain ⟨k0, va0, vb0, wa0, sa0, wb0, sb0, A0, B0, S0, T0, rfl, yA0, yB0, yS0, yT0, hz0⟩ := arg_said17 hf0 (hval 0 _ v0 rfl rfl)
  obtain ⟨fuel1, hf1⟩ := h1
  obtain ⟨s1, rfl⟩ := arg_sum hf1 (hval 1 _ v1 rfl rfl)
  refine (splitsTwo_any k0 wa0 wb0 s1 va0 vb0 sa0 sb0 A0 B0 S0 T0 W yA0 yB0 yS0 yT0 (Nat.lt_of_le_of_lt (hz0 _ hR0).1 (by decide)) (Nat.lt_of_le_of_lt (hz0 _ hR0).2.1 (by decide)) (Nat.lt_of_le_of_lt (hz0 _ hR0).2.2.1 (by decide)) (Nat.lt_of_le_of_lt (hz0 _ hR0).2.2.2 (by decide))).mono fun e W' ⟨he, hB⟩ => ?_
  subst he
  exact ⟨_, rfl, law_post laidOut_ splitsTwo_read _ Try.underlying4 rfl rfl rfl hW' hB⟩
theorem splitsTwo_proved : Rows.SplitsTwoSaid :=
  OpenClaim.holds_of_wide 17 Try.f17 rfl rfl rfl rfl rfl rfl rfl ⟨rfl, rfl, rfl, rfl, rfl⟩ rfl rfl rfl rfl rfl (by kernel_rfl) Try.func17 (by change joinedFacts Try.prog _ _ Rows.splitsTwoSpec Rows.splitsTwoRow = true; unfold joinedFacts; rw [mayEnter_, liftsFinal_, make_]; kernel_rfl)
    (of_decide_eq_true (by kernel_rfl)) (by unfold Func.isWrapper; first | (rw [if_pos (by decide +kernel)]; kernel_rfl) | (rw [if_neg (by decide +kernel)]; exact ⟨rfl, rfl⟩))
    (fun os started H enc _ => splitsTwo_lifted os started H enc)
end Go.Proofs.Ytfmgoehnbaiamaa
