/-
  The row: SplitsShow.
-/
import Derived.Test.YtfmgoehnbaiamaaZA11
import Derived.Test.YtfmgoehnbaiamaaZDS
open Go Go.RowKit Go.ChangeShapes Go.WideShapes Go.ChangeAt Alm
namespace Go.Proofs.Ytfmgoehnbaiamaa
theorem splitsShow_read : ∀ t ∈ Try.f16.params.toList, Try.prog.readableRec t = true ∧ t < Try.prog.types.size := by
  have h : (Try.f16.params.toList.all fun t => Try.prog.readableRec t && decide (t < Try.prog.types.size)) = true := by kernel_rfl
  intro t ht
  have := List.all_eq_true.1 h t ht
  simpa using this
set_option maxRecDepth 100000 in
theorem splitsShow_lifted (os : Os) (started : os.Started) (H : Type) (enc : TypeId × Value → H) :
    ReturnsInHanded {} Try.checked os 16 .any (Rows.splitsShowSpec.pre6 enc Try.prog Try.f16 Rows.splitsShowRow.domain false) (Rows.splitsShowSpec.post enc Try.prog Try.f16 false true false false) := by
  refine returnsInHanded_of_change_sized (C := Try.checked) own_ started (by kernel_rfl) Try.func16
    (ChangeSpec.witness6 (enc := enc) (C := Try.checked) false ⟨#[], #[.slice none 0 0, .agg (Array.replicate 32 (.int .u8 0) ++ #[.slice none 0 0, .slice none 0 0] ++ Array.replicate 32 (.int .u8 0) ++ #[.slice none 0 0] ++ Array.replicate 32 (.int .u8 0) ++ #[.slice none 0 0])], []⟩ 8 (by kernel_rfl) (by kernel_rfl) (by kernel_rfl) (by kernel_rfl)) ?_
  intro W base args ds gs before hval0 hW _ hwt _
  have hval : ∀ (j : Nat) t v, Try.f16.params[j]? = some t → args[j]? = some v → Value.okWide Try.prog W .any base t v := hval0
  have hW' : DataW.Whole enc Try.prog Try.f16.params.toList Rows.splitsShowSpec.vars false W args.toList ds gs before := hW
  obtain ⟨p, q, hA0, hV, rfl, _, _⟩ := hW
  have hA : DataW.TrodAll enc Try.prog W 0 (fun _ => true) true Try.f16.params.toList args.toList ds p := hA0
  rw [Try.params16] at hA hval hwt
  obtain ⟨v0, vs0, d0, ds0, p0, q0, hargs, rfl, rfl, h0, r0⟩ := trodAll_cons hA
  obtain ⟨v1, vs1, d1, ds1, p1, q1, rfl, rfl, rfl, h1, r1⟩ := trodAll_cons r0
  obtain ⟨rfl, rfl, rfl⟩ := trodAll_nil r1
  obtain rfl : args = #[v0, v1] := by cases args; simp_all
  obtain ⟨rfl, rfl⟩ := trodVars_none hV
  have hR1 : ∀ k ∈ d1.weights Try.prog _, k ≤ reachBytes := fun k hk => by
    have := List.all_eq_true.1 hwt k (DataW.weights_mem_each (j := 1) rfl rfl k hk)
    simpa using this
  obtain ⟨fuel0, hf0⟩ := h0
  obtain ⟨l0, hs0⟩ := arg_pairs hf0 (hval 0 _ v0 rfl rfl)
  obtain ⟨fuel1, hf1⟩ := h1
  obtain ⟨k1, va1, vb1, wa1, sa1, wb1, sb1, A1, B1, S1, T1, rfl, yA1, yB1, yS1, yT1, hz1⟩ := arg_said17 hf1 (hval 1 _ v1 rfl rfl)
  refine (splitsShow_any l0 v0 k1 wa1 wb1 va1 vb1 sa1 sb1 A1 B1 S1 T1 W hs0 yA1 yB1 yS1 yT1 (Nat.lt_of_le_of_lt (hz1 _ hR1).1 (by decide)) (Nat.lt_of_le_of_lt (hz1 _ hR1).2.1 (by decide)) (Nat.lt_of_le_of_lt (hz1 _ hR1).2.2.1 (by decide)) (Nat.lt_of_le_of_lt (hz1 _ hR1).2.2.2 (by decide))).mono fun e W' ⟨he, hB⟩ => ?_
  subst he
  exact ⟨_, rfl, law_post laidOut_ splitsShow_read _ Try.underlying4 rfl rfl rfl hW' hB⟩
theorem splitsShow_proved : Rows.SplitsShowSaid :=
  OpenClaim.holds_of_wide 16 Try.f16 rfl rfl rfl rfl rfl rfl rfl ⟨rfl, rfl, rfl, rfl, rfl⟩ rfl rfl rfl rfl rfl (by kernel_rfl) Try.func16 (by change joinedFacts Try.prog _ _ Rows.splitsShowSpec Rows.splitsShowRow = true; unfold joinedFacts; rw [mayEnter_, liftsFinal_, make_]; kernel_rfl)
    (of_decide_eq_true (by kernel_rfl)) (by unfold Func.isWrapper; first | (rw [if_pos (by decide +kernel)]; kernel_rfl) | (rw [if_neg (by decide +kernel)]; exact ⟨rfl, rfl⟩))
    (fun os started H enc _ => splitsShow_lifted os started H enc)
end Go.Proofs.Ytfmgoehnbaiamaa
