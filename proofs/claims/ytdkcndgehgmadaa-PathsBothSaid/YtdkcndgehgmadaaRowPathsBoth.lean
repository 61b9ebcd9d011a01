/-
  Proved (pathsBoth_proved : Rows.PathsBothSaid): whatever arguments are handed in, the law almonerlaw10.PathsBoth returns true, without a panic, and what was handed in reads as it read; so: in a tree of two like halves a leaf's path is that of its half, and then the other half's root.
  Conditions: those of the given statement alone (what its form lets in as arguments); none is added.
-/
import Derived.Test.YtdkcndgehgmadaaArgs2
import Derived.Test.YtdkcndgehgmadaaP8
open Go Go.RowKit Go.ChangeShapes Go.WideShapes Go.ChangeAt Alm
namespace Go.Proofs.Ytdkcndgehgmadaa
theorem pathsBoth_read : ∀ t ∈ Try.f5.params.toList, Try.prog.readableRec t = true ∧ t < Try.prog.types.size := by
  have h : (Try.f5.params.toList.all fun t => Try.prog.readableRec t && decide (t < Try.prog.types.size)) = true := by kernel_rfl
  intro t ht
  have := List.all_eq_true.1 h t ht
  simpa using this
set_option maxRecDepth 100000 in
theorem pathsBoth_lifted (os : Os) (started : os.Started) (H : Type) (enc : TypeId × Value → H) :
    ReturnsInHanded {} Try.checked os 5 .any (Rows.pathsBothSpec.pre6 enc Try.prog Try.f5 Rows.pathsBothRow.domain false) (Rows.pathsBothSpec.post enc Try.prog Try.f5 false true false false) := by
  refine returnsInHanded_of_change (C := Try.checked) own_ started (by kernel_rfl) Try.func5
    (ChangeSpec.witness6 (enc := enc) (C := Try.checked) false ⟨#[], #[.slice none 0 0, .agg (Array.replicate 32 (.int .u8 0)), .int .u8 0], []⟩ 8 (by kernel_rfl) (by kernel_rfl) (by kernel_rfl) (by kernel_rfl)) ?_
  intro W base args ds gs before hval0 hW _ _
  have hval : ∀ (j : Nat) t v, Try.f5.params[j]? = some t → args[j]? = some v → Value.okWide Try.prog W .any base t v := hval0
  have hW' : DataW.Whole enc Try.prog Try.f5.params.toList Rows.pathsBothSpec.vars false W args.toList ds gs before := hW
  obtain ⟨p, q, hA0, hV, rfl, _, _⟩ := hW
  have hA : DataW.TrodAll enc Try.prog W 0 (fun _ => true) true Try.f5.params.toList args.toList ds p := hA0
  rw [Try.params5] at hA hval
  obtain ⟨v0, vs0, d0, ds0, p0, q0, hargs, rfl, rfl, h0, r0⟩ := trodAll_cons hA
  obtain ⟨v1, vs1, d1, ds1, p1, q1, rfl, rfl, rfl, h1, r1⟩ := trodAll_cons r0
  obtain ⟨v2, vs2, d2, ds2, p2, q2, rfl, rfl, rfl, h2, r2⟩ := trodAll_cons r1
  obtain ⟨rfl, rfl, rfl⟩ := trodAll_nil r2
  obtain rfl : args = #[v0, v1, v2] := by cases args; simp_all
  obtain ⟨rfl, rfl⟩ := trodVars_none hV
  obtain ⟨fuel0, hf0⟩ := h0
  obtain ⟨l0, hs0, hn0⟩ := arg_sums hf0 (hval 0 _ v0 rfl rfl)
  obtain ⟨fuel1, hf1⟩ := h1
  obtain ⟨s1, rfl⟩ := arg_sum hf1 (hval 1 _ v1 rfl rfl)
  obtain ⟨fuel2, hf2⟩ := h2
  obtain ⟨n2, rfl, hb2⟩ := arg_u8 hf2 (hval 2 _ v2 rfl rfl)
  refine (pathsBoth_any l0 _ s1 n2 W hs0 hb2).mono fun e W' ⟨he, hB⟩ => ?_
  subst he
  exact ⟨_, rfl, law_post laidOut_ pathsBoth_read _ Try.underlying4 rfl rfl rfl hW' hB⟩
theorem pathsBoth_proved : Rows.PathsBothSaid :=
  OpenClaim.holds_of_wide 5 Try.f5 rfl rfl rfl rfl rfl rfl rfl ⟨rfl, rfl, rfl, rfl, rfl⟩ rfl rfl rfl rfl rfl (by kernel_rfl) Try.func5 (by change joinedFacts Try.prog _ _ Rows.pathsBothSpec Rows.pathsBothRow = true; unfold joinedFacts; rw [mayEnter_, liftsFinal_, make_]; kernel_rfl)
    (of_decide_eq_true (by kernel_rfl)) (by unfold Func.isWrapper; first | (rw [if_pos (by decide +kernel)]; kernel_rfl) | (rw [if_neg (by decide +kernel)]; exact ⟨rfl, rfl⟩))
    (fun os started H enc _ => pathsBoth_lifted os started H enc)
end Go.Proofs.Ytdkcndgehgmadaa
