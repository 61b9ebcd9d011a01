/-
  Proved (pathsBack_proved : Rows.PathsBackSaid): whatever arguments are handed in, the law almonerlaw10.PathsBack returns true, without a panic, and what was handed in reads as it read; so: each leaf's own path is taken, is short, and is refused with one sum more or fewer.
  Conditions: those of the given statement alone (what its form lets in as arguments); none is added.
-/
import Derived.Test.YtdkcndgehgmadaaArgs2
import Derived.Test.YtdkcndgehgmadaaP7
open Go Go.RowKit Go.ChangeShapes Go.WideShapes Go.ChangeAt Alm
namespace Go.Proofs.Ytdkcndgehgmadaa
theorem pathsBack_read : ∀ t ∈ Try.f3.params.toList, Try.prog.readableRec t = true ∧ t < Try.prog.types.size := by
  have h : (Try.f3.params.toList.all fun t => Try.prog.readableRec t && decide (t < Try.prog.types.size)) = true := by kernel_rfl
  intro t ht
  have := List.all_eq_true.1 h t ht
  simpa using this
set_option maxRecDepth 100000 in
theorem pathsBack_lifted (os : Os) (started : os.Started) (H : Type) (enc : TypeId × Value → H) :
    ReturnsInHanded {} Try.checked os 3 .any (Rows.pathsBackSpec.pre6 enc Try.prog Try.f3 Rows.pathsBackRow.domain false) (Rows.pathsBackSpec.post enc Try.prog Try.f3 false true false false) := by
  refine returnsInHanded_of_change (C := Try.checked) own_ started (by kernel_rfl) Try.func3
    (ChangeSpec.witness6 (enc := enc) (C := Try.checked) false ⟨#[], #[.slice none 0 0, .int .u8 0, .agg (Array.replicate 32 (.int .u8 0))], []⟩ 8 (by kernel_rfl) (by kernel_rfl) (by kernel_rfl) (by kernel_rfl)) ?_
  intro W base args ds gs before hval0 hW _ _
  have hval : ∀ (j : Nat) t v, Try.f3.params[j]? = some t → args[j]? = some v → Value.okWide Try.prog W .any base t v := hval0
  have hW' : DataW.Whole enc Try.prog Try.f3.params.toList Rows.pathsBackSpec.vars false W args.toList ds gs before := hW
  obtain ⟨p, q, hA0, hV, rfl, _, _⟩ := hW
  have hA : DataW.TrodAll enc Try.prog W 0 (fun _ => true) true Try.f3.params.toList args.toList ds p := hA0
  rw [Try.params3] at hA hval
  obtain ⟨v0, vs0, d0, ds0, p0, q0, hargs, rfl, rfl, h0, r0⟩ := trodAll_cons hA
  obtain ⟨v1, vs1, d1, ds1, p1, q1, rfl, rfl, rfl, h1, r1⟩ := trodAll_cons r0
  obtain ⟨v2, vs2, d2, ds2, p2, q2, rfl, rfl, rfl, h2, r2⟩ := trodAll_cons r1
  obtain ⟨rfl, rfl, rfl⟩ := trodAll_nil r2
  obtain rfl : args = #[v0, v1, v2] := by cases args; simp_all
  obtain ⟨rfl, rfl⟩ := trodVars_none hV
  obtain ⟨fuel0, hf0⟩ := h0
  obtain ⟨l0, hs0, hn0⟩ := arg_sums hf0 (hval 0 _ v0 rfl rfl)
  obtain ⟨fuel1, hf1⟩ := h1
  obtain ⟨n1, rfl, hb1⟩ := arg_u8 hf1 (hval 1 _ v1 rfl rfl)
  obtain ⟨fuel2, hf2⟩ := h2
  obtain ⟨s2, rfl⟩ := arg_sum hf2 (hval 2 _ v2 rfl rfl)
  refine (pathsBack_any l0 _ n1 s2 W hs0 hb1).mono fun e W' ⟨he, hB⟩ => ?_
  subst he
  exact ⟨_, rfl, law_post laidOut_ pathsBack_read _ Try.underlying4 rfl rfl rfl hW' hB⟩
theorem pathsBack_proved : Rows.PathsBackSaid :=
  OpenClaim.holds_of_wide 3 Try.f3 rfl rfl rfl rfl rfl rfl rfl ⟨rfl, rfl, rfl, rfl, rfl⟩ rfl rfl rfl rfl rfl (by kernel_rfl) Try.func3 (by change joinedFacts Try.prog _ _ Rows.pathsBackSpec Rows.pathsBackRow = true; unfold joinedFacts; rw [mayEnter_, liftsFinal_, make_]; kernel_rfl)
    (of_decide_eq_true (by kernel_rfl)) (by unfold Func.isWrapper; first | (rw [if_pos (by decide +kernel)]; kernel_rfl) | (rw [if_neg (by decide +kernel)]; exact ⟨rfl, rfl⟩))
    (fun os started H enc _ => pathsBack_lifted os started H enc)
end Go.Proofs.Ytdkcndgehgmadaa
