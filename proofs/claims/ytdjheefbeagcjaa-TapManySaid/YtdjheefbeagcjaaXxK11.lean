/- The statement TapMany: a Make where there is room for one thing alone makes none, and a tally at its end stays; it returns true and leaves all that there was as it was. No condition. -/
import Derived.Test.YtdjheefbeagcjaaRows
import Derived.Test.YtdjheefbeagcjaaXxRep
import Derived.Test.YtdjheefbeagcjaaXxC59
set_option linter.unusedSimpArgs false
set_option linter.unusedVariables false
namespace Go.Proofs.Ytdjheefbeagcjaa
open Go Go.X Go.ChangeShapes Go.WideShapes Go.ChangeAt Go.RowKit

theorem Try.own : ownKnob Try.prog.godebug = none := by kernel_rfl
theorem Try.laidOut : laidOutB Try.prog = true := by kernel_rfl

set_option maxRecDepth 100000 in
theorem tapMany_lifted (os : Os) (started : os.Started) (H : Type) (enc : TypeId × Value → H) :
    ReturnsInHanded {} Try.checked os 9 .any (Rows.tapManySpec.pre6 enc Try.prog Try.f9 Rows.tapManyRow.domain false) (Rows.tapManySpec.post enc Try.prog Try.f9 false true false false) := by
  refine returnsInHanded_of_change (C := Try.checked) Try.own started (by kernel_rfl) Try.func9
    (ChangeSpec.witness6 (enc := enc) (C := Try.checked) false ⟨#[], #[], []⟩ 8 (by kernel_rfl) (by kernel_rfl) (by kernel_rfl) (by kernel_rfl)) ?_
  intro W base args ds gs before hval0 hW hcnd _
  have hval : ∀ (j : Nat) t v, Try.f9.params[j]? = some t → args[j]? = some v → Value.okWide Try.prog W .any base t v := hval0
  have hW0 := hW
  obtain ⟨p, q, hA0, hV, rfl, hfz, hnd⟩ := hW0
  have hA : DataW.TrodAll enc Try.prog W 0 (fun _ => true) true Try.f9.params.toList args.toList ds p := hA0
  rw [Try.params9] at hA hval
  obtain ⟨ha, rfl, rfl⟩ := trodAll_nil hA
  have ha1 : args = #[] := by simpa using ha
  subst ha1
  obtain ⟨rfl, rfl⟩ := trodVars_none hV
  refine Calls.mono (tapMany_c (W := W) (K := fun v w' => v = .bool true ∧ Ext W w')  fun w' he => ⟨rfl, he⟩) fun e W' ⟨v, he, hv, hx⟩ => ?_
  subst he; subst hv
  exact ⟨_, rfl, post_law (P := Try.prog) Try.laidOut hW rfl rfl (by intro t ht; rw [Try.params9] at ht; simp at ht) rfl Try.underlying4 hx.below⟩

theorem tapMany_holds : Rows.TapManySaid :=
  OpenClaim.holds_of_wide 9 Try.f9 rfl rfl rfl rfl rfl rfl rfl ⟨rfl, rfl, rfl, rfl, rfl⟩ rfl rfl rfl rfl rfl (by kernel_rfl) Try.func9 (by kernel_rfl)
    (of_decide_eq_true (by kernel_rfl)) (by unfold Func.isWrapper; first | (rw [if_pos (by decide +kernel)]; kernel_rfl) | (rw [if_neg (by decide +kernel)]; exact ⟨rfl, rfl⟩))
    (fun os started H enc _ => tapMany_lifted os started H enc)

end Go.Proofs.Ytdjheefbeagcjaa
