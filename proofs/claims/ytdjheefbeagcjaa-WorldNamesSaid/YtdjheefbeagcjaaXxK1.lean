/- The statement WorldNames: the errors and limits have their numbers, and the chapter's first examples stand; it returns true and leaves all that there was as it was. No condition. -/
import Derived.Test.YtdjheefbeagcjaaRows
import Derived.Test.YtdjheefbeagcjaaXxRow
import Derived.Test.YtdjheefbeagcjaaXxC22
set_option linter.unusedSimpArgs false
set_option linter.unusedVariables false
namespace Go.Proofs.Ytdjheefbeagcjaa
open Go Go.X Go.ChangeShapes Go.WideShapes Go.ChangeAt Go.RowKit

theorem worldNames_c {w : World} {K : Value → World → Prop} (hk : ∀ w', Ext w w' → K (.bool true) w') : callOn Go.X.prog fn_law07_WorldNames #[] w K := by
  apply F_law07_WorldNames_on
  unfold F_law07_WorldNames
  refine gop_run rfl (lives07_c fun w' he => ?_)
  exact hk w' he

theorem Try.own : ownKnob Try.prog.godebug = none := by kernel_rfl
theorem Try.laidOut : laidOutB Try.prog = true := by kernel_rfl

set_option maxRecDepth 100000 in
theorem worldNames_lifted (os : Os) (started : os.Started) (H : Type) (enc : TypeId × Value → H) :
    ReturnsInHanded {} Try.checked os 3 .any (Rows.worldNamesSpec.pre6 enc Try.prog Try.f3 Rows.worldNamesRow.domain false) (Rows.worldNamesSpec.post enc Try.prog Try.f3 false true false false) := by
  refine returnsInHanded_of_change (C := Try.checked) Try.own started (by kernel_rfl) Try.func3
    (ChangeSpec.witness6 (enc := enc) (C := Try.checked) false ⟨#[], #[], []⟩ 8 (by kernel_rfl) (by kernel_rfl) (by kernel_rfl) (by kernel_rfl)) ?_
  intro W base args ds gs before hval0 hW hcnd _
  have hW0 := hW
  obtain ⟨p, q, hA0, hV, rfl, hfz, hnd⟩ := hW0
  have hA : DataW.TrodAll enc Try.prog W 0 (fun _ => true) true Try.f3.params.toList args.toList ds p := hA0
  rw [Try.params3] at hA
  obtain ⟨ha, rfl, rfl⟩ := trodAll_nil hA
  have ha' : args = #[] := by simpa using ha
  subst ha'
  obtain ⟨rfl, rfl⟩ := trodVars_none hV
  refine Calls.mono (worldNames_c (w := W) (K := fun v w' => v = .bool true ∧ Ext W w') fun w' he => ⟨rfl, he⟩) fun e W' ⟨v, he, hv, hx⟩ => ?_
  subst he; subst hv
  exact ⟨_, rfl, post_law (P := Try.prog) Try.laidOut hW rfl rfl (by intro t ht; rw [Try.params3] at ht; simp at ht) rfl Try.underlying4 hx.below⟩

theorem worldNames_holds : Rows.WorldNamesSaid :=
  OpenClaim.holds_of_wide 3 Try.f3 rfl rfl rfl rfl rfl rfl rfl ⟨rfl, rfl, rfl, rfl, rfl⟩ rfl rfl rfl rfl rfl (by kernel_rfl) Try.func3 (by kernel_rfl)
    (of_decide_eq_true (by kernel_rfl)) (by unfold Func.isWrapper; first | (rw [if_pos (by decide +kernel)]; kernel_rfl) | (rw [if_neg (by decide +kernel)]; exact ⟨rfl, rfl⟩))
    (fun os started H enc _ => worldNames_lifted os started H enc)

end Go.Proofs.Ytdjheefbeagcjaa
