/- The statement WorldNumbers: whatever tree of sides, whatever kinds, whatever drops: the law returns true, and its arguments read as they read. No condition. -/
import Derived.Test.YtdjheefbeagcjaaRows
import Derived.Test.YtdjheefbeagcjaaXxAW
import Derived.Test.YtdjheefbeagcjaaXxC36
set_option linter.unusedSimpArgs false
set_option linter.unusedVariables false
namespace Go.Proofs.Ytdjheefbeagcjaa
open Go Go.X Go.ChangeShapes Go.WideShapes Go.ChangeAt Go.RowKit

theorem Try.own : ownKnob Try.prog.godebug = none := by kernel_rfl
theorem Try.laidOut : laidOutB Try.prog = true := by kernel_rfl

set_option maxRecDepth 100000 in
theorem worldNumbers_lifted (os : Os) (started : os.Started) (H : Type) (enc : TypeId × Value → H) :
    ReturnsInHanded {} Try.checked os 7 .any (Rows.worldNumbersSpec.pre6 enc Try.prog Try.f7 Rows.worldNumbersRow.domain false) (Rows.worldNumbersSpec.post enc Try.prog Try.f7 false true false false) := by
  refine returnsInHanded_of_change (C := Try.checked) Try.own started (by kernel_rfl) Try.func7
    (ChangeSpec.witness6 (enc := enc) (C := Try.checked) false ⟨#[], #[.slice none 0 0, .slice none 0 0, .slice none 0 0], []⟩ 8 (by kernel_rfl) (by kernel_rfl) (by kernel_rfl) (by kernel_rfl)) ?_
  intro W base args ds gs before hval0 hW hcnd _
  have hval : ∀ (j : Nat) t v, Try.f7.params[j]? = some t → args[j]? = some v → Value.okWide Try.prog W .any base t v := hval0
  have hW0 := hW
  obtain ⟨p, q, hA0, hV, rfl, hfz, hnd⟩ := hW0
  have hA : DataW.TrodAll enc Try.prog W 0 (fun _ => true) true Try.f7.params.toList args.toList ds p := hA0
  rw [Try.params7] at hA hval
  obtain ⟨v0, v1, v2, d0, d1, d2, p0, p1, p2, rfl, rfl, rfl, h0, h1, h2⟩ := trodAll_three hA
  obtain ⟨rfl, rfl⟩ := trodVars_none hV
  obtain ⟨ps, r0, _, _⟩ := arg_ints (P := Try.prog) Try.underlying23 Try.underlying25 (by kernel_rfl) (hval 0 23 v0 rfl rfl) h0
  obtain ⟨ks, r1, hks, _⟩ := arg_ints (P := Try.prog) Try.underlying56 Try.underlying5 (by kernel_rfl) (hval 1 56 v1 rfl rfl) h1
  obtain ⟨bs, r2, _⟩ := arg_bools (P := Try.prog) Try.underlying57 Try.underlying4 (by kernel_rfl) (hval 2 57 v2 rfl rfl) h2
  have hks' : ∀ k ∈ ks, 0 ≤ k ∧ k < 256 := fun k hk => by
    have := hks k hk
    have e1 : IntKind.u8.min = 0 := by decide
    have e2 : IntKind.u8.max = 255 := by decide
    rw [e1, e2] at this
    omega
  refine Calls.mono (worldNumbers_c (W := W) (K := fun v w' => v = .bool true ∧ Ext W w') r0 r1 r2 hks' fun w' he => ⟨rfl, he⟩) fun e W' ⟨v, he, hv, hx⟩ => ?_
  subst he; subst hv
  exact ⟨_, rfl, post_law (P := Try.prog) Try.laidOut hW rfl rfl (by intro t ht; rw [Try.params7] at ht; simp at ht; rcases ht with rfl | rfl | rfl <;> exact ⟨by kernel_rfl, by decide +kernel⟩) rfl Try.underlying4 hx.below⟩

theorem worldNumbers_holds : Rows.WorldNumbersSaid :=
  OpenClaim.holds_of_wide 7 Try.f7 rfl rfl rfl rfl rfl rfl rfl ⟨rfl, rfl, rfl, rfl, rfl⟩ rfl rfl rfl rfl rfl (by kernel_rfl) Try.func7 (by kernel_rfl)
    (of_decide_eq_true (by kernel_rfl)) (by unfold Func.isWrapper; first | (rw [if_pos (by decide +kernel)]; kernel_rfl) | (rw [if_neg (by decide +kernel)]; exact ⟨rfl, rfl⟩))
    (fun os started H enc _ => worldNumbers_lifted os started H enc)

end Go.Proofs.Ytdjheefbeagcjaa
