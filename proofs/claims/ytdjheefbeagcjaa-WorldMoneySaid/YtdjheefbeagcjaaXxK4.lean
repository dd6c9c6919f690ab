/- The statement WorldMoney: whatever amounts, whatever drops: the law returns true, and its arguments read as they read. No condition. -/
import Derived.Test.YtdjheefbeagcjaaRows
import Derived.Test.YtdjheefbeagcjaaXxAW
import Derived.Test.YtdjheefbeagcjaaXxC38
set_option linter.unusedSimpArgs false
set_option linter.unusedVariables false
namespace Go.Proofs.Ytdjheefbeagcjaa
open Go Go.X Go.ChangeShapes Go.WideShapes Go.ChangeAt Go.RowKit

theorem Try.own : ownKnob Try.prog.godebug = none := by kernel_rfl
theorem Try.laidOut : laidOutB Try.prog = true := by kernel_rfl

set_option maxRecDepth 100000 in
theorem worldMoney_lifted (os : Os) (started : os.Started) (H : Type) (enc : TypeId × Value → H) :
    ReturnsInHanded {} Try.checked os 8 .any (Rows.worldMoneySpec.pre6 enc Try.prog Try.f8 Rows.worldMoneyRow.domain false) (Rows.worldMoneySpec.post enc Try.prog Try.f8 false true false false) := by
  refine returnsInHanded_of_change (C := Try.checked) Try.own started (by kernel_rfl) Try.func8
    (ChangeSpec.witness6 (enc := enc) (C := Try.checked) false ⟨#[], #[.slice none 0 0, .slice none 0 0], []⟩ 8 (by kernel_rfl) (by kernel_rfl) (by kernel_rfl) (by kernel_rfl)) ?_
  intro W base args ds gs before hval0 hW hcnd _
  have hval : ∀ (j : Nat) t v, Try.f8.params[j]? = some t → args[j]? = some v → Value.okWide Try.prog W .any base t v := hval0
  have hW0 := hW
  obtain ⟨p, q, hA0, hV, rfl, hfz, hnd⟩ := hW0
  have hA : DataW.TrodAll enc Try.prog W 0 (fun _ => true) true Try.f8.params.toList args.toList ds p := hA0
  rw [Try.params8] at hA hval
  obtain ⟨v0, v1, d0, d1, p0, p1, rfl, rfl, rfl, h0, h1⟩ := trodAll_two hA
  obtain ⟨rfl, rfl⟩ := trodVars_none hV
  obtain ⟨xs, r0, hxs, _⟩ := arg_ints (P := Try.prog) Try.underlying62 Try.underlying63 (by kernel_rfl) (hval 0 62 v0 rfl rfl) h0
  obtain ⟨bs, r1, _⟩ := arg_bools (P := Try.prog) Try.underlying57 Try.underlying4 (by kernel_rfl) (hval 1 57 v1 rfl rfl) h1
  have hxs' : ∀ x ∈ xs, 0 ≤ x ∧ x < 65536 := fun x hx => by
    have := hxs x hx
    have e1 : IntKind.u16.min = 0 := by decide
    have e2 : IntKind.u16.max = 65535 := by decide
    rw [e1, e2] at this
    omega
  refine Calls.mono (worldMoney_c (W := W) (K := fun v w' => v = .bool true ∧ Ext W w') r0 r1 hxs' fun w' he => ⟨rfl, he⟩) fun e W' ⟨v, he, hv, hx⟩ => ?_
  subst he; subst hv
  exact ⟨_, rfl, post_law (P := Try.prog) Try.laidOut hW rfl rfl (by intro t ht; rw [Try.params8] at ht; simp at ht; rcases ht with rfl | rfl <;> exact ⟨by kernel_rfl, by decide +kernel⟩) rfl Try.underlying4 hx.below⟩

theorem worldMoney_holds : Rows.WorldMoneySaid :=
  OpenClaim.holds_of_wide 8 Try.f8 rfl rfl rfl rfl rfl rfl rfl ⟨rfl, rfl, rfl, rfl, rfl⟩ rfl rfl rfl rfl rfl (by kernel_rfl) Try.func8 (by kernel_rfl)
    (of_decide_eq_true (by kernel_rfl)) (by unfold Func.isWrapper; first | (rw [if_pos (by decide +kernel)]; kernel_rfl) | (rw [if_neg (by decide +kernel)]; exact ⟨rfl, rfl⟩))
    (fun os started H enc _ => worldMoney_lifted os started H enc)

end Go.Proofs.Ytdjheefbeagcjaa
