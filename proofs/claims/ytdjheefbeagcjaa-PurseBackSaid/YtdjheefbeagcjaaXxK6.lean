/- The statement PurseBack: whatever amounts, order, and what is taken; it returns true and leaves all that there was as it was. No condition. -/
import Derived.Test.YtdjheefbeagcjaaRows
import Derived.Test.YtdjheefbeagcjaaXxRow4
import Derived.Test.YtdjheefbeagcjaaXxC50
set_option linter.unusedSimpArgs false
set_option linter.unusedVariables false
namespace Go.Proofs.Ytdjheefbeagcjaa
open Go Go.X Go.ChangeShapes Go.WideShapes Go.ChangeAt Go.RowKit

theorem Try.own : ownKnob Try.prog.godebug = none := by kernel_rfl
theorem Try.laidOut : laidOutB Try.prog = true := by kernel_rfl

set_option maxRecDepth 100000 in
theorem purseBack_lifted (os : Os) (started : os.Started) (H : Type) (enc : TypeId × Value → H) :
    ReturnsInHanded {} Try.checked os 13 .any (Rows.purseBackSpec.pre6 enc Try.prog Try.f13 Rows.purseBackRow.domain false) (Rows.purseBackSpec.post enc Try.prog Try.f13 false true false false) := by
  refine returnsInHanded_of_change (C := Try.checked) Try.own started (by kernel_rfl) Try.func13
    (ChangeSpec.witness6 (enc := enc) (C := Try.checked) false ⟨#[], #[.slice none 0 0, .slice none 0 0, .int .i64 0], []⟩ 8 (by kernel_rfl) (by kernel_rfl) (by kernel_rfl) (by kernel_rfl)) ?_
  intro W base args ds gs before hval0 hW hcnd _
  have hval : ∀ (j : Nat) t v, Try.f13.params[j]? = some t → args[j]? = some v → Value.okWide Try.prog W .any base t v := hval0
  have hW0 := hW
  obtain ⟨p, q, hA0, hV, rfl, hfz, hnd⟩ := hW0
  have hA : DataW.TrodAll enc Try.prog W 0 (fun _ => true) true Try.f13.params.toList args.toList ds p := hA0
  rw [Try.params13] at hA hval
  obtain ⟨v0, v1, v2, d0, d1, d2, p0, p1, p2, rfl, rfl, rfl, h0, h1, h2⟩ := trodAll_three hA
  obtain ⟨rfl, rfl⟩ := trodVars_none hV
  obtain ⟨l0, r0, y0, _⟩ := arg_ints (P := Try.prog) Try.underlying62 Try.underlying63 (by kernel_rfl) (hval 0 62 v0 rfl rfl) h0
  have x0 := fun n hn => range_u16 (y0 n hn)
  obtain ⟨l1, r1, y1, _⟩ := arg_ints (P := Try.prog) Try.underlying24 Try.underlying3 (by kernel_rfl) (hval 1 24 v1 rfl rfl) h1
  have x1 := fun n hn => range_i64 (y1 n hn)
  obtain ⟨n2, rfl, x2⟩ := arg_int (P := Try.prog) Try.underlying2 (hval 2 2 v2 rfl rfl)
  have x2 := range_i64 x2
  refine Calls.mono (purseBack_c (W := W) (K := fun v w' => v = .bool true ∧ Ext W w') r0 r1 x0 x2 fun w' he => ⟨rfl, he⟩) fun e W' ⟨v, he, hv, hx⟩ => ?_
  subst he; subst hv
  exact ⟨_, rfl, post_law (P := Try.prog) Try.laidOut hW rfl rfl (by intro t ht; rw [Try.params13] at ht; simp at ht; rcases ht with rfl | rfl | rfl <;> exact ⟨by kernel_rfl, by decide +kernel⟩) rfl Try.underlying4 hx.below⟩

theorem purseBack_holds : Rows.PurseBackSaid :=
  OpenClaim.holds_of_wide 13 Try.f13 rfl rfl rfl rfl rfl rfl rfl ⟨rfl, rfl, rfl, rfl, rfl⟩ rfl rfl rfl rfl rfl (by kernel_rfl) Try.func13 (by kernel_rfl)
    (of_decide_eq_true (by kernel_rfl)) (by unfold Func.isWrapper; first | (rw [if_pos (by decide +kernel)]; kernel_rfl) | (rw [if_neg (by decide +kernel)]; exact ⟨rfl, rfl⟩))
    (fun os started H enc _ => purseBack_lifted os started H enc)

end Go.Proofs.Ytdjheefbeagcjaa
