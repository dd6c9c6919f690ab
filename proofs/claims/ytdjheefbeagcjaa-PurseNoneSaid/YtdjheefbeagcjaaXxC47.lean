/- The chapter's first examples (layer 10). -/
import Derived.Test.YtdjheefbeagcjaaXxC46
set_option linter.unusedSimpArgs false
set_option linter.unusedVariables false
set_option maxRecDepth 20000
set_option maxHeartbeats 1000000
namespace Go.X
open Go Go.AW

def A10_0 : AW := { parents := [], cut := [false], things := [], last := 0, made := [0] }
def A10_1 : AW := { parents := [], cut := [false], things := [(1, mintS 0 0 0)], last := 1, made := [1] }
def A10_2 : AW := { parents := [], cut := [false], things := [(1, mintS 0 10 0), (2, purseS 0 1 10)], last := 2, made := [2] }
def A10_3 : AW := { parents := [], cut := [false], things := [(1, mintS 0 10 0), (2, purseS 0 1 7), (3, purseS 0 1 3)], last := 3, made := [3] }
def A10_4 : AW := { parents := [], cut := [false], things := [(1, mintS 0 10 0), (2, purseS 0 1 0), (3, purseS 0 1 10)], last := 3, made := [3] }
theorem A10_1_eq : A10_0.make (mintS 0 0 0) = A10_1 := by decide
theorem A10_2_eq : AW.ask A10_1 1 (mintS 0 0 0) 10 = A10_2 := by decide
theorem A10_3_eq : AW.take A10_2 2 (purseS 0 1 10) 3 = A10_3 := by decide
theorem A10_4_eq : AW.move A10_3 3 2 (purseS 0 1 3) (purseS 0 1 7) = A10_4 := by decide
theorem G10_0 : Good A10_0 := good_of (by kernel_rfl)
theorem G10_1 : Good A10_1 := good_of (by kernel_rfl)
theorem G10_2 : Good A10_2 := good_of (by kernel_rfl)
theorem G10_3 : Good A10_3 := good_of (by kernel_rfl)
theorem G10_4 : Good A10_4 := good_of (by kernel_rfl)
theorem A10_bal : Balanced A10_4 := by unfold Balanced; decide

section
variable {w : World} {K : Value → World → Prop}

theorem lives10_c (hk : ∀ w', Ext w w' → K (.bool true) w') : callOn prog fn_law10_lives #[] w K := by
  apply F_law10_lives_on
  unfold F_law10_lives
  have st := State.start (S := fun _ => False) w
  refine st.newYes (a := A10_0) (ps := []) (show ReadsOf w (.slice none 0 0) [] from ⟨rfl, rfl, rfl⟩) (by decide) fun w L st => ?_
  (repeat (first | ((with_reducible apply ext_0)) | ((with_reducible apply ext_1))))
  refine st.mintYes G10_0 (by decide) fun w L' hp st => ?_
  rw [← hp, A10_1_eq] at *
  (repeat (first | ((with_reducible apply ext_0)) | ((with_reducible apply ext_1))))
  refine st.askYes (m := 1) (x := mintS 0 0 0) G10_1 (by decide) rfl (by simp [Plain, Wh.zero]) (by simp [Wh.zero]) (by decide) (by decide) (by decide) (by decide) (by decide) fun w L2 hp st => ?_
  rw [A10_2_eq] at st
  rw [← hp]
  (repeat (first | ((with_reducible apply ext_0)) | ((with_reducible apply ext_1))))
  refine st.askNo (m := 1) (x := mintS 0 10 0) (e := 2) G10_2 (by decide) rfl (by simp [Plain, Wh.zero]) (by decide) (by decide) (by decide) fun w st => ?_
  (repeat (first | ((with_reducible apply ext_0)) | ((with_reducible apply ext_1))))
  refine st.takeYes (p := 2) (x := purseS 0 1 10) G10_2 (by decide) rfl (by simp [Plain, Wh.zero]) (by simp [Wh.zero]) (by decide) (by decide) (by decide) (by decide) (by decide) fun w L3 hp st => ?_
  rw [A10_3_eq] at st
  rw [← hp]
  (repeat (first | ((with_reducible apply ext_0)) | ((with_reducible apply ext_1))))
  refine st.getYes (p := 2) (x := purseS 0 1 7) (.head _) (by decide) rfl (by simp [Plain, Wh.zero]) fun w st => ?_
  (repeat (first | ((with_reducible apply ext_0)) | ((with_reducible apply ext_1)) | (simp only [upd_get, start_get, List.getD_cons_zero, List.getD_cons_succ, Nat.reduceEqDiff, reduceIte, Nat.reduceAdd])))
  refine st.moveYes (t := 3) (f := 2) (x := purseS 0 1 3) (y := purseS 0 1 7) G10_3 (by decide) rfl (by simp [Plain, Wh.zero]) (by simp [Wh.zero]) (by decide) rfl (by simp [Plain, Wh.zero]) (by simp [Wh.zero]) (by decide) rfl (by decide) (by decide) (by decide) (by decide) (by decide) fun w st => ?_
  rw [A10_4_eq] at st
  refine st.getYes (p := 3) (x := purseS 0 1 10) (.head _) (by decide) rfl (by simp [Plain, Wh.zero]) fun w st => ?_
  (repeat (first | ((with_reducible apply eql_at)) | ((with_reducible apply ext_0)) | ((with_reducible apply ext_1)) | ((with_reducible apply gop_run); (focus (first | assumption | rfl | decide | (simp only [bne, Bool.not_eq_true', Bool.not_eq_false', Bool.not_true, Bool.not_false, Bool.not_not]; assumption)))) | ((with_reducible apply pick_t); (focus (first | assumption | rfl | decide | (simp only [bne, Bool.not_eq_true', Bool.not_eq_false', Bool.not_true, Bool.not_false, Bool.not_not]; assumption))))))
  refine st.check (.head _) G10_4 A10_bal (by decide) fun w st => ?_
  (repeat (first | ((with_reducible apply eql_at)) | ((with_reducible apply gop_run); (focus (first | assumption | rfl | decide | (simp only [bne, Bool.not_eq_true', Bool.not_eq_false', Bool.not_true, Bool.not_false, Bool.not_not]; assumption)))) | ((with_reducible apply pick_t); (focus (first | assumption | rfl | decide | (simp only [bne, Bool.not_eq_true', Bool.not_eq_false', Bool.not_true, Bool.not_false, Bool.not_not]; assumption))))))
  exact hk w st.keeps

theorem purseNames_c (hk : ∀ w', Ext w w' → K (.bool true) w') : callOn prog fn_law10_PurseNames #[] w K := by
  apply F_law10_PurseNames_on
  unfold F_law10_PurseNames
  refine gop_run rfl (lives10_c fun w' he => ?_)
  exact hk w' he
end
end Go.X
