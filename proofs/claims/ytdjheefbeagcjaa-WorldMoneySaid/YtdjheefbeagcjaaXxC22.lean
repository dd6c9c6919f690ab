/- The chapter's first examples (layer 7). -/
import Derived.Test.YtdjheefbeagcjaaXxC21
import Derived.Test.YtdjheefbeagcjaaXxS3
set_option linter.unusedSimpArgs false
set_option linter.unusedVariables false
set_option maxRecDepth 20000
set_option maxHeartbeats 1000000
namespace Go.X
open Go Go.AW

def A7_0 : AW := { parents := [0, 0, 1], cut := [false, false, false, false], things := [], last := 0, made := [0, 0, 0, 0] }
def X7 : Wh := { Wh.zero with kind := 1, home := 1, vk := 1, vn := 7 }
def A7_1 : AW := { parents := [0, 0, 1], cut := [false, false, false, false], things := [(1, X7)], last := 1, made := [0, 1, 0, 0] }
def A7_2 : AW := { parents := [0, 0, 1], cut := [false, false, false, false], things := [(1, X7), (2, facetW 1 1)], last := 2, made := [0, 1, 0, 0] }
def A7_3 : AW := { parents := [0, 0, 1], cut := [false, true, false, false], things := [(1, X7), (2, facetW 1 1)], last := 2, made := [0, 1, 0, 0] }
theorem A7_1_eq : A7_0.make X7 = A7_1 := by decide
theorem A7_2_eq : A7_1.add (facetW 1 1) = A7_2 := by decide
theorem A7_3_eq : AW.cutEdge A7_2 1 = A7_3 := by decide
theorem G7_0 : Good A7_0 := good_of (by kernel_rfl)
theorem G7_1 : Good A7_1 := good_of (by kernel_rfl)
theorem G7_2 : Good A7_2 := good_of (by kernel_rfl)
theorem G7_3 : Good A7_3 := good_of (by kernel_rfl)

section
variable {w : World} {K : Value → World → Prop}

theorem lives07_c (hk : ∀ w', Ext w w' → K (.bool true) w') : callOn prog fn_law07_lives #[] w K := by
  apply F_law07_lives_on
  unfold F_law07_lives
  have st := State.start (S := fun _ => False) w
  refine st.buildL [vi 0, vi 0, vi 1] (by decide) (by kernel_rfl) rfl fun b w st => ?_
  refine st.newYes (a := A7_0) (ps := [0, 0, 1]) (State.sl st (l := [vi 0, vi 0, vi 1]) (by ((repeat (first | exact List.Mem.head _ | assumption | refine List.Mem.tail _ ?_)); done))).reads (by decide) fun w L st => ?_
  (repeat (first | ((with_reducible apply ext_0)) | ((with_reducible apply ext_1))))
  refine st.buildL [vi 0, vi 2] (by decide) (by kernel_rfl) rfl fun b w st => ?_
  refine st.newNo (ps := [0, 2]) (State.sl st (l := [vi 0, vi 2]) (by ((repeat (first | exact List.Mem.head _ | assumption | refine List.Mem.tail _ ?_)); done))).reads (by decide) fun w st => ?_
  (repeat (first | ((with_reducible apply neq_at)) | ((with_reducible apply ext_0)) | ((with_reducible apply ext_1)) | ((with_reducible apply ptr_eql)) | ((with_reducible apply gop_run); (focus (first | assumption | rfl | decide | (simp only [bne, Bool.not_eq_true', Bool.not_eq_false', Bool.not_true, Bool.not_false, Bool.not_not]; assumption)))) | ((with_reducible apply cond_f); (focus (first | assumption | rfl | decide | (simp only [bne, Bool.not_eq_true', Bool.not_eq_false', Bool.not_true, Bool.not_false, Bool.not_not]; assumption)))) | ((with_reducible apply pick_f); (focus (first | assumption | rfl | decide | (simp only [bne, Bool.not_eq_true', Bool.not_eq_false', Bool.not_true, Bool.not_false, Bool.not_not]; assumption))))))
  refine build_agg (valL 1 7 0) (by kernel_rfl) ?_
  refine build_agg (whCells X7) (by kernel_rfl) ?_
  refine st.make (x := X7) (fun L' => .tail .head) G7_0 (by simp [Plain, X7, Wh.zero]) (by decide) (by decide) (by decide) fun w L' hp st => ?_
  rw [← hp]
  rw [A7_1_eq] at st
  (repeat (first | ((with_reducible apply ext_0)) | ((with_reducible apply ext_1))))
  refine st.facetNew (fun L' => .tail .head) G7_1 (by decide) (by decide) (by decide) fun w L' hp st => ?_
  rw [← hp]
  rw [A7_2_eq] at st
  (repeat (first | ((with_reducible apply ext_0)) | ((with_reducible apply ext_1))))
  refine st.facetOld (r := 2) (by ((repeat (first | exact List.Mem.head _ | assumption | refine List.Mem.tail _ ?_)); done)) G7_2 (by decide) (by decide) (by decide) fun w st => ?_
  (repeat (first | ((with_reducible apply ext_0)) | ((with_reducible apply ext_1))))
  refine st.facetNo (e := 70) (by ((repeat (first | exact List.Mem.head _ | assumption | refine List.Mem.tail _ ?_)); done)) G7_2 (by decide) (by decide) (by decide) fun w st => ?_
  (repeat (first | ((with_reducible apply ext_0)) | ((with_reducible apply ext_1))))
  refine st.cutYes (.tail .head) (by decide) fun w st => ?_
  rw [A7_3_eq] at st
  (repeat (first | ((with_reducible apply eql_at)) | ((with_reducible apply gop_run); (focus (first | assumption | rfl | decide | (simp only [bne, Bool.not_eq_true', Bool.not_eq_false', Bool.not_true, Bool.not_false, Bool.not_not]; assumption)))) | ((with_reducible apply pick_t); (focus (first | assumption | rfl | decide | (simp only [bne, Bool.not_eq_true', Bool.not_eq_false', Bool.not_true, Bool.not_false, Bool.not_not]; assumption))))))
  have hwf := G7_3.wf
  have hfew := G7_3.few
  (repeat (first | ((with_reducible apply eql_at)) | ((with_reducible apply gop_run); (focus (first | assumption | rfl | decide | (simp only [bne, Bool.not_eq_true', Bool.not_eq_false', Bool.not_true, Bool.not_false, Bool.not_not]; assumption)))) | ((with_reducible apply pick_t); (focus (first | assumption | rfl | decide | (simp only [bne, Bool.not_eq_true', Bool.not_eq_false', Bool.not_true, Bool.not_false, Bool.not_not]; assumption)))) | ((with_reducible apply able_c); (focus (first | exact st.rep (by ((repeat (first | exact List.Mem.head _ | assumption | refine List.Mem.tail _ ?_)); done)) | exact h.ext st.keeps)); (focus assumption); intro w he; have st := st.ext he) | ((with_reducible apply base_c); (focus (first | exact st.rep (by ((repeat (first | exact List.Mem.head _ | assumption | refine List.Mem.tail _ ?_)); done)) | exact h.ext st.keeps)); (focus assumption); (focus assumption); intro w he; have st := st.ext he) | ((with_reducible apply free_c); (focus (first | exact st.rep (by ((repeat (first | exact List.Mem.head _ | assumption | refine List.Mem.tail _ ?_)); done)) | exact h.ext st.keeps)); (focus assumption); (focus assumption); intro w he; have st := st.ext he) | ((with_reducible apply len_c); (focus (first | exact st.rep (by ((repeat (first | exact List.Mem.head _ | assumption | refine List.Mem.tail _ ?_)); done)) | exact h.ext st.keeps))) | ((with_reducible apply made_c); (focus (first | exact st.rep (by ((repeat (first | exact List.Mem.head _ | assumption | refine List.Mem.tail _ ?_)); done)) | exact h.ext st.keeps)))))
  exact hk w st.keeps
end
end Go.X
