/- Worlds that are not there; the law PurseNone: its call. -/
import Derived.Test.YtdjheefbeagcjaaXxC47
import Derived.Test.YtdjheefbeagcjaaXxS12
set_option linter.unusedSimpArgs false
set_option linter.unusedVariables false
set_option maxRecDepth 20000
set_option maxHeartbeats 2000000
namespace Go.X
open Go Go.AW

abbrev noWorld : List Value := [noList, noList, .map none, .map none, vi 0, noList]
/-- a world that is not there, or that no call made -/
def NoW (p : Value) (w : World) : Prop := p = .pointer none ∨ ∃ b, p = ptr b ∧ cellsOf w b = some noWorld
theorem NoW.ext {p : Value} {w w' : World} (h : NoW p w) (he : Ext w w') : NoW p w' := by
  rcases h with h | ⟨b, h, hc⟩
  · exact .inl h
  · exact .inr ⟨b, h, he.cells hc id⟩

section
variable {w : World} {p : Value} {K : Value → World → Prop}

theorem none_yes (h : NoW p w) (hk : K (.bool true) w) : callOn prog fn_World_none #[p] w K := by
  apply F_World_none_on
  unfold F_World_none
  rcases h with rfl | ⟨b, rfl, hc⟩
  · (repeat (first | ((with_reducible apply ptr_eql)) | ((with_reducible apply pick_t); (focus (first | assumption | rfl | decide | (simp only [bne, Bool.not_eq_true', Bool.not_eq_false', Bool.not_true, Bool.not_false, Bool.not_not]; assumption)))) | ((with_reducible apply gop_skip); (focus (first | assumption | rfl | decide | (simp only [bne, Bool.not_eq_true', Bool.not_eq_false', Bool.not_true, Bool.not_false, Bool.not_not]; assumption))))))
    exact hk
  · (repeat (first | ((with_reducible apply field_at)) | ((with_reducible apply nil_ptr)) | ((with_reducible apply ptr_eql)) | ((with_reducible apply gop_run); (focus (first | assumption | rfl | decide | (simp only [bne, Bool.not_eq_true', Bool.not_eq_false', Bool.not_true, Bool.not_false, Bool.not_not]; assumption)))) | (simp only [upd_get, start_get, List.getD_cons_zero, List.getD_cons_succ, Nat.reduceEqDiff, reduceIte, Nat.reduceAdd])))
    refine load_reads ⟨_, Rd_of_cells hc, rfl⟩ ?_
    (repeat (first | ((with_reducible apply map_eql)) | ((with_reducible apply gop_run); (focus (first | assumption | rfl | decide | (simp only [bne, Bool.not_eq_true', Bool.not_eq_false', Bool.not_true, Bool.not_false, Bool.not_not]; assumption)))) | ((with_reducible apply pick_f); (focus (first | assumption | rfl | decide | (simp only [bne, Bool.not_eq_true', Bool.not_eq_false', Bool.not_true, Bool.not_false, Bool.not_not]; assumption))))))
    exact hk

theorem sides_none (h : NoW p w) (hk : K (vi 0) w) : callOn prog fn_World_Sides #[p] w K := by
  apply F_World_Sides_on
  unfold F_World_Sides
  refine none_yes h ?_
  (repeat (first | ((with_reducible apply cond_t); (focus (first | assumption | rfl | decide | (simp only [bne, Bool.not_eq_true', Bool.not_eq_false', Bool.not_true, Bool.not_false, Bool.not_not]; assumption))))))
  exact hk

theorem what_none {r : Value} (h : NoW p w) (hk : ∀ w', Ext w w' → K (.tuple #[whV Wh.zero, vi 1]) w') : callOn prog fn_World_What #[p, r] w K := by
  apply F_World_What_on
  unfold F_World_What
  have st := State.start (S := fun _ => False) w
  have hN : ∀ {w' R}, State (fun _ => False) w w' R → NoW p w' := fun st => h.ext st.keeps
  (repeat (first | ((with_reducible apply cond_t); (focus (first | assumption | rfl | decide | (simp only [bne, Bool.not_eq_true', Bool.not_eq_false', Bool.not_true, Bool.not_false, Bool.not_not]; assumption)))) | ((with_reducible apply State.allocAgg st); intro b w st) | ((with_reducible apply none_yes); (focus exact hN st))))
  refine build_agg (whCells Wh.zero) (by kernel_rfl) ?_
  (repeat (first | ((with_reducible apply State.loadAll st); (focus ((repeat (first | exact List.Mem.head _ | assumption | refine List.Mem.tail _ ?_)); done)); (focus (first | (simp [whCells, valL, over_length, Value.cells]; done) | omega))) | ((with_reducible apply State.storeAll st); (focus ((repeat (first | exact Sub.head | apply Sub.tail)); done)); (focus (first | (simp [whCells, valL, over_length, Value.cells]; done) | omega)); (focus (first | (simp [whCells, valL, over_length, Value.cells]; done) | omega)); (focus (first | rfl | assumption | (simp [whCells, valL, Value.oneCell', Value.cells]; done))); intro w st)))
  exact hk _ st.keeps

theorem make_none {x : Wh} (h : NoW p w) (hk : ∀ w', Ext w w' → K (.tuple #[vi 0, vi 1]) w') : callOn prog fn_World_Make #[p, whV x] w K := by
  apply F_World_Make_on
  unfold F_World_Make
  have st := State.start (S := fun _ => False) w
  have hN : ∀ {w' R}, State (fun _ => False) w w' R → NoW p w' := fun st => h.ext st.keeps
  (repeat (first | ((with_reducible apply cond_t); (focus (first | assumption | rfl | decide | (simp only [bne, Bool.not_eq_true', Bool.not_eq_false', Bool.not_true, Bool.not_false, Bool.not_not]; assumption)))) | ((with_reducible apply State.boxAgg st); intro b w st) | ((with_reducible apply none_yes); (focus exact hN st))))
  exact hk _ st.keeps

theorem find_none {r kk : Value} (h : NoW p w) (hk : ∀ w', Ext w w' → K (.tuple #[whV Wh.zero, vi 1]) w') : callOn prog fn_purse_find #[p, r, kk] w K := by
  apply F_purse_find_on
  unfold F_purse_find
  have st := State.start (S := fun _ => False) w
  have hN : ∀ {w' R}, State (fun _ => False) w w' R → NoW p w' := fun st => h.ext st.keeps
  rcases h with rfl | ⟨b, rfl, hc⟩
  · (repeat (first | ((with_reducible apply ptr_eql)) | ((with_reducible apply cond_t); (focus (first | assumption | rfl | decide | (simp only [bne, Bool.not_eq_true', Bool.not_eq_false', Bool.not_true, Bool.not_false, Bool.not_not]; assumption)))) | ((with_reducible apply State.allocAgg st); intro b w st)))
    refine build_agg (whCells Wh.zero) (by kernel_rfl) ?_
    (repeat (first | ((with_reducible apply State.loadAll st); (focus ((repeat (first | exact List.Mem.head _ | assumption | refine List.Mem.tail _ ?_)); done)); (focus (first | (simp [whCells, valL, over_length, Value.cells]; done) | omega))) | ((with_reducible apply State.storeAll st); (focus ((repeat (first | exact Sub.head | apply Sub.tail)); done)); (focus (first | (simp [whCells, valL, over_length, Value.cells]; done) | omega)); (focus (first | (simp [whCells, valL, over_length, Value.cells]; done) | omega)); (focus (first | rfl | assumption | (simp [whCells, valL, Value.oneCell', Value.cells]; done))); intro w st)))
    exact hk _ st.keeps
  · (repeat (first | ((with_reducible apply neq_at)) | ((with_reducible apply ext_0)) | ((with_reducible apply ext_1)) | ((with_reducible apply ptr_eql)) | ((with_reducible apply cond_t); (focus (first | assumption | rfl | decide | (simp only [bne, Bool.not_eq_true', Bool.not_eq_false', Bool.not_true, Bool.not_false, Bool.not_not]; assumption)))) | ((with_reducible apply cond_f); (focus (first | assumption | rfl | decide | (simp only [bne, Bool.not_eq_true', Bool.not_eq_false', Bool.not_true, Bool.not_false, Bool.not_not]; assumption)))) | ((with_reducible apply State.allocAgg st); intro b w st) | ((with_reducible apply State.storeAll st); (focus ((repeat (first | exact Sub.head | apply Sub.tail)); done)); (focus (first | (simp [whCells, valL, over_length, Value.cells]; done) | omega)); (focus (first | (simp [whCells, valL, over_length, Value.cells]; done) | omega)); (focus (first | rfl | assumption | (simp [whCells, valL, Value.oneCell', Value.cells]; done))); intro w st) | ((with_reducible apply what_none); (focus exact hN st); intro w he; have st := st.ext he)))
    refine build_agg (whCells Wh.zero) (by kernel_rfl) ?_
    (repeat (first | ((with_reducible apply State.loadAll st); (focus ((repeat (first | exact List.Mem.head _ | assumption | refine List.Mem.tail _ ?_)); done)); (focus (first | (simp [whCells, valL, over_length, Value.cells]; done) | omega))) | ((with_reducible apply State.storeAll st); (focus ((repeat (first | exact Sub.head | apply Sub.tail)); done)); (focus (first | (simp [whCells, valL, over_length, Value.cells]; done) | omega)); (focus (first | (simp [whCells, valL, over_length, Value.cells]; done) | omega)); (focus (first | rfl | assumption | (simp [whCells, valL, Value.oneCell', Value.cells]; done))); intro w st)))
    exact hk _ st.keeps

theorem mint_none {s : Int} (h : NoW p w) (hk : ∀ w', Ext w w' → K (.tuple #[vi 0, vi 1]) w') : callOn prog fn_purse_Mint #[p, vi s] w K := by
  apply F_purse_Mint_on
  unfold F_purse_Mint
  have st := State.start (S := fun _ => False) w
  have hN : ∀ {w' R}, State (fun _ => False) w w' R → NoW p w' := fun st => h.ext st.keeps
  rcases h with rfl | ⟨b, rfl, hc⟩
  · (repeat (first | ((with_reducible apply ptr_eql)) | ((with_reducible apply cond_t); (focus (first | assumption | rfl | decide | (simp only [bne, Bool.not_eq_true', Bool.not_eq_false', Bool.not_true, Bool.not_false, Bool.not_not]; assumption))))))
    exact hk _ st.keeps
  · (repeat (first | ((with_reducible apply ptr_eql)) | ((with_reducible apply cond_f); (focus (first | assumption | rfl | decide | (simp only [bne, Bool.not_eq_true', Bool.not_eq_false', Bool.not_true, Bool.not_false, Bool.not_not]; assumption)))) | (simp only [upd_get, start_get, List.getD_cons_zero, List.getD_cons_succ, Nat.reduceEqDiff, reduceIte, Nat.reduceAdd])))
    refine build_agg (whCells (mintS s 0 0)) (by kernel_rfl) ?_
    (repeat (first | ((with_reducible apply eql_at)) | ((with_reducible apply ext_0)) | ((with_reducible apply ext_1)) | ((with_reducible apply cond_f); (focus (first | assumption | rfl | decide | (simp only [bne, Bool.not_eq_true', Bool.not_eq_false', Bool.not_true, Bool.not_false, Bool.not_not]; assumption)))) | ((with_reducible apply make_none); (focus exact hN st); intro w he; have st := st.ext he)))
    exact hk _ st.keeps

theorem ask_none {r n : Value} (h : NoW p w) (hk : ∀ w', Ext w w' → K (.tuple #[vi 0, vi 1]) w') : callOn prog fn_purse_Ask #[p, r, n] w K := by
  apply F_purse_Ask_on
  unfold F_purse_Ask
  have st := State.start (S := fun _ => False) w
  have hN : ∀ {w' R}, State (fun _ => False) w w' R → NoW p w' := fun st => h.ext st.keeps
  (repeat (first | ((with_reducible apply neq_at)) | ((with_reducible apply ext_0)) | ((with_reducible apply ext_1)) | ((with_reducible apply cond_t); (focus (first | assumption | rfl | decide | (simp only [bne, Bool.not_eq_true', Bool.not_eq_false', Bool.not_true, Bool.not_false, Bool.not_not]; assumption)))) | ((with_reducible apply State.allocAgg st); intro b w st) | ((with_reducible apply State.storeAll st); (focus ((repeat (first | exact Sub.head | apply Sub.tail)); done)); (focus (first | (simp [whCells, valL, over_length, Value.cells]; done) | omega)); (focus (first | (simp [whCells, valL, over_length, Value.cells]; done) | omega)); (focus (first | rfl | assumption | (simp [whCells, valL, Value.oneCell', Value.cells]; done))); intro w st) | ((with_reducible apply find_none); (focus exact hN st); intro w he; have st := st.ext he)))
  exact hk _ st.keeps

theorem get_none {r : Value} (h : NoW p w) (hk : ∀ w', Ext w w' → K (.tuple #[vi 0, vi 1]) w') : callOn prog fn_purse_Get #[p, r] w K := by
  apply F_purse_Get_on
  unfold F_purse_Get
  have st := State.start (S := fun _ => False) w
  have hN : ∀ {w' R}, State (fun _ => False) w w' R → NoW p w' := fun st => h.ext st.keeps
  (repeat (first | ((with_reducible apply neq_at)) | ((with_reducible apply ext_0)) | ((with_reducible apply ext_1)) | ((with_reducible apply cond_t); (focus (first | assumption | rfl | decide | (simp only [bne, Bool.not_eq_true', Bool.not_eq_false', Bool.not_true, Bool.not_false, Bool.not_not]; assumption)))) | ((with_reducible apply State.allocAgg st); intro b w st) | ((with_reducible apply State.storeAll st); (focus ((repeat (first | exact Sub.head | apply Sub.tail)); done)); (focus (first | (simp [whCells, valL, over_length, Value.cells]; done) | omega)); (focus (first | (simp [whCells, valL, over_length, Value.cells]; done) | omega)); (focus (first | rfl | assumption | (simp [whCells, valL, Value.oneCell', Value.cells]; done))); intro w st) | ((with_reducible apply find_none); (focus exact hN st); intro w he; have st := st.ext he)))
  exact hk _ st.keeps

theorem take_none {r n : Value} (h : NoW p w) (hk : ∀ w', Ext w w' → K (.tuple #[vi 0, vi 1]) w') : callOn prog fn_purse_Take #[p, r, n] w K := by
  apply F_purse_Take_on
  unfold F_purse_Take
  have st := State.start (S := fun _ => False) w
  have hN : ∀ {w' R}, State (fun _ => False) w w' R → NoW p w' := fun st => h.ext st.keeps
  (repeat (first | ((with_reducible apply neq_at)) | ((with_reducible apply ext_0)) | ((with_reducible apply ext_1)) | ((with_reducible apply cond_t); (focus (first | assumption | rfl | decide | (simp only [bne, Bool.not_eq_true', Bool.not_eq_false', Bool.not_true, Bool.not_false, Bool.not_not]; assumption)))) | ((with_reducible apply State.allocAgg st); intro b w st) | ((with_reducible apply State.storeAll st); (focus ((repeat (first | exact Sub.head | apply Sub.tail)); done)); (focus (first | (simp [whCells, valL, over_length, Value.cells]; done) | omega)); (focus (first | (simp [whCells, valL, over_length, Value.cells]; done) | omega)); (focus (first | rfl | assumption | (simp [whCells, valL, Value.oneCell', Value.cells]; done))); intro w st) | ((with_reducible apply find_none); (focus exact hN st); intro w he; have st := st.ext he)))
  exact hk _ st.keeps

theorem pof_none {r : Value} (h : NoW p w) (hk : ∀ w', Ext w w' → K (.tuple #[vi 0, vi 1]) w') : callOn prog fn_purse_Of #[p, r] w K := by
  apply F_purse_Of_on
  unfold F_purse_Of
  have st := State.start (S := fun _ => False) w
  have hN : ∀ {w' R}, State (fun _ => False) w w' R → NoW p w' := fun st => h.ext st.keeps
  (repeat (first | ((with_reducible apply neq_at)) | ((with_reducible apply ext_0)) | ((with_reducible apply ext_1)) | ((with_reducible apply cond_t); (focus (first | assumption | rfl | decide | (simp only [bne, Bool.not_eq_true', Bool.not_eq_false', Bool.not_true, Bool.not_false, Bool.not_not]; assumption)))) | ((with_reducible apply State.allocAgg st); intro b w st) | ((with_reducible apply State.storeAll st); (focus ((repeat (first | exact Sub.head | apply Sub.tail)); done)); (focus (first | (simp [whCells, valL, over_length, Value.cells]; done) | omega)); (focus (first | (simp [whCells, valL, over_length, Value.cells]; done) | omega)); (focus (first | rfl | assumption | (simp [whCells, valL, Value.oneCell', Value.cells]; done))); intro w st) | ((with_reducible apply find_none); (focus exact hN st); intro w he; have st := st.ext he)))
  exact hk _ st.keeps

theorem purses_none {r : Int} (h : NoW p w) (hk : ∀ w', Ext w w' → K (.tuple #[noList, vi 1]) w') : callOn prog fn_purse_Purses #[p, vi r] w K := by
  apply F_purse_Purses_on
  unfold F_purse_Purses
  have st := State.start (S := fun _ => False) w
  have hN : ∀ {w' R}, State (fun _ => False) w w' R → NoW p w' := fun st => h.ext st.keeps
  rcases h with rfl | ⟨b, rfl, hc⟩
  · (repeat (first | ((with_reducible apply neq_at)) | ((with_reducible apply ext_0)) | ((with_reducible apply ext_1)) | ((with_reducible apply State.load1 st); (focus ((repeat (first | exact List.Mem.head _ | assumption | refine List.Mem.tail _ ?_)); done)); (focus rfl)) | ((with_reducible apply cond_t); (focus (first | assumption | rfl | decide | (simp only [bne, Bool.not_eq_true', Bool.not_eq_false', Bool.not_true, Bool.not_false, Bool.not_not]; assumption)))) | ((with_reducible apply State.allocAgg st); intro b w st) | ((with_reducible apply State.box st); intro b w st) | ((with_reducible apply State.storeAll st); (focus ((repeat (first | exact Sub.head | apply Sub.tail)); done)); (focus (first | (simp [whCells, valL, over_length, Value.cells]; done) | omega)); (focus (first | (simp [whCells, valL, over_length, Value.cells]; done) | omega)); (focus (first | rfl | assumption | (simp [whCells, valL, Value.oneCell', Value.cells]; done))); intro w st) | ((with_reducible apply find_none); (focus exact hN st); intro w he; have st := st.ext he)))
    exact hk _ st.keeps
  · (repeat (first | ((with_reducible apply neq_at)) | ((with_reducible apply ext_0)) | ((with_reducible apply ext_1)) | ((with_reducible apply State.load1 st); (focus ((repeat (first | exact List.Mem.head _ | assumption | refine List.Mem.tail _ ?_)); done)); (focus rfl)) | ((with_reducible apply cond_t); (focus (first | assumption | rfl | decide | (simp only [bne, Bool.not_eq_true', Bool.not_eq_false', Bool.not_true, Bool.not_false, Bool.not_not]; assumption)))) | ((with_reducible apply State.allocAgg st); intro b w st) | ((with_reducible apply State.box st); intro b w st) | ((with_reducible apply State.storeAll st); (focus ((repeat (first | exact Sub.head | apply Sub.tail)); done)); (focus (first | (simp [whCells, valL, over_length, Value.cells]; done) | omega)); (focus (first | (simp [whCells, valL, over_length, Value.cells]; done) | omega)); (focus (first | rfl | assumption | (simp [whCells, valL, Value.oneCell', Value.cells]; done))); intro w st) | ((with_reducible apply find_none); (focus exact hN st); intro w he; have st := st.ext he)))
    exact hk _ st.keeps

theorem sum_none {r : Int} (h : NoW p w) (hk : ∀ w', Ext w w' → K (.tuple #[vi 0, vi 0, vi 0, vi 1]) w') : callOn prog fn_purse_Sum #[p, vi r] w K := by
  apply F_purse_Sum_on
  unfold F_purse_Sum
  have st := State.start (S := fun _ => False) w
  have hN : ∀ {w' R}, State (fun _ => False) w w' R → NoW p w' := fun st => h.ext st.keeps
  (repeat (first | ((with_reducible apply neq_at)) | ((with_reducible apply ext_0)) | ((with_reducible apply ext_1)) | ((with_reducible apply cond_t); (focus (first | assumption | rfl | decide | (simp only [bne, Bool.not_eq_true', Bool.not_eq_false', Bool.not_true, Bool.not_false, Bool.not_not]; assumption)))) | ((with_reducible apply purses_none); (focus exact hN st); intro w he; have st := st.ext he)))
  exact hk _ st.keeps

theorem move_none {r q : Value} (h : NoW p w) (hk : ∀ w', Ext w w' → K (vi 1) w') : callOn prog fn_purse_Move #[p, r, q] w K := by
  apply F_purse_Move_on
  unfold F_purse_Move
  have st := State.start (S := fun _ => False) w
  have hN : ∀ {w' R}, State (fun _ => False) w w' R → NoW p w' := fun st => h.ext st.keeps
  (repeat (first | ((with_reducible apply eql_at)) | ((with_reducible apply ext_0)) | ((with_reducible apply ext_1)) | ((with_reducible apply cond_t); (focus (first | assumption | rfl | decide | (simp only [bne, Bool.not_eq_true', Bool.not_eq_false', Bool.not_true, Bool.not_false, Bool.not_not]; assumption)))) | ((with_reducible apply pick_t); (focus (first | assumption | rfl | decide | (simp only [bne, Bool.not_eq_true', Bool.not_eq_false', Bool.not_true, Bool.not_false, Bool.not_not]; assumption)))) | ((with_reducible apply gop_skip); (focus (first | assumption | rfl | decide | (simp only [bne, Bool.not_eq_true', Bool.not_eq_false', Bool.not_true, Bool.not_false, Bool.not_not]; assumption)))) | ((with_reducible apply State.allocAgg st); intro b w st) | ((with_reducible apply State.storeAll st); (focus ((repeat (first | exact Sub.head | apply Sub.tail)); done)); (focus (first | (simp [whCells, valL, over_length, Value.cells]; done) | omega)); (focus (first | (simp [whCells, valL, over_length, Value.cells]; done) | omega)); (focus (first | rfl | assumption | (simp [whCells, valL, Value.oneCell', Value.cells]; done))); intro w st) | ((with_reducible apply find_none); (focus exact hN st); intro w he; have st := st.ext he)))
  exact hk _ st.keeps

theorem check_none (h : NoW p w) (hk : ∀ w', Ext w w' → K (vi 1) w') : callOn prog fn_purse_Check #[p] w K := by
  apply F_purse_Check_on
  unfold F_purse_Check
  have st := State.start (S := fun _ => False) w
  have hN : ∀ {w' R}, State (fun _ => False) w w' R → NoW p w' := fun st => h.ext st.keeps
  rcases h with rfl | ⟨b, rfl, hc⟩
  · (repeat (first | ((with_reducible apply ptr_eql)) | ((with_reducible apply State.load1 st); (focus ((repeat (first | exact List.Mem.head _ | assumption | refine List.Mem.tail _ ?_)); done)); (focus rfl)) | ((with_reducible apply cond_t); (focus (first | assumption | rfl | decide | (simp only [bne, Bool.not_eq_true', Bool.not_eq_false', Bool.not_true, Bool.not_false, Bool.not_not]; assumption)))) | ((with_reducible apply pick_t); (focus (first | assumption | rfl | decide | (simp only [bne, Bool.not_eq_true', Bool.not_eq_false', Bool.not_true, Bool.not_false, Bool.not_not]; assumption)))) | ((with_reducible apply gop_skip); (focus (first | assumption | rfl | decide | (simp only [bne, Bool.not_eq_true', Bool.not_eq_false', Bool.not_true, Bool.not_false, Bool.not_not]; assumption)))) | ((with_reducible apply State.box st); intro b w st) | ((with_reducible apply State.alloc st); intro b w st) | ((with_reducible apply State.store1 st); (focus ((repeat (first | exact Sub.head | apply Sub.tail)); done)); (focus (first | (simp [whCells, valL, over_length, Value.cells]; done) | omega)); (focus (first | rfl | assumption | (simp [whCells, valL, Value.oneCell', Value.cells]; done))); intro w st)))
    exact hk _ st.keeps
  · (repeat (first | ((with_reducible apply eql_at)) | ((with_reducible apply ptr_eql)) | ((with_reducible apply State.load1 st); (focus ((repeat (first | exact List.Mem.head _ | assumption | refine List.Mem.tail _ ?_)); done)); (focus rfl)) | ((with_reducible apply cond_t); (focus (first | assumption | rfl | decide | (simp only [bne, Bool.not_eq_true', Bool.not_eq_false', Bool.not_true, Bool.not_false, Bool.not_not]; assumption)))) | ((with_reducible apply gop_run); (focus (first | assumption | rfl | decide | (simp only [bne, Bool.not_eq_true', Bool.not_eq_false', Bool.not_true, Bool.not_false, Bool.not_not]; assumption)))) | ((with_reducible apply pick_f); (focus (first | assumption | rfl | decide | (simp only [bne, Bool.not_eq_true', Bool.not_eq_false', Bool.not_true, Bool.not_false, Bool.not_not]; assumption)))) | ((with_reducible apply State.box st); intro b w st) | ((with_reducible apply State.alloc st); intro b w st) | ((with_reducible apply State.store1 st); (focus ((repeat (first | exact Sub.head | apply Sub.tail)); done)); (focus (first | (simp [whCells, valL, over_length, Value.cells]; done) | omega)); (focus (first | rfl | assumption | (simp [whCells, valL, Value.oneCell', Value.cells]; done))); intro w st) | ((with_reducible apply sides_none); (focus exact hN st))))
    exact hk _ st.keeps

theorem purseNone_c {a y s : Int} {W : World} (hk : ∀ w', Ext W w' → K (.bool true) w') : callOn prog fn_law10_PurseNone #[vi a, vi y, vi s] W K := by
  apply F_law10_PurseNone_on
  unfold F_law10_PurseNone
  have st := State.start (S := fun _ => False) W
  refine build_agg noWorld (by kernel_rfl) ?_
  (repeat (first | ((with_reducible apply State.boxAgg st); intro b w st)))
  obtain ⟨bz, hbz⟩ : ∃ z, z = b := ⟨_, rfl⟩
  rw [← hbz] at st ⊢
  clear hbz
  refine buildA_agg [.pointer none, ptr bz] (by kernel_rfl) ?_
  refine st.alloc fun bl w1 st => ?_
  refine State.storeAll st .head rfl (by simp [Value.cells]) (by simp [Value.oneCell']) fun w1 st => ?_
  refine ⟨fun m e w' => ∃ i : Nat, m = 2 - i ∧ i ≤ 2 ∧ e 0 = vi a ∧ e 1 = vi y ∧ e 2 = vi s ∧ e 7 = vi s ∧ e 8 = ptr bl ∧ e 9 = vi i ∧ State (fun _ => False) W w' [.cells bl [.pointer none, ptr bz], .cells bz noWorld], 2,
    ⟨0, by omega, by omega, by simp [upd_get, start_get], by simp [upd_get, start_get], by simp [upd_get, start_get], by simp [upd_get], by simp [upd_get], by simp [upd_get], st⟩, ?_⟩
  clear st
  rintro m e w1 ⟨i, rfl, hi, g0, g1, g2, g7, g8, g9, st⟩
  show F_law10_PurseNone_s24 e _ w1 K
  unfold F_law10_PurseNone_s24
  rw [g9]
  by_cases hil : i < 2
  · have q1 : decide ((i : Int) < 2) = true := by simp; omega
    obtain ⟨pv, hpv, hN⟩ : ∃ pv, ([.pointer none, ptr bz] : List Value)[i]? = some pv ∧ ∀ {w' R'}, State (fun _ => False) W w' (.cells bl [.pointer none, ptr bz] :: .cells bz noWorld :: R') → NoW pv w' := by
      have : i = 0 ∨ i = 1 := by omega
      rcases this with rfl | rfl
      · exact ⟨_, rfl, fun _ => .inl rfl⟩
      · exact ⟨_, rfl, fun st => .inr ⟨bz, rfl, st.cell (.tail _ (.head _))⟩⟩
    (repeat (first | ((with_reducible apply lss_at)) | ((with_reducible apply cond_t); (focus (first | assumption | rfl | decide | (simp only [bne, Bool.not_eq_true', Bool.not_eq_false', Bool.not_true, Bool.not_false, Bool.not_not]; assumption)))) | (rewrite [g8]) | (rewrite [g9]) | (simp only [upd_get, start_get, List.getD_cons_zero, List.getD_cons_succ, Nat.reduceEqDiff, reduceIte, Nat.reduceAdd]) | ((with_reducible (conv => whnf)); (simp only [upd_get, start_get, List.getD_cons_zero, List.getD_cons_succ, Nat.reduceEqDiff, reduceIte, Nat.reduceAdd]))))
    refine index_arr (by omega) (by omega) ?_
    refine st.load1 (.head _) (v := pv) (by simpa using hpv) ?_
    (repeat (first | ((with_reducible apply neq_at)) | ((with_reducible apply len_slice)) | ((with_reducible apply ext_0)) | ((with_reducible apply ext_1)) | ((with_reducible apply ext_2)) | ((with_reducible apply ext_3)) | ((with_reducible apply gop_run); (focus (first | assumption | rfl | decide | (simp only [bne, Bool.not_eq_true', Bool.not_eq_false', Bool.not_true, Bool.not_false, Bool.not_not]; assumption)))) | ((with_reducible apply cond_f); (focus (first | assumption | rfl | decide | (simp only [bne, Bool.not_eq_true', Bool.not_eq_false', Bool.not_true, Bool.not_false, Bool.not_not]; assumption)))) | ((with_reducible apply pick_f); (focus (first | assumption | rfl | decide | (simp only [bne, Bool.not_eq_true', Bool.not_eq_false', Bool.not_true, Bool.not_false, Bool.not_not]; assumption)))) | ((with_reducible apply add_at); (focus omega); (focus omega)) | (rewrite [g0]) | (rewrite [g1]) | (rewrite [g2]) | (rewrite [g7]) | (rewrite [g9]) | ((with_reducible apply mint_none); (focus exact hN st); intro w he; have st := st.ext he) | ((with_reducible apply ask_none); (focus exact hN st); intro w he; have st := st.ext he) | ((with_reducible apply get_none); (focus exact hN st); intro w he; have st := st.ext he) | ((with_reducible apply take_none); (focus exact hN st); intro w he; have st := st.ext he) | ((with_reducible apply pof_none); (focus exact hN st); intro w he; have st := st.ext he) | ((with_reducible apply purses_none); (focus exact hN st); intro w he; have st := st.ext he) | ((with_reducible apply sum_none); (focus exact hN st); intro w he; have st := st.ext he) | ((with_reducible apply move_none); (focus exact hN st); intro w he; have st := st.ext he) | ((with_reducible apply check_none); (focus exact hN st); intro w he; have st := st.ext he) | (simp only [upd_get, start_get, List.getD_cons_zero, List.getD_cons_succ, Nat.reduceEqDiff, reduceIte, Nat.reduceAdd])))
    exact ⟨2 - (i + 1), by omega, i + 1, rfl, by omega, by simp [upd_get, g0], by simp [upd_get, g1], by simp [upd_get, g2], by simp [upd_get, g7], by simp [upd_get, g8], by simp [upd_get], st⟩
  · have q1 : decide ((i : Int) < 2) = false := by simp; omega
    (repeat (first | ((with_reducible apply lss_at)) | ((with_reducible apply cond_f); (focus (first | assumption | rfl | decide | (simp only [bne, Bool.not_eq_true', Bool.not_eq_false', Bool.not_true, Bool.not_false, Bool.not_not]; assumption))))))
    refine lives10_c fun w2 he => ?_
    have st := st.ext he
    skip
    exact hk w2 st.keeps
end
end Go.X
