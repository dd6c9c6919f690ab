/- Contracts: the form of a thing. -/
import Derived.Test.YtdjheefbeagcjaaXxC14
import Derived.Test.YtdjheefbeagcjaaXxSt
import Derived.Test.YtdjheefbeagcjaaXxS4
set_option linter.unusedSimpArgs false
set_option linter.unusedVariables false
set_option maxRecDepth 20000
set_option maxHeartbeats 1000000
set_option pp.maxSteps 6000
namespace Go.X
open Go Go.AW

/-- Has a thing what its kind names, and no more? -/
def formB (a : AW) (x : Wh) : Bool :=
  decide (1 ≤ x.kind) && decide (x.kind ≤ 16) && decide (x.n = (bareW x).n) && decide (x.lost = (bareW x).lost) && decide (x.of = (bareW x).of) && decide (x.by_ = (bareW x).by_) && decide (x.set = (bareW x).set) &&
    (x.full == (bareW x).full) && decide (x.home = (bareW x).home) && (!blankB (bareW x).vk (bareW x).vn (bareW x).vr || blankB x.vk x.vn x.vr) && (decide (x.kind = 14) || a.side x.home) &&
    (if x.kind = 3 ∨ x.kind = 8 ∨ x.kind = 9 then decide (0 ≤ x.n) && decide (x.n ≤ 9007199254740992) && decide (0 ≤ x.lost) && decide (x.lost ≤ x.n)
    else if x.kind = 10 then x.full || blankB x.vk x.vn x.vr else if x.kind = 14 then decide (without x.set 63 = 0) else true)

section
variable {w : World} {L : Lay} {a : AW} {k : Value → World → Prop}

theorem lenL_nil (q : Value → Prop) : lenL noList q = q (vi 0) := rfl

theorem small_none {p : Value} (hk : k (.bool true) w) : callOn prog fn_world_small #[noList, p] w k := by
  apply F_world_small_on
  unfold F_world_small
  simp only [atDrew_eq, nilK_ptr, nilK_fn, fieldA_at, load1_at, orRd_some, optK_some, pickK_true, pickK_false, gopK_tt, gopK_ff, gopK_tf, gopK_ft, gopK_undef, gqK_tt, gqK_ff, gqK_tf, gqK_ft, gqK_undef, condK_true, condK_false, unK_not, binI_eql, binI_neq, binI_lss, binI_leq, binI_gtr, binI_geq, binI_add, binI_sub, binI_mul, binP_eql_none, binP_neq_none, binM_eql_none, binM_neq_none, binL_eql_none, lenL_at, convI_at, extractK_at, Option.bind_some, List.getElem?_cons_zero, List.getElem?_cons_succ, Option.isNone_some, Option.isNone_none, Bool.not_true, Bool.not_false, Nat.zero_add]
  refine ⟨fun m e w' => e 10 = vi 0 ∧ e 11 = vi 0 ∧ w' = w, 0, ⟨rfl, rfl, rfl⟩, ?_⟩
  rintro m e w' ⟨g7, g8, rfl⟩
  have hlt : decide ((0 : Int) < 0) = false := rfl
  simp only [atDrew_eq, nilK_ptr, nilK_fn, fieldA_at, load1_at, orRd_some, optK_some, pickK_true, pickK_false, gopK_tt, gopK_ff, gopK_tf, gopK_ft, gopK_undef, gqK_tt, gqK_ff, gqK_tf, gqK_ft, gqK_undef, condK_true, condK_false, unK_not, binI_eql, binI_neq, binI_lss, binI_leq, binI_gtr, binI_geq, binI_add, binI_sub, binI_mul, binP_eql_none, binP_neq_none, binM_eql_none, binM_neq_none, binL_eql_none, lenL_at, convI_at, extractK_at, Option.bind_some, List.getElem?_cons_zero, List.getElem?_cons_succ, Option.isNone_some, Option.isNone_none, Bool.not_true, Bool.not_false, Nat.zero_add, g7, g8, hlt]
  exact hk

/-- what is asked of the fields of a kind -/
def kindB (x : Wh) : Bool :=
  if x.kind = 3 ∨ x.kind = 8 ∨ x.kind = 9 then decide (0 ≤ x.n) && decide (x.n ≤ 9007199254740992) && decide (0 ≤ x.lost) && decide (x.lost ≤ x.n)
  else if x.kind = 10 then x.full || blankB x.vk x.vn x.vr else if x.kind = 14 then decide (without x.set 63 = 0) else true

theorem able_May_c {s : Int} (h0 : 0 ≤ s) (h1 : s < 256) (hk : k (.bool (decide (without s 63 = 0))) w) : callOn prog fn_able_May #[vb s] w k := by
  apply F_able_May_on
  unfold F_able_May
  rw [binI_andNot8 h0 h1 (by omega) (by omega)]
  simp only [atDrew_eq, nilK_ptr, nilK_fn, fieldA_at, load1_at, orRd_some, optK_some, pickK_true, pickK_false, gopK_tt, gopK_ff, gopK_tf, gopK_ft, gopK_undef, gqK_tt, gqK_ff, gqK_tf, gqK_ft, gqK_undef, condK_true, condK_false, unK_not, binI_eql, binI_neq, binI_lss, binI_leq, binI_gtr, binI_geq, binI_add, binI_sub, binI_mul, binP_eql_none, binP_neq_none, binM_eql_none, binM_neq_none, binL_eql_none, lenL_at, convI_at, extractK_at, Option.bind_some, List.getElem?_cons_zero, List.getElem?_cons_succ, Option.isNone_some, Option.isNone_none, Bool.not_true, Bool.not_false, Nat.zero_add]
  exact hk








theorem form_c {x : Wh} (h : WRep w L a) (hv : Plain x) (hk0 : 0 ≤ x.kind) (hset : 0 ≤ x.set ∧ x.set < 256) (hk : ∀ w', Ext w w' → k (.bool (formB a x)) w') : callOn prog fn_World_form #[ptr L.p, whV x] w k := by
  apply F_World_form_on
  unfold F_World_form
  have st := State.start (S := fun _ => False) w
  have fin : ∀ {v : Bool} {w' : World}, Ext w w' → formB a x = v → k (.bool v) w' := fun he hv => hv ▸ hk _ he
  have hp := hv
  (repeat' (first | ((with_reducible apply field_0)) | ((with_reducible apply field_at)) | ((with_reducible apply eql_at)) | ((with_reducible apply neq_at)) | ((with_reducible apply lss_at)) | ((with_reducible apply leq_at)) | ((with_reducible apply gtr_at)) | ((with_reducible apply geq_at)) | ((with_reducible apply not_at)) | ((with_reducible apply len_slice)) | ((with_reducible apply ext_0)) | ((with_reducible apply ext_1)) | ((with_reducible apply bool_neq)) | ((with_reducible apply State.load1 st); (focus ((repeat (first | exact List.Mem.head _ | assumption | refine List.Mem.tail _ ?_)); done)); (focus rfl)) | ((with_reducible apply cond_t); (focus (first | assumption | rfl | decide | (simp only [bne, Bool.not_eq_true', Bool.not_eq_false', Bool.not_true, Bool.not_false, Bool.not_not]; assumption)))) | ((with_reducible apply gop_run); (focus (first | assumption | rfl | decide | (simp only [bne, Bool.not_eq_true', Bool.not_eq_false', Bool.not_true, Bool.not_false, Bool.not_not]; assumption)))) | ((with_reducible apply pick_t); (focus (first | assumption | rfl | decide | (simp only [bne, Bool.not_eq_true', Bool.not_eq_false', Bool.not_true, Bool.not_false, Bool.not_not]; assumption)))) | ((with_reducible apply cond_f); (focus (first | assumption | rfl | decide | (simp only [bne, Bool.not_eq_true', Bool.not_eq_false', Bool.not_true, Bool.not_false, Bool.not_not]; assumption)))) | ((with_reducible apply gop_skip); (focus (first | assumption | rfl | decide | (simp only [bne, Bool.not_eq_true', Bool.not_eq_false', Bool.not_true, Bool.not_false, Bool.not_not]; assumption)))) | ((with_reducible apply pick_f); (focus (first | assumption | rfl | decide | (simp only [bne, Bool.not_eq_true', Bool.not_eq_false', Bool.not_true, Bool.not_false, Bool.not_not]; assumption)))) | ((with_reducible apply State.loadAll st); (focus ((repeat (first | exact List.Mem.head _ | assumption | refine List.Mem.tail _ ?_)); done)); (focus (first | (simp [whCells, valL, over_length, Value.cells]; done) | omega))) | ((with_reducible apply State.loadVal st); (focus ((repeat (first | exact List.Mem.head _ | assumption | refine List.Mem.tail _ ?_)); done))) | ((with_reducible apply State.boxAgg st); intro b w st) | ((with_reducible apply State.allocAgg st); intro b w st) | ((with_reducible apply State.alloc st); intro b w st) | ((with_reducible apply State.storeAll st); (focus ((repeat (first | exact Sub.head | apply Sub.tail)); done)); (focus (first | (simp [whCells, valL, over_length, Value.cells]; done) | omega)); (focus (first | (simp [whCells, valL, over_length, Value.cells]; done) | omega)); (focus (first | rfl | assumption | (simp [whCells, valL, Value.oneCell', Value.cells]; done))); intro w st) | ((with_reducible apply State.store1 st); (focus ((repeat (first | exact Sub.head | apply Sub.tail)); done)); (focus (first | (simp [whCells, valL, over_length, Value.cells]; done) | omega)); (focus (first | rfl | assumption | (simp [whCells, valL, Value.oneCell', Value.cells]; done))); intro w st) | ((with_reducible apply bare_c _); intro w he; have st := st.ext he) | ((with_reducible apply blank_c); intro w he; have st := st.ext he) | ((with_reducible apply side_c); (focus (first | exact st.rep (by ((repeat (first | exact List.Mem.head _ | assumption | refine List.Mem.tail _ ?_)); done)) | exact h.ext st.keeps))) | ((with_reducible apply loop_none); intro K) | ((with_reducible apply small_none)) | ((with_reducible apply able_May_c hset.1 hset.2)) | ((with_reducible apply may_c (Plain.flat hv)); intro w he; have st := st.ext he) | ((with_reducible apply of_none); intro w he; have st := st.ext he) | (simp only [upd_get, start_get, List.getD_cons_zero, List.getD_cons_succ, Nat.reduceEqDiff, reduceIte, Nat.reduceAdd]) | ((with_reducible (conv => whnf)); (simp only [upd_get, start_get, List.getD_cons_zero, List.getD_cons_succ, Nat.reduceEqDiff, reduceIte, Nat.reduceAdd])) | ((with_reducible apply gop_split) <;> intro q <;> (try simp only [Bool.not_true, Bool.not_false] at q)) | ((with_reducible apply cond_split) <;> intro q)))
  all_goals
    refine fin st.keeps ?_
    clear fin hk
    unfold formB
    generalize bareW x = y at *
    first
      | (simp_all [formB]; done)
      | (simp_all [formB]; omega)
      | trace_state
end
end Go.X
