/- Contracts: what is held, what is taken as one's own; plain data. -/
import Derived.Test.YtdjheefbeagcjaaXxC11
set_option linter.unusedSimpArgs false
set_option linter.unusedVariables false
set_option maxRecDepth 20000
namespace Go.X
open Go Go.AW

section
variable {w : World} {L : Lay} {a : AW} {k : Value → World → Prop}

theorem callT_to {f : FuncId} {first captured : Array Value} {args : List Value} (hf : enters prog f = true) (h : callOn prog f ((first.toList ++ args) ++ captured.toList).toArray w k) : callT prog (.func (.func f) first captured) args w k := by
  simp only [callT, hf, cond_true]
  exact h

theorem refs_1_c {b : Nat} {v pl : Value} {c m r : Int} (hv : flatV c m r) (hk : ∀ w', Ext w w' → k (.bool true) w') : callOn prog fn_value_Refs_1 #[pl, valV c m r, ptr b] w k := by
  apply F_value_Refs_1_on
  unfold F_value_Refs_1
  refine box_intro fun b1 w1 he1 _ hl1 hc1 => ?_
  have hc1 : cellsOf w1 b1 = some (valL c m r) := hc1
  have h4 : (c == 4) = false := by
    obtain ⟨hv, _⟩ := hv
    rcases hv with ⟨rfl, _⟩ | rfl | ⟨rfl, _⟩ <;> rfl
  simp only [atDrew_eq, nilK_ptr, nilK_fn, fieldA_at, load1_at, orRd_some, optK_some, pickK_true, pickK_false, gopK_tt, gopK_ff, gopK_tf, gopK_ft, gopK_undef, gqK_tt, gqK_ff, gqK_tf, gqK_ft, gqK_undef, condK_true, condK_false, unK_not, binI_eql, binI_neq, binI_lss, binI_leq, binI_gtr, binI_geq, binI_add, binI_sub, binI_mul, binP_eql_none, binP_neq_none, binM_eql_none, binM_neq_none, binL_eql_none, lenL_at, convI_at, extractK_at, Option.bind_some, List.getElem?_cons_zero, List.getElem?_cons_succ, Option.isNone_some, Option.isNone_none, Bool.not_true, Bool.not_false, Nat.zero_add, upd_get, start_get, List.getD_cons_zero, List.getD_cons_succ, if_true, if_false, Int.reduceBEq, Int.reduceBNe, beq_self_eq_true, reduceIte, Nat.reduceEqDiff, hc1, valL, h4]
  exact hk w1 he1

theorem walk_c {b : Nat} {pl : Value} {c m r : Int} (hv : flatV c m r) (hk : ∀ w', Ext w w' → k (.bool true) w') :
    callOn prog fn_value_walk #[valV c m r, pl, .func (.func fn_value_Refs_1) #[] #[ptr b]] w k := by
  apply F_value_walk_on
  unfold F_value_walk
  refine box_intro fun b1 w1 he1 _ hl1 hc1 => ?_
  have hc1 : cellsOf w1 b1 = some (valL c m r) := hc1
  refine loadN_intro hc1 (by simp [valL]) ?_
  refine callT_to (by kernel_rfl) ?_
  show callOn prog fn_value_Refs_1 #[pl, valV c m r, ptr b] w1 _
  refine refs_1_c (v := pl) hv fun w2 he2 => ?_
  have hc2 := he2.cells hc1 id
  simp only [atDrew_eq, nilK_ptr, nilK_fn, fieldA_at, load1_at, orRd_some, optK_some, pickK_true, pickK_false, gopK_tt, gopK_ff, gopK_tf, gopK_ft, gopK_undef, gqK_tt, gqK_ff, gqK_tf, gqK_ft, gqK_undef, condK_true, condK_false, unK_not, binI_eql, binI_neq, binI_lss, binI_leq, binI_gtr, binI_geq, binI_add, binI_sub, binI_mul, binP_eql_none, binP_neq_none, binM_eql_none, binM_neq_none, binL_eql_none, lenL_at, convI_at, extractK_at, Option.bind_some, List.getElem?_cons_zero, List.getElem?_cons_succ, Option.isNone_some, Option.isNone_none, Bool.not_true, Bool.not_false, Nat.zero_add, upd_get, start_get, List.getD_cons_zero, List.getD_cons_succ, if_true, if_false, Int.reduceBEq, Int.reduceBNe, beq_self_eq_true, reduceIte, Nat.reduceEqDiff, hc2, valL]
  refine ⟨fun m e w' => e 16 = vi 0 ∧ e 17 = vi 0 ∧ w' = w2, 0, ⟨rfl, rfl, rfl⟩, ?_⟩
  rintro m e w' ⟨g7, g8, rfl⟩
  have hlt : decide ((0 : Int) < 0) = false := rfl
  simp only [atDrew_eq, nilK_ptr, nilK_fn, fieldA_at, load1_at, orRd_some, optK_some, pickK_true, pickK_false, gopK_tt, gopK_ff, gopK_tf, gopK_ft, gopK_undef, gqK_tt, gqK_ff, gqK_tf, gqK_ft, gqK_undef, condK_true, condK_false, unK_not, binI_eql, binI_neq, binI_lss, binI_leq, binI_gtr, binI_geq, binI_add, binI_sub, binI_mul, binP_eql_none, binP_neq_none, binM_eql_none, binM_neq_none, binL_eql_none, lenL_at, convI_at, extractK_at, Option.bind_some, List.getElem?_cons_zero, List.getElem?_cons_succ, Option.isNone_some, Option.isNone_none, Bool.not_true, Bool.not_false, Nat.zero_add, g7, g8, hlt]
  exact hk w' (he1.trans he2)

theorem refs_c {c m r : Int} (hv : flatV c m r) (hk : ∀ w', Ext w w' → k noList w') : callOn prog fn_value_Refs #[valV c m r] w k := by
  apply F_value_Refs_on
  unfold F_value_Refs
  refine box_intro fun b1 w1 he1 _ hl1 hc1 => ?_
  have hc1 : cellsOf w1 b1 = some (valL c m r) := hc1
  refine alloc_intro fun b3 w2 he2 hl2 _ hc2 => ?_
  have hc2 : cellsOf w2 b3 = some [noList] := hc2
  refine loadN_intro (he2.cells hc1 id) (by simp [valL]) ?_
  refine may_c hv fun w3 he3 => ?_
  simp only [atDrew_eq, nilK_ptr, nilK_fn, fieldA_at, load1_at, orRd_some, optK_some, pickK_true, pickK_false, gopK_tt, gopK_ff, gopK_tf, gopK_ft, gopK_undef, gqK_tt, gqK_ff, gqK_tf, gqK_ft, gqK_undef, condK_true, condK_false, unK_not, binI_eql, binI_neq, binI_lss, binI_leq, binI_gtr, binI_geq, binI_add, binI_sub, binI_mul, binP_eql_none, binP_neq_none, binM_eql_none, binM_neq_none, binL_eql_none, lenL_at, convI_at, extractK_at, Option.bind_some, List.getElem?_cons_zero, List.getElem?_cons_succ, Option.isNone_some, Option.isNone_none, Bool.not_true, Bool.not_false, Nat.zero_add, upd_get, start_get, List.getD_cons_zero, List.getD_cons_succ, if_true, if_false, Int.reduceBEq, Int.reduceBNe, beq_self_eq_true, reduceIte, Nat.reduceEqDiff]
  refine loadN_intro ((he2.trans he3).cells hc1 id) (by simp [valL]) ?_
  refine walk_c (b := b3) hv fun w4 he4 => ?_
  simp only [atDrew_eq, nilK_ptr, nilK_fn, fieldA_at, load1_at, orRd_some, optK_some, pickK_true, pickK_false, gopK_tt, gopK_ff, gopK_tf, gopK_ft, gopK_undef, gqK_tt, gqK_ff, gqK_tf, gqK_ft, gqK_undef, condK_true, condK_false, unK_not, binI_eql, binI_neq, binI_lss, binI_leq, binI_gtr, binI_geq, binI_add, binI_sub, binI_mul, binP_eql_none, binP_neq_none, binM_eql_none, binM_neq_none, binL_eql_none, lenL_at, convI_at, extractK_at, Option.bind_some, List.getElem?_cons_zero, List.getElem?_cons_succ, Option.isNone_some, Option.isNone_none, Bool.not_true, Bool.not_false, Nat.zero_add, upd_get, start_get, List.getD_cons_zero, List.getD_cons_succ, if_true, if_false, Int.reduceBEq, Int.reduceBNe, beq_self_eq_true, reduceIte, Nat.reduceEqDiff, (he3.trans he4).cells hc2 id]
  exact hk w4 ((he1.trans he2).trans (he3.trans he4))

/-- a thing that has a plain value -/
def Plain (x : Wh) : Prop := ((x.vk = 0 ∧ x.vn = 0) ∨ x.vk = 1) ∧ x.vr = 0

theorem Plain.flat {x : Wh} (h : Plain x) : flatV x.vk x.vn x.vr := ⟨h.1.elim .inl fun h => .inr (.inl h), h.2⟩

theorem whCells_val (x : Wh) : ((whCells x).drop 2).take 5 = valL x.vk x.vn x.vr := rfl

theorem held_c {x : Wh} (hv : Plain x) (hk : ∀ w', Ext w w' → k noList w') : callOn prog fn_world_held #[whV x] w k := by
  apply F_world_held_on
  unfold F_world_held
  refine box_intro fun b1 w1 he1 _ hl1 hc1 => ?_
  have hc1 : cellsOf w1 b1 = some (whCells x) := hc1
  simp only [atDrew_eq, nilK_ptr, nilK_fn, fieldA_at, load1_at, orRd_some, optK_some, pickK_true, pickK_false, gopK_tt, gopK_ff, gopK_tf, gopK_ft, gopK_undef, gqK_tt, gqK_ff, gqK_tf, gqK_ft, gqK_undef, condK_true, condK_false, unK_not, binI_eql, binI_neq, binI_lss, binI_leq, binI_gtr, binI_geq, binI_add, binI_sub, binI_mul, binP_eql_none, binP_neq_none, binM_eql_none, binM_neq_none, binL_eql_none, lenL_at, convI_at, extractK_at, Option.bind_some, List.getElem?_cons_zero, List.getElem?_cons_succ, Option.isNone_some, Option.isNone_none, Bool.not_true, Bool.not_false, Nat.zero_add]
  refine loadN_intro hc1 (by simp [whCells]) ?_
  rw [whCells_val]
  refine refs_c hv.flat fun w2 he2 => ?_
  have hc2 := he2.cells hc1 id
  simp only [atDrew_eq, nilK_ptr, nilK_fn, fieldA_at, load1_at, orRd_some, optK_some, pickK_true, pickK_false, gopK_tt, gopK_ff, gopK_tf, gopK_ft, gopK_undef, gqK_tt, gqK_ff, gqK_tf, gqK_ft, gqK_undef, condK_true, condK_false, unK_not, binI_eql, binI_neq, binI_lss, binI_leq, binI_gtr, binI_geq, binI_add, binI_sub, binI_mul, binP_eql_none, binP_neq_none, binM_eql_none, binM_neq_none, binL_eql_none, lenL_at, convI_at, extractK_at, Option.bind_some, List.getElem?_cons_zero, List.getElem?_cons_succ, Option.isNone_some, Option.isNone_none, Bool.not_true, Bool.not_false, Nat.zero_add, upd_get, start_get, List.getD_cons_zero, List.getD_cons_succ, if_true, if_false, Int.reduceBEq, Int.reduceBNe, beq_self_eq_true, reduceIte, Nat.reduceEqDiff, hc2, whCells]
  refine ⟨fun m e w' => e 13 = vi 0 ∧ e 14 = vi 0 ∧ e 1 = ptr b1 ∧ e 3 = noList ∧ w' = w2, 0, ⟨rfl, rfl, rfl, rfl, rfl⟩, ?_⟩
  rintro m e w' ⟨g7, g8, g1, g3, rfl⟩
  have hlt : decide ((0 : Int) < 0) = false := rfl
  simp only [atDrew_eq, nilK_ptr, nilK_fn, fieldA_at, load1_at, orRd_some, optK_some, pickK_true, pickK_false, gopK_tt, gopK_ff, gopK_tf, gopK_ft, gopK_undef, gqK_tt, gqK_ff, gqK_tf, gqK_ft, gqK_undef, condK_true, condK_false, unK_not, binI_eql, binI_neq, binI_lss, binI_leq, binI_gtr, binI_geq, binI_add, binI_sub, binI_mul, binP_eql_none, binP_neq_none, binM_eql_none, binM_neq_none, binL_eql_none, lenL_at, convI_at, extractK_at, Option.bind_some, List.getElem?_cons_zero, List.getElem?_cons_succ, Option.isNone_some, Option.isNone_none, Bool.not_true, Bool.not_false, Nat.zero_add, upd_get, start_get, List.getD_cons_zero, List.getD_cons_succ, if_true, if_false, Int.reduceBEq, Int.reduceBNe, beq_self_eq_true, reduceIte, Nat.reduceEqDiff, g7, g8, hlt, g1, g3, hc2, whCells]
  refine ⟨fun m e w'' => e 25 = vi 0 ∧ e 26 = vi 0 ∧ e 3 = noList ∧ w'' = w', 0, ⟨rfl, rfl, by simp only [atDrew_eq, nilK_ptr, nilK_fn, fieldA_at, load1_at, orRd_some, optK_some, pickK_true, pickK_false, gopK_tt, gopK_ff, gopK_tf, gopK_ft, gopK_undef, gqK_tt, gqK_ff, gqK_tf, gqK_ft, gqK_undef, condK_true, condK_false, unK_not, binI_eql, binI_neq, binI_lss, binI_leq, binI_gtr, binI_geq, binI_add, binI_sub, binI_mul, binP_eql_none, binP_neq_none, binM_eql_none, binM_neq_none, binL_eql_none, lenL_at, convI_at, extractK_at, Option.bind_some, List.getElem?_cons_zero, List.getElem?_cons_succ, Option.isNone_some, Option.isNone_none, Bool.not_true, Bool.not_false, Nat.zero_add, upd_get, start_get, List.getD_cons_zero, List.getD_cons_succ, if_true, if_false, Int.reduceBEq, Int.reduceBNe, beq_self_eq_true, reduceIte, Nat.reduceEqDiff, g3], rfl⟩, ?_⟩
  rintro m e w'' ⟨g7, g8, g3, rfl⟩
  simp only [atDrew_eq, nilK_ptr, nilK_fn, fieldA_at, load1_at, orRd_some, optK_some, pickK_true, pickK_false, gopK_tt, gopK_ff, gopK_tf, gopK_ft, gopK_undef, gqK_tt, gqK_ff, gqK_tf, gqK_ft, gqK_undef, condK_true, condK_false, unK_not, binI_eql, binI_neq, binI_lss, binI_leq, binI_gtr, binI_geq, binI_add, binI_sub, binI_mul, binP_eql_none, binP_neq_none, binM_eql_none, binM_neq_none, binL_eql_none, lenL_at, convI_at, extractK_at, Option.bind_some, List.getElem?_cons_zero, List.getElem?_cons_succ, Option.isNone_some, Option.isNone_none, Bool.not_true, Bool.not_false, Nat.zero_add, upd_get, start_get, List.getD_cons_zero, List.getD_cons_succ, if_true, if_false, Int.reduceBEq, Int.reduceBNe, beq_self_eq_true, reduceIte, Nat.reduceEqDiff, g7, g8, hlt, g3]
  exact hk w'' (he1.trans he2)

theorem indexFuncR_none {f : Value} (hk : k (vi (-1)) w) : callOn prog fn_slices_IndexFunc_Ref #[noList, f] w k := by
  apply F_slices_IndexFunc_Ref_on
  unfold F_slices_IndexFunc_Ref
  simp only [atDrew_eq, nilK_ptr, nilK_fn, fieldA_at, load1_at, orRd_some, optK_some, pickK_true, pickK_false, gopK_tt, gopK_ff, gopK_tf, gopK_ft, gopK_undef, gqK_tt, gqK_ff, gqK_tf, gqK_ft, gqK_undef, condK_true, condK_false, unK_not, binI_eql, binI_neq, binI_lss, binI_leq, binI_gtr, binI_geq, binI_add, binI_sub, binI_mul, binP_eql_none, binP_neq_none, binM_eql_none, binM_neq_none, binL_eql_none, lenL_at, convI_at, extractK_at, Option.bind_some, List.getElem?_cons_zero, List.getElem?_cons_succ, Option.isNone_some, Option.isNone_none, Bool.not_true, Bool.not_false, Nat.zero_add]
  refine ⟨fun m e w' => e 7 = vi 0 ∧ e 8 = vi 0 ∧ w' = w, 0, ⟨rfl, rfl, rfl⟩, ?_⟩
  rintro m e w' ⟨g7, g8, rfl⟩
  have hlt : decide ((0 : Int) < 0) = false := rfl
  simp only [atDrew_eq, nilK_ptr, nilK_fn, fieldA_at, load1_at, orRd_some, optK_some, pickK_true, pickK_false, gopK_tt, gopK_ff, gopK_tf, gopK_ft, gopK_undef, gqK_tt, gqK_ff, gqK_tf, gqK_ft, gqK_undef, condK_true, condK_false, unK_not, binI_eql, binI_neq, binI_lss, binI_leq, binI_gtr, binI_geq, binI_add, binI_sub, binI_mul, binP_eql_none, binP_neq_none, binM_eql_none, binM_neq_none, binL_eql_none, lenL_at, convI_at, extractK_at, Option.bind_some, List.getElem?_cons_zero, List.getElem?_cons_succ, Option.isNone_some, Option.isNone_none, Bool.not_true, Bool.not_false, Nat.zero_add, g7, g8, hlt]
  exact hk

theorem names_c {x : Wh} {p : Value} (hv : Plain x) (hk : ∀ w', Ext w w' → k (.bool true) w') : callOn prog fn_World_names #[p, whV x] w k := by
  apply F_World_names_on
  unfold F_World_names
  refine box_intro fun b2 w1 he1 _ hl1 hc1 => ?_
  refine box_intro fun b3 w2 he2 _ hl2 hc2 => ?_
  have hc2 : cellsOf w2 b3 = some (whCells x) := hc2
  refine loadN_intro hc2 (by simp [whCells]) ?_
  have : callOn prog fn_world_held #[whV x] w2 = callOn prog fn_world_held #[.agg ((whCells x).drop 0 |>.take 16).toArray] w2 := rfl
  rw [← this]
  refine held_c hv fun w3 he3 => ?_
  apply F_slices_ContainsFunc_Ref_on
  unfold F_slices_ContainsFunc_Ref
  refine indexFuncR_none ?_
  have hlt : decide ((-1 : Int) ≥ 0) = false := rfl
  simp only [atDrew_eq, nilK_ptr, nilK_fn, fieldA_at, load1_at, orRd_some, optK_some, pickK_true, pickK_false, gopK_tt, gopK_ff, gopK_tf, gopK_ft, gopK_undef, gqK_tt, gqK_ff, gqK_tf, gqK_ft, gqK_undef, condK_true, condK_false, unK_not, binI_eql, binI_neq, binI_lss, binI_leq, binI_gtr, binI_geq, binI_add, binI_sub, binI_mul, binP_eql_none, binP_neq_none, binM_eql_none, binM_neq_none, binL_eql_none, lenL_at, convI_at, extractK_at, Option.bind_some, List.getElem?_cons_zero, List.getElem?_cons_succ, Option.isNone_some, Option.isNone_none, Bool.not_true, Bool.not_false, Nat.zero_add, upd_get, start_get, List.getD_cons_zero, List.getD_cons_succ, if_true, if_false, Int.reduceBEq, Int.reduceBNe, beq_self_eq_true, reduceIte, Nat.reduceEqDiff, hlt, Bool.not_false]
  exact hk w3 ((he1.trans he2).trans he3)

theorem clone_Value_none (hk : k noList w) : callOn prog fn_slices_Clone_Value #[noList] w k := by
  apply F_slices_Clone_Value_on
  unfold F_slices_Clone_Value
  simp only [atDrew_eq, nilK_ptr, nilK_fn, fieldA_at, load1_at, orRd_some, optK_some, pickK_true, pickK_false, gopK_tt, gopK_ff, gopK_tf, gopK_ft, gopK_undef, gqK_tt, gqK_ff, gqK_tf, gqK_ft, gqK_undef, condK_true, condK_false, unK_not, binI_eql, binI_neq, binI_lss, binI_leq, binI_gtr, binI_geq, binI_add, binI_sub, binI_mul, binP_eql_none, binP_neq_none, binM_eql_none, binM_neq_none, binL_eql_none, lenL_at, convI_at, extractK_at, Option.bind_some, List.getElem?_cons_zero, List.getElem?_cons_succ, Option.isNone_some, Option.isNone_none, Bool.not_true, Bool.not_false, Nat.zero_add]
  exact hk
theorem clone_Name_none (hk : k noList w) : callOn prog fn_slices_Clone_Name #[noList] w k := by
  apply F_slices_Clone_Name_on
  unfold F_slices_Clone_Name
  simp only [atDrew_eq, nilK_ptr, nilK_fn, fieldA_at, load1_at, orRd_some, optK_some, pickK_true, pickK_false, gopK_tt, gopK_ff, gopK_tf, gopK_ft, gopK_undef, gqK_tt, gqK_ff, gqK_tf, gqK_ft, gqK_undef, condK_true, condK_false, unK_not, binI_eql, binI_neq, binI_lss, binI_leq, binI_gtr, binI_geq, binI_add, binI_sub, binI_mul, binP_eql_none, binP_neq_none, binM_eql_none, binM_neq_none, binL_eql_none, lenL_at, convI_at, extractK_at, Option.bind_some, List.getElem?_cons_zero, List.getElem?_cons_succ, Option.isNone_some, Option.isNone_none, Bool.not_true, Bool.not_false, Nat.zero_add]
  exact hk
theorem clone_Stmt_none (hk : k noList w) : callOn prog fn_slices_Clone_Stmt #[noList] w k := by
  apply F_slices_Clone_Stmt_on
  unfold F_slices_Clone_Stmt
  simp only [atDrew_eq, nilK_ptr, nilK_fn, fieldA_at, load1_at, orRd_some, optK_some, pickK_true, pickK_false, gopK_tt, gopK_ff, gopK_tf, gopK_ft, gopK_undef, gqK_tt, gqK_ff, gqK_tf, gqK_ft, gqK_undef, condK_true, condK_false, unK_not, binI_eql, binI_neq, binI_lss, binI_leq, binI_gtr, binI_geq, binI_add, binI_sub, binI_mul, binP_eql_none, binP_neq_none, binM_eql_none, binM_neq_none, binL_eql_none, lenL_at, convI_at, extractK_at, Option.bind_some, List.getElem?_cons_zero, List.getElem?_cons_succ, Option.isNone_some, Option.isNone_none, Bool.not_true, Bool.not_false, Nat.zero_add]
  exact hk

theorem ownCode_none (hk : k noList w) : callOn prog fn_world_ownCode #[noList] w k := by
  apply F_world_ownCode_on
  unfold F_world_ownCode
  refine clone_Stmt_none ?_
  simp only [atDrew_eq, nilK_ptr, nilK_fn, fieldA_at, load1_at, orRd_some, optK_some, pickK_true, pickK_false, gopK_tt, gopK_ff, gopK_tf, gopK_ft, gopK_undef, gqK_tt, gqK_ff, gqK_tf, gqK_ft, gqK_undef, condK_true, condK_false, unK_not, binI_eql, binI_neq, binI_lss, binI_leq, binI_gtr, binI_geq, binI_add, binI_sub, binI_mul, binP_eql_none, binP_neq_none, binM_eql_none, binM_neq_none, binL_eql_none, lenL_at, convI_at, extractK_at, Option.bind_some, List.getElem?_cons_zero, List.getElem?_cons_succ, Option.isNone_some, Option.isNone_none, Bool.not_true, Bool.not_false, Nat.zero_add, upd_get, start_get, List.getD_cons_zero, List.getD_cons_succ, if_true, if_false, Int.reduceBEq, Int.reduceBNe, beq_self_eq_true, reduceIte, Nat.reduceEqDiff]
  refine ⟨fun m e w' => e 8 = vi 0 ∧ e 9 = vi 0 ∧ e 0 = noList ∧ w' = w, 0, ⟨rfl, rfl, rfl, rfl⟩, ?_⟩
  rintro m e w' ⟨g7, g8, g0, rfl⟩
  have hlt : decide ((0 : Int) < 0) = false := rfl
  simp only [atDrew_eq, nilK_ptr, nilK_fn, fieldA_at, load1_at, orRd_some, optK_some, pickK_true, pickK_false, gopK_tt, gopK_ff, gopK_tf, gopK_ft, gopK_undef, gqK_tt, gqK_ff, gqK_tf, gqK_ft, gqK_undef, condK_true, condK_false, unK_not, binI_eql, binI_neq, binI_lss, binI_leq, binI_gtr, binI_geq, binI_add, binI_sub, binI_mul, binP_eql_none, binP_neq_none, binM_eql_none, binM_neq_none, binL_eql_none, lenL_at, convI_at, extractK_at, Option.bind_some, List.getElem?_cons_zero, List.getElem?_cons_succ, Option.isNone_some, Option.isNone_none, Bool.not_true, Bool.not_false, Nat.zero_add, g7, g8, hlt, g0]
  exact hk

theorem whV_take (x : Wh) : Value.agg (((whCells x).drop 0).take 16).toArray = whV x := rfl

theorem ownWhat_c {x : Wh} (hv : Plain x) (hk : ∀ w', Ext w w' → k (whV x) w') : callOn prog fn_world_ownWhat #[whV x] w k := by
  apply F_world_ownWhat_on
  unfold F_world_ownWhat
  refine box_intro fun b1 w1 he1 _ hl1 hc1 => ?_
  have hc1 : cellsOf w1 b1 = some (whCells x) := hc1
  refine alloc_intro fun b2 w2 he2 hl2 _ hc2 => ?_
  have hc12 := he2.cells hc1 id
  have hg1 := he1.size
  simp only [atDrew_eq, nilK_ptr, nilK_fn, fieldA_at, load1_at, orRd_some, optK_some, pickK_true, pickK_false, gopK_tt, gopK_ff, gopK_tf, gopK_ft, gopK_undef, gqK_tt, gqK_ff, gqK_tf, gqK_ft, gqK_undef, condK_true, condK_false, unK_not, binI_eql, binI_neq, binI_lss, binI_leq, binI_gtr, binI_geq, binI_add, binI_sub, binI_mul, binP_eql_none, binP_neq_none, binM_eql_none, binM_neq_none, binL_eql_none, lenL_at, convI_at, extractK_at, Option.bind_some, List.getElem?_cons_zero, List.getElem?_cons_succ, Option.isNone_some, Option.isNone_none, Bool.not_true, Bool.not_false, Nat.zero_add]
  refine loadN_intro hc12 (by simp [whCells]) ?_
  rw [whCells_val]
  refine world_own_c hv.flat fun w3 he3 => ?_
  have hc13 := he3.cells hc12 id
  have h21 : b2 ≠ b1 := by omega
  refine storeN_intro (cs := valL x.vk x.vn x.vr) hc13 rfl (by simp [whCells]) (by simp [valL, Value.oneCell']) fun w4 hk4 hc14 _ => ?_
  have hc14 : cellsOf w4 b1 = some (whCells x) := hc14
  simp only [atDrew_eq, nilK_ptr, nilK_fn, fieldA_at, load1_at, orRd_some, optK_some, pickK_true, pickK_false, gopK_tt, gopK_ff, gopK_tf, gopK_ft, gopK_undef, gqK_tt, gqK_ff, gqK_tf, gqK_ft, gqK_undef, condK_true, condK_false, unK_not, binI_eql, binI_neq, binI_lss, binI_leq, binI_gtr, binI_geq, binI_add, binI_sub, binI_mul, binP_eql_none, binP_neq_none, binM_eql_none, binM_neq_none, binL_eql_none, lenL_at, convI_at, extractK_at, Option.bind_some, List.getElem?_cons_zero, List.getElem?_cons_succ, Option.isNone_some, Option.isNone_none, Bool.not_true, Bool.not_false, Nat.zero_add, hc14, whCells]
  refine clone_Value_none ?_
  refine store1_intro hc14 (by simp [whCells]) rfl fun w5 hk5 hc15 _ => ?_
  have hc15 : cellsOf w5 b1 = some (whCells x) := hc15
  simp only [atDrew_eq, nilK_ptr, nilK_fn, fieldA_at, load1_at, orRd_some, optK_some, pickK_true, pickK_false, gopK_tt, gopK_ff, gopK_tf, gopK_ft, gopK_undef, gqK_tt, gqK_ff, gqK_tf, gqK_ft, gqK_undef, condK_true, condK_false, unK_not, binI_eql, binI_neq, binI_lss, binI_leq, binI_gtr, binI_geq, binI_add, binI_sub, binI_mul, binP_eql_none, binP_neq_none, binM_eql_none, binM_neq_none, binL_eql_none, lenL_at, convI_at, extractK_at, Option.bind_some, List.getElem?_cons_zero, List.getElem?_cons_succ, Option.isNone_some, Option.isNone_none, Bool.not_true, Bool.not_false, Nat.zero_add, upd_get, start_get, List.getD_cons_zero, List.getD_cons_succ, if_true, if_false, Int.reduceBEq, Int.reduceBNe, beq_self_eq_true, reduceIte, Nat.reduceEqDiff, hc15, whCells]
  have hK5 : Ext w w5 := (((he1.trans he2).trans he3).trans' hk4 fun y hy e => by omega).trans' hk5 fun y hy e => by omega
  have hc25 := hk5.cells (hk4.cells (he3.cells hc2 id) h21) h21
  have hlt : decide ((0 : Int) < 0) = false := rfl
  refine ⟨fun m e w' => e 17 = vi 0 ∧ e 18 = vi 0 ∧ e 1 = ptr b1 ∧ e 2 = ptr b2 ∧ w' = w5, 0, ⟨rfl, rfl, rfl, rfl, rfl⟩, ?_⟩
  rintro m e w' ⟨g7, g8, g1, g2, rfl⟩
  simp only [atDrew_eq, nilK_ptr, nilK_fn, fieldA_at, load1_at, orRd_some, optK_some, pickK_true, pickK_false, gopK_tt, gopK_ff, gopK_tf, gopK_ft, gopK_undef, gqK_tt, gqK_ff, gqK_tf, gqK_ft, gqK_undef, condK_true, condK_false, unK_not, binI_eql, binI_neq, binI_lss, binI_leq, binI_gtr, binI_geq, binI_add, binI_sub, binI_mul, binP_eql_none, binP_neq_none, binM_eql_none, binM_neq_none, binL_eql_none, lenL_at, convI_at, extractK_at, Option.bind_some, List.getElem?_cons_zero, List.getElem?_cons_succ, Option.isNone_some, Option.isNone_none, Bool.not_true, Bool.not_false, Nat.zero_add, upd_get, start_get, List.getD_cons_zero, List.getD_cons_succ, if_true, if_false, Int.reduceBEq, Int.reduceBNe, beq_self_eq_true, reduceIte, Nat.reduceEqDiff, g7, g8, g1, g2, hlt, hc15, whCells]
  refine clone_Name_none ?_
  refine store1_intro hc15 (by simp [whCells]) rfl fun w6 hk6 hc16 _ => ?_
  have hc16 : cellsOf w6 b1 = some (whCells x) := hc16
  simp only [atDrew_eq, nilK_ptr, nilK_fn, fieldA_at, load1_at, orRd_some, optK_some, pickK_true, pickK_false, gopK_tt, gopK_ff, gopK_tf, gopK_ft, gopK_undef, gqK_tt, gqK_ff, gqK_tf, gqK_ft, gqK_undef, condK_true, condK_false, unK_not, binI_eql, binI_neq, binI_lss, binI_leq, binI_gtr, binI_geq, binI_add, binI_sub, binI_mul, binP_eql_none, binP_neq_none, binM_eql_none, binM_neq_none, binL_eql_none, lenL_at, convI_at, extractK_at, Option.bind_some, List.getElem?_cons_zero, List.getElem?_cons_succ, Option.isNone_some, Option.isNone_none, Bool.not_true, Bool.not_false, Nat.zero_add, upd_get, start_get, List.getD_cons_zero, List.getD_cons_succ, if_true, if_false, Int.reduceBEq, Int.reduceBNe, beq_self_eq_true, reduceIte, Nat.reduceEqDiff, hc16, whCells]
  refine ⟨fun m e w' => e 36 = vi 0 ∧ e 37 = vi 0 ∧ e 1 = ptr b1 ∧ e 2 = ptr b2 ∧ w' = w6, 0, ⟨rfl, rfl, by simp only [atDrew_eq, nilK_ptr, nilK_fn, fieldA_at, load1_at, orRd_some, optK_some, pickK_true, pickK_false, gopK_tt, gopK_ff, gopK_tf, gopK_ft, gopK_undef, gqK_tt, gqK_ff, gqK_tf, gqK_ft, gqK_undef, condK_true, condK_false, unK_not, binI_eql, binI_neq, binI_lss, binI_leq, binI_gtr, binI_geq, binI_add, binI_sub, binI_mul, binP_eql_none, binP_neq_none, binM_eql_none, binM_neq_none, binL_eql_none, lenL_at, convI_at, extractK_at, Option.bind_some, List.getElem?_cons_zero, List.getElem?_cons_succ, Option.isNone_some, Option.isNone_none, Bool.not_true, Bool.not_false, Nat.zero_add, upd_get, start_get, List.getD_cons_zero, List.getD_cons_succ, if_true, if_false, Int.reduceBEq, Int.reduceBNe, beq_self_eq_true, reduceIte, Nat.reduceEqDiff, g1], by simp only [atDrew_eq, nilK_ptr, nilK_fn, fieldA_at, load1_at, orRd_some, optK_some, pickK_true, pickK_false, gopK_tt, gopK_ff, gopK_tf, gopK_ft, gopK_undef, gqK_tt, gqK_ff, gqK_tf, gqK_ft, gqK_undef, condK_true, condK_false, unK_not, binI_eql, binI_neq, binI_lss, binI_leq, binI_gtr, binI_geq, binI_add, binI_sub, binI_mul, binP_eql_none, binP_neq_none, binM_eql_none, binM_neq_none, binL_eql_none, lenL_at, convI_at, extractK_at, Option.bind_some, List.getElem?_cons_zero, List.getElem?_cons_succ, Option.isNone_some, Option.isNone_none, Bool.not_true, Bool.not_false, Nat.zero_add, upd_get, start_get, List.getD_cons_zero, List.getD_cons_succ, if_true, if_false, Int.reduceBEq, Int.reduceBNe, beq_self_eq_true, reduceIte, Nat.reduceEqDiff, g2], rfl⟩, ?_⟩
  rintro m e w'' ⟨g7, g8, g1, g2, rfl⟩
  simp only [atDrew_eq, nilK_ptr, nilK_fn, fieldA_at, load1_at, orRd_some, optK_some, pickK_true, pickK_false, gopK_tt, gopK_ff, gopK_tf, gopK_ft, gopK_undef, gqK_tt, gqK_ff, gqK_tf, gqK_ft, gqK_undef, condK_true, condK_false, unK_not, binI_eql, binI_neq, binI_lss, binI_leq, binI_gtr, binI_geq, binI_add, binI_sub, binI_mul, binP_eql_none, binP_neq_none, binM_eql_none, binM_neq_none, binL_eql_none, lenL_at, convI_at, extractK_at, Option.bind_some, List.getElem?_cons_zero, List.getElem?_cons_succ, Option.isNone_some, Option.isNone_none, Bool.not_true, Bool.not_false, Nat.zero_add, upd_get, start_get, List.getD_cons_zero, List.getD_cons_succ, if_true, if_false, Int.reduceBEq, Int.reduceBNe, beq_self_eq_true, reduceIte, Nat.reduceEqDiff, g7, g8, g1, g2, hlt, hc16, whCells]
  refine ownCode_none ?_
  refine store1_intro hc16 (by simp [whCells]) rfl fun w7 hk7 hc17 _ => ?_
  have hc17 : cellsOf w7 b1 = some (whCells x) := hc17
  refine loadN_intro hc17 (by simp [whCells]) ?_
  have hc27 := hk7.cells (hk6.cells hc25 h21) h21
  refine storeN_intro (cs := whCells x) hc27 rfl (by simp [Value.cells]) (by simp [whCells, Value.oneCell']) fun w8 hk8 hc28 _ => ?_
  refine loadN_intro (l := whCells x) hc28 (by simp [whCells]) ?_
  exact hk w8 (((hK5.trans' hk6 fun y hy e => by omega).trans' hk7 fun y hy e => by omega).trans' hk8 fun y hy e => by omega)
end
end Go.X
