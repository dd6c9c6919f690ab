/- Texts of this family, put together. -/
import Derived.Test.YtdjheefbeagcjaaXxC9
import Derived.Test.YtdjheefbeagcjaaXxS2
import Derived.Test.YtdjheefbeagcjaaXxSt
/- Contracts: facets; values without lists. -/
set_option linter.unusedSimpArgs false
set_option linter.unusedVariables false
namespace Go.X
open Go Go.AW

section
variable {w : World} {L : Lay} {a : AW} {k : Value → World → Prop}


/-- what may be, of plain values: nothing, a number, or a list of nothing -/
def flatV (c n r : Int) : Prop := ((c = 0 ∧ n = 0) ∨ c = 1 ∨ (c = 3 ∧ n = 0)) ∧ r = 0

theorem binS_eql_none (q : Value → Prop) : binS .eql noText noText q = q (.bool true) := by kernel_rfl
theorem binL_noList (q : Value → Prop) : binL .eql noList noList q = q (.bool true) := rfl

theorem take_c {b : Nat} {n i : Int} (hc : cellsOf w b = some [vi n, vi i]) (h0 : 1 ≤ n) (h1 : n ≤ 512) (hi0 : 1 ≤ i) (hi1 : i ≤ 16) {c m r : Int} (hv : flatV c m r)
    (hk : ∀ w', Keeps (· = b) w w' → cellsOf w' b = some [vi (n - 1), vi i] → k (.bool true) w') : callOn prog fn_left_take #[ptr b, valV c m r] w k := by
  apply F_left_take_on
  unfold F_left_take
  refine box_intro fun b1 w1 he1 _ hl1 hc1 => ?_
  have hc1 : cellsOf w1 b1 = some (valL c m r) := hc1
  have hb := he1.cells hc id
  have hz : (n == 0) = false := by simp; omega
  have hw : IntKind.i64.wrap (n - 1) = n - 1 := wrap64_id (by omega) (by omega)
  simp only [atDrew_eq, nilK_ptr, nilK_fn, fieldA_at, load1_at, orRd_some, optK_some, pickK_true, pickK_false, gopK_tt, gopK_ff, gopK_tf, gopK_ft, gopK_undef, gqK_tt, gqK_ff, gqK_tf, gqK_ft, gqK_undef, condK_true, condK_false, unK_not, binI_eql, binI_neq, binI_lss, binI_leq, binI_gtr, binI_geq, binI_add, binI_sub, binI_mul, binP_eql_none, binP_neq_none, binM_eql_none, binM_neq_none, binL_eql_none, lenL_at, convI_at, extractK_at, Option.bind_some, List.getElem?_cons_zero, List.getElem?_cons_succ, Option.isNone_some, Option.isNone_none, Bool.not_true, Bool.not_false, Nat.zero_add, hb, hz, hw]
  have hbl := lt_of_cells hc
  refine store1_intro hb (by simp) rfl fun w2 hk2 hb2 hs2 => ?_
  simp only [List.set_cons_succ, List.set_cons_zero] at hb2
  have hne : b1 ≠ b := by intro e; subst e; rw [hb] at hc1; simp [valL] at hc1
  have hc2 := hk2.cells hc1 hne
  have hK2 : Keeps (· = b) w w2 := (Keeps.of_ext he1).trans hk2
  refine loadN_intro hc2 (by simp [valL]) ?_
  refine alloc_intro fun b5 w3 he3 hl5 _ hc5 => ?_
  have hc3 := he3.cells hc2 id
  have hb3 := he3.cells hb2 id
  refine storeN_intro (cs := valL c m r) hc5 rfl (by simp [Value.cells]) (by simp [valL, Value.oneCell']) fun w4 hk4 hc54 hs4 => ?_
  have hb5 : b ≠ b5 := by have := lt_of_cells hb2; omega
  have hb15 : b1 ≠ b5 := by have := lt_of_cells hc2; omega
  have hc4 := hk4.cells hc3 hb15
  have hb4 := hk4.cells hb3 hb5
  have hK4 : Keeps (· = b) w w4 := (hK2.trans (Keeps.of_ext he3)).trans' hk4 fun x hx e => by
    have := hK2.size; omega
  have hc54 : cellsOf w4 b5 = some (valL c m r) := by rw [hc54]; rfl
  simp only [atDrew_eq, nilK_ptr, nilK_fn, fieldA_at, load1_at, orRd_some, optK_some, pickK_true, pickK_false, gopK_tt, gopK_ff, gopK_tf, gopK_ft, gopK_undef, gqK_tt, gqK_ff, gqK_tf, gqK_ft, gqK_undef, condK_true, condK_false, unK_not, binI_eql, binI_neq, binI_lss, binI_leq, binI_gtr, binI_geq, binI_add, binI_sub, binI_mul, binP_eql_none, binP_neq_none, binM_eql_none, binM_neq_none, binL_eql_none, lenL_at, convI_at, extractK_at, Option.bind_some, List.getElem?_cons_zero, List.getElem?_cons_succ, Option.isNone_some, Option.isNone_none, Bool.not_true, Bool.not_false, Nat.zero_add, hc4, valL]
  obtain ⟨hv, rfl⟩ := hv
  rcases hv with ⟨rfl, rfl⟩ | rfl | ⟨rfl, rfl⟩
  · simp only [atDrew_eq, nilK_ptr, nilK_fn, fieldA_at, load1_at, orRd_some, optK_some, pickK_true, pickK_false, gopK_tt, gopK_ff, gopK_tf, gopK_ft, gopK_undef, gqK_tt, gqK_ff, gqK_tf, gqK_ft, gqK_undef, condK_true, condK_false, unK_not, binI_eql, binI_neq, binI_lss, binI_leq, binI_gtr, binI_geq, binI_add, binI_sub, binI_mul, binP_eql_none, binP_neq_none, binM_eql_none, binM_neq_none, binL_eql_none, lenL_at, convI_at, extractK_at, Option.bind_some, List.getElem?_cons_zero, List.getElem?_cons_succ, Option.isNone_some, Option.isNone_none, Bool.not_true, Bool.not_false, Nat.zero_add, upd_get, start_get, List.getD_cons_zero, List.getD_cons_succ, if_true, if_false, Int.reduceBEq, Int.reduceBNe, beq_self_eq_true, reduceIte, Nat.reduceEqDiff, hc54, valL, binS_eql_none]
    exact hk w4 hK4 hb4
  · simp only [atDrew_eq, nilK_ptr, nilK_fn, fieldA_at, load1_at, orRd_some, optK_some, pickK_true, pickK_false, gopK_tt, gopK_ff, gopK_tf, gopK_ft, gopK_undef, gqK_tt, gqK_ff, gqK_tf, gqK_ft, gqK_undef, condK_true, condK_false, unK_not, binI_eql, binI_neq, binI_lss, binI_leq, binI_gtr, binI_geq, binI_add, binI_sub, binI_mul, binP_eql_none, binP_neq_none, binM_eql_none, binM_neq_none, binL_eql_none, lenL_at, convI_at, extractK_at, Option.bind_some, List.getElem?_cons_zero, List.getElem?_cons_succ, Option.isNone_some, Option.isNone_none, Bool.not_true, Bool.not_false, Nat.zero_add, upd_get, start_get, List.getD_cons_zero, List.getD_cons_succ, if_true, if_false, Int.reduceBEq, Int.reduceBNe, beq_self_eq_true, reduceIte, Nat.reduceEqDiff, hc54, valL, binS_eql_none]
    refine store1_intro hc54 (by simp [valL]) rfl fun w5 hk5 hc55 _ => ?_
    simp only [atDrew_eq, nilK_ptr, nilK_fn, fieldA_at, load1_at, orRd_some, optK_some, pickK_true, pickK_false, gopK_tt, gopK_ff, gopK_tf, gopK_ft, gopK_undef, gqK_tt, gqK_ff, gqK_tf, gqK_ft, gqK_undef, condK_true, condK_false, unK_not, binI_eql, binI_neq, binI_lss, binI_leq, binI_gtr, binI_geq, binI_add, binI_sub, binI_mul, binP_eql_none, binP_neq_none, binM_eql_none, binM_neq_none, binL_eql_none, lenL_at, convI_at, extractK_at, Option.bind_some, List.getElem?_cons_zero, List.getElem?_cons_succ, Option.isNone_some, Option.isNone_none, Bool.not_true, Bool.not_false, Nat.zero_add, upd_get, start_get, List.getD_cons_zero, List.getD_cons_succ, if_true, if_false, Int.reduceBEq, Int.reduceBNe, beq_self_eq_true, reduceIte, Nat.reduceEqDiff, hc55, valL, binS_eql_none, List.set_cons_succ, List.set_cons_zero]
    exact hk w5 (hK4.trans' hk5 fun x hx e => by have := hK2.size; omega) (hk5.cells hb4 hb5)
  · simp only [atDrew_eq, nilK_ptr, nilK_fn, fieldA_at, load1_at, orRd_some, optK_some, pickK_true, pickK_false, gopK_tt, gopK_ff, gopK_tf, gopK_ft, gopK_undef, gqK_tt, gqK_ff, gqK_tf, gqK_ft, gqK_undef, condK_true, condK_false, unK_not, binI_eql, binI_neq, binI_lss, binI_leq, binI_gtr, binI_geq, binI_add, binI_sub, binI_mul, binP_eql_none, binP_neq_none, binM_eql_none, binM_neq_none, binL_eql_none, lenL_at, convI_at, extractK_at, Option.bind_some, List.getElem?_cons_zero, List.getElem?_cons_succ, Option.isNone_some, Option.isNone_none, Bool.not_true, Bool.not_false, Nat.zero_add, upd_get, start_get, List.getD_cons_zero, List.getD_cons_succ, if_true, if_false, Int.reduceBEq, Int.reduceBNe, beq_self_eq_true, reduceIte, Nat.reduceEqDiff]
    have hi1 : (i == 0) = false := by simp; omega
    have ed := Ext.drew w4
    generalize w4.drew = w5 at ed
    have hb6 := ed.cells hb4 id
    have hc6 := ed.cells hc4 id
    have hc56 := ed.cells hc54 id
    have hw1 : IntKind.i64.wrap (i - 1) = i - 1 := wrap64_id (by omega) (by omega)
    have hn1 : decide (((0 : Nat) : Int) > n - 1) = false := by simp; omega
    simp only [atDrew_eq, nilK_ptr, nilK_fn, fieldA_at, load1_at, orRd_some, optK_some, pickK_true, pickK_false, gopK_tt, gopK_ff, gopK_tf, gopK_ft, gopK_undef, gqK_tt, gqK_ff, gqK_tf, gqK_ft, gqK_undef, condK_true, condK_false, unK_not, binI_eql, binI_neq, binI_lss, binI_leq, binI_gtr, binI_geq, binI_add, binI_sub, binI_mul, binP_eql_none, binP_neq_none, binM_eql_none, binM_neq_none, binL_eql_none, lenL_at, convI_at, extractK_at, Option.bind_some, List.getElem?_cons_zero, List.getElem?_cons_succ, Option.isNone_some, Option.isNone_none, Bool.not_true, Bool.not_false, Nat.zero_add, upd_get, start_get, List.getD_cons_zero, List.getD_cons_succ, if_true, if_false, Int.reduceBEq, Int.reduceBNe, beq_self_eq_true, reduceIte, Nat.reduceEqDiff, hb6, hc6, valL, hi1, hn1, hw1]
    refine store1_intro hb6 (by simp) rfl fun w6 hk6 hb66 hs6 => ?_
    have hc66 := hk6.cells hc6 hne
    have hc566 := hk6.cells hc56 (Ne.symm hb5)
    have hK6 : Keeps (· = b) w w6 := (hK4.trans (Keeps.of_ext ed)).trans hk6
    simp only [atDrew_eq, nilK_ptr, nilK_fn, fieldA_at, load1_at, orRd_some, optK_some, pickK_true, pickK_false, gopK_tt, gopK_ff, gopK_tf, gopK_ft, gopK_undef, gqK_tt, gqK_ff, gqK_tf, gqK_ft, gqK_undef, condK_true, condK_false, unK_not, binI_eql, binI_neq, binI_lss, binI_leq, binI_gtr, binI_geq, binI_add, binI_sub, binI_mul, binP_eql_none, binP_neq_none, binM_eql_none, binM_neq_none, binL_eql_none, lenL_at, convI_at, extractK_at, Option.bind_some, List.getElem?_cons_zero, List.getElem?_cons_succ, Option.isNone_some, Option.isNone_none, Bool.not_true, Bool.not_false, Nat.zero_add, upd_get, start_get, List.getD_cons_zero, List.getD_cons_succ, if_true, if_false, Int.reduceBEq, Int.reduceBNe, beq_self_eq_true, reduceIte, Nat.reduceEqDiff, hc66, valL]
    refine ⟨fun m e w' => e 0 = ptr b ∧ e 67 = vi 0 ∧ e 68 = vi 0 ∧ e 5 = ptr b5 ∧ w' = w6, 0, ⟨rfl, rfl, rfl, rfl, rfl⟩, ?_⟩
    rintro m e w' ⟨g0, g67, g68, g5, rfl⟩
    have hlt : decide ((0 : Int) < 0) = false := rfl
    have hw2 : IntKind.i64.wrap (i - 1 + 1) = i := by rw [wrap64_id (by omega) (by omega)]; omega
    simp only [atDrew_eq, nilK_ptr, nilK_fn, fieldA_at, load1_at, orRd_some, optK_some, pickK_true, pickK_false, gopK_tt, gopK_ff, gopK_tf, gopK_ft, gopK_undef, gqK_tt, gqK_ff, gqK_tf, gqK_ft, gqK_undef, condK_true, condK_false, unK_not, binI_eql, binI_neq, binI_lss, binI_leq, binI_gtr, binI_geq, binI_add, binI_sub, binI_mul, binP_eql_none, binP_neq_none, binM_eql_none, binM_neq_none, binL_eql_none, lenL_at, convI_at, extractK_at, Option.bind_some, List.getElem?_cons_zero, List.getElem?_cons_succ, Option.isNone_some, Option.isNone_none, Bool.not_true, Bool.not_false, Nat.zero_add, upd_get, start_get, List.getD_cons_zero, List.getD_cons_succ, if_true, if_false, Int.reduceBEq, Int.reduceBNe, beq_self_eq_true, reduceIte, Nat.reduceEqDiff, g0, g67, g68, g5, hlt, hb66, List.set_cons_succ, List.set_cons_zero, hw2]
    refine store1_intro hb66 (by simp) rfl fun w7 hk7 hb7 hs7 => ?_
    have hc57 := hk7.cells hc566 (Ne.symm hb5)
    refine store1_intro hc57 (by simp [valL]) rfl fun w8 hk8 hc58 _ => ?_
    have hb8 := hk8.cells hb7 hb5
    simp only [atDrew_eq, nilK_ptr, nilK_fn, fieldA_at, load1_at, orRd_some, optK_some, pickK_true, pickK_false, gopK_tt, gopK_ff, gopK_tf, gopK_ft, gopK_undef, gqK_tt, gqK_ff, gqK_tf, gqK_ft, gqK_undef, condK_true, condK_false, unK_not, binI_eql, binI_neq, binI_lss, binI_leq, binI_gtr, binI_geq, binI_add, binI_sub, binI_mul, binP_eql_none, binP_neq_none, binM_eql_none, binM_neq_none, binL_eql_none, lenL_at, convI_at, extractK_at, Option.bind_some, List.getElem?_cons_zero, List.getElem?_cons_succ, Option.isNone_some, Option.isNone_none, Bool.not_true, Bool.not_false, Nat.zero_add, upd_get, start_get, List.getD_cons_zero, List.getD_cons_succ, if_true, if_false, Int.reduceBEq, Int.reduceBNe, beq_self_eq_true, reduceIte, Nat.reduceEqDiff, hc58, valL, binS_eql_none, List.set_cons_succ, List.set_cons_zero]
    refine hk w8 ((hK6.trans hk7).trans' hk8 fun x hx e => by have := hK2.size; omega) ?_
    simpa using hb8
end
end Go.X
/- Contracts: values without lists, more. -/
set_option linter.unusedSimpArgs false
set_option linter.unusedVariables false
namespace Go.X
open Go Go.AW

section
variable {w : World} {L : Lay} {a : AW} {k : Value → World → Prop}

theorem buildS_left (q : Value → Prop) : buildS (Value.agg #[Value.int .i64 0, Value.int .i64 0]) [(0, 1), (1, 1)] [(0, Value.int .i64 512), (1, Value.int .i64 16)] q = q (.agg #[vi 512, vi 16]) := by kernel_rfl

theorem measure_c {c m r : Int} (hv : flatV c m r) (hk : ∀ w', Ext w w' → k (vi 1) w') : callOn prog fn_value_measure #[valV c m r] w k := by
  apply F_value_measure_on
  unfold F_value_measure
  refine box_intro fun b1 w1 he1 _ hl1 hc1 => ?_
  have hc1 : cellsOf w1 b1 = some (valL c m r) := hc1
  rw [buildS_left]
  refine box_intro fun b2 w2 he2 hg2 hl2 hc2 => ?_
  have hc2 : cellsOf w2 b2 = some [vi 512, vi 16] := hc2
  refine loadN_intro (he2.cells hc1 id) (by simp [valL]) ?_
  refine take_c hc2 (by omega) (by omega) (by omega) (by omega) hv fun w3 hk3 hc3 => ?_
  have hw : IntKind.i64.wrap (512 - (512 - 1)) = 1 := by decide
  simp only [atDrew_eq, nilK_ptr, nilK_fn, fieldA_at, load1_at, orRd_some, optK_some, pickK_true, pickK_false, gopK_tt, gopK_ff, gopK_tf, gopK_ft, gopK_undef, gqK_tt, gqK_ff, gqK_tf, gqK_ft, gqK_undef, condK_true, condK_false, unK_not, binI_eql, binI_neq, binI_lss, binI_leq, binI_gtr, binI_geq, binI_add, binI_sub, binI_mul, binP_eql_none, binP_neq_none, binM_eql_none, binM_neq_none, binL_eql_none, lenL_at, convI_at, extractK_at, Option.bind_some, List.getElem?_cons_zero, List.getElem?_cons_succ, Option.isNone_some, Option.isNone_none, Bool.not_true, Bool.not_false, Nat.zero_add, upd_get, start_get, List.getD_cons_zero, List.getD_cons_succ, if_true, if_false, Int.reduceBEq, Int.reduceBNe, beq_self_eq_true, reduceIte, Nat.reduceEqDiff, hc3, hw]
  exact hk w3 ((he1.trans he2).trans' hk3 fun x hx e => by have := he1.size; omega)

theorem may_c {c m r : Int} (hv : flatV c m r) (hk : ∀ w', Ext w w' → k (.bool true) w') : callOn prog fn_value_May #[valV c m r] w k := by
  apply F_value_May_on
  unfold F_value_May
  refine box_intro fun b1 w1 he1 _ hl1 hc1 => ?_
  have hc1 : cellsOf w1 b1 = some (valL c m r) := hc1
  refine loadN_intro hc1 (by simp [valL]) ?_
  refine measure_c hv fun w2 he2 => ?_
  simp only [atDrew_eq, nilK_ptr, nilK_fn, fieldA_at, load1_at, orRd_some, optK_some, pickK_true, pickK_false, gopK_tt, gopK_ff, gopK_tf, gopK_ft, gopK_undef, gqK_tt, gqK_ff, gqK_tf, gqK_ft, gqK_undef, condK_true, condK_false, unK_not, binI_eql, binI_neq, binI_lss, binI_leq, binI_gtr, binI_geq, binI_add, binI_sub, binI_mul, binP_eql_none, binP_neq_none, binM_eql_none, binM_neq_none, binL_eql_none, lenL_at, convI_at, extractK_at, Option.bind_some, List.getElem?_cons_zero, List.getElem?_cons_succ, Option.isNone_some, Option.isNone_none, Bool.not_true, Bool.not_false, Nat.zero_add, upd_get, start_get, List.getD_cons_zero, List.getD_cons_succ, if_true, if_false, Int.reduceBEq, Int.reduceBNe, beq_self_eq_true, reduceIte, Nat.reduceEqDiff]
  exact hk w2 (he1.trans he2)

def blankB (c m r : Int) : Bool := c == 0 && m == 0 && r == 0

theorem blank_c {c m r : Int} (hk : ∀ w', Ext w w' → k (.bool (blankB c m r)) w') : callOn prog fn_world_blank #[valV c m r] w k := by
  apply F_world_blank_on
  unfold F_world_blank
  refine box_intro fun b1 w1 he1 _ hl1 hc1 => ?_
  have hc1 : cellsOf w1 b1 = some (valL c m r) := hc1
  have hk := hk w1 he1
  simp only [atDrew_eq, nilK_ptr, nilK_fn, fieldA_at, load1_at, orRd_some, optK_some, pickK_true, pickK_false, gopK_tt, gopK_ff, gopK_tf, gopK_ft, gopK_undef, gqK_tt, gqK_ff, gqK_tf, gqK_ft, gqK_undef, condK_true, condK_false, unK_not, binI_eql, binI_neq, binI_lss, binI_leq, binI_gtr, binI_geq, binI_add, binI_sub, binI_mul, binP_eql_none, binP_neq_none, binM_eql_none, binM_neq_none, binL_eql_none, lenL_at, convI_at, extractK_at, Option.bind_some, List.getElem?_cons_zero, List.getElem?_cons_succ, Option.isNone_some, Option.isNone_none, Bool.not_true, Bool.not_false, Nat.zero_add, upd_get, start_get, List.getD_cons_zero, List.getD_cons_succ, if_true, if_false, Int.reduceBEq, Int.reduceBNe, beq_self_eq_true, reduceIte, Nat.reduceEqDiff, hc1, valL]
  unfold blankB at hk
  cases h1 : (c == 0) with
  | false => simp only [h1, atDrew_eq, nilK_ptr, nilK_fn, fieldA_at, load1_at, orRd_some, optK_some, pickK_true, pickK_false, gopK_tt, gopK_ff, gopK_tf, gopK_ft, gopK_undef, gqK_tt, gqK_ff, gqK_tf, gqK_ft, gqK_undef, condK_true, condK_false, unK_not, binI_eql, binI_neq, binI_lss, binI_leq, binI_gtr, binI_geq, binI_add, binI_sub, binI_mul, binP_eql_none, binP_neq_none, binM_eql_none, binM_neq_none, binL_eql_none, lenL_at, convI_at, extractK_at, Option.bind_some, List.getElem?_cons_zero, List.getElem?_cons_succ, Option.isNone_some, Option.isNone_none, Bool.not_true, Bool.not_false, Nat.zero_add, upd_get, start_get, List.getD_cons_zero, List.getD_cons_succ, if_true, if_false, Int.reduceBEq, Int.reduceBNe, beq_self_eq_true, reduceIte, Nat.reduceEqDiff] at hk ⊢; exact hk
  | true =>
    simp only [h1, atDrew_eq, nilK_ptr, nilK_fn, fieldA_at, load1_at, orRd_some, optK_some, pickK_true, pickK_false, gopK_tt, gopK_ff, gopK_tf, gopK_ft, gopK_undef, gqK_tt, gqK_ff, gqK_tf, gqK_ft, gqK_undef, condK_true, condK_false, unK_not, binI_eql, binI_neq, binI_lss, binI_leq, binI_gtr, binI_geq, binI_add, binI_sub, binI_mul, binP_eql_none, binP_neq_none, binM_eql_none, binM_neq_none, binL_eql_none, lenL_at, convI_at, extractK_at, Option.bind_some, List.getElem?_cons_zero, List.getElem?_cons_succ, Option.isNone_some, Option.isNone_none, Bool.not_true, Bool.not_false, Nat.zero_add, upd_get, start_get, List.getD_cons_zero, List.getD_cons_succ, if_true, if_false, Int.reduceBEq, Int.reduceBNe, beq_self_eq_true, reduceIte, Nat.reduceEqDiff, hc1, valL]
    cases h2 : (m == 0) with
    | false => simp only [h1, h2, atDrew_eq, nilK_ptr, nilK_fn, fieldA_at, load1_at, orRd_some, optK_some, pickK_true, pickK_false, gopK_tt, gopK_ff, gopK_tf, gopK_ft, gopK_undef, gqK_tt, gqK_ff, gqK_tf, gqK_ft, gqK_undef, condK_true, condK_false, unK_not, binI_eql, binI_neq, binI_lss, binI_leq, binI_gtr, binI_geq, binI_add, binI_sub, binI_mul, binP_eql_none, binP_neq_none, binM_eql_none, binM_neq_none, binL_eql_none, lenL_at, convI_at, extractK_at, Option.bind_some, List.getElem?_cons_zero, List.getElem?_cons_succ, Option.isNone_some, Option.isNone_none, Bool.not_true, Bool.not_false, Nat.zero_add, upd_get, start_get, List.getD_cons_zero, List.getD_cons_succ, if_true, if_false, Int.reduceBEq, Int.reduceBNe, beq_self_eq_true, reduceIte, Nat.reduceEqDiff] at hk ⊢; exact hk
    | true =>
      have h00 : (((0 : Nat) : Int) == 0) = true := rfl
      simp only [h2, atDrew_eq, nilK_ptr, nilK_fn, fieldA_at, load1_at, orRd_some, optK_some, pickK_true, pickK_false, gopK_tt, gopK_ff, gopK_tf, gopK_ft, gopK_undef, gqK_tt, gqK_ff, gqK_tf, gqK_ft, gqK_undef, condK_true, condK_false, unK_not, binI_eql, binI_neq, binI_lss, binI_leq, binI_gtr, binI_geq, binI_add, binI_sub, binI_mul, binP_eql_none, binP_neq_none, binM_eql_none, binM_neq_none, binL_eql_none, lenL_at, convI_at, extractK_at, Option.bind_some, List.getElem?_cons_zero, List.getElem?_cons_succ, Option.isNone_some, Option.isNone_none, Bool.not_true, Bool.not_false, Nat.zero_add, upd_get, start_get, List.getD_cons_zero, List.getD_cons_succ, if_true, if_false, Int.reduceBEq, Int.reduceBNe, beq_self_eq_true, reduceIte, Nat.reduceEqDiff, hc1, valL, binS_eql_none, h00]
      cases h3 : (r == 0) <;> (simp only [h1, h2, h3, atDrew_eq, nilK_ptr, nilK_fn, fieldA_at, load1_at, orRd_some, optK_some, pickK_true, pickK_false, gopK_tt, gopK_ff, gopK_tf, gopK_ft, gopK_undef, gqK_tt, gqK_ff, gqK_tf, gqK_ft, gqK_undef, condK_true, condK_false, unK_not, binI_eql, binI_neq, binI_lss, binI_leq, binI_gtr, binI_geq, binI_add, binI_sub, binI_mul, binP_eql_none, binP_neq_none, binM_eql_none, binM_neq_none, binL_eql_none, lenL_at, convI_at, extractK_at, Option.bind_some, List.getElem?_cons_zero, List.getElem?_cons_succ, Option.isNone_some, Option.isNone_none, Bool.not_true, Bool.not_false, Nat.zero_add, upd_get, start_get, List.getD_cons_zero, List.getD_cons_succ, if_true, if_false, Int.reduceBEq, Int.reduceBNe, beq_self_eq_true, reduceIte, Nat.reduceEqDiff] at hk ⊢; exact hk)

theorem indexFunc_none {f : Value} (hk : k (vi (-1)) w) : callOn prog fn_slices_IndexFunc_Value #[noList, f] w k := by
  apply F_slices_IndexFunc_Value_on
  unfold F_slices_IndexFunc_Value
  simp only [atDrew_eq, nilK_ptr, nilK_fn, fieldA_at, load1_at, orRd_some, optK_some, pickK_true, pickK_false, gopK_tt, gopK_ff, gopK_tf, gopK_ft, gopK_undef, gqK_tt, gqK_ff, gqK_tf, gqK_ft, gqK_undef, condK_true, condK_false, unK_not, binI_eql, binI_neq, binI_lss, binI_leq, binI_gtr, binI_geq, binI_add, binI_sub, binI_mul, binP_eql_none, binP_neq_none, binM_eql_none, binM_neq_none, binL_eql_none, lenL_at, convI_at, extractK_at, Option.bind_some, List.getElem?_cons_zero, List.getElem?_cons_succ, Option.isNone_some, Option.isNone_none, Bool.not_true, Bool.not_false, Nat.zero_add]
  refine ⟨fun m e w' => e 7 = vi 0 ∧ e 8 = vi 0 ∧ w' = w, 0, ⟨rfl, rfl, rfl⟩, ?_⟩
  rintro m e w' ⟨g7, g8, rfl⟩
  have hlt : decide ((0 : Int) < 0) = false := rfl
  simp only [atDrew_eq, nilK_ptr, nilK_fn, fieldA_at, load1_at, orRd_some, optK_some, pickK_true, pickK_false, gopK_tt, gopK_ff, gopK_tf, gopK_ft, gopK_undef, gqK_tt, gqK_ff, gqK_tf, gqK_ft, gqK_undef, condK_true, condK_false, unK_not, binI_eql, binI_neq, binI_lss, binI_leq, binI_gtr, binI_geq, binI_add, binI_sub, binI_mul, binP_eql_none, binP_neq_none, binM_eql_none, binM_neq_none, binL_eql_none, lenL_at, convI_at, extractK_at, Option.bind_some, List.getElem?_cons_zero, List.getElem?_cons_succ, Option.isNone_some, Option.isNone_none, Bool.not_true, Bool.not_false, Nat.zero_add, g7, g8, hlt]
  exact hk

theorem all_none (hk : k (.bool true) w) : callOn prog fn_value_all #[noList] w k := by
  apply F_value_all_on
  unfold F_value_all
  apply F_slices_ContainsFunc_Value_on
  unfold F_slices_ContainsFunc_Value
  refine indexFunc_none ?_
  have hlt : decide ((-1 : Int) ≥ 0) = false := rfl
  simp only [atDrew_eq, nilK_ptr, nilK_fn, fieldA_at, load1_at, orRd_some, optK_some, pickK_true, pickK_false, gopK_tt, gopK_ff, gopK_tf, gopK_ft, gopK_undef, gqK_tt, gqK_ff, gqK_tf, gqK_ft, gqK_undef, condK_true, condK_false, unK_not, binI_eql, binI_neq, binI_lss, binI_leq, binI_gtr, binI_geq, binI_add, binI_sub, binI_mul, binP_eql_none, binP_neq_none, binM_eql_none, binM_neq_none, binL_eql_none, lenL_at, convI_at, extractK_at, Option.bind_some, List.getElem?_cons_zero, List.getElem?_cons_succ, Option.isNone_some, Option.isNone_none, Bool.not_true, Bool.not_false, Nat.zero_add, hlt, Bool.not_false]
  exact hk

theorem value_own_c {c m r : Int} (hk : ∀ w', Ext w w' → k (valV c m r) w') : callOn prog fn_value_own #[valV c m r] w k := by
  apply F_value_own_on
  unfold F_value_own
  refine box_intro fun b1 w1 he1 hg1 hl1 hc1 => ?_
  have hc1 : cellsOf w1 b1 = some (valL c m r) := hc1
  refine alloc_intro fun b2 w2 he2 hl2 _ hc2 => ?_
  have hc12 := he2.cells hc1 id
  simp only [atDrew_eq, nilK_ptr, nilK_fn, fieldA_at, load1_at, orRd_some, optK_some, pickK_true, pickK_false, gopK_tt, gopK_ff, gopK_tf, gopK_ft, gopK_undef, gqK_tt, gqK_ff, gqK_tf, gqK_ft, gqK_undef, condK_true, condK_false, unK_not, binI_eql, binI_neq, binI_lss, binI_leq, binI_gtr, binI_geq, binI_add, binI_sub, binI_mul, binP_eql_none, binP_neq_none, binM_eql_none, binM_neq_none, binL_eql_none, lenL_at, convI_at, extractK_at, Option.bind_some, List.getElem?_cons_zero, List.getElem?_cons_succ, Option.isNone_some, Option.isNone_none, Bool.not_true, Bool.not_false, Nat.zero_add, upd_get, start_get, List.getD_cons_zero, List.getD_cons_succ, if_true, if_false, Int.reduceBEq, Int.reduceBNe, beq_self_eq_true, reduceIte, Nat.reduceEqDiff, hc12, valL]
  have h00 : (((0 : Nat) : Int) == 0) = true := rfl
  simp only [h00, atDrew_eq, nilK_ptr, nilK_fn, fieldA_at, load1_at, orRd_some, optK_some, pickK_true, pickK_false, gopK_tt, gopK_ff, gopK_tf, gopK_ft, gopK_undef, gqK_tt, gqK_ff, gqK_tf, gqK_ft, gqK_undef, condK_true, condK_false, unK_not, binI_eql, binI_neq, binI_lss, binI_leq, binI_gtr, binI_geq, binI_add, binI_sub, binI_mul, binP_eql_none, binP_neq_none, binM_eql_none, binM_neq_none, binL_eql_none, lenL_at, convI_at, extractK_at, Option.bind_some, List.getElem?_cons_zero, List.getElem?_cons_succ, Option.isNone_some, Option.isNone_none, Bool.not_true, Bool.not_false, Nat.zero_add, upd_get, start_get, List.getD_cons_zero, List.getD_cons_succ, if_true, if_false, Int.reduceBEq, Int.reduceBNe, beq_self_eq_true, reduceIte, Nat.reduceEqDiff]
  refine store1_intro hc12 (by simp [valL]) rfl fun w3 hk3 hc3 _ => ?_
  have hc3 : cellsOf w3 b1 = some (valL c m r) := hc3
  refine loadN_intro hc3 (by simp [valL]) ?_
  have hne : b2 ≠ b1 := by omega
  refine storeN_intro (cs := valL c m r) (hk3.cells hc2 hne) rfl (by simp [Value.cells]) (by simp [valL, Value.oneCell']) fun w4 hk4 hc4 _ => ?_
  refine loadN_intro (l := valL c m r) hc4 (by simp [valL]) ?_
  exact hk w4 (((he1.trans he2).trans' hk3 fun x hx e => by omega).trans' hk4 fun x hx e => by have := he1.size; omega)

theorem value_Own_c {c m r : Int} (hv : flatV c m r) (hk : ∀ w', Ext w w' → k (.tuple #[valV c m r, vi 0]) w') : callOn prog fn_value_Own #[valV c m r] w k := by
  apply F_value_Own_on
  unfold F_value_Own
  refine box_intro fun b1 w1 he1 _ hl1 hc1 => ?_
  have hc1 : cellsOf w1 b1 = some (valL c m r) := hc1
  refine alloc_intro fun b2 w2 he2 hl2 _ hc2 => ?_
  have hc12 := he2.cells hc1 id
  refine loadN_intro hc12 (by simp [valL]) ?_
  refine may_c hv fun w3 he3 => ?_
  simp only [atDrew_eq, nilK_ptr, nilK_fn, fieldA_at, load1_at, orRd_some, optK_some, pickK_true, pickK_false, gopK_tt, gopK_ff, gopK_tf, gopK_ft, gopK_undef, gqK_tt, gqK_ff, gqK_tf, gqK_ft, gqK_undef, condK_true, condK_false, unK_not, binI_eql, binI_neq, binI_lss, binI_leq, binI_gtr, binI_geq, binI_add, binI_sub, binI_mul, binP_eql_none, binP_neq_none, binM_eql_none, binM_neq_none, binL_eql_none, lenL_at, convI_at, extractK_at, Option.bind_some, List.getElem?_cons_zero, List.getElem?_cons_succ, Option.isNone_some, Option.isNone_none, Bool.not_true, Bool.not_false, Nat.zero_add, upd_get, start_get, List.getD_cons_zero, List.getD_cons_succ, if_true, if_false, Int.reduceBEq, Int.reduceBNe, beq_self_eq_true, reduceIte, Nat.reduceEqDiff]
  refine loadN_intro (he3.cells hc12 id) (by simp [valL]) ?_
  refine value_own_c fun w4 he4 => ?_
  refine storeN_intro (cs := valL c m r) ((he3.trans he4).cells hc2 id) rfl (by simp [Value.cells]) (by simp [valL, Value.oneCell']) fun w5 hk5 hc5 _ => ?_
  refine loadN_intro (l := valL c m r) hc5 (by simp [valL]) ?_
  exact hk w5 (((he1.trans he2).trans (he3.trans he4)).trans' hk5 fun x hx e => by have := he1.size; omega)

theorem world_own_c {c m r : Int} (hv : flatV c m r) (hk : ∀ w', Ext w w' → k (valV c m r) w') : callOn prog fn_world_own #[valV c m r] w k := by
  apply F_world_own_on
  unfold F_world_own
  refine box_intro fun b1 w1 he1 _ hl1 hc1 => ?_
  have hc1 : cellsOf w1 b1 = some (valL c m r) := hc1
  refine alloc_intro fun b2 w2 he2 hl2 _ hc2 => ?_
  have hc12 := he2.cells hc1 id
  refine loadN_intro hc12 (by simp [valL]) ?_
  refine value_Own_c hv fun w3 he3 => ?_
  simp only [atDrew_eq, nilK_ptr, nilK_fn, fieldA_at, load1_at, orRd_some, optK_some, pickK_true, pickK_false, gopK_tt, gopK_ff, gopK_tf, gopK_ft, gopK_undef, gqK_tt, gqK_ff, gqK_tf, gqK_ft, gqK_undef, condK_true, condK_false, unK_not, binI_eql, binI_neq, binI_lss, binI_leq, binI_gtr, binI_geq, binI_add, binI_sub, binI_mul, binP_eql_none, binP_neq_none, binM_eql_none, binM_neq_none, binL_eql_none, lenL_at, convI_at, extractK_at, Option.bind_some, List.getElem?_cons_zero, List.getElem?_cons_succ, Option.isNone_some, Option.isNone_none, Bool.not_true, Bool.not_false, Nat.zero_add, upd_get, start_get, List.getD_cons_zero, List.getD_cons_succ, if_true, if_false, Int.reduceBEq, Int.reduceBNe, beq_self_eq_true, reduceIte, Nat.reduceEqDiff]
  refine alloc_intro fun b3 w4 he4 hl3 _ hc3 => ?_
  refine storeN_intro (cs := valL c m r) hc3 rfl (by simp [Value.cells]) (by simp [valL, Value.oneCell']) fun w5 hk5 hc5 _ => ?_
  refine loadN_intro (l := valL c m r) hc5 (by simp [valL]) ?_
  have h23 : b2 ≠ b3 := by have := lt_of_cells (he3.cells hc2 id); omega
  refine storeN_intro (cs := valL c m r) (hk5.cells ((he3.trans he4).cells hc2 id) h23) rfl (by simp [Value.cells]) (by simp [valL, Value.oneCell']) fun w6 hk6 hc6 _ => ?_
  refine loadN_intro (l := valL c m r) hc6 (by simp [valL]) ?_
  have hs := ((he1.trans he2).trans he3).size
  have hs1 := he1.size
  exact hk w6 (((((he1.trans he2).trans he3).trans he4).trans' hk5 fun x hx e => by omega).trans' hk6 fun x hx e => by omega)

theorem buildS_list (x : Value) (q : Value → Prop) : buildS (Value.agg #[Value.int .u8 0, Value.int .i64 0, Value.string { data := #[] }, Value.slice none 0 0, Value.int .i64 0]) [(0, 1), (1, 1), (2, 1), (3, 1), (4, 1)]
    [(0, Value.int .u8 3), (3, noList)] q = q (valV 3 0 0) := by kernel_rfl

theorem of_none (hk : ∀ w', Ext w w' → k (.tuple #[valV 3 0 0, vi 0]) w') : callOn prog fn_value_Of #[noList] w k := by
  apply F_value_Of_on
  unfold F_value_Of
  refine alloc_intro fun b2 w2 he2 hl2 _ hc2 => ?_
  refine all_none ?_
  simp only [atDrew_eq, nilK_ptr, nilK_fn, fieldA_at, load1_at, orRd_some, optK_some, pickK_true, pickK_false, gopK_tt, gopK_ff, gopK_tf, gopK_ft, gopK_undef, gqK_tt, gqK_ff, gqK_tf, gqK_ft, gqK_undef, condK_true, condK_false, unK_not, binI_eql, binI_neq, binI_lss, binI_leq, binI_gtr, binI_geq, binI_add, binI_sub, binI_mul, binP_eql_none, binP_neq_none, binM_eql_none, binM_neq_none, binL_eql_none, lenL_at, convI_at, extractK_at, Option.bind_some, List.getElem?_cons_zero, List.getElem?_cons_succ, Option.isNone_some, Option.isNone_none, Bool.not_true, Bool.not_false, Nat.zero_add, upd_get, start_get, List.getD_cons_zero, List.getD_cons_succ, if_true, if_false, Int.reduceBEq, Int.reduceBNe, beq_self_eq_true, reduceIte, Nat.reduceEqDiff, Bool.not_true]
  rw [buildS_list noList]
  refine alloc_intro fun b4 w4 he4 hl4 _ hc4 => ?_
  refine storeN_intro (cs := valL 3 0 0) hc4 rfl (by simp [Value.cells]) (by simp [valL, Value.oneCell']) fun w5 hk5 hc5 _ => ?_
  have hc5 : cellsOf w5 b4 = some (valL 3 0 0) := hc5
  refine loadN_intro hc5 (by simp [valL]) ?_
  have hv : flatV 3 0 0 := ⟨.inr (.inr ⟨rfl, rfl⟩), rfl⟩
  refine may_c hv fun w6 he6 => ?_
  simp only [atDrew_eq, nilK_ptr, nilK_fn, fieldA_at, load1_at, orRd_some, optK_some, pickK_true, pickK_false, gopK_tt, gopK_ff, gopK_tf, gopK_ft, gopK_undef, gqK_tt, gqK_ff, gqK_tf, gqK_ft, gqK_undef, condK_true, condK_false, unK_not, binI_eql, binI_neq, binI_lss, binI_leq, binI_gtr, binI_geq, binI_add, binI_sub, binI_mul, binP_eql_none, binP_neq_none, binM_eql_none, binM_neq_none, binL_eql_none, lenL_at, convI_at, extractK_at, Option.bind_some, List.getElem?_cons_zero, List.getElem?_cons_succ, Option.isNone_some, Option.isNone_none, Bool.not_true, Bool.not_false, Nat.zero_add, upd_get, start_get, List.getD_cons_zero, List.getD_cons_succ, if_true, if_false, Int.reduceBEq, Int.reduceBNe, beq_self_eq_true, reduceIte, Nat.reduceEqDiff, Bool.not_true]
  refine loadN_intro (he6.cells hc5 id) (by simp [valL]) ?_
  refine value_own_c (c := 3) (m := 0) (r := 0) fun w7 he7 => ?_
  have h24 : b2 ≠ b4 := by have := lt_of_cells hc2; omega
  refine storeN_intro (cs := valL 3 0 0) ((he6.trans he7).cells (hk5.cells (he4.cells hc2 id) h24) id) rfl (by simp [Value.cells]) (by simp [valL, Value.oneCell']) fun w8 hk8 hc8 _ => ?_
  refine loadN_intro (l := valL 3 0 0) hc8 (by simp [valL]) ?_
  have hs := he2.size
  exact hk w8 ((((he2.trans he4).trans' hk5 fun x hx e => by omega).trans (he6.trans he7)).trans' hk8 fun x hx e => by omega)
end
end Go.X
/- Contracts: what is held, what is taken as one's own; plain data. -/
set_option linter.unusedSimpArgs false
set_option linter.unusedVariables false
set_option maxRecDepth 20000
namespace Go.X
open Go Go.AW

section
variable {w : World} {L : Lay} {a : AW} {k : Value → World → Prop}

theorem callT_to {f : FuncId} {first captured : Array Value} {args : List Value} (hf : enters prog f = true) (h : callOn prog f ((first.toList ++ args) ++ captured.toList).toArray w k) : callT prog (.func (.func f) first captured) args w k := by
  simp only [callT, hf, cond_true]
  exact h

theorem refs_1_c {b : Nat} {v pl : Value} {c m r : Int} (hv : flatV c m r) (hk : ∀ w', Ext w w' → k (.bool true) w') : callOn prog fn_value_Refs_1 #[pl, valV c m r, ptr b] w k := by
  apply F_value_Refs_1_on
  unfold F_value_Refs_1
  refine box_intro fun b1 w1 he1 _ hl1 hc1 => ?_
  have hc1 : cellsOf w1 b1 = some (valL c m r) := hc1
  have h4 : (c == 4) = false := by
    obtain ⟨hv, _⟩ := hv
    rcases hv with ⟨rfl, _⟩ | rfl | ⟨rfl, _⟩ <;> rfl
  simp only [atDrew_eq, nilK_ptr, nilK_fn, fieldA_at, load1_at, orRd_some, optK_some, pickK_true, pickK_false, gopK_tt, gopK_ff, gopK_tf, gopK_ft, gopK_undef, gqK_tt, gqK_ff, gqK_tf, gqK_ft, gqK_undef, condK_true, condK_false, unK_not, binI_eql, binI_neq, binI_lss, binI_leq, binI_gtr, binI_geq, binI_add, binI_sub, binI_mul, binP_eql_none, binP_neq_none, binM_eql_none, binM_neq_none, binL_eql_none, lenL_at, convI_at, extractK_at, Option.bind_some, List.getElem?_cons_zero, List.getElem?_cons_succ, Option.isNone_some, Option.isNone_none, Bool.not_true, Bool.not_false, Nat.zero_add, upd_get, start_get, List.getD_cons_zero, List.getD_cons_succ, if_true, if_false, Int.reduceBEq, Int.reduceBNe, beq_self_eq_true, reduceIte, Nat.reduceEqDiff, hc1, valL, h4]
  exact hk w1 he1

theorem walk_c {b : Nat} {pl : Value} {c m r : Int} (hv : flatV c m r) (hk : ∀ w', Ext w w' → k (.bool true) w') :
    callOn prog fn_value_walk #[valV c m r, pl, .func (.func fn_value_Refs_1) #[] #[ptr b]] w k := by
  apply F_value_walk_on
  unfold F_value_walk
  refine box_intro fun b1 w1 he1 _ hl1 hc1 => ?_
  have hc1 : cellsOf w1 b1 = some (valL c m r) := hc1
  refine loadN_intro hc1 (by simp [valL]) ?_
  refine callT_to (by kernel_rfl) ?_
  show callOn prog fn_value_Refs_1 #[pl, valV c m r, ptr b] w1 _
  refine refs_1_c (v := pl) hv fun w2 he2 => ?_
  have hc2 := he2.cells hc1 id
  simp only [atDrew_eq, nilK_ptr, nilK_fn, fieldA_at, load1_at, orRd_some, optK_some, pickK_true, pickK_false, gopK_tt, gopK_ff, gopK_tf, gopK_ft, gopK_undef, gqK_tt, gqK_ff, gqK_tf, gqK_ft, gqK_undef, condK_true, condK_false, unK_not, binI_eql, binI_neq, binI_lss, binI_leq, binI_gtr, binI_geq, binI_add, binI_sub, binI_mul, binP_eql_none, binP_neq_none, binM_eql_none, binM_neq_none, binL_eql_none, lenL_at, convI_at, extractK_at, Option.bind_some, List.getElem?_cons_zero, List.getElem?_cons_succ, Option.isNone_some, Option.isNone_none, Bool.not_true, Bool.not_false, Nat.zero_add, upd_get, start_get, List.getD_cons_zero, List.getD_cons_succ, if_true, if_false, Int.reduceBEq, Int.reduceBNe, beq_self_eq_true, reduceIte, Nat.reduceEqDiff, hc2, valL]
  refine ⟨fun m e w' => e 16 = vi 0 ∧ e 17 = vi 0 ∧ w' = w2, 0, ⟨rfl, rfl, rfl⟩, ?_⟩
  rintro m e w' ⟨g7, g8, rfl⟩
  have hlt : decide ((0 : Int) < 0) = false := rfl
  simp only [atDrew_eq, nilK_ptr, nilK_fn, fieldA_at, load1_at, orRd_some, optK_some, pickK_true, pickK_false, gopK_tt, gopK_ff, gopK_tf, gopK_ft, gopK_undef, gqK_tt, gqK_ff, gqK_tf, gqK_ft, gqK_undef, condK_true, condK_false, unK_not, binI_eql, binI_neq, binI_lss, binI_leq, binI_gtr, binI_geq, binI_add, binI_sub, binI_mul, binP_eql_none, binP_neq_none, binM_eql_none, binM_neq_none, binL_eql_none, lenL_at, convI_at, extractK_at, Option.bind_some, List.getElem?_cons_zero, List.getElem?_cons_succ, Option.isNone_some, Option.isNone_none, Bool.not_true, Bool.not_false, Nat.zero_add, g7, g8, hlt]
  exact hk w' (he1.trans he2)

theorem refs_c {c m r : Int} (hv : flatV c m r) (hk : ∀ w', Ext w w' → k noList w') : callOn prog fn_value_Refs #[valV c m r] w k := by
  apply F_value_Refs_on
  unfold F_value_Refs
  refine box_intro fun b1 w1 he1 _ hl1 hc1 => ?_
  have hc1 : cellsOf w1 b1 = some (valL c m r) := hc1
  refine alloc_intro fun b3 w2 he2 hl2 _ hc2 => ?_
  have hc2 : cellsOf w2 b3 = some [noList] := hc2
  refine loadN_intro (he2.cells hc1 id) (by simp [valL]) ?_
  refine may_c hv fun w3 he3 => ?_
  simp only [atDrew_eq, nilK_ptr, nilK_fn, fieldA_at, load1_at, orRd_some, optK_some, pickK_true, pickK_false, gopK_tt, gopK_ff, gopK_tf, gopK_ft, gopK_undef, gqK_tt, gqK_ff, gqK_tf, gqK_ft, gqK_undef, condK_true, condK_false, unK_not, binI_eql, binI_neq, binI_lss, binI_leq, binI_gtr, binI_geq, binI_add, binI_sub, binI_mul, binP_eql_none, binP_neq_none, binM_eql_none, binM_neq_none, binL_eql_none, lenL_at, convI_at, extractK_at, Option.bind_some, List.getElem?_cons_zero, List.getElem?_cons_succ, Option.isNone_some, Option.isNone_none, Bool.not_true, Bool.not_false, Nat.zero_add, upd_get, start_get, List.getD_cons_zero, List.getD_cons_succ, if_true, if_false, Int.reduceBEq, Int.reduceBNe, beq_self_eq_true, reduceIte, Nat.reduceEqDiff]
  refine loadN_intro ((he2.trans he3).cells hc1 id) (by simp [valL]) ?_
  refine walk_c (b := b3) hv fun w4 he4 => ?_
  simp only [atDrew_eq, nilK_ptr, nilK_fn, fieldA_at, load1_at, orRd_some, optK_some, pickK_true, pickK_false, gopK_tt, gopK_ff, gopK_tf, gopK_ft, gopK_undef, gqK_tt, gqK_ff, gqK_tf, gqK_ft, gqK_undef, condK_true, condK_false, unK_not, binI_eql, binI_neq, binI_lss, binI_leq, binI_gtr, binI_geq, binI_add, binI_sub, binI_mul, binP_eql_none, binP_neq_none, binM_eql_none, binM_neq_none, binL_eql_none, lenL_at, convI_at, extractK_at, Option.bind_some, List.getElem?_cons_zero, List.getElem?_cons_succ, Option.isNone_some, Option.isNone_none, Bool.not_true, Bool.not_false, Nat.zero_add, upd_get, start_get, List.getD_cons_zero, List.getD_cons_succ, if_true, if_false, Int.reduceBEq, Int.reduceBNe, beq_self_eq_true, reduceIte, Nat.reduceEqDiff, (he3.trans he4).cells hc2 id]
  exact hk w4 ((he1.trans he2).trans (he3.trans he4))

/-- a thing that has a plain value -/
def Plain (x : Wh) : Prop := ((x.vk = 0 ∧ x.vn = 0) ∨ x.vk = 1) ∧ x.vr = 0

theorem Plain.flat {x : Wh} (h : Plain x) : flatV x.vk x.vn x.vr := ⟨h.1.elim .inl fun h => .inr (.inl h), h.2⟩

theorem whCells_val (x : Wh) : ((whCells x).drop 2).take 5 = valL x.vk x.vn x.vr := rfl

theorem held_c {x : Wh} (hv : Plain x) (hk : ∀ w', Ext w w' → k noList w') : callOn prog fn_world_held #[whV x] w k := by
  apply F_world_held_on
  unfold F_world_held
  refine box_intro fun b1 w1 he1 _ hl1 hc1 => ?_
  have hc1 : cellsOf w1 b1 = some (whCells x) := hc1
  simp only [atDrew_eq, nilK_ptr, nilK_fn, fieldA_at, load1_at, orRd_some, optK_some, pickK_true, pickK_false, gopK_tt, gopK_ff, gopK_tf, gopK_ft, gopK_undef, gqK_tt, gqK_ff, gqK_tf, gqK_ft, gqK_undef, condK_true, condK_false, unK_not, binI_eql, binI_neq, binI_lss, binI_leq, binI_gtr, binI_geq, binI_add, binI_sub, binI_mul, binP_eql_none, binP_neq_none, binM_eql_none, binM_neq_none, binL_eql_none, lenL_at, convI_at, extractK_at, Option.bind_some, List.getElem?_cons_zero, List.getElem?_cons_succ, Option.isNone_some, Option.isNone_none, Bool.not_true, Bool.not_false, Nat.zero_add]
  refine loadN_intro hc1 (by simp [whCells]) ?_
  rw [whCells_val]
  refine refs_c hv.flat fun w2 he2 => ?_
  have hc2 := he2.cells hc1 id
  simp only [atDrew_eq, nilK_ptr, nilK_fn, fieldA_at, load1_at, orRd_some, optK_some, pickK_true, pickK_false, gopK_tt, gopK_ff, gopK_tf, gopK_ft, gopK_undef, gqK_tt, gqK_ff, gqK_tf, gqK_ft, gqK_undef, condK_true, condK_false, unK_not, binI_eql, binI_neq, binI_lss, binI_leq, binI_gtr, binI_geq, binI_add, binI_sub, binI_mul, binP_eql_none, binP_neq_none, binM_eql_none, binM_neq_none, binL_eql_none, lenL_at, convI_at, extractK_at, Option.bind_some, List.getElem?_cons_zero, List.getElem?_cons_succ, Option.isNone_some, Option.isNone_none, Bool.not_true, Bool.not_false, Nat.zero_add, upd_get, start_get, List.getD_cons_zero, List.getD_cons_succ, if_true, if_false, Int.reduceBEq, Int.reduceBNe, beq_self_eq_true, reduceIte, Nat.reduceEqDiff, hc2, whCells]
  refine ⟨fun m e w' => e 13 = vi 0 ∧ e 14 = vi 0 ∧ e 1 = ptr b1 ∧ e 3 = noList ∧ w' = w2, 0, ⟨rfl, rfl, rfl, rfl, rfl⟩, ?_⟩
  rintro m e w' ⟨g7, g8, g1, g3, rfl⟩
  have hlt : decide ((0 : Int) < 0) = false := rfl
  simp only [atDrew_eq, nilK_ptr, nilK_fn, fieldA_at, load1_at, orRd_some, optK_some, pickK_true, pickK_false, gopK_tt, gopK_ff, gopK_tf, gopK_ft, gopK_undef, gqK_tt, gqK_ff, gqK_tf, gqK_ft, gqK_undef, condK_true, condK_false, unK_not, binI_eql, binI_neq, binI_lss, binI_leq, binI_gtr, binI_geq, binI_add, binI_sub, binI_mul, binP_eql_none, binP_neq_none, binM_eql_none, binM_neq_none, binL_eql_none, lenL_at, convI_at, extractK_at, Option.bind_some, List.getElem?_cons_zero, List.getElem?_cons_succ, Option.isNone_some, Option.isNone_none, Bool.not_true, Bool.not_false, Nat.zero_add, upd_get, start_get, List.getD_cons_zero, List.getD_cons_succ, if_true, if_false, Int.reduceBEq, Int.reduceBNe, beq_self_eq_true, reduceIte, Nat.reduceEqDiff, g7, g8, hlt, g1, g3, hc2, whCells]
  refine ⟨fun m e w'' => e 25 = vi 0 ∧ e 26 = vi 0 ∧ e 3 = noList ∧ w'' = w', 0, ⟨rfl, rfl, by simp only [atDrew_eq, nilK_ptr, nilK_fn, fieldA_at, load1_at, orRd_some, optK_some, pickK_true, pickK_false, gopK_tt, gopK_ff, gopK_tf, gopK_ft, gopK_undef, gqK_tt, gqK_ff, gqK_tf, gqK_ft, gqK_undef, condK_true, condK_false, unK_not, binI_eql, binI_neq, binI_lss, binI_leq, binI_gtr, binI_geq, binI_add, binI_sub, binI_mul, binP_eql_none, binP_neq_none, binM_eql_none, binM_neq_none, binL_eql_none, lenL_at, convI_at, extractK_at, Option.bind_some, List.getElem?_cons_zero, List.getElem?_cons_succ, Option.isNone_some, Option.isNone_none, Bool.not_true, Bool.not_false, Nat.zero_add, upd_get, start_get, List.getD_cons_zero, List.getD_cons_succ, if_true, if_false, Int.reduceBEq, Int.reduceBNe, beq_self_eq_true, reduceIte, Nat.reduceEqDiff, g3], rfl⟩, ?_⟩
  rintro m e w'' ⟨g7, g8, g3, rfl⟩
  simp only [atDrew_eq, nilK_ptr, nilK_fn, fieldA_at, load1_at, orRd_some, optK_some, pickK_true, pickK_false, gopK_tt, gopK_ff, gopK_tf, gopK_ft, gopK_undef, gqK_tt, gqK_ff, gqK_tf, gqK_ft, gqK_undef, condK_true, condK_false, unK_not, binI_eql, binI_neq, binI_lss, binI_leq, binI_gtr, binI_geq, binI_add, binI_sub, binI_mul, binP_eql_none, binP_neq_none, binM_eql_none, binM_neq_none, binL_eql_none, lenL_at, convI_at, extractK_at, Option.bind_some, List.getElem?_cons_zero, List.getElem?_cons_succ, Option.isNone_some, Option.isNone_none, Bool.not_true, Bool.not_false, Nat.zero_add, upd_get, start_get, List.getD_cons_zero, List.getD_cons_succ, if_true, if_false, Int.reduceBEq, Int.reduceBNe, beq_self_eq_true, reduceIte, Nat.reduceEqDiff, g7, g8, hlt, g3]
  exact hk w'' (he1.trans he2)

theorem indexFuncR_none {f : Value} (hk : k (vi (-1)) w) : callOn prog fn_slices_IndexFunc_Ref #[noList, f] w k := by
  apply F_slices_IndexFunc_Ref_on
  unfold F_slices_IndexFunc_Ref
  simp only [atDrew_eq, nilK_ptr, nilK_fn, fieldA_at, load1_at, orRd_some, optK_some, pickK_true, pickK_false, gopK_tt, gopK_ff, gopK_tf, gopK_ft, gopK_undef, gqK_tt, gqK_ff, gqK_tf, gqK_ft, gqK_undef, condK_true, condK_false, unK_not, binI_eql, binI_neq, binI_lss, binI_leq, binI_gtr, binI_geq, binI_add, binI_sub, binI_mul, binP_eql_none, binP_neq_none, binM_eql_none, binM_neq_none, binL_eql_none, lenL_at, convI_at, extractK_at, Option.bind_some, List.getElem?_cons_zero, List.getElem?_cons_succ, Option.isNone_some, Option.isNone_none, Bool.not_true, Bool.not_false, Nat.zero_add]
  refine ⟨fun m e w' => e 7 = vi 0 ∧ e 8 = vi 0 ∧ w' = w, 0, ⟨rfl, rfl, rfl⟩, ?_⟩
  rintro m e w' ⟨g7, g8, rfl⟩
  have hlt : decide ((0 : Int) < 0) = false := rfl
  simp only [atDrew_eq, nilK_ptr, nilK_fn, fieldA_at, load1_at, orRd_some, optK_some, pickK_true, pickK_false, gopK_tt, gopK_ff, gopK_tf, gopK_ft, gopK_undef, gqK_tt, gqK_ff, gqK_tf, gqK_ft, gqK_undef, condK_true, condK_false, unK_not, binI_eql, binI_neq, binI_lss, binI_leq, binI_gtr, binI_geq, binI_add, binI_sub, binI_mul, binP_eql_none, binP_neq_none, binM_eql_none, binM_neq_none, binL_eql_none, lenL_at, convI_at, extractK_at, Option.bind_some, List.getElem?_cons_zero, List.getElem?_cons_succ, Option.isNone_some, Option.isNone_none, Bool.not_true, Bool.not_false, Nat.zero_add, g7, g8, hlt]
  exact hk

theorem names_c {x : Wh} {p : Value} (hv : Plain x) (hk : ∀ w', Ext w w' → k (.bool true) w') : callOn prog fn_World_names #[p, whV x] w k := by
  apply F_World_names_on
  unfold F_World_names
  refine box_intro fun b2 w1 he1 _ hl1 hc1 => ?_
  refine box_intro fun b3 w2 he2 _ hl2 hc2 => ?_
  have hc2 : cellsOf w2 b3 = some (whCells x) := hc2
  refine loadN_intro hc2 (by simp [whCells]) ?_
  have : callOn prog fn_world_held #[whV x] w2 = callOn prog fn_world_held #[.agg ((whCells x).drop 0 |>.take 16).toArray] w2 := rfl
  rw [← this]
  refine held_c hv fun w3 he3 => ?_
  apply F_slices_ContainsFunc_Ref_on
  unfold F_slices_ContainsFunc_Ref
  refine indexFuncR_none ?_
  have hlt : decide ((-1 : Int) ≥ 0) = false := rfl
  simp only [atDrew_eq, nilK_ptr, nilK_fn, fieldA_at, load1_at, orRd_some, optK_some, pickK_true, pickK_false, gopK_tt, gopK_ff, gopK_tf, gopK_ft, gopK_undef, gqK_tt, gqK_ff, gqK_tf, gqK_ft, gqK_undef, condK_true, condK_false, unK_not, binI_eql, binI_neq, binI_lss, binI_leq, binI_gtr, binI_geq, binI_add, binI_sub, binI_mul, binP_eql_none, binP_neq_none, binM_eql_none, binM_neq_none, binL_eql_none, lenL_at, convI_at, extractK_at, Option.bind_some, List.getElem?_cons_zero, List.getElem?_cons_succ, Option.isNone_some, Option.isNone_none, Bool.not_true, Bool.not_false, Nat.zero_add, upd_get, start_get, List.getD_cons_zero, List.getD_cons_succ, if_true, if_false, Int.reduceBEq, Int.reduceBNe, beq_self_eq_true, reduceIte, Nat.reduceEqDiff, hlt, Bool.not_false]
  exact hk w3 ((he1.trans he2).trans he3)

theorem clone_Value_none (hk : k noList w) : callOn prog fn_slices_Clone_Value #[noList] w k := by
  apply F_slices_Clone_Value_on
  unfold F_slices_Clone_Value
  simp only [atDrew_eq, nilK_ptr, nilK_fn, fieldA_at, load1_at, orRd_some, optK_some, pickK_true, pickK_false, gopK_tt, gopK_ff, gopK_tf, gopK_ft, gopK_undef, gqK_tt, gqK_ff, gqK_tf, gqK_ft, gqK_undef, condK_true, condK_false, unK_not, binI_eql, binI_neq, binI_lss, binI_leq, binI_gtr, binI_geq, binI_add, binI_sub, binI_mul, binP_eql_none, binP_neq_none, binM_eql_none, binM_neq_none, binL_eql_none, lenL_at, convI_at, extractK_at, Option.bind_some, List.getElem?_cons_zero, List.getElem?_cons_succ, Option.isNone_some, Option.isNone_none, Bool.not_true, Bool.not_false, Nat.zero_add]
  exact hk
theorem clone_Name_none (hk : k noList w) : callOn prog fn_slices_Clone_Name #[noList] w k := by
  apply F_slices_Clone_Name_on
  unfold F_slices_Clone_Name
  simp only [atDrew_eq, nilK_ptr, nilK_fn, fieldA_at, load1_at, orRd_some, optK_some, pickK_true, pickK_false, gopK_tt, gopK_ff, gopK_tf, gopK_ft, gopK_undef, gqK_tt, gqK_ff, gqK_tf, gqK_ft, gqK_undef, condK_true, condK_false, unK_not, binI_eql, binI_neq, binI_lss, binI_leq, binI_gtr, binI_geq, binI_add, binI_sub, binI_mul, binP_eql_none, binP_neq_none, binM_eql_none, binM_neq_none, binL_eql_none, lenL_at, convI_at, extractK_at, Option.bind_some, List.getElem?_cons_zero, List.getElem?_cons_succ, Option.isNone_some, Option.isNone_none, Bool.not_true, Bool.not_false, Nat.zero_add]
  exact hk
theorem clone_Stmt_none (hk : k noList w) : callOn prog fn_slices_Clone_Stmt #[noList] w k := by
  apply F_slices_Clone_Stmt_on
  unfold F_slices_Clone_Stmt
  simp only [atDrew_eq, nilK_ptr, nilK_fn, fieldA_at, load1_at, orRd_some, optK_some, pickK_true, pickK_false, gopK_tt, gopK_ff, gopK_tf, gopK_ft, gopK_undef, gqK_tt, gqK_ff, gqK_tf, gqK_ft, gqK_undef, condK_true, condK_false, unK_not, binI_eql, binI_neq, binI_lss, binI_leq, binI_gtr, binI_geq, binI_add, binI_sub, binI_mul, binP_eql_none, binP_neq_none, binM_eql_none, binM_neq_none, binL_eql_none, lenL_at, convI_at, extractK_at, Option.bind_some, List.getElem?_cons_zero, List.getElem?_cons_succ, Option.isNone_some, Option.isNone_none, Bool.not_true, Bool.not_false, Nat.zero_add]
  exact hk

theorem ownCode_none (hk : k noList w) : callOn prog fn_world_ownCode #[noList] w k := by
  apply F_world_ownCode_on
  unfold F_world_ownCode
  refine clone_Stmt_none ?_
  simp only [atDrew_eq, nilK_ptr, nilK_fn, fieldA_at, load1_at, orRd_some, optK_some, pickK_true, pickK_false, gopK_tt, gopK_ff, gopK_tf, gopK_ft, gopK_undef, gqK_tt, gqK_ff, gqK_tf, gqK_ft, gqK_undef, condK_true, condK_false, unK_not, binI_eql, binI_neq, binI_lss, binI_leq, binI_gtr, binI_geq, binI_add, binI_sub, binI_mul, binP_eql_none, binP_neq_none, binM_eql_none, binM_neq_none, binL_eql_none, lenL_at, convI_at, extractK_at, Option.bind_some, List.getElem?_cons_zero, List.getElem?_cons_succ, Option.isNone_some, Option.isNone_none, Bool.not_true, Bool.not_false, Nat.zero_add, upd_get, start_get, List.getD_cons_zero, List.getD_cons_succ, if_true, if_false, Int.reduceBEq, Int.reduceBNe, beq_self_eq_true, reduceIte, Nat.reduceEqDiff]
  refine ⟨fun m e w' => e 8 = vi 0 ∧ e 9 = vi 0 ∧ e 0 = noList ∧ w' = w, 0, ⟨rfl, rfl, rfl, rfl⟩, ?_⟩
  rintro m e w' ⟨g7, g8, g0, rfl⟩
  have hlt : decide ((0 : Int) < 0) = false := rfl
  simp only [atDrew_eq, nilK_ptr, nilK_fn, fieldA_at, load1_at, orRd_some, optK_some, pickK_true, pickK_false, gopK_tt, gopK_ff, gopK_tf, gopK_ft, gopK_undef, gqK_tt, gqK_ff, gqK_tf, gqK_ft, gqK_undef, condK_true, condK_false, unK_not, binI_eql, binI_neq, binI_lss, binI_leq, binI_gtr, binI_geq, binI_add, binI_sub, binI_mul, binP_eql_none, binP_neq_none, binM_eql_none, binM_neq_none, binL_eql_none, lenL_at, convI_at, extractK_at, Option.bind_some, List.getElem?_cons_zero, List.getElem?_cons_succ, Option.isNone_some, Option.isNone_none, Bool.not_true, Bool.not_false, Nat.zero_add, g7, g8, hlt, g0]
  exact hk

theorem whV_take (x : Wh) : Value.agg (((whCells x).drop 0).take 16).toArray = whV x := rfl

theorem ownWhat_c {x : Wh} (hv : Plain x) (hk : ∀ w', Ext w w' → k (whV x) w') : callOn prog fn_world_ownWhat #[whV x] w k := by
  apply F_world_ownWhat_on
  unfold F_world_ownWhat
  refine box_intro fun b1 w1 he1 _ hl1 hc1 => ?_
  have hc1 : cellsOf w1 b1 = some (whCells x) := hc1
  refine alloc_intro fun b2 w2 he2 hl2 _ hc2 => ?_
  have hc12 := he2.cells hc1 id
  have hg1 := he1.size
  simp only [atDrew_eq, nilK_ptr, nilK_fn, fieldA_at, load1_at, orRd_some, optK_some, pickK_true, pickK_false, gopK_tt, gopK_ff, gopK_tf, gopK_ft, gopK_undef, gqK_tt, gqK_ff, gqK_tf, gqK_ft, gqK_undef, condK_true, condK_false, unK_not, binI_eql, binI_neq, binI_lss, binI_leq, binI_gtr, binI_geq, binI_add, binI_sub, binI_mul, binP_eql_none, binP_neq_none, binM_eql_none, binM_neq_none, binL_eql_none, lenL_at, convI_at, extractK_at, Option.bind_some, List.getElem?_cons_zero, List.getElem?_cons_succ, Option.isNone_some, Option.isNone_none, Bool.not_true, Bool.not_false, Nat.zero_add]
  refine loadN_intro hc12 (by simp [whCells]) ?_
  rw [whCells_val]
  refine world_own_c hv.flat fun w3 he3 => ?_
  have hc13 := he3.cells hc12 id
  have h21 : b2 ≠ b1 := by omega
  refine storeN_intro (cs := valL x.vk x.vn x.vr) hc13 rfl (by simp [whCells]) (by simp [valL, Value.oneCell']) fun w4 hk4 hc14 _ => ?_
  have hc14 : cellsOf w4 b1 = some (whCells x) := hc14
  simp only [atDrew_eq, nilK_ptr, nilK_fn, fieldA_at, load1_at, orRd_some, optK_some, pickK_true, pickK_false, gopK_tt, gopK_ff, gopK_tf, gopK_ft, gopK_undef, gqK_tt, gqK_ff, gqK_tf, gqK_ft, gqK_undef, condK_true, condK_false, unK_not, binI_eql, binI_neq, binI_lss, binI_leq, binI_gtr, binI_geq, binI_add, binI_sub, binI_mul, binP_eql_none, binP_neq_none, binM_eql_none, binM_neq_none, binL_eql_none, lenL_at, convI_at, extractK_at, Option.bind_some, List.getElem?_cons_zero, List.getElem?_cons_succ, Option.isNone_some, Option.isNone_none, Bool.not_true, Bool.not_false, Nat.zero_add, hc14, whCells]
  refine clone_Value_none ?_
  refine store1_intro hc14 (by simp [whCells]) rfl fun w5 hk5 hc15 _ => ?_
  have hc15 : cellsOf w5 b1 = some (whCells x) := hc15
  simp only [atDrew_eq, nilK_ptr, nilK_fn, fieldA_at, load1_at, orRd_some, optK_some, pickK_true, pickK_false, gopK_tt, gopK_ff, gopK_tf, gopK_ft, gopK_undef, gqK_tt, gqK_ff, gqK_tf, gqK_ft, gqK_undef, condK_true, condK_false, unK_not, binI_eql, binI_neq, binI_lss, binI_leq, binI_gtr, binI_geq, binI_add, binI_sub, binI_mul, binP_eql_none, binP_neq_none, binM_eql_none, binM_neq_none, binL_eql_none, lenL_at, convI_at, extractK_at, Option.bind_some, List.getElem?_cons_zero, List.getElem?_cons_succ, Option.isNone_some, Option.isNone_none, Bool.not_true, Bool.not_false, Nat.zero_add, upd_get, start_get, List.getD_cons_zero, List.getD_cons_succ, if_true, if_false, Int.reduceBEq, Int.reduceBNe, beq_self_eq_true, reduceIte, Nat.reduceEqDiff, hc15, whCells]
  have hK5 : Ext w w5 := (((he1.trans he2).trans he3).trans' hk4 fun y hy e => by omega).trans' hk5 fun y hy e => by omega
  have hc25 := hk5.cells (hk4.cells (he3.cells hc2 id) h21) h21
  have hlt : decide ((0 : Int) < 0) = false := rfl
  refine ⟨fun m e w' => e 17 = vi 0 ∧ e 18 = vi 0 ∧ e 1 = ptr b1 ∧ e 2 = ptr b2 ∧ w' = w5, 0, ⟨rfl, rfl, rfl, rfl, rfl⟩, ?_⟩
  rintro m e w' ⟨g7, g8, g1, g2, rfl⟩
  simp only [atDrew_eq, nilK_ptr, nilK_fn, fieldA_at, load1_at, orRd_some, optK_some, pickK_true, pickK_false, gopK_tt, gopK_ff, gopK_tf, gopK_ft, gopK_undef, gqK_tt, gqK_ff, gqK_tf, gqK_ft, gqK_undef, condK_true, condK_false, unK_not, binI_eql, binI_neq, binI_lss, binI_leq, binI_gtr, binI_geq, binI_add, binI_sub, binI_mul, binP_eql_none, binP_neq_none, binM_eql_none, binM_neq_none, binL_eql_none, lenL_at, convI_at, extractK_at, Option.bind_some, List.getElem?_cons_zero, List.getElem?_cons_succ, Option.isNone_some, Option.isNone_none, Bool.not_true, Bool.not_false, Nat.zero_add, upd_get, start_get, List.getD_cons_zero, List.getD_cons_succ, if_true, if_false, Int.reduceBEq, Int.reduceBNe, beq_self_eq_true, reduceIte, Nat.reduceEqDiff, g7, g8, g1, g2, hlt, hc15, whCells]
  refine clone_Name_none ?_
  refine store1_intro hc15 (by simp [whCells]) rfl fun w6 hk6 hc16 _ => ?_
  have hc16 : cellsOf w6 b1 = some (whCells x) := hc16
  simp only [atDrew_eq, nilK_ptr, nilK_fn, fieldA_at, load1_at, orRd_some, optK_some, pickK_true, pickK_false, gopK_tt, gopK_ff, gopK_tf, gopK_ft, gopK_undef, gqK_tt, gqK_ff, gqK_tf, gqK_ft, gqK_undef, condK_true, condK_false, unK_not, binI_eql, binI_neq, binI_lss, binI_leq, binI_gtr, binI_geq, binI_add, binI_sub, binI_mul, binP_eql_none, binP_neq_none, binM_eql_none, binM_neq_none, binL_eql_none, lenL_at, convI_at, extractK_at, Option.bind_some, List.getElem?_cons_zero, List.getElem?_cons_succ, Option.isNone_some, Option.isNone_none, Bool.not_true, Bool.not_false, Nat.zero_add, upd_get, start_get, List.getD_cons_zero, List.getD_cons_succ, if_true, if_false, Int.reduceBEq, Int.reduceBNe, beq_self_eq_true, reduceIte, Nat.reduceEqDiff, hc16, whCells]
  refine ⟨fun m e w' => e 36 = vi 0 ∧ e 37 = vi 0 ∧ e 1 = ptr b1 ∧ e 2 = ptr b2 ∧ w' = w6, 0, ⟨rfl, rfl, by simp only [atDrew_eq, nilK_ptr, nilK_fn, fieldA_at, load1_at, orRd_some, optK_some, pickK_true, pickK_false, gopK_tt, gopK_ff, gopK_tf, gopK_ft, gopK_undef, gqK_tt, gqK_ff, gqK_tf, gqK_ft, gqK_undef, condK_true, condK_false, unK_not, binI_eql, binI_neq, binI_lss, binI_leq, binI_gtr, binI_geq, binI_add, binI_sub, binI_mul, binP_eql_none, binP_neq_none, binM_eql_none, binM_neq_none, binL_eql_none, lenL_at, convI_at, extractK_at, Option.bind_some, List.getElem?_cons_zero, List.getElem?_cons_succ, Option.isNone_some, Option.isNone_none, Bool.not_true, Bool.not_false, Nat.zero_add, upd_get, start_get, List.getD_cons_zero, List.getD_cons_succ, if_true, if_false, Int.reduceBEq, Int.reduceBNe, beq_self_eq_true, reduceIte, Nat.reduceEqDiff, g1], by simp only [atDrew_eq, nilK_ptr, nilK_fn, fieldA_at, load1_at, orRd_some, optK_some, pickK_true, pickK_false, gopK_tt, gopK_ff, gopK_tf, gopK_ft, gopK_undef, gqK_tt, gqK_ff, gqK_tf, gqK_ft, gqK_undef, condK_true, condK_false, unK_not, binI_eql, binI_neq, binI_lss, binI_leq, binI_gtr, binI_geq, binI_add, binI_sub, binI_mul, binP_eql_none, binP_neq_none, binM_eql_none, binM_neq_none, binL_eql_none, lenL_at, convI_at, extractK_at, Option.bind_some, List.getElem?_cons_zero, List.getElem?_cons_succ, Option.isNone_some, Option.isNone_none, Bool.not_true, Bool.not_false, Nat.zero_add, upd_get, start_get, List.getD_cons_zero, List.getD_cons_succ, if_true, if_false, Int.reduceBEq, Int.reduceBNe, beq_self_eq_true, reduceIte, Nat.reduceEqDiff, g2], rfl⟩, ?_⟩
  rintro m e w'' ⟨g7, g8, g1, g2, rfl⟩
  simp only [atDrew_eq, nilK_ptr, nilK_fn, fieldA_at, load1_at, orRd_some, optK_some, pickK_true, pickK_false, gopK_tt, gopK_ff, gopK_tf, gopK_ft, gopK_undef, gqK_tt, gqK_ff, gqK_tf, gqK_ft, gqK_undef, condK_true, condK_false, unK_not, binI_eql, binI_neq, binI_lss, binI_leq, binI_gtr, binI_geq, binI_add, binI_sub, binI_mul, binP_eql_none, binP_neq_none, binM_eql_none, binM_neq_none, binL_eql_none, lenL_at, convI_at, extractK_at, Option.bind_some, List.getElem?_cons_zero, List.getElem?_cons_succ, Option.isNone_some, Option.isNone_none, Bool.not_true, Bool.not_false, Nat.zero_add, upd_get, start_get, List.getD_cons_zero, List.getD_cons_succ, if_true, if_false, Int.reduceBEq, Int.reduceBNe, beq_self_eq_true, reduceIte, Nat.reduceEqDiff, g7, g8, g1, g2, hlt, hc16, whCells]
  refine ownCode_none ?_
  refine store1_intro hc16 (by simp [whCells]) rfl fun w7 hk7 hc17 _ => ?_
  have hc17 : cellsOf w7 b1 = some (whCells x) := hc17
  refine loadN_intro hc17 (by simp [whCells]) ?_
  have hc27 := hk7.cells (hk6.cells hc25 h21) h21
  refine storeN_intro (cs := whCells x) hc27 rfl (by simp [Value.cells]) (by simp [whCells, Value.oneCell']) fun w8 hk8 hc28 _ => ?_
  refine loadN_intro (l := whCells x) hc28 (by simp [whCells]) ?_
  exact hk w8 (((hK5.trans' hk6 fun y hy e => by omega).trans' hk7 fun y hy e => by omega).trans' hk8 fun y hy e => by omega)
end
end Go.X
