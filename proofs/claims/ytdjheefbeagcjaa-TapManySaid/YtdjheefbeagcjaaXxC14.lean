/- Contracts: what a kind names, and the form of a thing. -/
import Derived.Test.YtdjheefbeagcjaaXxC13
set_option linter.unusedSimpArgs false
set_option linter.unusedVariables false
set_option maxRecDepth 20000
set_option maxHeartbeats 1000000
namespace Go.X
open Go Go.AW

def bareW (x : Wh) : Wh :=
  let z := { Wh.zero with kind := x.kind, home := x.home }
  if x.kind = 1 then { z with vk := x.vk, vn := x.vn, vr := x.vr }
  else if x.kind = 3 then { z with n := x.n }
  else if x.kind = 6 ∨ x.kind = 11 then { z with of := x.of }
  else if x.kind = 7 then { z with of := x.of, vk := x.vk, vn := x.vn, vr := x.vr }
  else if x.kind = 8 then { z with n := x.n, lost := x.lost }
  else if x.kind = 9 then { z with of := x.of, n := x.n }
  else if x.kind = 10 then { z with full := x.full, vk := x.vk, vn := x.vn, vr := x.vr }
  else if x.kind = 13 then { z with full := x.full, of := x.of }
  else if x.kind = 15 ∨ x.kind = 16 then { z with of := x.of, by_ := x.by_ }
  else if x.kind = 14 then { Wh.zero with kind := x.kind, of := x.of, set := x.set }
  else z

theorem over_all {l cs : List Value} (h : cs.length = l.length) : over l 0 cs = cs := by
  rw [over_eq cs l 0 (by omega)]
  simp only [List.take_zero, List.nil_append, Nat.zero_add, h, List.drop_length, List.append_nil]

section
variable {w : World} {L : Lay} {a : AW} {k : Value → World → Prop}

theorem buildS_kh (n h : Int) (q : Value → Prop) : buildS (whV Wh.zero) [(0, 1), (1, 1), (2, 5), (7, 1), (8, 1), (9, 1), (10, 1), (11, 1), (12, 1), (13, 1), (14, 1), (15, 1)] [(0, vb n), (1, vi h)] q = q (whV { Wh.zero with kind := n, home := h }) := by kernel_rfl
theorem buildS_facet (n o s : Int) (q : Value → Prop) : buildS (whV Wh.zero) [(0, 1), (1, 1), (2, 5), (7, 1), (8, 1), (9, 1), (10, 1), (11, 1), (12, 1), (13, 1), (14, 1), (15, 1)] [(0, vb n), (6, vi o), (8, vb s)] q = q (whV { Wh.zero with kind := n, of := o, set := s }) := by kernel_rfl

theorem bare_c (x : Wh) (hk : ∀ w', Ext w w' → k (whV (bareW x)) w') : callOn prog fn_world_bare #[whV x] w k := by
  apply F_world_bare_on
  unfold F_world_bare
  refine box_intro fun b1 w1 he1 hg1 hl1 hc1 => ?_
  have hc1 : cellsOf w1 b1 = some (whCells x) := hc1
  refine alloc_intro fun b2 w2 he2 hg2 hl2 hc2 => ?_
  have hc2 : cellsOf w2 b2 = some (whCells Wh.zero) := hc2
  have hc12 := he2.cells hc1 id
  simp only [atDrew_eq, nilK_ptr, nilK_fn, fieldA_at, load1_at, orRd_some, optK_some, pickK_true, pickK_false, gopK_tt, gopK_ff, gopK_tf, gopK_ft, gopK_undef, gqK_tt, gqK_ff, gqK_tf, gqK_ft, gqK_undef, condK_true, condK_false, unK_not, binI_eql, binI_neq, binI_lss, binI_leq, binI_gtr, binI_geq, binI_add, binI_sub, binI_mul, binP_eql_none, binP_neq_none, binM_eql_none, binM_neq_none, binL_eql_none, lenL_at, convI_at, extractK_at, Option.bind_some, List.getElem?_cons_zero, List.getElem?_cons_succ, Option.isNone_some, Option.isNone_none, Bool.not_true, Bool.not_false, Nat.zero_add, hc12, whCells]
  rw [show Value.agg #[Value.int .u8 0, Value.int .i64 0, Value.int .u8 0, Value.int .i64 0, Value.string { data := #[] }, Value.slice none 0 0, Value.int .i64 0, Value.slice none 0 0, Value.int .i64 0, Value.int .i64 0, Value.int .i64 0, Value.int .i64 0, Value.int .u8 0, Value.bool false, Value.slice none 0 0, Value.slice none 0 0] = whV Wh.zero from rfl]
  rw [buildS_kh]
  refine alloc_intro fun b3 w3 he3 hg3 hl3 hc3 => ?_
  have hc3 : cellsOf w3 b3 = some (whCells Wh.zero) := hc3
  refine storeN_intro (cs := whCells { Wh.zero with kind := x.kind, home := x.home }) hc3 rfl (by simp [whCells]) (by simp [whCells, Value.oneCell']) fun w4 hk4 hc34 _ => ?_
  rw [over_all (by simp [whCells])] at hc34
  have hc34 : cellsOf w4 b3 = some (whCells { Wh.zero with kind := x.kind, home := x.home }) := hc34
  have h13 : b1 ≠ b3 := by have := lt_of_cells hc12; omega
  have h23 : b2 ≠ b3 := by omega
  have hs1 := he1.size
  have hs2 := he2.size
  have hc14 : cellsOf w4 b1 = some (whCells x) := hk4.cells (he3.cells hc12 id) h13
  have hc24 : cellsOf w4 b2 = some (whCells Wh.zero) := hk4.cells (he3.cells hc2 id) h23
  have hK4 : Ext w w4 := ((he1.trans he2).trans he3).trans' hk4 fun y hy e => by omega
  simp only [atDrew_eq, nilK_ptr, nilK_fn, fieldA_at, load1_at, orRd_some, optK_some, pickK_true, pickK_false, gopK_tt, gopK_ff, gopK_tf, gopK_ft, gopK_undef, gqK_tt, gqK_ff, gqK_tf, gqK_ft, gqK_undef, condK_true, condK_false, unK_not, binI_eql, binI_neq, binI_lss, binI_leq, binI_gtr, binI_geq, binI_add, binI_sub, binI_mul, binP_eql_none, binP_neq_none, binM_eql_none, binM_neq_none, binL_eql_none, lenL_at, convI_at, extractK_at, Option.bind_some, List.getElem?_cons_zero, List.getElem?_cons_succ, Option.isNone_some, Option.isNone_none, Bool.not_true, Bool.not_false, Nat.zero_add, hc14, whCells]
  have fin : ∀ w', Ext w w' → cellsOf w' b3 = some (whCells (bareW x)) → cellsOf w' b2 = some (whCells Wh.zero) →
      loadN 16 (ptr b3) w' fun t99 => storeN 16 (ptr b2) t99 w' fun w => loadN 16 (ptr b2) w fun r1 => k r1 w := by
    intro w' hK h3 h2
    generalize bareW x = y at hk h3
    refine loadN_intro h3 (by simp [whCells]) ?_
    refine storeN_intro (cs := whCells y) h2 rfl (by simp [whCells]) (by simp [whCells, Value.oneCell']) fun w6 hk6 hc6 _ => ?_
    rw [over_all (by simp [whCells])] at hc6
    refine loadN_intro (l := whCells y) hc6 (by simp [whCells]) ?_
    exact hk w6 (hK.trans' hk6 fun y hy e => by omega)
  have one : ∀ {i : Nat} {v : Value} {y : Wh}, v.oneCell' = true → i < 16 → (whCells { Wh.zero with kind := x.kind, home := x.home }).set i v = whCells y → y = bareW x →
      storeN 1 (.pointer (some ⟨b3, i, none⟩)) v w4 fun w' => loadN 16 (ptr b3) w' fun t99 => storeN 16 (ptr b2) t99 w' fun w => loadN 16 (ptr b2) w fun r1 => k r1 w := by
    intro i v y hv hi hs hy
    refine store1_intro hc34 (by simpa [whCells] using hi) hv fun w5 hk5 hc35 _ => ?_
    rw [hs, hy] at hc35
    exact fin w5 (hK4.trans' hk5 fun y hy e => by omega) hc35 (hk5.cells hc24 h23)
  have two : ∀ {e : Env} {w' : World} {y : Wh}, e 2 = ptr b2 → e 3 = ptr b3 → Keeps (· = b3) w4.drew w' → cellsOf w' b3 = some (whCells y) → y = bareW x →
      loadN 16 (e 3) w' fun t99 => storeN 16 (e 2) t99 w' fun w => loadN 16 (e 2) w fun r1 => k r1 w := by
    intro e w' y g2 g3 hkp hc hy
    rw [g2, g3]
    rw [hy] at hc
    exact fin w' ((hK4.trans (Ext.drew w4)).trans' hkp fun y hy e => by omega) hc (hkp.cells ((Ext.drew w4).cells hc24 id) h23)
  have d1 := (Ext.drew w4).cells hc14 id
  have d3 := (Ext.drew w4).cells hc34 id
  obtain ⟨kind, home, vk, vn, vr, n, lost, of, by_, set, full⟩ := x
  simp only at *
  by_cases q1 : kind = 1
  · subst q1
    simp only [atDrew_eq, nilK_ptr, nilK_fn, fieldA_at, load1_at, orRd_some, optK_some, pickK_true, pickK_false, gopK_tt, gopK_ff, gopK_tf, gopK_ft, gopK_undef, gqK_tt, gqK_ff, gqK_tf, gqK_ft, gqK_undef, condK_true, condK_false, unK_not, binI_eql, binI_neq, binI_lss, binI_leq, binI_gtr, binI_geq, binI_add, binI_sub, binI_mul, binP_eql_none, binP_neq_none, binM_eql_none, binM_neq_none, binL_eql_none, lenL_at, convI_at, extractK_at, Option.bind_some, List.getElem?_cons_zero, List.getElem?_cons_succ, Option.isNone_some, Option.isNone_none, Bool.not_true, Bool.not_false, Nat.zero_add, upd_get, start_get, List.getD_cons_zero, List.getD_cons_succ, if_true, if_false, Int.reduceBEq, Int.reduceBNe, beq_self_eq_true, reduceIte, Nat.reduceEqDiff, hc14, whCells]
    refine loadN_intro hc14 (by simp [whCells]) ?_
    refine storeN_intro (cs := valL vk vn vr) hc34 rfl (by simp [whCells]) (by simp [valL, Value.oneCell']) fun w5 hk5 hc35 _ => ?_
    exact fin w5 (hK4.trans' hk5 fun y hy e => by omega) hc35 (hk5.cells hc24 h23)
  by_cases q2 : kind = 2
  · subst q2
    simp only [atDrew_eq, nilK_ptr, nilK_fn, fieldA_at, load1_at, orRd_some, optK_some, pickK_true, pickK_false, gopK_tt, gopK_ff, gopK_tf, gopK_ft, gopK_undef, gqK_tt, gqK_ff, gqK_tf, gqK_ft, gqK_undef, condK_true, condK_false, unK_not, binI_eql, binI_neq, binI_lss, binI_leq, binI_gtr, binI_geq, binI_add, binI_sub, binI_mul, binP_eql_none, binP_neq_none, binM_eql_none, binM_neq_none, binL_eql_none, lenL_at, convI_at, extractK_at, Option.bind_some, List.getElem?_cons_zero, List.getElem?_cons_succ, Option.isNone_some, Option.isNone_none, Bool.not_true, Bool.not_false, Nat.zero_add, upd_get, start_get, List.getD_cons_zero, List.getD_cons_succ, if_true, if_false, Int.reduceBEq, Int.reduceBNe, beq_self_eq_true, reduceIte, Nat.reduceEqDiff, hc14, whCells]
    exact one (y := ⟨2, home, 0, 0, 0, 0, 0, 0, 0, 0, false⟩) rfl (by omega) rfl rfl
  by_cases q4 : kind = 4
  · subst q4
    simp only [atDrew_eq, nilK_ptr, nilK_fn, fieldA_at, load1_at, orRd_some, optK_some, pickK_true, pickK_false, gopK_tt, gopK_ff, gopK_tf, gopK_ft, gopK_undef, gqK_tt, gqK_ff, gqK_tf, gqK_ft, gqK_undef, condK_true, condK_false, unK_not, binI_eql, binI_neq, binI_lss, binI_leq, binI_gtr, binI_geq, binI_add, binI_sub, binI_mul, binP_eql_none, binP_neq_none, binM_eql_none, binM_neq_none, binL_eql_none, lenL_at, convI_at, extractK_at, Option.bind_some, List.getElem?_cons_zero, List.getElem?_cons_succ, Option.isNone_some, Option.isNone_none, Bool.not_true, Bool.not_false, Nat.zero_add, upd_get, start_get, List.getD_cons_zero, List.getD_cons_succ, if_true, if_false, Int.reduceBEq, Int.reduceBNe, beq_self_eq_true, reduceIte, Nat.reduceEqDiff, hc14, whCells]
    exact one (y := ⟨4, home, 0, 0, 0, 0, 0, 0, 0, 0, false⟩) rfl (by omega) rfl rfl
  by_cases q3 : kind = 3
  · subst q3
    simp only [atDrew_eq, nilK_ptr, nilK_fn, fieldA_at, load1_at, orRd_some, optK_some, pickK_true, pickK_false, gopK_tt, gopK_ff, gopK_tf, gopK_ft, gopK_undef, gqK_tt, gqK_ff, gqK_tf, gqK_ft, gqK_undef, condK_true, condK_false, unK_not, binI_eql, binI_neq, binI_lss, binI_leq, binI_gtr, binI_geq, binI_add, binI_sub, binI_mul, binP_eql_none, binP_neq_none, binM_eql_none, binM_neq_none, binL_eql_none, lenL_at, convI_at, extractK_at, Option.bind_some, List.getElem?_cons_zero, List.getElem?_cons_succ, Option.isNone_some, Option.isNone_none, Bool.not_true, Bool.not_false, Nat.zero_add, upd_get, start_get, List.getD_cons_zero, List.getD_cons_succ, if_true, if_false, Int.reduceBEq, Int.reduceBNe, beq_self_eq_true, reduceIte, Nat.reduceEqDiff, hc14, whCells]
    exact one (y := ⟨3, home, 0, 0, 0, n, 0, 0, 0, 0, false⟩) rfl (by omega) rfl rfl
  by_cases q6 : kind = 6
  · subst q6
    simp only [atDrew_eq, nilK_ptr, nilK_fn, fieldA_at, load1_at, orRd_some, optK_some, pickK_true, pickK_false, gopK_tt, gopK_ff, gopK_tf, gopK_ft, gopK_undef, gqK_tt, gqK_ff, gqK_tf, gqK_ft, gqK_undef, condK_true, condK_false, unK_not, binI_eql, binI_neq, binI_lss, binI_leq, binI_gtr, binI_geq, binI_add, binI_sub, binI_mul, binP_eql_none, binP_neq_none, binM_eql_none, binM_neq_none, binL_eql_none, lenL_at, convI_at, extractK_at, Option.bind_some, List.getElem?_cons_zero, List.getElem?_cons_succ, Option.isNone_some, Option.isNone_none, Bool.not_true, Bool.not_false, Nat.zero_add, upd_get, start_get, List.getD_cons_zero, List.getD_cons_succ, if_true, if_false, Int.reduceBEq, Int.reduceBNe, beq_self_eq_true, reduceIte, Nat.reduceEqDiff, hc14, whCells]
    exact one (y := ⟨6, home, 0, 0, 0, 0, 0, of, 0, 0, false⟩) rfl (by omega) rfl rfl
  by_cases q11 : kind = 11
  · subst q11
    simp only [atDrew_eq, nilK_ptr, nilK_fn, fieldA_at, load1_at, orRd_some, optK_some, pickK_true, pickK_false, gopK_tt, gopK_ff, gopK_tf, gopK_ft, gopK_undef, gqK_tt, gqK_ff, gqK_tf, gqK_ft, gqK_undef, condK_true, condK_false, unK_not, binI_eql, binI_neq, binI_lss, binI_leq, binI_gtr, binI_geq, binI_add, binI_sub, binI_mul, binP_eql_none, binP_neq_none, binM_eql_none, binM_neq_none, binL_eql_none, lenL_at, convI_at, extractK_at, Option.bind_some, List.getElem?_cons_zero, List.getElem?_cons_succ, Option.isNone_some, Option.isNone_none, Bool.not_true, Bool.not_false, Nat.zero_add, upd_get, start_get, List.getD_cons_zero, List.getD_cons_succ, if_true, if_false, Int.reduceBEq, Int.reduceBNe, beq_self_eq_true, reduceIte, Nat.reduceEqDiff, hc14, whCells]
    exact one (y := ⟨11, home, 0, 0, 0, 0, 0, of, 0, 0, false⟩) rfl (by omega) rfl rfl
  by_cases q7 : kind = 7
  · subst q7
    simp only [atDrew_eq, nilK_ptr, nilK_fn, fieldA_at, load1_at, orRd_some, optK_some, pickK_true, pickK_false, gopK_tt, gopK_ff, gopK_tf, gopK_ft, gopK_undef, gqK_tt, gqK_ff, gqK_tf, gqK_ft, gqK_undef, condK_true, condK_false, unK_not, binI_eql, binI_neq, binI_lss, binI_leq, binI_gtr, binI_geq, binI_add, binI_sub, binI_mul, binP_eql_none, binP_neq_none, binM_eql_none, binM_neq_none, binL_eql_none, lenL_at, convI_at, extractK_at, Option.bind_some, List.getElem?_cons_zero, List.getElem?_cons_succ, Option.isNone_some, Option.isNone_none, Bool.not_true, Bool.not_false, Nat.zero_add, upd_get, start_get, List.getD_cons_zero, List.getD_cons_succ, if_true, if_false, Int.reduceBEq, Int.reduceBNe, beq_self_eq_true, reduceIte, Nat.reduceEqDiff, hc14, whCells]
    exact A_world_bare_R14_on (bare_R14 rfl rfl d1 d3 h13 fun e w' g1 g2 g3 hkp hc => two g2 g3 hkp hc rfl)
  by_cases q8 : kind = 8
  · subst q8
    simp only [atDrew_eq, nilK_ptr, nilK_fn, fieldA_at, load1_at, orRd_some, optK_some, pickK_true, pickK_false, gopK_tt, gopK_ff, gopK_tf, gopK_ft, gopK_undef, gqK_tt, gqK_ff, gqK_tf, gqK_ft, gqK_undef, condK_true, condK_false, unK_not, binI_eql, binI_neq, binI_lss, binI_leq, binI_gtr, binI_geq, binI_add, binI_sub, binI_mul, binP_eql_none, binP_neq_none, binM_eql_none, binM_neq_none, binL_eql_none, lenL_at, convI_at, extractK_at, Option.bind_some, List.getElem?_cons_zero, List.getElem?_cons_succ, Option.isNone_some, Option.isNone_none, Bool.not_true, Bool.not_false, Nat.zero_add, upd_get, start_get, List.getD_cons_zero, List.getD_cons_succ, if_true, if_false, Int.reduceBEq, Int.reduceBNe, beq_self_eq_true, reduceIte, Nat.reduceEqDiff, hc14, whCells]
    exact A_world_bare_R16_on (bare_R16 rfl rfl d1 d3 h13 fun e w' g1 g2 g3 hkp hc => two g2 g3 hkp hc rfl)
  by_cases q9 : kind = 9
  · subst q9
    simp only [atDrew_eq, nilK_ptr, nilK_fn, fieldA_at, load1_at, orRd_some, optK_some, pickK_true, pickK_false, gopK_tt, gopK_ff, gopK_tf, gopK_ft, gopK_undef, gqK_tt, gqK_ff, gqK_tf, gqK_ft, gqK_undef, condK_true, condK_false, unK_not, binI_eql, binI_neq, binI_lss, binI_leq, binI_gtr, binI_geq, binI_add, binI_sub, binI_mul, binP_eql_none, binP_neq_none, binM_eql_none, binM_neq_none, binL_eql_none, lenL_at, convI_at, extractK_at, Option.bind_some, List.getElem?_cons_zero, List.getElem?_cons_succ, Option.isNone_some, Option.isNone_none, Bool.not_true, Bool.not_false, Nat.zero_add, upd_get, start_get, List.getD_cons_zero, List.getD_cons_succ, if_true, if_false, Int.reduceBEq, Int.reduceBNe, beq_self_eq_true, reduceIte, Nat.reduceEqDiff, hc14, whCells]
    exact A_world_bare_R18_on (bare_R18 rfl rfl d1 d3 h13 fun e w' g1 g2 g3 hkp hc => two g2 g3 hkp hc rfl)
  by_cases q10 : kind = 10
  · subst q10
    simp only [atDrew_eq, nilK_ptr, nilK_fn, fieldA_at, load1_at, orRd_some, optK_some, pickK_true, pickK_false, gopK_tt, gopK_ff, gopK_tf, gopK_ft, gopK_undef, gqK_tt, gqK_ff, gqK_tf, gqK_ft, gqK_undef, condK_true, condK_false, unK_not, binI_eql, binI_neq, binI_lss, binI_leq, binI_gtr, binI_geq, binI_add, binI_sub, binI_mul, binP_eql_none, binP_neq_none, binM_eql_none, binM_neq_none, binL_eql_none, lenL_at, convI_at, extractK_at, Option.bind_some, List.getElem?_cons_zero, List.getElem?_cons_succ, Option.isNone_some, Option.isNone_none, Bool.not_true, Bool.not_false, Nat.zero_add, upd_get, start_get, List.getD_cons_zero, List.getD_cons_succ, if_true, if_false, Int.reduceBEq, Int.reduceBNe, beq_self_eq_true, reduceIte, Nat.reduceEqDiff, hc14, whCells]
    exact A_world_bare_R20_on (bare_R20 rfl rfl d1 d3 h13 fun e w' g1 g2 g3 hkp hc => two g2 g3 hkp hc rfl)
  by_cases q12 : kind = 12
  · subst q12
    simp only [atDrew_eq, nilK_ptr, nilK_fn, fieldA_at, load1_at, orRd_some, optK_some, pickK_true, pickK_false, gopK_tt, gopK_ff, gopK_tf, gopK_ft, gopK_undef, gqK_tt, gqK_ff, gqK_tf, gqK_ft, gqK_undef, condK_true, condK_false, unK_not, binI_eql, binI_neq, binI_lss, binI_leq, binI_gtr, binI_geq, binI_add, binI_sub, binI_mul, binP_eql_none, binP_neq_none, binM_eql_none, binM_neq_none, binL_eql_none, lenL_at, convI_at, extractK_at, Option.bind_some, List.getElem?_cons_zero, List.getElem?_cons_succ, Option.isNone_some, Option.isNone_none, Bool.not_true, Bool.not_false, Nat.zero_add, upd_get, start_get, List.getD_cons_zero, List.getD_cons_succ, if_true, if_false, Int.reduceBEq, Int.reduceBNe, beq_self_eq_true, reduceIte, Nat.reduceEqDiff, hc14, whCells]
    exact A_world_bare_R22_on (bare_R22 rfl rfl d1 d3 h13 fun e w' g1 g2 g3 hkp hc => two g2 g3 hkp hc rfl)
  by_cases q13 : kind = 13
  · subst q13
    simp only [atDrew_eq, nilK_ptr, nilK_fn, fieldA_at, load1_at, orRd_some, optK_some, pickK_true, pickK_false, gopK_tt, gopK_ff, gopK_tf, gopK_ft, gopK_undef, gqK_tt, gqK_ff, gqK_tf, gqK_ft, gqK_undef, condK_true, condK_false, unK_not, binI_eql, binI_neq, binI_lss, binI_leq, binI_gtr, binI_geq, binI_add, binI_sub, binI_mul, binP_eql_none, binP_neq_none, binM_eql_none, binM_neq_none, binL_eql_none, lenL_at, convI_at, extractK_at, Option.bind_some, List.getElem?_cons_zero, List.getElem?_cons_succ, Option.isNone_some, Option.isNone_none, Bool.not_true, Bool.not_false, Nat.zero_add, upd_get, start_get, List.getD_cons_zero, List.getD_cons_succ, if_true, if_false, Int.reduceBEq, Int.reduceBNe, beq_self_eq_true, reduceIte, Nat.reduceEqDiff, hc14, whCells]
    exact A_world_bare_R24_on (bare_R24 rfl rfl d1 d3 h13 fun e w' g1 g2 g3 hkp hc => two g2 g3 hkp hc rfl)
  by_cases q15 : kind = 15
  · subst q15
    simp only [atDrew_eq, nilK_ptr, nilK_fn, fieldA_at, load1_at, orRd_some, optK_some, pickK_true, pickK_false, gopK_tt, gopK_ff, gopK_tf, gopK_ft, gopK_undef, gqK_tt, gqK_ff, gqK_tf, gqK_ft, gqK_undef, condK_true, condK_false, unK_not, binI_eql, binI_neq, binI_lss, binI_leq, binI_gtr, binI_geq, binI_add, binI_sub, binI_mul, binP_eql_none, binP_neq_none, binM_eql_none, binM_neq_none, binL_eql_none, lenL_at, convI_at, extractK_at, Option.bind_some, List.getElem?_cons_zero, List.getElem?_cons_succ, Option.isNone_some, Option.isNone_none, Bool.not_true, Bool.not_false, Nat.zero_add, upd_get, start_get, List.getD_cons_zero, List.getD_cons_succ, if_true, if_false, Int.reduceBEq, Int.reduceBNe, beq_self_eq_true, reduceIte, Nat.reduceEqDiff, hc14, whCells]
    exact A_world_bare_R27_on (bare_R27 rfl rfl d1 d3 h13 fun e w' g1 g2 g3 hkp hc => two g2 g3 hkp hc rfl)
  by_cases q16 : kind = 16
  · subst q16
    simp only [atDrew_eq, nilK_ptr, nilK_fn, fieldA_at, load1_at, orRd_some, optK_some, pickK_true, pickK_false, gopK_tt, gopK_ff, gopK_tf, gopK_ft, gopK_undef, gqK_tt, gqK_ff, gqK_tf, gqK_ft, gqK_undef, condK_true, condK_false, unK_not, binI_eql, binI_neq, binI_lss, binI_leq, binI_gtr, binI_geq, binI_add, binI_sub, binI_mul, binP_eql_none, binP_neq_none, binM_eql_none, binM_neq_none, binL_eql_none, lenL_at, convI_at, extractK_at, Option.bind_some, List.getElem?_cons_zero, List.getElem?_cons_succ, Option.isNone_some, Option.isNone_none, Bool.not_true, Bool.not_false, Nat.zero_add, upd_get, start_get, List.getD_cons_zero, List.getD_cons_succ, if_true, if_false, Int.reduceBEq, Int.reduceBNe, beq_self_eq_true, reduceIte, Nat.reduceEqDiff, hc14, whCells]
    exact A_world_bare_R27_on (bare_R27 rfl rfl d1 d3 h13 fun e w' g1 g2 g3 hkp hc => two g2 g3 hkp hc rfl)
  by_cases q14 : kind = 14
  · subst q14
    simp only [atDrew_eq, nilK_ptr, nilK_fn, fieldA_at, load1_at, orRd_some, optK_some, pickK_true, pickK_false, gopK_tt, gopK_ff, gopK_tf, gopK_ft, gopK_undef, gqK_tt, gqK_ff, gqK_tf, gqK_ft, gqK_undef, condK_true, condK_false, unK_not, binI_eql, binI_neq, binI_lss, binI_leq, binI_gtr, binI_geq, binI_add, binI_sub, binI_mul, binP_eql_none, binP_neq_none, binM_eql_none, binM_neq_none, binL_eql_none, lenL_at, convI_at, extractK_at, Option.bind_some, List.getElem?_cons_zero, List.getElem?_cons_succ, Option.isNone_some, Option.isNone_none, Bool.not_true, Bool.not_false, Nat.zero_add, upd_get, start_get, List.getD_cons_zero, List.getD_cons_succ, if_true, if_false, Int.reduceBEq, Int.reduceBNe, beq_self_eq_true, reduceIte, Nat.reduceEqDiff, hc14, whCells]
    rw [buildS_facet]
    refine storeN_intro (cs := whCells ⟨14, 0, 0, 0, 0, 0, 0, of, 0, set, false⟩) hc34 rfl (by simp [whCells]) (by simp [whCells, Value.oneCell']) fun w5 hk5 hc35 _ => ?_
    exact fin w5 (hK4.trans' hk5 fun y hy e => by omega) hc35 (hk5.cells hc24 h23)
  · have n1 : (kind == 1) = false := by simpa using q1
    have n2 : (kind == 2) = false := by simpa using q2
    have n3 : (kind == 3) = false := by simpa using q3
    have n4 : (kind == 4) = false := by simpa using q4
    have n6 : (kind == 6) = false := by simpa using q6
    have n7 : (kind == 7) = false := by simpa using q7
    have n8 : (kind == 8) = false := by simpa using q8
    have n9 : (kind == 9) = false := by simpa using q9
    have n10 : (kind == 10) = false := by simpa using q10
    have n11 : (kind == 11) = false := by simpa using q11
    have n12 : (kind == 12) = false := by simpa using q12
    have n13 : (kind == 13) = false := by simpa using q13
    have n14 : (kind == 14) = false := by simpa using q14
    have n15 : (kind == 15) = false := by simpa using q15
    have n16 : (kind == 16) = false := by simpa using q16
    simp only [atDrew_eq, nilK_ptr, nilK_fn, fieldA_at, load1_at, orRd_some, optK_some, pickK_true, pickK_false, gopK_tt, gopK_ff, gopK_tf, gopK_ft, gopK_undef, gqK_tt, gqK_ff, gqK_tf, gqK_ft, gqK_undef, condK_true, condK_false, unK_not, binI_eql, binI_neq, binI_lss, binI_leq, binI_gtr, binI_geq, binI_add, binI_sub, binI_mul, binP_eql_none, binP_neq_none, binM_eql_none, binM_neq_none, binL_eql_none, lenL_at, convI_at, extractK_at, Option.bind_some, List.getElem?_cons_zero, List.getElem?_cons_succ, Option.isNone_some, Option.isNone_none, Bool.not_true, Bool.not_false, Nat.zero_add, upd_get, start_get, List.getD_cons_zero, List.getD_cons_succ, if_true, if_false, Int.reduceBEq, Int.reduceBNe, beq_self_eq_true, reduceIte, Nat.reduceEqDiff, hc14, whCells, n1, n2, n3, n4, n6, n7, n8, n9, n10, n11, n12, n13, n14, n15, n16]
    refine fin w4 hK4 ?_ hc24
    rw [hc34]
    simp [bareW, q1, q3, q6, q7, q8, q9, q10, q11, q13, q14, q15, q16]
end
end Go.X
