/- Texts of this family, put together. -/
import Derived.Test.YtdjheefbeagcjaaXxRep
import Derived.Test.YtdjheefbeagcjaaXxS1
/- Contracts of the world's small functions. -/
set_option linter.unusedSimpArgs false
set_option linter.unusedVariables false
namespace Go.X
open Go Go.AW

section
variable {w : World} {L : Lay} {a : AW} {k : Value → World → Prop}

theorem none_nil (hk : k (.bool true) w) : callOn prog fn_World_none #[.pointer none] w k := by
  apply F_World_none_on
  unfold F_World_none
  simp only [atDrew_eq, nilK_ptr, nilK_fn, fieldA_at, load1_at, orRd_some, optK_some, pickK_true, pickK_false, gopK_tt, gopK_ff, gopK_tf, gopK_ft, gopK_undef, gqK_tt, gqK_ff, gqK_tf, gqK_ft, gqK_undef, condK_true, condK_false, unK_not, binI_eql, binI_neq, binI_lss, binI_leq, binI_gtr, binI_geq, binI_add, binI_sub, binI_mul, binP_eql_none, binP_neq_none, binM_eql_none, binM_neq_none, binL_eql_none, lenL_at, convI_at, extractK_at, Option.bind_some, List.getElem?_cons_zero, List.getElem?_cons_succ, Option.isNone_some, Option.isNone_none, Bool.not_true, Bool.not_false, Nat.zero_add]
  exact hk

theorem none_c (h : WRep w L a) (hk : k (.bool false) w) : callOn prog fn_World_none #[ptr L.p] w k := by
  apply F_World_none_on
  unfold F_World_none
  simp only [atDrew_eq, nilK_ptr, nilK_fn, fieldA_at, load1_at, orRd_some, optK_some, pickK_true, pickK_false, gopK_tt, gopK_ff, gopK_tf, gopK_ft, gopK_undef, gqK_tt, gqK_ff, gqK_tf, gqK_ft, gqK_undef, condK_true, condK_false, unK_not, binI_eql, binI_neq, binI_lss, binI_leq, binI_gtr, binI_geq, binI_add, binI_sub, binI_mul, binP_eql_none, binP_neq_none, binM_eql_none, binM_neq_none, binL_eql_none, lenL_at, convI_at, extractK_at, Option.bind_some, List.getElem?_cons_zero, List.getElem?_cons_succ, Option.isNone_some, Option.isNone_none, Bool.not_true, Bool.not_false, Nat.zero_add, h.top]
  exact hk

theorem is_c (h : WRep w L a) (r : Int) (hk : k (.bool (a.is r)) w) : callOn prog fn_World_Is #[ptr L.p, vi r] w k := by
  apply F_World_Is_on
  unfold F_World_Is
  refine none_c h ?_
  simp only [atDrew_eq, nilK_ptr, nilK_fn, fieldA_at, load1_at, orRd_some, optK_some, pickK_true, pickK_false, gopK_tt, gopK_ff, gopK_tf, gopK_ft, gopK_undef, gqK_tt, gqK_ff, gqK_tf, gqK_ft, gqK_undef, condK_true, condK_false, unK_not, binI_eql, binI_neq, binI_lss, binI_leq, binI_gtr, binI_geq, binI_add, binI_sub, binI_mul, binP_eql_none, binP_neq_none, binM_eql_none, binM_neq_none, binL_eql_none, lenL_at, convI_at, extractK_at, Option.bind_some, List.getElem?_cons_zero, List.getElem?_cons_succ, Option.isNone_some, Option.isNone_none, Bool.not_true, Bool.not_false, Nat.zero_add, h.top]
  unfold AW.is at hk
  cases hr : a.at r with
  | none =>
    rw [hr] at hk
    simp only [h.look_none hr, Bool.false_eq_true, if_false, atDrew_eq, nilK_ptr, nilK_fn, fieldA_at, load1_at, orRd_some, optK_some, pickK_true, pickK_false, gopK_tt, gopK_ff, gopK_tf, gopK_ft, gopK_undef, gqK_tt, gqK_ff, gqK_tf, gqK_ft, gqK_undef, condK_true, condK_false, unK_not, binI_eql, binI_neq, binI_lss, binI_leq, binI_gtr, binI_geq, binI_add, binI_sub, binI_mul, binP_eql_none, binP_neq_none, binM_eql_none, binM_neq_none, binL_eql_none, lenL_at, convI_at, extractK_at, Option.bind_some, List.getElem?_cons_zero, List.getElem?_cons_succ, Option.isNone_some, Option.isNone_none, Bool.not_true, Bool.not_false, Nat.zero_add]
    exact hk
  | some x =>
    rw [hr] at hk
    simp only [h.look_some hr, Bool.false_eq_true, if_false, atDrew_eq, nilK_ptr, nilK_fn, fieldA_at, load1_at, orRd_some, optK_some, pickK_true, pickK_false, gopK_tt, gopK_ff, gopK_tf, gopK_ft, gopK_undef, gqK_tt, gqK_ff, gqK_tf, gqK_ft, gqK_undef, condK_true, condK_false, unK_not, binI_eql, binI_neq, binI_lss, binI_leq, binI_gtr, binI_geq, binI_add, binI_sub, binI_mul, binP_eql_none, binP_neq_none, binM_eql_none, binM_neq_none, binL_eql_none, lenL_at, convI_at, extractK_at, Option.bind_some, List.getElem?_cons_zero, List.getElem?_cons_succ, Option.isNone_some, Option.isNone_none, Bool.not_true, Bool.not_false, Nat.zero_add]
    exact hk

theorem kind_c (h : WRep w L a) (r : Int) (hk : k (vb (a.kind r)) w) : callOn prog fn_World_Kind #[ptr L.p, vi r] w k := by
  apply F_World_Kind_on
  unfold F_World_Kind
  refine is_c h r ?_
  unfold AW.is
  unfold AW.kind at hk
  cases hr : a.at r with
  | none =>
    rw [hr] at hk
    simp only [Option.isSome_none, atDrew_eq, nilK_ptr, nilK_fn, fieldA_at, load1_at, orRd_some, optK_some, pickK_true, pickK_false, gopK_tt, gopK_ff, gopK_tf, gopK_ft, gopK_undef, gqK_tt, gqK_ff, gqK_tf, gqK_ft, gqK_undef, condK_true, condK_false, unK_not, binI_eql, binI_neq, binI_lss, binI_leq, binI_gtr, binI_geq, binI_add, binI_sub, binI_mul, binP_eql_none, binP_neq_none, binM_eql_none, binM_neq_none, binL_eql_none, lenL_at, convI_at, extractK_at, Option.bind_some, List.getElem?_cons_zero, List.getElem?_cons_succ, Option.isNone_some, Option.isNone_none, Bool.not_true, Bool.not_false, Nat.zero_add]
    exact hk
  | some x =>
    rw [hr] at hk
    simp only [Option.isSome_some, atDrew_eq, nilK_ptr, nilK_fn, fieldA_at, load1_at, orRd_some, optK_some, pickK_true, pickK_false, gopK_tt, gopK_ff, gopK_tf, gopK_ft, gopK_undef, gqK_tt, gqK_ff, gqK_tf, gqK_ft, gqK_undef, condK_true, condK_false, unK_not, binI_eql, binI_neq, binI_lss, binI_leq, binI_gtr, binI_geq, binI_add, binI_sub, binI_mul, binP_eql_none, binP_neq_none, binM_eql_none, binM_neq_none, binL_eql_none, lenL_at, convI_at, extractK_at, Option.bind_some, List.getElem?_cons_zero, List.getElem?_cons_succ, Option.isNone_some, Option.isNone_none, Bool.not_true, Bool.not_false, Nat.zero_add, h.top, h.look_some hr, Bool.false_eq_true, if_false, h.cell hr, whCells]
    exact hk
end
end Go.X
/- Contracts: sides, edges, small questions, sets of abilities. -/
set_option linter.unusedSimpArgs false
set_option linter.unusedVariables false
namespace Go.X
open Go Go.AW

theorem drop_take_set {c l : List Value} {i n m : Nat} {x : Value} (ht : (c.drop i).take n = l) (hm : m < l.length) (hc : i + m < c.length) :
    ((c.set (i + m) x).drop i).take n = l.set m x := by
  subst ht
  apply List.ext_getElem?
  intro q
  by_cases hq : q < n
  · simp only [List.getElem?_take, hq, if_true, List.getElem?_drop, List.getElem?_set, List.length_take, List.length_drop]
    by_cases hqm : m = q
    · subst hqm
      simp only [if_true, hc]
      have : m < min n (c.length - i) := by simpa using hm
      simp [this]
    · have : ¬ i + m = i + q := by omega
      simp only [this, hqm, if_false]
  · have h1 : (((c.set (i + m) x).drop i).take n)[q]? = none := List.getElem?_eq_none (by simp; omega)
    have h2 : (((c.drop i).take n).set m x)[q]? = none := List.getElem?_eq_none (by simp; omega)
    rw [h1, h2]

/-- a place within a slice: where it lies, what it holds, and what a store there makes of the slice -/
theorem SliceOf.place {w : World} {v : Value} {l : List Value} (h : SliceOf w v l) {j : Int} (h0 : 0 ≤ j) (h1 : j < l.length) :
    ∃ b i c, (∀ (q : IntKind) (k : Value → Prop), indexS 1 v (.int q j) k = k (.pointer (some ⟨b, i, none⟩))) ∧ b ∈ sliceBlk v ∧ cellsOf w b = some c ∧ i < c.length ∧ c[i]? = l[j.toNat]? ∧
      ∀ (w' : World) (x : Value), cellsOf w' b = some (c.set i x) → SliceOf w' v (l.set j.toNat x) := by
  unfold SliceOf at h
  split at h
  · obtain ⟨_, _, rfl⟩ := h; simp at h1; omega
  · rename_i b i n cap
    obtain ⟨hn, c, hc, hl, ht, hle⟩ := h
    obtain ⟨m, rfl⟩ := Int.eq_ofNat_of_zero_le h0
    simp only [Int.toNat_natCast]
    have hm : m < l.length := by omega
    have hlt : i + m < c.length := by omega
    refine ⟨b, i + m, c, fun q k => ?_, by simp [sliceBlk], hc, hlt, ?_, fun w' x hw' => ?_⟩
    · simp only [indexS, Int.toNat_natCast, Nat.mul_one, add_off]
      apply propext
      constructor
      · exact fun h => h.2.2
      · exact fun h => ⟨by omega, by omega, h⟩
    · rw [← ht, List.getElem?_take_of_lt (by omega), List.getElem?_drop]
    · refine ⟨hn, _, hw', by simpa using hl, ?_, by simpa using hle⟩
      exact drop_take_set ht hm (by omega)
  · exact h.elim

section
variable {w : World} {L : Lay} {a : AW} {k : Value → World → Prop}

theorem sides_c (h : WRep w L a) (hk : k (vi a.sides) w) : callOn prog fn_World_Sides #[ptr L.p] w k := by
  apply F_World_Sides_on
  unfold F_World_Sides
  refine none_c h ?_
  have hm := h.made
  simp only [atDrew_eq, nilK_ptr, nilK_fn, fieldA_at, load1_at, orRd_some, optK_some, pickK_true, pickK_false, gopK_tt, gopK_ff, gopK_tf, gopK_ft, gopK_undef, gqK_tt, gqK_ff, gqK_tf, gqK_ft, gqK_undef, condK_true, condK_false, unK_not, binI_eql, binI_neq, binI_lss, binI_leq, binI_gtr, binI_geq, binI_add, binI_sub, binI_mul, binP_eql_none, binP_neq_none, binM_eql_none, binM_neq_none, binL_eql_none, lenL_at, convI_at, extractK_at, Option.bind_some, List.getElem?_cons_zero, List.getElem?_cons_succ, Option.isNone_some, Option.isNone_none, Bool.not_true, Bool.not_false, Nat.zero_add, h.top]
  unfold SliceOf at hm
  split at hm
  · rename_i n c hv
    rw [hv]
    obtain ⟨rfl, _, hl⟩ := hm
    simp only [atDrew_eq, nilK_ptr, nilK_fn, fieldA_at, load1_at, orRd_some, optK_some, pickK_true, pickK_false, gopK_tt, gopK_ff, gopK_tf, gopK_ft, gopK_undef, gqK_tt, gqK_ff, gqK_tf, gqK_ft, gqK_undef, condK_true, condK_false, unK_not, binI_eql, binI_neq, binI_lss, binI_leq, binI_gtr, binI_geq, binI_add, binI_sub, binI_mul, binP_eql_none, binP_neq_none, binM_eql_none, binM_neq_none, binL_eql_none, lenL_at, convI_at, extractK_at, Option.bind_some, List.getElem?_cons_zero, List.getElem?_cons_succ, Option.isNone_some, Option.isNone_none, Bool.not_true, Bool.not_false, Nat.zero_add]
    have : a.made = [] := by simpa using hl
    simpa [AW.sides, this] using hk
  · rename_i b i n c hv
    rw [hv]
    obtain ⟨_, cs, _, hl, _⟩ := hm
    simp only [atDrew_eq, nilK_ptr, nilK_fn, fieldA_at, load1_at, orRd_some, optK_some, pickK_true, pickK_false, gopK_tt, gopK_ff, gopK_tf, gopK_ft, gopK_undef, gqK_tt, gqK_ff, gqK_tf, gqK_ft, gqK_undef, condK_true, condK_false, unK_not, binI_eql, binI_neq, binI_lss, binI_leq, binI_gtr, binI_geq, binI_add, binI_sub, binI_mul, binP_eql_none, binP_neq_none, binM_eql_none, binM_neq_none, binL_eql_none, lenL_at, convI_at, extractK_at, Option.bind_some, List.getElem?_cons_zero, List.getElem?_cons_succ, Option.isNone_some, Option.isNone_none, Bool.not_true, Bool.not_false, Nat.zero_add]
    have : n = a.made.length := by simpa using hl
    simpa [AW.sides, this] using hk
  · exact hm.elim

theorem side_c (h : WRep w L a) (s : Int) (hk : k (.bool (a.side s)) w) : callOn prog fn_World_side #[ptr L.p, vi s] w k := by
  apply F_World_side_on
  unfold F_World_side
  simp only [atDrew_eq, nilK_ptr, nilK_fn, fieldA_at, load1_at, orRd_some, optK_some, pickK_true, pickK_false, gopK_tt, gopK_ff, gopK_tf, gopK_ft, gopK_undef, gqK_tt, gqK_ff, gqK_tf, gqK_ft, gqK_undef, condK_true, condK_false, unK_not, binI_eql, binI_neq, binI_lss, binI_leq, binI_gtr, binI_geq, binI_add, binI_sub, binI_mul, binP_eql_none, binP_neq_none, binM_eql_none, binM_neq_none, binL_eql_none, lenL_at, convI_at, extractK_at, Option.bind_some, List.getElem?_cons_zero, List.getElem?_cons_succ, Option.isNone_some, Option.isNone_none, Bool.not_true, Bool.not_false, Nat.zero_add]
  unfold AW.side at hk
  by_cases h0 : 0 ≤ s
  · have h0' : decide (s ≥ 0) = true := by simpa using h0
    simp only [h0', atDrew_eq, nilK_ptr, nilK_fn, fieldA_at, load1_at, orRd_some, optK_some, pickK_true, pickK_false, gopK_tt, gopK_ff, gopK_tf, gopK_ft, gopK_undef, gqK_tt, gqK_ff, gqK_tf, gqK_ft, gqK_undef, condK_true, condK_false, unK_not, binI_eql, binI_neq, binI_lss, binI_leq, binI_gtr, binI_geq, binI_add, binI_sub, binI_mul, binP_eql_none, binP_neq_none, binM_eql_none, binM_neq_none, binL_eql_none, lenL_at, convI_at, extractK_at, Option.bind_some, List.getElem?_cons_zero, List.getElem?_cons_succ, Option.isNone_some, Option.isNone_none, Bool.not_true, Bool.not_false, Nat.zero_add]
    refine sides_c h ?_
    simp only [atDrew_eq, nilK_ptr, nilK_fn, fieldA_at, load1_at, orRd_some, optK_some, pickK_true, pickK_false, gopK_tt, gopK_ff, gopK_tf, gopK_ft, gopK_undef, gqK_tt, gqK_ff, gqK_tf, gqK_ft, gqK_undef, condK_true, condK_false, unK_not, binI_eql, binI_neq, binI_lss, binI_leq, binI_gtr, binI_geq, binI_add, binI_sub, binI_mul, binP_eql_none, binP_neq_none, binM_eql_none, binM_neq_none, binL_eql_none, lenL_at, convI_at, extractK_at, Option.bind_some, List.getElem?_cons_zero, List.getElem?_cons_succ, Option.isNone_some, Option.isNone_none, Bool.not_true, Bool.not_false, Nat.zero_add]
    simpa [h0] using hk
  · have h0' : decide (s ≥ 0) = false := by simpa using h0
    simp only [h0', atDrew_eq, nilK_ptr, nilK_fn, fieldA_at, load1_at, orRd_some, optK_some, pickK_true, pickK_false, gopK_tt, gopK_ff, gopK_tf, gopK_ft, gopK_undef, gqK_tt, gqK_ff, gqK_tf, gqK_ft, gqK_undef, condK_true, condK_false, unK_not, binI_eql, binI_neq, binI_lss, binI_leq, binI_gtr, binI_geq, binI_add, binI_sub, binI_mul, binP_eql_none, binP_neq_none, binM_eql_none, binM_neq_none, binL_eql_none, lenL_at, convI_at, extractK_at, Option.bind_some, List.getElem?_cons_zero, List.getElem?_cons_succ, Option.isNone_some, Option.isNone_none, Bool.not_true, Bool.not_false, Nat.zero_add]
    simpa [h0] using hk

def AW.edge (a : AW) (n : Int) : Bool := decide (0 < n) && decide (n < a.sides)

theorem edge_c (h : WRep w L a) (s : Int) (hk : k (.bool (AW.edge a s)) w) : callOn prog fn_World_edge #[ptr L.p, vi s] w k := by
  apply F_World_edge_on
  unfold F_World_edge
  simp only [atDrew_eq, nilK_ptr, nilK_fn, fieldA_at, load1_at, orRd_some, optK_some, pickK_true, pickK_false, gopK_tt, gopK_ff, gopK_tf, gopK_ft, gopK_undef, gqK_tt, gqK_ff, gqK_tf, gqK_ft, gqK_undef, condK_true, condK_false, unK_not, binI_eql, binI_neq, binI_lss, binI_leq, binI_gtr, binI_geq, binI_add, binI_sub, binI_mul, binP_eql_none, binP_neq_none, binM_eql_none, binM_neq_none, binL_eql_none, lenL_at, convI_at, extractK_at, Option.bind_some, List.getElem?_cons_zero, List.getElem?_cons_succ, Option.isNone_some, Option.isNone_none, Bool.not_true, Bool.not_false, Nat.zero_add]
  unfold AW.edge at hk
  by_cases h0 : 0 < s
  · have h0' : decide (s > 0) = true := by simpa using h0
    simp only [h0', atDrew_eq, nilK_ptr, nilK_fn, fieldA_at, load1_at, orRd_some, optK_some, pickK_true, pickK_false, gopK_tt, gopK_ff, gopK_tf, gopK_ft, gopK_undef, gqK_tt, gqK_ff, gqK_tf, gqK_ft, gqK_undef, condK_true, condK_false, unK_not, binI_eql, binI_neq, binI_lss, binI_leq, binI_gtr, binI_geq, binI_add, binI_sub, binI_mul, binP_eql_none, binP_neq_none, binM_eql_none, binM_neq_none, binL_eql_none, lenL_at, convI_at, extractK_at, Option.bind_some, List.getElem?_cons_zero, List.getElem?_cons_succ, Option.isNone_some, Option.isNone_none, Bool.not_true, Bool.not_false, Nat.zero_add]
    refine sides_c h ?_
    simp only [atDrew_eq, nilK_ptr, nilK_fn, fieldA_at, load1_at, orRd_some, optK_some, pickK_true, pickK_false, gopK_tt, gopK_ff, gopK_tf, gopK_ft, gopK_undef, gqK_tt, gqK_ff, gqK_tf, gqK_ft, gqK_undef, condK_true, condK_false, unK_not, binI_eql, binI_neq, binI_lss, binI_leq, binI_gtr, binI_geq, binI_add, binI_sub, binI_mul, binP_eql_none, binP_neq_none, binM_eql_none, binM_neq_none, binL_eql_none, lenL_at, convI_at, extractK_at, Option.bind_some, List.getElem?_cons_zero, List.getElem?_cons_succ, Option.isNone_some, Option.isNone_none, Bool.not_true, Bool.not_false, Nat.zero_add]
    simpa [h0] using hk
  · have h0' : decide (s > 0) = false := by simpa using h0
    simp only [h0', atDrew_eq, nilK_ptr, nilK_fn, fieldA_at, load1_at, orRd_some, optK_some, pickK_true, pickK_false, gopK_tt, gopK_ff, gopK_tf, gopK_ft, gopK_undef, gqK_tt, gqK_ff, gqK_tf, gqK_ft, gqK_undef, condK_true, condK_false, unK_not, binI_eql, binI_neq, binI_lss, binI_leq, binI_gtr, binI_geq, binI_add, binI_sub, binI_mul, binP_eql_none, binP_neq_none, binM_eql_none, binM_neq_none, binL_eql_none, lenL_at, convI_at, extractK_at, Option.bind_some, List.getElem?_cons_zero, List.getElem?_cons_succ, Option.isNone_some, Option.isNone_none, Bool.not_true, Bool.not_false, Nat.zero_add]
    simpa [h0] using hk

theorem wraps_c (q : Int) (hk : k (.bool (AW.wraps q)) w) : callOn prog fn_world_wraps #[vb q] w k := by
  apply F_world_wraps_on
  unfold F_world_wraps
  simp only [atDrew_eq, nilK_ptr, nilK_fn, fieldA_at, load1_at, orRd_some, optK_some, pickK_true, pickK_false, gopK_tt, gopK_ff, gopK_tf, gopK_ft, gopK_undef, gqK_tt, gqK_ff, gqK_tf, gqK_ft, gqK_undef, condK_true, condK_false, unK_not, binI_eql, binI_neq, binI_lss, binI_leq, binI_gtr, binI_geq, binI_add, binI_sub, binI_mul, binP_eql_none, binP_neq_none, binM_eql_none, binM_neq_none, binL_eql_none, lenL_at, convI_at, extractK_at, Option.bind_some, List.getElem?_cons_zero, List.getElem?_cons_succ, Option.isNone_some, Option.isNone_none, Bool.not_true, Bool.not_false, Nat.zero_add]
  unfold AW.wraps at hk
  cases h1 : (q == 14) <;> simp only [h1, atDrew_eq, nilK_ptr, nilK_fn, fieldA_at, load1_at, orRd_some, optK_some, pickK_true, pickK_false, gopK_tt, gopK_ff, gopK_tf, gopK_ft, gopK_undef, gqK_tt, gqK_ff, gqK_tf, gqK_ft, gqK_undef, condK_true, condK_false, unK_not, binI_eql, binI_neq, binI_lss, binI_leq, binI_gtr, binI_geq, binI_add, binI_sub, binI_mul, binP_eql_none, binP_neq_none, binM_eql_none, binM_neq_none, binL_eql_none, lenL_at, convI_at, extractK_at, Option.bind_some, List.getElem?_cons_zero, List.getElem?_cons_succ, Option.isNone_some, Option.isNone_none, Bool.not_true, Bool.not_false, Nat.zero_add, Bool.true_or, Bool.false_or] at hk ⊢
  · cases h2 : (q == 15) <;> simp only [h2, atDrew_eq, nilK_ptr, nilK_fn, fieldA_at, load1_at, orRd_some, optK_some, pickK_true, pickK_false, gopK_tt, gopK_ff, gopK_tf, gopK_ft, gopK_undef, gqK_tt, gqK_ff, gqK_tf, gqK_ft, gqK_undef, condK_true, condK_false, unK_not, binI_eql, binI_neq, binI_lss, binI_leq, binI_gtr, binI_geq, binI_add, binI_sub, binI_mul, binP_eql_none, binP_neq_none, binM_eql_none, binM_neq_none, binL_eql_none, lenL_at, convI_at, extractK_at, Option.bind_some, List.getElem?_cons_zero, List.getElem?_cons_succ, Option.isNone_some, Option.isNone_none, Bool.not_true, Bool.not_false, Nat.zero_add, Bool.true_or, Bool.false_or] at hk ⊢
    · exact hk
    · exact hk
  · exact hk

def asksOf (q : Int) : Bool := q == 6 || q == 7 || q == 9 || q == 11 || AW.wraps q
def asksBy (q : Int) : Bool := q == 15 || q == 16

theorem asksOf_c (q : Int) (hk : k (.bool (asksOf q)) w) : callOn prog fn_world_asksOf #[vb q] w k := by
  apply F_world_asksOf_on
  unfold F_world_asksOf
  simp only [atDrew_eq, nilK_ptr, nilK_fn, fieldA_at, load1_at, orRd_some, optK_some, pickK_true, pickK_false, gopK_tt, gopK_ff, gopK_tf, gopK_ft, gopK_undef, gqK_tt, gqK_ff, gqK_tf, gqK_ft, gqK_undef, condK_true, condK_false, unK_not, binI_eql, binI_neq, binI_lss, binI_leq, binI_gtr, binI_geq, binI_add, binI_sub, binI_mul, binP_eql_none, binP_neq_none, binM_eql_none, binM_neq_none, binL_eql_none, lenL_at, convI_at, extractK_at, Option.bind_some, List.getElem?_cons_zero, List.getElem?_cons_succ, Option.isNone_some, Option.isNone_none, Bool.not_true, Bool.not_false, Nat.zero_add]
  unfold asksOf at hk
  cases h1 : (q == 6) <;> simp only [h1, atDrew_eq, nilK_ptr, nilK_fn, fieldA_at, load1_at, orRd_some, optK_some, pickK_true, pickK_false, gopK_tt, gopK_ff, gopK_tf, gopK_ft, gopK_undef, gqK_tt, gqK_ff, gqK_tf, gqK_ft, gqK_undef, condK_true, condK_false, unK_not, binI_eql, binI_neq, binI_lss, binI_leq, binI_gtr, binI_geq, binI_add, binI_sub, binI_mul, binP_eql_none, binP_neq_none, binM_eql_none, binM_neq_none, binL_eql_none, lenL_at, convI_at, extractK_at, Option.bind_some, List.getElem?_cons_zero, List.getElem?_cons_succ, Option.isNone_some, Option.isNone_none, Bool.not_true, Bool.not_false, Nat.zero_add, Bool.true_or, Bool.false_or] at hk ⊢
  · cases h2 : (q == 7) <;> simp only [h2, atDrew_eq, nilK_ptr, nilK_fn, fieldA_at, load1_at, orRd_some, optK_some, pickK_true, pickK_false, gopK_tt, gopK_ff, gopK_tf, gopK_ft, gopK_undef, gqK_tt, gqK_ff, gqK_tf, gqK_ft, gqK_undef, condK_true, condK_false, unK_not, binI_eql, binI_neq, binI_lss, binI_leq, binI_gtr, binI_geq, binI_add, binI_sub, binI_mul, binP_eql_none, binP_neq_none, binM_eql_none, binM_neq_none, binL_eql_none, lenL_at, convI_at, extractK_at, Option.bind_some, List.getElem?_cons_zero, List.getElem?_cons_succ, Option.isNone_some, Option.isNone_none, Bool.not_true, Bool.not_false, Nat.zero_add, Bool.true_or, Bool.false_or] at hk ⊢
    · cases h3 : (q == 9) <;> simp only [h3, atDrew_eq, nilK_ptr, nilK_fn, fieldA_at, load1_at, orRd_some, optK_some, pickK_true, pickK_false, gopK_tt, gopK_ff, gopK_tf, gopK_ft, gopK_undef, gqK_tt, gqK_ff, gqK_tf, gqK_ft, gqK_undef, condK_true, condK_false, unK_not, binI_eql, binI_neq, binI_lss, binI_leq, binI_gtr, binI_geq, binI_add, binI_sub, binI_mul, binP_eql_none, binP_neq_none, binM_eql_none, binM_neq_none, binL_eql_none, lenL_at, convI_at, extractK_at, Option.bind_some, List.getElem?_cons_zero, List.getElem?_cons_succ, Option.isNone_some, Option.isNone_none, Bool.not_true, Bool.not_false, Nat.zero_add, Bool.true_or, Bool.false_or] at hk ⊢
      · cases h4 : (q == 11) <;> simp only [h4, atDrew_eq, nilK_ptr, nilK_fn, fieldA_at, load1_at, orRd_some, optK_some, pickK_true, pickK_false, gopK_tt, gopK_ff, gopK_tf, gopK_ft, gopK_undef, gqK_tt, gqK_ff, gqK_tf, gqK_ft, gqK_undef, condK_true, condK_false, unK_not, binI_eql, binI_neq, binI_lss, binI_leq, binI_gtr, binI_geq, binI_add, binI_sub, binI_mul, binP_eql_none, binP_neq_none, binM_eql_none, binM_neq_none, binL_eql_none, lenL_at, convI_at, extractK_at, Option.bind_some, List.getElem?_cons_zero, List.getElem?_cons_succ, Option.isNone_some, Option.isNone_none, Bool.not_true, Bool.not_false, Nat.zero_add, Bool.true_or, Bool.false_or] at hk ⊢
        · exact wraps_c q (by simpa only [atDrew_eq, nilK_ptr, nilK_fn, fieldA_at, load1_at, orRd_some, optK_some, pickK_true, pickK_false, gopK_tt, gopK_ff, gopK_tf, gopK_ft, gopK_undef, gqK_tt, gqK_ff, gqK_tf, gqK_ft, gqK_undef, condK_true, condK_false, unK_not, binI_eql, binI_neq, binI_lss, binI_leq, binI_gtr, binI_geq, binI_add, binI_sub, binI_mul, binP_eql_none, binP_neq_none, binM_eql_none, binM_neq_none, binL_eql_none, lenL_at, convI_at, extractK_at, Option.bind_some, List.getElem?_cons_zero, List.getElem?_cons_succ, Option.isNone_some, Option.isNone_none, Bool.not_true, Bool.not_false, Nat.zero_add] using hk)
        · exact hk
      · exact hk
    · exact hk
  · exact hk

theorem asksBy_c (q : Int) (hk : k (.bool (asksBy q)) w) : callOn prog fn_world_asksBy #[vb q] w k := by
  apply F_world_asksBy_on
  unfold F_world_asksBy
  simp only [atDrew_eq, nilK_ptr, nilK_fn, fieldA_at, load1_at, orRd_some, optK_some, pickK_true, pickK_false, gopK_tt, gopK_ff, gopK_tf, gopK_ft, gopK_undef, gqK_tt, gqK_ff, gqK_tf, gqK_ft, gqK_undef, condK_true, condK_false, unK_not, binI_eql, binI_neq, binI_lss, binI_leq, binI_gtr, binI_geq, binI_add, binI_sub, binI_mul, binP_eql_none, binP_neq_none, binM_eql_none, binM_neq_none, binL_eql_none, lenL_at, convI_at, extractK_at, Option.bind_some, List.getElem?_cons_zero, List.getElem?_cons_succ, Option.isNone_some, Option.isNone_none, Bool.not_true, Bool.not_false, Nat.zero_add]
  unfold asksBy at hk
  cases h1 : (q == 15) <;> simp only [h1, atDrew_eq, nilK_ptr, nilK_fn, fieldA_at, load1_at, orRd_some, optK_some, pickK_true, pickK_false, gopK_tt, gopK_ff, gopK_tf, gopK_ft, gopK_undef, gqK_tt, gqK_ff, gqK_tf, gqK_ft, gqK_undef, condK_true, condK_false, unK_not, binI_eql, binI_neq, binI_lss, binI_leq, binI_gtr, binI_geq, binI_add, binI_sub, binI_mul, binP_eql_none, binP_neq_none, binM_eql_none, binM_neq_none, binL_eql_none, lenL_at, convI_at, extractK_at, Option.bind_some, List.getElem?_cons_zero, List.getElem?_cons_succ, Option.isNone_some, Option.isNone_none, Bool.not_true, Bool.not_false, Nat.zero_add, Bool.true_or, Bool.false_or] at hk ⊢
  · exact hk
  · exact hk

theorem home_c (h : WRep w L a) (r : Int) (hk : k (.tuple #[vi (match a.at r with | some x => if x.kind = 14 then 0 else x.home | none => 0), .bool (match a.at r with | some x => !(x.kind == 14) | none => false)]) w) :
    callOn prog fn_World_Home #[ptr L.p, vi r] w k := by
  apply F_World_Home_on
  unfold F_World_Home
  refine is_c h r ?_
  unfold AW.is
  cases hr : a.at r with
  | none =>
    rw [hr] at hk
    simp only [Option.isSome_none, atDrew_eq, nilK_ptr, nilK_fn, fieldA_at, load1_at, orRd_some, optK_some, pickK_true, pickK_false, gopK_tt, gopK_ff, gopK_tf, gopK_ft, gopK_undef, gqK_tt, gqK_ff, gqK_tf, gqK_ft, gqK_undef, condK_true, condK_false, unK_not, binI_eql, binI_neq, binI_lss, binI_leq, binI_gtr, binI_geq, binI_add, binI_sub, binI_mul, binP_eql_none, binP_neq_none, binM_eql_none, binM_neq_none, binL_eql_none, lenL_at, convI_at, extractK_at, Option.bind_some, List.getElem?_cons_zero, List.getElem?_cons_succ, Option.isNone_some, Option.isNone_none, Bool.not_true, Bool.not_false, Nat.zero_add]
    exact hk
  | some x =>
    rw [hr] at hk
    simp only [Option.isSome_some, atDrew_eq, nilK_ptr, nilK_fn, fieldA_at, load1_at, orRd_some, optK_some, pickK_true, pickK_false, gopK_tt, gopK_ff, gopK_tf, gopK_ft, gopK_undef, gqK_tt, gqK_ff, gqK_tf, gqK_ft, gqK_undef, condK_true, condK_false, unK_not, binI_eql, binI_neq, binI_lss, binI_leq, binI_gtr, binI_geq, binI_add, binI_sub, binI_mul, binP_eql_none, binP_neq_none, binM_eql_none, binM_neq_none, binL_eql_none, lenL_at, convI_at, extractK_at, Option.bind_some, List.getElem?_cons_zero, List.getElem?_cons_succ, Option.isNone_some, Option.isNone_none, Bool.not_true, Bool.not_false, Nat.zero_add, h.top, h.look_some hr, Bool.false_eq_true, if_false, h.cell hr, whCells]
    by_cases hx : x.kind = 14
    · have : (x.kind == 14) = true := by simpa using hx
      simp only [this, atDrew_eq, nilK_ptr, nilK_fn, fieldA_at, load1_at, orRd_some, optK_some, pickK_true, pickK_false, gopK_tt, gopK_ff, gopK_tf, gopK_ft, gopK_undef, gqK_tt, gqK_ff, gqK_tf, gqK_ft, gqK_undef, condK_true, condK_false, unK_not, binI_eql, binI_neq, binI_lss, binI_leq, binI_gtr, binI_geq, binI_add, binI_sub, binI_mul, binP_eql_none, binP_neq_none, binM_eql_none, binM_neq_none, binL_eql_none, lenL_at, convI_at, extractK_at, Option.bind_some, List.getElem?_cons_zero, List.getElem?_cons_succ, Option.isNone_some, Option.isNone_none, Bool.not_true, Bool.not_false, Nat.zero_add]
      simpa [hx] using hk
    · have : (x.kind == 14) = false := by simpa using hx
      simp only [this, atDrew_eq, nilK_ptr, nilK_fn, fieldA_at, load1_at, orRd_some, optK_some, pickK_true, pickK_false, gopK_tt, gopK_ff, gopK_tf, gopK_ft, gopK_undef, gqK_tt, gqK_ff, gqK_tf, gqK_ft, gqK_undef, condK_true, condK_false, unK_not, binI_eql, binI_neq, binI_lss, binI_leq, binI_gtr, binI_geq, binI_add, binI_sub, binI_mul, binP_eql_none, binP_neq_none, binM_eql_none, binM_neq_none, binL_eql_none, lenL_at, convI_at, extractK_at, Option.bind_some, List.getElem?_cons_zero, List.getElem?_cons_succ, Option.isNone_some, Option.isNone_none, Bool.not_true, Bool.not_false, Nat.zero_add]
      simpa [hx, this] using hk

theorem len_c (h : WRep w L a) (hk : k (vi a.things.length) w) : callOn prog fn_World_Len #[ptr L.p] w k := by
  apply F_World_Len_on
  unfold F_World_Len
  refine none_c h ?_
  simp only [atDrew_eq, nilK_ptr, nilK_fn, fieldA_at, load1_at, orRd_some, optK_some, pickK_true, pickK_false, gopK_tt, gopK_ff, gopK_tf, gopK_ft, gopK_undef, gqK_tt, gqK_ff, gqK_tf, gqK_ft, gqK_undef, condK_true, condK_false, unK_not, binI_eql, binI_neq, binI_lss, binI_leq, binI_gtr, binI_geq, binI_add, binI_sub, binI_mul, binP_eql_none, binP_neq_none, binM_eql_none, binM_neq_none, binL_eql_none, lenL_at, convI_at, extractK_at, Option.bind_some, List.getElem?_cons_zero, List.getElem?_cons_succ, Option.isNone_some, Option.isNone_none, Bool.not_true, Bool.not_false, Nat.zero_add, h.top, lenM, h.things]
  have : L.es.length = a.things.length := by simpa using h.ents.length_eq
  rw [this]
  exact hk
end
end Go.X
/- Contracts: edges, what was made, facets that are found. -/
set_option linter.unusedSimpArgs false
set_option linter.unusedVariables false
namespace Go.X
open Go Go.AW

section
variable {w : World} {L : Lay} {a : AW} {k : Value → World → Prop}

theorem load_place {b i : Nat} {c : List Value} {v : Value} {q : Value → Prop} (hc : cellsOf w b = some c) (hi : c[i]? = some v) : load1 (.pointer (some ⟨b, i, none⟩)) w q = q v := by
  simp only [load1_at, hc, orRd_some, Option.bind_some, hi, optK_some]

theorem wrap64_id {n : Int} (h0 : -9223372036854775808 ≤ n) (h : n ≤ 9223372036854775807) : IntKind.i64.wrap n = n := by
  simp [IntKind.wrap, IntKind.signed, IntKind.bits]
  omega

theorem isCut_c (h : WRep w L a) (n : Int) (hk : k (.bool (AW.edge a n && a.cut.getD n.toNat false)) w) : callOn prog fn_World_IsCut #[ptr L.p, vi n] w k := by
  apply F_World_IsCut_on
  unfold F_World_IsCut
  refine edge_c h n ?_
  cases he : AW.edge a n with
  | false =>
    simp only [atDrew_eq, nilK_ptr, nilK_fn, fieldA_at, load1_at, orRd_some, optK_some, pickK_true, pickK_false, gopK_tt, gopK_ff, gopK_tf, gopK_ft, gopK_undef, gqK_tt, gqK_ff, gqK_tf, gqK_ft, gqK_undef, condK_true, condK_false, unK_not, binI_eql, binI_neq, binI_lss, binI_leq, binI_gtr, binI_geq, binI_add, binI_sub, binI_mul, binP_eql_none, binP_neq_none, binM_eql_none, binM_neq_none, binL_eql_none, lenL_at, convI_at, extractK_at, Option.bind_some, List.getElem?_cons_zero, List.getElem?_cons_succ, Option.isNone_some, Option.isNone_none, Bool.not_true, Bool.not_false, Nat.zero_add]
    simpa [he] using hk
  | true =>
    simp only [AW.edge, Bool.and_eq_true, decide_eq_true_eq] at he
    unfold AW.sides at he
    have hlen : n < ((a.cut.map Value.bool).length : Int) := by have := h.len1; simp; omega
    obtain ⟨b, i, c, hix, _, hc, _, hci, _⟩ := h.cut.place (j := n) (by omega) hlen
    have hlt : n.toNat < a.cut.length := by simp at hlen; omega
    have hv : c[i]? = some (.bool (a.cut.getD n.toNat false)) := by
      rw [hci]
      simp [hlt, List.getD_eq_getElem?_getD]
    simp only [atDrew_eq, nilK_ptr, nilK_fn, fieldA_at, load1_at, orRd_some, optK_some, pickK_true, pickK_false, gopK_tt, gopK_ff, gopK_tf, gopK_ft, gopK_undef, gqK_tt, gqK_ff, gqK_tf, gqK_ft, gqK_undef, condK_true, condK_false, unK_not, binI_eql, binI_neq, binI_lss, binI_leq, binI_gtr, binI_geq, binI_add, binI_sub, binI_mul, binP_eql_none, binP_neq_none, binM_eql_none, binM_neq_none, binL_eql_none, lenL_at, convI_at, extractK_at, Option.bind_some, List.getElem?_cons_zero, List.getElem?_cons_succ, Option.isNone_some, Option.isNone_none, Bool.not_true, Bool.not_false, Nat.zero_add, h.top, hix, hc, hv]
    have he' : AW.edge a n = true := by unfold AW.edge AW.sides; simp [he]
    rw [he', Bool.true_and] at hk
    exact hk

theorem made_c (h : WRep w L a) (s : Int) (hk : k (vi (if a.side s then a.made.getD s.toNat 0 else 0)) w) : callOn prog fn_World_Made #[ptr L.p, vi s] w k := by
  apply F_World_Made_on
  unfold F_World_Made
  refine side_c h s ?_
  cases hs : a.side s with
  | false =>
    rw [hs] at hk
    simp only [atDrew_eq, nilK_ptr, nilK_fn, fieldA_at, load1_at, orRd_some, optK_some, pickK_true, pickK_false, gopK_tt, gopK_ff, gopK_tf, gopK_ft, gopK_undef, gqK_tt, gqK_ff, gqK_tf, gqK_ft, gqK_undef, condK_true, condK_false, unK_not, binI_eql, binI_neq, binI_lss, binI_leq, binI_gtr, binI_geq, binI_add, binI_sub, binI_mul, binP_eql_none, binP_neq_none, binM_eql_none, binM_neq_none, binL_eql_none, lenL_at, convI_at, extractK_at, Option.bind_some, List.getElem?_cons_zero, List.getElem?_cons_succ, Option.isNone_some, Option.isNone_none, Bool.not_true, Bool.not_false, Nat.zero_add]
    exact hk
  | true =>
    rw [hs] at hk
    simp only [AW.side, Bool.and_eq_true, decide_eq_true_eq] at hs
    unfold AW.sides at hs
    have hlen : s < ((a.made.map vi).length : Int) := by simp; omega
    obtain ⟨b, i, c, hix, _, hc, _, hci, _⟩ := h.made.place (j := s) (by omega) hlen
    have hlt : s.toNat < a.made.length := by simp at hlen; omega
    have hv : c[i]? = some (vi (a.made.getD s.toNat 0)) := by
      rw [hci]
      simp [hlt, List.getD_eq_getElem?_getD]
    simp only [atDrew_eq, nilK_ptr, nilK_fn, fieldA_at, load1_at, orRd_some, optK_some, pickK_true, pickK_false, gopK_tt, gopK_ff, gopK_tf, gopK_ft, gopK_undef, gqK_tt, gqK_ff, gqK_tf, gqK_ft, gqK_undef, condK_true, condK_false, unK_not, binI_eql, binI_neq, binI_lss, binI_leq, binI_gtr, binI_geq, binI_add, binI_sub, binI_mul, binP_eql_none, binP_neq_none, binM_eql_none, binM_neq_none, binL_eql_none, lenL_at, convI_at, extractK_at, Option.bind_some, List.getElem?_cons_zero, List.getElem?_cons_succ, Option.isNone_some, Option.isNone_none, Bool.not_true, Bool.not_false, Nat.zero_add, h.top, hix, hc, hv]
    exact hk

theorem parent_c (h : WRep w L a) (s : Int) (hk : k (.tuple #[vi (if s = 0 ∨ a.side s = false then 0 else a.parents.getD (s.toNat - 1) 0), vi (if s = 0 ∨ a.side s = false then 2 else 0)]) w) :
    callOn prog fn_World_Parent #[ptr L.p, vi s] w k := by
  apply F_World_Parent_on
  unfold F_World_Parent
  refine none_c h ?_
  simp only [atDrew_eq, nilK_ptr, nilK_fn, fieldA_at, load1_at, orRd_some, optK_some, pickK_true, pickK_false, gopK_tt, gopK_ff, gopK_tf, gopK_ft, gopK_undef, gqK_tt, gqK_ff, gqK_tf, gqK_ft, gqK_undef, condK_true, condK_false, unK_not, binI_eql, binI_neq, binI_lss, binI_leq, binI_gtr, binI_geq, binI_add, binI_sub, binI_mul, binP_eql_none, binP_neq_none, binM_eql_none, binM_neq_none, binL_eql_none, lenL_at, convI_at, extractK_at, Option.bind_some, List.getElem?_cons_zero, List.getElem?_cons_succ, Option.isNone_some, Option.isNone_none, Bool.not_true, Bool.not_false, Nat.zero_add]
  by_cases h0 : s = 0
  · have : (s == 0) = true := by simpa using h0
    simp only [this, atDrew_eq, nilK_ptr, nilK_fn, fieldA_at, load1_at, orRd_some, optK_some, pickK_true, pickK_false, gopK_tt, gopK_ff, gopK_tf, gopK_ft, gopK_undef, gqK_tt, gqK_ff, gqK_tf, gqK_ft, gqK_undef, condK_true, condK_false, unK_not, binI_eql, binI_neq, binI_lss, binI_leq, binI_gtr, binI_geq, binI_add, binI_sub, binI_mul, binP_eql_none, binP_neq_none, binM_eql_none, binM_neq_none, binL_eql_none, lenL_at, convI_at, extractK_at, Option.bind_some, List.getElem?_cons_zero, List.getElem?_cons_succ, Option.isNone_some, Option.isNone_none, Bool.not_true, Bool.not_false, Nat.zero_add]
    simpa [h0] using hk
  · have h00 : (s == 0) = false := by simpa using h0
    simp only [h00, atDrew_eq, nilK_ptr, nilK_fn, fieldA_at, load1_at, orRd_some, optK_some, pickK_true, pickK_false, gopK_tt, gopK_ff, gopK_tf, gopK_ft, gopK_undef, gqK_tt, gqK_ff, gqK_tf, gqK_ft, gqK_undef, condK_true, condK_false, unK_not, binI_eql, binI_neq, binI_lss, binI_leq, binI_gtr, binI_geq, binI_add, binI_sub, binI_mul, binP_eql_none, binP_neq_none, binM_eql_none, binM_neq_none, binL_eql_none, lenL_at, convI_at, extractK_at, Option.bind_some, List.getElem?_cons_zero, List.getElem?_cons_succ, Option.isNone_some, Option.isNone_none, Bool.not_true, Bool.not_false, Nat.zero_add]
    refine side_c h s ?_
    cases hs : a.side s with
    | false =>
      simp only [atDrew_eq, nilK_ptr, nilK_fn, fieldA_at, load1_at, orRd_some, optK_some, pickK_true, pickK_false, gopK_tt, gopK_ff, gopK_tf, gopK_ft, gopK_undef, gqK_tt, gqK_ff, gqK_tf, gqK_ft, gqK_undef, condK_true, condK_false, unK_not, binI_eql, binI_neq, binI_lss, binI_leq, binI_gtr, binI_geq, binI_add, binI_sub, binI_mul, binP_eql_none, binP_neq_none, binM_eql_none, binM_neq_none, binL_eql_none, lenL_at, convI_at, extractK_at, Option.bind_some, List.getElem?_cons_zero, List.getElem?_cons_succ, Option.isNone_some, Option.isNone_none, Bool.not_true, Bool.not_false, Nat.zero_add]
      simpa [hs] using hk
    | true =>
      rw [hs] at hk
      simp only [AW.side, Bool.and_eq_true, decide_eq_true_eq] at hs
      unfold AW.sides at hs
      have h3 := h.len3
      have h2 := h.len2
      have hw : IntKind.i64.wrap (s - 1) = s - 1 := wrap64_id (by omega) (by omega)
      have hlen : s - 1 < ((a.parents.map vi).length : Int) := by simp; omega
      obtain ⟨b, i, c, hix, _, hc, _, hci, _⟩ := h.par.place (j := s - 1) (by omega) hlen
      have hlt : (s - 1).toNat < a.parents.length := by simp at hlen; omega
      have hv : c[i]? = some (vi (a.parents.getD (s.toNat - 1) 0)) := by
        have e1 : (s - 1).toNat = s.toNat - 1 := by omega
        rw [e1] at hlt
        rw [hci, e1]
        simp [hlt, List.getD_eq_getElem?_getD]
      simp only [atDrew_eq, nilK_ptr, nilK_fn, fieldA_at, load1_at, orRd_some, optK_some, pickK_true, pickK_false, gopK_tt, gopK_ff, gopK_tf, gopK_ft, gopK_undef, gqK_tt, gqK_ff, gqK_tf, gqK_ft, gqK_undef, condK_true, condK_false, unK_not, binI_eql, binI_neq, binI_lss, binI_leq, binI_gtr, binI_geq, binI_add, binI_sub, binI_mul, binP_eql_none, binP_neq_none, binM_eql_none, binM_neq_none, binL_eql_none, lenL_at, convI_at, extractK_at, Option.bind_some, List.getElem?_cons_zero, List.getElem?_cons_succ, Option.isNone_some, Option.isNone_none, Bool.not_true, Bool.not_false, Nat.zero_add, h.top, hw, hix, hc, hv]
      simpa [h0] using hk

/-- a cut edge, among the plain data -/
def AW.cutEdge (a : AW) (n : Int) : AW := { a with cut := a.cut.set n.toNat true }

theorem foot_cutEdge (L : Lay) (a : AW) (n : Int) : foot L (AW.cutEdge a n) = foot L a := rfl

theorem cutEdge_no (h : WRep w L a) (n : Int) (he : AW.edge a n = false) (hk : k (vi 2) w) : callOn prog fn_World_CutEdge #[ptr L.p, vi n] w k := by
  apply F_World_CutEdge_on
  unfold F_World_CutEdge
  refine none_c h ?_
  simp only [atDrew_eq, nilK_ptr, nilK_fn, fieldA_at, load1_at, orRd_some, optK_some, pickK_true, pickK_false, gopK_tt, gopK_ff, gopK_tf, gopK_ft, gopK_undef, gqK_tt, gqK_ff, gqK_tf, gqK_ft, gqK_undef, condK_true, condK_false, unK_not, binI_eql, binI_neq, binI_lss, binI_leq, binI_gtr, binI_geq, binI_add, binI_sub, binI_mul, binP_eql_none, binP_neq_none, binM_eql_none, binM_neq_none, binL_eql_none, lenL_at, convI_at, extractK_at, Option.bind_some, List.getElem?_cons_zero, List.getElem?_cons_succ, Option.isNone_some, Option.isNone_none, Bool.not_true, Bool.not_false, Nat.zero_add]
  refine edge_c h n ?_
  simp only [he, atDrew_eq, nilK_ptr, nilK_fn, fieldA_at, load1_at, orRd_some, optK_some, pickK_true, pickK_false, gopK_tt, gopK_ff, gopK_tf, gopK_ft, gopK_undef, gqK_tt, gqK_ff, gqK_tf, gqK_ft, gqK_undef, condK_true, condK_false, unK_not, binI_eql, binI_neq, binI_lss, binI_leq, binI_gtr, binI_geq, binI_add, binI_sub, binI_mul, binP_eql_none, binP_neq_none, binM_eql_none, binM_neq_none, binL_eql_none, lenL_at, convI_at, extractK_at, Option.bind_some, List.getElem?_cons_zero, List.getElem?_cons_succ, Option.isNone_some, Option.isNone_none, Bool.not_true, Bool.not_false, Nat.zero_add]
  exact hk

theorem nodup_sep {L : Lay} {a : AW} (h : (foot L a).Nodup) {b : Nat} (hb : b ∈ sliceBlk L.cut) : b ≠ L.p ∧ b ≠ L.bm ∧ b ≠ L.bf ∧ (∀ c ∈ sliceBlk L.par, b ≠ c) ∧ (∀ c ∈ sliceBlk L.made, b ≠ c) ∧ ∀ t ∈ a.things, b ≠ L.bk t.1 := by
  simp only [foot, List.nodup_cons, List.mem_cons, List.mem_append, not_or, List.nodup_append, List.mem_map, not_exists, not_and] at h
  obtain ⟨⟨p1, p2, p3, p4, p5, p6⟩, ⟨m1, m2, m3, m4, m5⟩, ⟨f1, f2, f3, f4⟩, h1, ⟨h2, ⟨h3, h4, h5⟩, h6⟩, h7⟩ := h
  refine ⟨fun e => p4 (e ▸ hb), fun e => m3 (e ▸ hb), fun e => f2 (e ▸ hb), fun c hc e => ?_, fun c hc e => ?_, fun t ht e => ?_⟩
  · exact (h7 c hc b (.inl hb)) e.symm
  · exact (h6 b hb c (.inl hc)) e
  · exact (h6 b hb (L.bk t.1) (.inr ⟨t, ht, rfl⟩)) e

theorem cutEdge_yes (h : WRep w L a) (n : Int) (he : AW.edge a n = true) (hk : ∀ w', Keeps (fun b => b ∈ sliceBlk L.cut) w w' → WRep w' L (AW.cutEdge a n) → k (vi 0) w') :
    callOn prog fn_World_CutEdge #[ptr L.p, vi n] w k := by
  apply F_World_CutEdge_on
  unfold F_World_CutEdge
  refine none_c h ?_
  simp only [atDrew_eq, nilK_ptr, nilK_fn, fieldA_at, load1_at, orRd_some, optK_some, pickK_true, pickK_false, gopK_tt, gopK_ff, gopK_tf, gopK_ft, gopK_undef, gqK_tt, gqK_ff, gqK_tf, gqK_ft, gqK_undef, condK_true, condK_false, unK_not, binI_eql, binI_neq, binI_lss, binI_leq, binI_gtr, binI_geq, binI_add, binI_sub, binI_mul, binP_eql_none, binP_neq_none, binM_eql_none, binM_neq_none, binL_eql_none, lenL_at, convI_at, extractK_at, Option.bind_some, List.getElem?_cons_zero, List.getElem?_cons_succ, Option.isNone_some, Option.isNone_none, Bool.not_true, Bool.not_false, Nat.zero_add]
  refine edge_c h n ?_
  simp only [he, atDrew_eq, nilK_ptr, nilK_fn, fieldA_at, load1_at, orRd_some, optK_some, pickK_true, pickK_false, gopK_tt, gopK_ff, gopK_tf, gopK_ft, gopK_undef, gqK_tt, gqK_ff, gqK_tf, gqK_ft, gqK_undef, condK_true, condK_false, unK_not, binI_eql, binI_neq, binI_lss, binI_leq, binI_gtr, binI_geq, binI_add, binI_sub, binI_mul, binP_eql_none, binP_neq_none, binM_eql_none, binM_neq_none, binL_eql_none, lenL_at, convI_at, extractK_at, Option.bind_some, List.getElem?_cons_zero, List.getElem?_cons_succ, Option.isNone_some, Option.isNone_none, Bool.not_true, Bool.not_false, Nat.zero_add, h.top]
  simp only [AW.edge, Bool.and_eq_true, decide_eq_true_eq] at he
  unfold AW.sides at he
  have hlen : n < ((a.cut.map Value.bool).length : Int) := by have := h.len1; simp; omega
  obtain ⟨b, i, c, hix, hb, hc, hic, hci, hset⟩ := h.cut.place (j := n) (by omega) hlen
  simp only [hix]
  refine store1_intro hc hic rfl fun w' hkp hc' hsz => ?_
  have hkp' : Keeps (fun x => x ∈ sliceBlk L.cut) w w' := hkp.mono fun x _ hx => by subst hx; exact hb
  refine hk w' hkp' ?_
  obtain ⟨s1, s2, s3, s4, s5, s6⟩ := nodup_sep h.apart hb
  exact { h with
    top := hkp.cells h.top (Ne.symm s1)
    par := h.par.keeps hkp fun x hx e => s4 x hx e.symm
    cut := by have := hset w' _ hc'; simpa [AW.cutEdge, List.map_set] using this
    made := h.made.keeps hkp fun x hx e => s5 x hx e.symm
    things := hkp.map h.things (Ne.symm s2)
    facets := hkp.map h.facets (Ne.symm s3)
    cells := fun t ht => hkp.cells (h.cells t ht) (Ne.symm (s6 t ht))
    len1 := by simpa [AW.cutEdge] using h.len1 }

theorem fkey_eq (t s t' s' : Int) : keyEq (fkey t s) (fkey t' s') = some (t == t' && s == s') := by simp [keyEq, fkey]

theorem WRep.fac (h : WRep w L a) {e : MapEntry} (he : e ∈ L.fs) : ∃ t ∈ a.things, t.2.kind = 14 ∧ e.key = fkey t.2.of t.2.set ∧ e.val = vi t.1 := by
  have : kv e ∈ (a.things.filter fun t => t.2.kind == 14).map fun t => (fkey t.2.of t.2.set, vi t.1) := h.facs.subset (List.mem_map_of_mem he)
  obtain ⟨t, ht, hkv⟩ := List.mem_map.1 this
  simp only [kv, Prod.mk.injEq] at hkv
  obtain ⟨h1, h2⟩ := List.mem_filter.1 ht
  exact ⟨t, h1, by simpa using h2, hkv.1.symm, hkv.2.symm⟩

theorem WRep.fac_of (h : WRep w L a) {t : Int × Wh} (ht : t ∈ a.things) (hk : t.2.kind = 14) : ∃ e ∈ L.fs, e.key = fkey t.2.of t.2.set ∧ e.val = vi t.1 := by
  have : (fkey t.2.of t.2.set, vi t.1) ∈ L.fs.map kv := h.facs.symm.subset (List.mem_map_of_mem (f := fun t => (fkey t.2.of t.2.set, vi t.1)) (List.mem_filter.2 ⟨ht, by simpa using hk⟩))
  obtain ⟨e, he, hkv⟩ := List.mem_map.1 this
  simp only [kv, Prod.mk.injEq] at hkv
  exact ⟨e, he, hkv.1, hkv.2⟩

theorem WRep.findF_none (h : WRep w L a) {t s : Int} (hf : a.find t s = none) : findK (fkey t s) L.fs 0 = some none :=
  findK_miss fun e he => by
    obtain ⟨x, hx, hk, hkey, _⟩ := h.fac he
    rw [hkey, fkey_eq]
    simp only [AW.find, Option.map_eq_none_iff, List.find?_eq_none] at hf
    have := hf x hx
    simp only [hk, beq_self_eq_true, Bool.true_and, Bool.and_eq_true, beq_iff_eq, not_and] at this
    simp only [Option.some.injEq, Bool.and_eq_false_iff, beq_eq_false_iff_ne]
    by_cases h1 : t = x.2.of
    · exact .inr fun h2 => this h1.symm h2.symm
    · exact .inl h1

theorem find_mem {a : AW} {t s r : Int} (hf : a.find t s = some r) : ∃ x, (r, x) ∈ a.things ∧ x.kind = 14 ∧ x.of = t ∧ x.set = s := by
  simp only [AW.find, Option.map_eq_some_iff] at hf
  obtain ⟨y, hy, rfl⟩ := hf
  have h1 := List.mem_of_find?_eq_some hy
  have h2 := List.find?_some hy
  simp only [Bool.and_eq_true, beq_iff_eq] at h2
  exact ⟨y.2, h1, h2.1.1, h2.1.2, h2.2⟩

theorem WRep.findF_some (h : WRep w L a) (ho : OneFacet a) {t s r : Int} (hf : a.find t s = some r) : ∃ j, findK (fkey t s) L.fs 0 = some (some (j, vi r)) := by
  obtain ⟨x, hx, hk, h1, h2⟩ := find_mem hf
  obtain ⟨e, he, hkey, hv⟩ := h.fac_of hx hk
  obtain ⟨j, e2, g1, g2, g3, g4⟩ := findK_hit (key := fkey t s) (es := L.fs) (i := 0) (fun e he => by
    obtain ⟨y, hy, _, hkey, _⟩ := h.fac he
    rw [hkey, fkey_eq]; rfl) ⟨e, he, by rw [hkey, fkey_eq]; simp [h1, h2]⟩
  obtain ⟨y, hy, hyk, hkey2, hv2⟩ := h.fac (List.mem_of_getElem? g3)
  rw [hkey2, fkey_eq] at g4
  simp only [Option.some.injEq, Bool.and_eq_true, beq_iff_eq] at g4
  have : y = (r, x) := ho y hy (r, x) hx hyk hk (by rw [← g4.1, h1]) (by rw [← g4.2, h2])
  subst this
  exact ⟨j, by rw [g1, hv2]⟩

theorem find_c (h : WRep w L a) (ho : OneFacet a) (t s : Int) (hk : k (.tuple #[vi ((a.find t s).getD 0), .bool (a.find t s).isSome]) w) : callOn prog fn_World_Find #[ptr L.p, vi t, vb s] w k := by
  apply F_World_Find_on
  unfold F_World_Find
  refine none_c h ?_
  have hb : ∀ q : Value → Prop, buildS (.agg #[vi 0, vb 0]) [(0, 1), (1, 1)] [(0, vi t), (1, vb s)] q = q (fkey t s) := fun q => rfl
  simp only [atDrew_eq, nilK_ptr, nilK_fn, fieldA_at, load1_at, orRd_some, optK_some, pickK_true, pickK_false, gopK_tt, gopK_ff, gopK_tf, gopK_ft, gopK_undef, gqK_tt, gqK_ff, gqK_tf, gqK_ft, gqK_undef, condK_true, condK_false, unK_not, binI_eql, binI_neq, binI_lss, binI_leq, binI_gtr, binI_geq, binI_add, binI_sub, binI_mul, binP_eql_none, binP_neq_none, binM_eql_none, binM_neq_none, binL_eql_none, lenL_at, convI_at, extractK_at, Option.bind_some, List.getElem?_cons_zero, List.getElem?_cons_succ, Option.isNone_some, Option.isNone_none, Bool.not_true, Bool.not_false, Nat.zero_add, h.top]
  rw [hb]
  cases hf : a.find t s with
  | none =>
    rw [hf] at hk
    simp only [lookM, h.facets, h.findF_none hf, foundM]
    refine ⟨rfl, ?_⟩
    simp only [if_true, atDrew_eq, nilK_ptr, nilK_fn, fieldA_at, load1_at, orRd_some, optK_some, pickK_true, pickK_false, gopK_tt, gopK_ff, gopK_tf, gopK_ft, gopK_undef, gqK_tt, gqK_ff, gqK_tf, gqK_ft, gqK_undef, condK_true, condK_false, unK_not, binI_eql, binI_neq, binI_lss, binI_leq, binI_gtr, binI_geq, binI_add, binI_sub, binI_mul, binP_eql_none, binP_neq_none, binM_eql_none, binM_neq_none, binL_eql_none, lenL_at, convI_at, extractK_at, Option.bind_some, List.getElem?_cons_zero, List.getElem?_cons_succ, Option.isNone_some, Option.isNone_none, Bool.not_true, Bool.not_false, Nat.zero_add]
    exact hk
  | some r =>
    rw [hf] at hk
    obtain ⟨j, hj⟩ := h.findF_some ho hf
    simp only [lookM, h.facets, hj, foundM]
    refine ⟨rfl, ?_⟩
    simp only [if_true, atDrew_eq, nilK_ptr, nilK_fn, fieldA_at, load1_at, orRd_some, optK_some, pickK_true, pickK_false, gopK_tt, gopK_ff, gopK_tf, gopK_ft, gopK_undef, gqK_tt, gqK_ff, gqK_tf, gqK_ft, gqK_undef, condK_true, condK_false, unK_not, binI_eql, binI_neq, binI_lss, binI_leq, binI_gtr, binI_geq, binI_add, binI_sub, binI_mul, binP_eql_none, binP_neq_none, binM_eql_none, binM_neq_none, binL_eql_none, lenL_at, convI_at, extractK_at, Option.bind_some, List.getElem?_cons_zero, List.getElem?_cons_succ, Option.isNone_some, Option.isNone_none, Bool.not_true, Bool.not_false, Nat.zero_add]
    exact hk
end
end Go.X
