/- Texts of this family, put together. -/
import Derived.Test.YtdjheefbeagcjaaXxRep
import Derived.Test.YtdjheefbeagcjaaXxS1
/- Contracts of the world's small functions. -/
set_option linter.unusedSimpArgs false
set_option linter.unusedVariables false
namespace Go.X
open Go Go.AW

section
variable {w : World} {L : Lay} {a : AW} {k : Value → World → Prop}

theorem none_nil (hk : k (.bool true) w) : callOn prog fn_World_none #[.pointer none] w k := by
  apply F_World_none_on
  unfold F_World_none
  simp only [atDrew_eq, nilK_ptr, nilK_fn, fieldA_at, load1_at, orRd_some, optK_some, pickK_true, pickK_false, gopK_tt, gopK_ff, gopK_tf, gopK_ft, gopK_undef, gqK_tt, gqK_ff, gqK_tf, gqK_ft, gqK_undef, condK_true, condK_false, unK_not, binI_eql, binI_neq, binI_lss, binI_leq, binI_gtr, binI_geq, binI_add, binI_sub, binI_mul, binP_eql_none, binP_neq_none, binM_eql_none, binM_neq_none, binL_eql_none, lenL_at, convI_at, extractK_at, Option.bind_some, List.getElem?_cons_zero, List.getElem?_cons_succ, Option.isNone_some, Option.isNone_none, Bool.not_true, Bool.not_false, Nat.zero_add]
  exact hk

theorem none_c (h : WRep w L a) (hk : k (.bool false) w) : callOn prog fn_World_none #[ptr L.p] w k := by
  apply F_World_none_on
  unfold F_World_none
  simp only [atDrew_eq, nilK_ptr, nilK_fn, fieldA_at, load1_at, orRd_some, optK_some, pickK_true, pickK_false, gopK_tt, gopK_ff, gopK_tf, gopK_ft, gopK_undef, gqK_tt, gqK_ff, gqK_tf, gqK_ft, gqK_undef, condK_true, condK_false, unK_not, binI_eql, binI_neq, binI_lss, binI_leq, binI_gtr, binI_geq, binI_add, binI_sub, binI_mul, binP_eql_none, binP_neq_none, binM_eql_none, binM_neq_none, binL_eql_none, lenL_at, convI_at, extractK_at, Option.bind_some, List.getElem?_cons_zero, List.getElem?_cons_succ, Option.isNone_some, Option.isNone_none, Bool.not_true, Bool.not_false, Nat.zero_add, h.top]
  exact hk

theorem is_c (h : WRep w L a) (r : Int) (hk : k (.bool (a.is r)) w) : callOn prog fn_World_Is #[ptr L.p, vi r] w k := by
  apply F_World_Is_on
  unfold F_World_Is
  refine none_c h ?_
  simp only [atDrew_eq, nilK_ptr, nilK_fn, fieldA_at, load1_at, orRd_some, optK_some, pickK_true, pickK_false, gopK_tt, gopK_ff, gopK_tf, gopK_ft, gopK_undef, gqK_tt, gqK_ff, gqK_tf, gqK_ft, gqK_undef, condK_true, condK_false, unK_not, binI_eql, binI_neq, binI_lss, binI_leq, binI_gtr, binI_geq, binI_add, binI_sub, binI_mul, binP_eql_none, binP_neq_none, binM_eql_none, binM_neq_none, binL_eql_none, lenL_at, convI_at, extractK_at, Option.bind_some, List.getElem?_cons_zero, List.getElem?_cons_succ, Option.isNone_some, Option.isNone_none, Bool.not_true, Bool.not_false, Nat.zero_add, h.top]
  unfold AW.is at hk
  cases hr : a.at r with
  | none =>
    rw [hr] at hk
    simp only [h.look_none hr, Bool.false_eq_true, if_false, atDrew_eq, nilK_ptr, nilK_fn, fieldA_at, load1_at, orRd_some, optK_some, pickK_true, pickK_false, gopK_tt, gopK_ff, gopK_tf, gopK_ft, gopK_undef, gqK_tt, gqK_ff, gqK_tf, gqK_ft, gqK_undef, condK_true, condK_false, unK_not, binI_eql, binI_neq, binI_lss, binI_leq, binI_gtr, binI_geq, binI_add, binI_sub, binI_mul, binP_eql_none, binP_neq_none, binM_eql_none, binM_neq_none, binL_eql_none, lenL_at, convI_at, extractK_at, Option.bind_some, List.getElem?_cons_zero, List.getElem?_cons_succ, Option.isNone_some, Option.isNone_none, Bool.not_true, Bool.not_false, Nat.zero_add]
    exact hk
  | some x =>
    rw [hr] at hk
    simp only [h.look_some hr, Bool.false_eq_true, if_false, atDrew_eq, nilK_ptr, nilK_fn, fieldA_at, load1_at, orRd_some, optK_some, pickK_true, pickK_false, gopK_tt, gopK_ff, gopK_tf, gopK_ft, gopK_undef, gqK_tt, gqK_ff, gqK_tf, gqK_ft, gqK_undef, condK_true, condK_false, unK_not, binI_eql, binI_neq, binI_lss, binI_leq, binI_gtr, binI_geq, binI_add, binI_sub, binI_mul, binP_eql_none, binP_neq_none, binM_eql_none, binM_neq_none, binL_eql_none, lenL_at, convI_at, extractK_at, Option.bind_some, List.getElem?_cons_zero, List.getElem?_cons_succ, Option.isNone_some, Option.isNone_none, Bool.not_true, Bool.not_false, Nat.zero_add]
    exact hk

theorem kind_c (h : WRep w L a) (r : Int) (hk : k (vb (a.kind r)) w) : callOn prog fn_World_Kind #[ptr L.p, vi r] w k := by
  apply F_World_Kind_on
  unfold F_World_Kind
  refine is_c h r ?_
  unfold AW.is
  unfold AW.kind at hk
  cases hr : a.at r with
  | none =>
    rw [hr] at hk
    simp only [Option.isSome_none, atDrew_eq, nilK_ptr, nilK_fn, fieldA_at, load1_at, orRd_some, optK_some, pickK_true, pickK_false, gopK_tt, gopK_ff, gopK_tf, gopK_ft, gopK_undef, gqK_tt, gqK_ff, gqK_tf, gqK_ft, gqK_undef, condK_true, condK_false, unK_not, binI_eql, binI_neq, binI_lss, binI_leq, binI_gtr, binI_geq, binI_add, binI_sub, binI_mul, binP_eql_none, binP_neq_none, binM_eql_none, binM_neq_none, binL_eql_none, lenL_at, convI_at, extractK_at, Option.bind_some, List.getElem?_cons_zero, List.getElem?_cons_succ, Option.isNone_some, Option.isNone_none, Bool.not_true, Bool.not_false, Nat.zero_add]
    exact hk
  | some x =>
    rw [hr] at hk
    simp only [Option.isSome_some, atDrew_eq, nilK_ptr, nilK_fn, fieldA_at, load1_at, orRd_some, optK_some, pickK_true, pickK_false, gopK_tt, gopK_ff, gopK_tf, gopK_ft, gopK_undef, gqK_tt, gqK_ff, gqK_tf, gqK_ft, gqK_undef, condK_true, condK_false, unK_not, binI_eql, binI_neq, binI_lss, binI_leq, binI_gtr, binI_geq, binI_add, binI_sub, binI_mul, binP_eql_none, binP_neq_none, binM_eql_none, binM_neq_none, binL_eql_none, lenL_at, convI_at, extractK_at, Option.bind_some, List.getElem?_cons_zero, List.getElem?_cons_succ, Option.isNone_some, Option.isNone_none, Bool.not_true, Bool.not_false, Nat.zero_add, h.top, h.look_some hr, Bool.false_eq_true, if_false, h.cell hr, whCells]
    exact hk
end
end Go.X
/- Contracts: sides, edges, small questions, sets of abilities. -/
set_option linter.unusedSimpArgs false
set_option linter.unusedVariables false
namespace Go.X
open Go Go.AW

theorem drop_take_set {c l : List Value} {i n m : Nat} {x : Value} (ht : (c.drop i).take n = l) (hm : m < l.length) (hc : i + m < c.length) :
    ((c.set (i + m) x).drop i).take n = l.set m x := by
  subst ht
  apply List.ext_getElem?
  intro q
  by_cases hq : q < n
  · simp only [List.getElem?_take, hq, if_true, List.getElem?_drop, List.getElem?_set, List.length_take, List.length_drop]
    by_cases hqm : m = q
    · subst hqm
      simp only [if_true, hc]
      have : m < min n (c.length - i) := by simpa using hm
      simp [this]
    · have : ¬ i + m = i + q := by omega
      simp only [this, hqm, if_false]
  · have h1 : (((c.set (i + m) x).drop i).take n)[q]? = none := List.getElem?_eq_none (by simp; omega)
    have h2 : (((c.drop i).take n).set m x)[q]? = none := List.getElem?_eq_none (by simp; omega)
    rw [h1, h2]

/-- a place within a slice: where it lies, what it holds, and what a store there makes of the slice -/
theorem SliceOf.place {w : World} {v : Value} {l : List Value} (h : SliceOf w v l) {j : Int} (h0 : 0 ≤ j) (h1 : j < l.length) :
    ∃ b i c, (∀ (q : IntKind) (k : Value → Prop), indexS 1 v (.int q j) k = k (.pointer (some ⟨b, i, none⟩))) ∧ b ∈ sliceBlk v ∧ cellsOf w b = some c ∧ i < c.length ∧ c[i]? = l[j.toNat]? ∧
      ∀ (w' : World) (x : Value), cellsOf w' b = some (c.set i x) → SliceOf w' v (l.set j.toNat x) := by
  unfold SliceOf at h
  split at h
  · obtain ⟨_, _, rfl⟩ := h; simp at h1; omega
  · rename_i b i n cap
    obtain ⟨hn, c, hc, hl, ht, hle⟩ := h
    obtain ⟨m, rfl⟩ := Int.eq_ofNat_of_zero_le h0
    simp only [Int.toNat_natCast]
    have hm : m < l.length := by omega
    have hlt : i + m < c.length := by omega
    refine ⟨b, i + m, c, fun q k => ?_, by simp [sliceBlk], hc, hlt, ?_, fun w' x hw' => ?_⟩
    · simp only [indexS, Int.toNat_natCast, Nat.mul_one, add_off]
      apply propext
      constructor
      · exact fun h => h.2.2
      · exact fun h => ⟨by omega, by omega, h⟩
    · rw [← ht, List.getElem?_take_of_lt (by omega), List.getElem?_drop]
    · refine ⟨hn, _, hw', by simpa using hl, ?_, by simpa using hle⟩
      exact drop_take_set ht hm (by omega)
  · exact h.elim

section
variable {w : World} {L : Lay} {a : AW} {k : Value → World → Prop}

theorem sides_c (h : WRep w L a) (hk : k (vi a.sides) w) : callOn prog fn_World_Sides #[ptr L.p] w k := by
  apply F_World_Sides_on
  unfold F_World_Sides
  refine none_c h ?_
  have hm := h.made
  simp only [atDrew_eq, nilK_ptr, nilK_fn, fieldA_at, load1_at, orRd_some, optK_some, pickK_true, pickK_false, gopK_tt, gopK_ff, gopK_tf, gopK_ft, gopK_undef, gqK_tt, gqK_ff, gqK_tf, gqK_ft, gqK_undef, condK_true, condK_false, unK_not, binI_eql, binI_neq, binI_lss, binI_leq, binI_gtr, binI_geq, binI_add, binI_sub, binI_mul, binP_eql_none, binP_neq_none, binM_eql_none, binM_neq_none, binL_eql_none, lenL_at, convI_at, extractK_at, Option.bind_some, List.getElem?_cons_zero, List.getElem?_cons_succ, Option.isNone_some, Option.isNone_none, Bool.not_true, Bool.not_false, Nat.zero_add, h.top]
  unfold SliceOf at hm
  split at hm
  · rename_i n c hv
    rw [hv]
    obtain ⟨rfl, _, hl⟩ := hm
    simp only [atDrew_eq, nilK_ptr, nilK_fn, fieldA_at, load1_at, orRd_some, optK_some, pickK_true, pickK_false, gopK_tt, gopK_ff, gopK_tf, gopK_ft, gopK_undef, gqK_tt, gqK_ff, gqK_tf, gqK_ft, gqK_undef, condK_true, condK_false, unK_not, binI_eql, binI_neq, binI_lss, binI_leq, binI_gtr, binI_geq, binI_add, binI_sub, binI_mul, binP_eql_none, binP_neq_none, binM_eql_none, binM_neq_none, binL_eql_none, lenL_at, convI_at, extractK_at, Option.bind_some, List.getElem?_cons_zero, List.getElem?_cons_succ, Option.isNone_some, Option.isNone_none, Bool.not_true, Bool.not_false, Nat.zero_add]
    have : a.made = [] := by simpa using hl
    simpa [AW.sides, this] using hk
  · rename_i b i n c hv
    rw [hv]
    obtain ⟨_, cs, _, hl, _⟩ := hm
    simp only [atDrew_eq, nilK_ptr, nilK_fn, fieldA_at, load1_at, orRd_some, optK_some, pickK_true, pickK_false, gopK_tt, gopK_ff, gopK_tf, gopK_ft, gopK_undef, gqK_tt, gqK_ff, gqK_tf, gqK_ft, gqK_undef, condK_true, condK_false, unK_not, binI_eql, binI_neq, binI_lss, binI_leq, binI_gtr, binI_geq, binI_add, binI_sub, binI_mul, binP_eql_none, binP_neq_none, binM_eql_none, binM_neq_none, binL_eql_none, lenL_at, convI_at, extractK_at, Option.bind_some, List.getElem?_cons_zero, List.getElem?_cons_succ, Option.isNone_some, Option.isNone_none, Bool.not_true, Bool.not_false, Nat.zero_add]
    have : n = a.made.length := by simpa using hl
    simpa [AW.sides, this] using hk
  · exact hm.elim

theorem side_c (h : WRep w L a) (s : Int) (hk : k (.bool (a.side s)) w) : callOn prog fn_World_side #[ptr L.p, vi s] w k := by
  apply F_World_side_on
  unfold F_World_side
  simp only [atDrew_eq, nilK_ptr, nilK_fn, fieldA_at, load1_at, orRd_some, optK_some, pickK_true, pickK_false, gopK_tt, gopK_ff, gopK_tf, gopK_ft, gopK_undef, gqK_tt, gqK_ff, gqK_tf, gqK_ft, gqK_undef, condK_true, condK_false, unK_not, binI_eql, binI_neq, binI_lss, binI_leq, binI_gtr, binI_geq, binI_add, binI_sub, binI_mul, binP_eql_none, binP_neq_none, binM_eql_none, binM_neq_none, binL_eql_none, lenL_at, convI_at, extractK_at, Option.bind_some, List.getElem?_cons_zero, List.getElem?_cons_succ, Option.isNone_some, Option.isNone_none, Bool.not_true, Bool.not_false, Nat.zero_add]
  unfold AW.side at hk
  by_cases h0 : 0 ≤ s
  · have h0' : decide (s ≥ 0) = true := by simpa using h0
    simp only [h0', atDrew_eq, nilK_ptr, nilK_fn, fieldA_at, load1_at, orRd_some, optK_some, pickK_true, pickK_false, gopK_tt, gopK_ff, gopK_tf, gopK_ft, gopK_undef, gqK_tt, gqK_ff, gqK_tf, gqK_ft, gqK_undef, condK_true, condK_false, unK_not, binI_eql, binI_neq, binI_lss, binI_leq, binI_gtr, binI_geq, binI_add, binI_sub, binI_mul, binP_eql_none, binP_neq_none, binM_eql_none, binM_neq_none, binL_eql_none, lenL_at, convI_at, extractK_at, Option.bind_some, List.getElem?_cons_zero, List.getElem?_cons_succ, Option.isNone_some, Option.isNone_none, Bool.not_true, Bool.not_false, Nat.zero_add]
    refine sides_c h ?_
    simp only [atDrew_eq, nilK_ptr, nilK_fn, fieldA_at, load1_at, orRd_some, optK_some, pickK_true, pickK_false, gopK_tt, gopK_ff, gopK_tf, gopK_ft, gopK_undef, gqK_tt, gqK_ff, gqK_tf, gqK_ft, gqK_undef, condK_true, condK_false, unK_not, binI_eql, binI_neq, binI_lss, binI_leq, binI_gtr, binI_geq, binI_add, binI_sub, binI_mul, binP_eql_none, binP_neq_none, binM_eql_none, binM_neq_none, binL_eql_none, lenL_at, convI_at, extractK_at, Option.bind_some, List.getElem?_cons_zero, List.getElem?_cons_succ, Option.isNone_some, Option.isNone_none, Bool.not_true, Bool.not_false, Nat.zero_add]
    simpa [h0] using hk
  · have h0' : decide (s ≥ 0) = false := by simpa using h0
    simp only [h0', atDrew_eq, nilK_ptr, nilK_fn, fieldA_at, load1_at, orRd_some, optK_some, pickK_true, pickK_false, gopK_tt, gopK_ff, gopK_tf, gopK_ft, gopK_undef, gqK_tt, gqK_ff, gqK_tf, gqK_ft, gqK_undef, condK_true, condK_false, unK_not, binI_eql, binI_neq, binI_lss, binI_leq, binI_gtr, binI_geq, binI_add, binI_sub, binI_mul, binP_eql_none, binP_neq_none, binM_eql_none, binM_neq_none, binL_eql_none, lenL_at, convI_at, extractK_at, Option.bind_some, List.getElem?_cons_zero, List.getElem?_cons_succ, Option.isNone_some, Option.isNone_none, Bool.not_true, Bool.not_false, Nat.zero_add]
    simpa [h0] using hk

def AW.edge (a : AW) (n : Int) : Bool := decide (0 < n) && decide (n < a.sides)

theorem edge_c (h : WRep w L a) (s : Int) (hk : k (.bool (AW.edge a s)) w) : callOn prog fn_World_edge #[ptr L.p, vi s] w k := by
  apply F_World_edge_on
  unfold F_World_edge
  simp only [atDrew_eq, nilK_ptr, nilK_fn, fieldA_at, load1_at, orRd_some, optK_some, pickK_true, pickK_false, gopK_tt, gopK_ff, gopK_tf, gopK_ft, gopK_undef, gqK_tt, gqK_ff, gqK_tf, gqK_ft, gqK_undef, condK_true, condK_false, unK_not, binI_eql, binI_neq, binI_lss, binI_leq, binI_gtr, binI_geq, binI_add, binI_sub, binI_mul, binP_eql_none, binP_neq_none, binM_eql_none, binM_neq_none, binL_eql_none, lenL_at, convI_at, extractK_at, Option.bind_some, List.getElem?_cons_zero, List.getElem?_cons_succ, Option.isNone_some, Option.isNone_none, Bool.not_true, Bool.not_false, Nat.zero_add]
  unfold AW.edge at hk
  by_cases h0 : 0 < s
  · have h0' : decide (s > 0) = true := by simpa using h0
    simp only [h0', atDrew_eq, nilK_ptr, nilK_fn, fieldA_at, load1_at, orRd_some, optK_some, pickK_true, pickK_false, gopK_tt, gopK_ff, gopK_tf, gopK_ft, gopK_undef, gqK_tt, gqK_ff, gqK_tf, gqK_ft, gqK_undef, condK_true, condK_false, unK_not, binI_eql, binI_neq, binI_lss, binI_leq, binI_gtr, binI_geq, binI_add, binI_sub, binI_mul, binP_eql_none, binP_neq_none, binM_eql_none, binM_neq_none, binL_eql_none, lenL_at, convI_at, extractK_at, Option.bind_some, List.getElem?_cons_zero, List.getElem?_cons_succ, Option.isNone_some, Option.isNone_none, Bool.not_true, Bool.not_false, Nat.zero_add]
    refine sides_c h ?_
    simp only [atDrew_eq, nilK_ptr, nilK_fn, fieldA_at, load1_at, orRd_some, optK_some, pickK_true, pickK_false, gopK_tt, gopK_ff, gopK_tf, gopK_ft, gopK_undef, gqK_tt, gqK_ff, gqK_tf, gqK_ft, gqK_undef, condK_true, condK_false, unK_not, binI_eql, binI_neq, binI_lss, binI_leq, binI_gtr, binI_geq, binI_add, binI_sub, binI_mul, binP_eql_none, binP_neq_none, binM_eql_none, binM_neq_none, binL_eql_none, lenL_at, convI_at, extractK_at, Option.bind_some, List.getElem?_cons_zero, List.getElem?_cons_succ, Option.isNone_some, Option.isNone_none, Bool.not_true, Bool.not_false, Nat.zero_add]
    simpa [h0] using hk
  · have h0' : decide (s > 0) = false := by simpa using h0
    simp only [h0', atDrew_eq, nilK_ptr, nilK_fn, fieldA_at, load1_at, orRd_some, optK_some, pickK_true, pickK_false, gopK_tt, gopK_ff, gopK_tf, gopK_ft, gopK_undef, gqK_tt, gqK_ff, gqK_tf, gqK_ft, gqK_undef, condK_true, condK_false, unK_not, binI_eql, binI_neq, binI_lss, binI_leq, binI_gtr, binI_geq, binI_add, binI_sub, binI_mul, binP_eql_none, binP_neq_none, binM_eql_none, binM_neq_none, binL_eql_none, lenL_at, convI_at, extractK_at, Option.bind_some, List.getElem?_cons_zero, List.getElem?_cons_succ, Option.isNone_some, Option.isNone_none, Bool.not_true, Bool.not_false, Nat.zero_add]
    simpa [h0] using hk

theorem wraps_c (q : Int) (hk : k (.bool (AW.wraps q)) w) : callOn prog fn_world_wraps #[vb q] w k := by
  apply F_world_wraps_on
  unfold F_world_wraps
  simp only [atDrew_eq, nilK_ptr, nilK_fn, fieldA_at, load1_at, orRd_some, optK_some, pickK_true, pickK_false, gopK_tt, gopK_ff, gopK_tf, gopK_ft, gopK_undef, gqK_tt, gqK_ff, gqK_tf, gqK_ft, gqK_undef, condK_true, condK_false, unK_not, binI_eql, binI_neq, binI_lss, binI_leq, binI_gtr, binI_geq, binI_add, binI_sub, binI_mul, binP_eql_none, binP_neq_none, binM_eql_none, binM_neq_none, binL_eql_none, lenL_at, convI_at, extractK_at, Option.bind_some, List.getElem?_cons_zero, List.getElem?_cons_succ, Option.isNone_some, Option.isNone_none, Bool.not_true, Bool.not_false, Nat.zero_add]
  unfold AW.wraps at hk
  cases h1 : (q == 14) <;> simp only [h1, atDrew_eq, nilK_ptr, nilK_fn, fieldA_at, load1_at, orRd_some, optK_some, pickK_true, pickK_false, gopK_tt, gopK_ff, gopK_tf, gopK_ft, gopK_undef, gqK_tt, gqK_ff, gqK_tf, gqK_ft, gqK_undef, condK_true, condK_false, unK_not, binI_eql, binI_neq, binI_lss, binI_leq, binI_gtr, binI_geq, binI_add, binI_sub, binI_mul, binP_eql_none, binP_neq_none, binM_eql_none, binM_neq_none, binL_eql_none, lenL_at, convI_at, extractK_at, Option.bind_some, List.getElem?_cons_zero, List.getElem?_cons_succ, Option.isNone_some, Option.isNone_none, Bool.not_true, Bool.not_false, Nat.zero_add, Bool.true_or, Bool.false_or] at hk ⊢
  · cases h2 : (q == 15) <;> simp only [h2, atDrew_eq, nilK_ptr, nilK_fn, fieldA_at, load1_at, orRd_some, optK_some, pickK_true, pickK_false, gopK_tt, gopK_ff, gopK_tf, gopK_ft, gopK_undef, gqK_tt, gqK_ff, gqK_tf, gqK_ft, gqK_undef, condK_true, condK_false, unK_not, binI_eql, binI_neq, binI_lss, binI_leq, binI_gtr, binI_geq, binI_add, binI_sub, binI_mul, binP_eql_none, binP_neq_none, binM_eql_none, binM_neq_none, binL_eql_none, lenL_at, convI_at, extractK_at, Option.bind_some, List.getElem?_cons_zero, List.getElem?_cons_succ, Option.isNone_some, Option.isNone_none, Bool.not_true, Bool.not_false, Nat.zero_add, Bool.true_or, Bool.false_or] at hk ⊢
    · exact hk
    · exact hk
  · exact hk

def asksOf (q : Int) : Bool := q == 6 || q == 7 || q == 9 || q == 11 || AW.wraps q
def asksBy (q : Int) : Bool := q == 15 || q == 16

theorem asksOf_c (q : Int) (hk : k (.bool (asksOf q)) w) : callOn prog fn_world_asksOf #[vb q] w k := by
  apply F_world_asksOf_on
  unfold F_world_asksOf
  simp only [atDrew_eq, nilK_ptr, nilK_fn, fieldA_at, load1_at, orRd_some, optK_some, pickK_true, pickK_false, gopK_tt, gopK_ff, gopK_tf, gopK_ft, gopK_undef, gqK_tt, gqK_ff, gqK_tf, gqK_ft, gqK_undef, condK_true, condK_false, unK_not, binI_eql, binI_neq, binI_lss, binI_leq, binI_gtr, binI_geq, binI_add, binI_sub, binI_mul, binP_eql_none, binP_neq_none, binM_eql_none, binM_neq_none, binL_eql_none, lenL_at, convI_at, extractK_at, Option.bind_some, List.getElem?_cons_zero, List.getElem?_cons_succ, Option.isNone_some, Option.isNone_none, Bool.not_true, Bool.not_false, Nat.zero_add]
  unfold asksOf at hk
  cases h1 : (q == 6) <;> simp only [h1, atDrew_eq, nilK_ptr, nilK_fn, fieldA_at, load1_at, orRd_some, optK_some, pickK_true, pickK_false, gopK_tt, gopK_ff, gopK_tf, gopK_ft, gopK_undef, gqK_tt, gqK_ff, gqK_tf, gqK_ft, gqK_undef, condK_true, condK_false, unK_not, binI_eql, binI_neq, binI_lss, binI_leq, binI_gtr, binI_geq, binI_add, binI_sub, binI_mul, binP_eql_none, binP_neq_none, binM_eql_none, binM_neq_none, binL_eql_none, lenL_at, convI_at, extractK_at, Option.bind_some, List.getElem?_cons_zero, List.getElem?_cons_succ, Option.isNone_some, Option.isNone_none, Bool.not_true, Bool.not_false, Nat.zero_add, Bool.true_or, Bool.false_or] at hk ⊢
  · cases h2 : (q == 7) <;> simp only [h2, atDrew_eq, nilK_ptr, nilK_fn, fieldA_at, load1_at, orRd_some, optK_some, pickK_true, pickK_false, gopK_tt, gopK_ff, gopK_tf, gopK_ft, gopK_undef, gqK_tt, gqK_ff, gqK_tf, gqK_ft, gqK_undef, condK_true, condK_false, unK_not, binI_eql, binI_neq, binI_lss, binI_leq, binI_gtr, binI_geq, binI_add, binI_sub, binI_mul, binP_eql_none, binP_neq_none, binM_eql_none, binM_neq_none, binL_eql_none, lenL_at, convI_at, extractK_at, Option.bind_some, List.getElem?_cons_zero, List.getElem?_cons_succ, Option.isNone_some, Option.isNone_none, Bool.not_true, Bool.not_false, Nat.zero_add, Bool.true_or, Bool.false_or] at hk ⊢
    · cases h3 : (q == 9) <;> simp only [h3, atDrew_eq, nilK_ptr, nilK_fn, fieldA_at, load1_at, orRd_some, optK_some, pickK_true, pickK_false, gopK_tt, gopK_ff, gopK_tf, gopK_ft, gopK_undef, gqK_tt, gqK_ff, gqK_tf, gqK_ft, gqK_undef, condK_true, condK_false, unK_not, binI_eql, binI_neq, binI_lss, binI_leq, binI_gtr, binI_geq, binI_add, binI_sub, binI_mul, binP_eql_none, binP_neq_none, binM_eql_none, binM_neq_none, binL_eql_none, lenL_at, convI_at, extractK_at, Option.bind_some, List.getElem?_cons_zero, List.getElem?_cons_succ, Option.isNone_some, Option.isNone_none, Bool.not_true, Bool.not_false, Nat.zero_add, Bool.true_or, Bool.false_or] at hk ⊢
      · cases h4 : (q == 11) <;> simp only [h4, atDrew_eq, nilK_ptr, nilK_fn, fieldA_at, load1_at, orRd_some, optK_some, pickK_true, pickK_false, gopK_tt, gopK_ff, gopK_tf, gopK_ft, gopK_undef, gqK_tt, gqK_ff, gqK_tf, gqK_ft, gqK_undef, condK_true, condK_false, unK_not, binI_eql, binI_neq, binI_lss, binI_leq, binI_gtr, binI_geq, binI_add, binI_sub, binI_mul, binP_eql_none, binP_neq_none, binM_eql_none, binM_neq_none, binL_eql_none, lenL_at, convI_at, extractK_at, Option.bind_some, List.getElem?_cons_zero, List.getElem?_cons_succ, Option.isNone_some, Option.isNone_none, Bool.not_true, Bool.not_false, Nat.zero_add, Bool.true_or, Bool.false_or] at hk ⊢
        · exact wraps_c q (by simpa only [atDrew_eq, nilK_ptr, nilK_fn, fieldA_at, load1_at, orRd_some, optK_some, pickK_true, pickK_false, gopK_tt, gopK_ff, gopK_tf, gopK_ft, gopK_undef, gqK_tt, gqK_ff, gqK_tf, gqK_ft, gqK_undef, condK_true, condK_false, unK_not, binI_eql, binI_neq, binI_lss, binI_leq, binI_gtr, binI_geq, binI_add, binI_sub, binI_mul, binP_eql_none, binP_neq_none, binM_eql_none, binM_neq_none, binL_eql_none, lenL_at, convI_at, extractK_at, Option.bind_some, List.getElem?_cons_zero, List.getElem?_cons_succ, Option.isNone_some, Option.isNone_none, Bool.not_true, Bool.not_false, Nat.zero_add] using hk)
        · exact hk
      · exact hk
    · exact hk
  · exact hk

theorem asksBy_c (q : Int) (hk : k (.bool (asksBy q)) w) : callOn prog fn_world_asksBy #[vb q] w k := by
  apply F_world_asksBy_on
  unfold F_world_asksBy
  simp only [atDrew_eq, nilK_ptr, nilK_fn, fieldA_at, load1_at, orRd_some, optK_some, pickK_true, pickK_false, gopK_tt, gopK_ff, gopK_tf, gopK_ft, gopK_undef, gqK_tt, gqK_ff, gqK_tf, gqK_ft, gqK_undef, condK_true, condK_false, unK_not, binI_eql, binI_neq, binI_lss, binI_leq, binI_gtr, binI_geq, binI_add, binI_sub, binI_mul, binP_eql_none, binP_neq_none, binM_eql_none, binM_neq_none, binL_eql_none, lenL_at, convI_at, extractK_at, Option.bind_some, List.getElem?_cons_zero, List.getElem?_cons_succ, Option.isNone_some, Option.isNone_none, Bool.not_true, Bool.not_false, Nat.zero_add]
  unfold asksBy at hk
  cases h1 : (q == 15) <;> simp only [h1, atDrew_eq, nilK_ptr, nilK_fn, fieldA_at, load1_at, orRd_some, optK_some, pickK_true, pickK_false, gopK_tt, gopK_ff, gopK_tf, gopK_ft, gopK_undef, gqK_tt, gqK_ff, gqK_tf, gqK_ft, gqK_undef, condK_true, condK_false, unK_not, binI_eql, binI_neq, binI_lss, binI_leq, binI_gtr, binI_geq, binI_add, binI_sub, binI_mul, binP_eql_none, binP_neq_none, binM_eql_none, binM_neq_none, binL_eql_none, lenL_at, convI_at, extractK_at, Option.bind_some, List.getElem?_cons_zero, List.getElem?_cons_succ, Option.isNone_some, Option.isNone_none, Bool.not_true, Bool.not_false, Nat.zero_add, Bool.true_or, Bool.false_or] at hk ⊢
  · exact hk
  · exact hk

theorem home_c (h : WRep w L a) (r : Int) (hk : k (.tuple #[vi (match a.at r with | some x => if x.kind = 14 then 0 else x.home | none => 0), .bool (match a.at r with | some x => !(x.kind == 14) | none => false)]) w) :
    callOn prog fn_World_Home #[ptr L.p, vi r] w k := by
  apply F_World_Home_on
  unfold F_World_Home
  refine is_c h r ?_
  unfold AW.is
  cases hr : a.at r with
  | none =>
    rw [hr] at hk
    simp only [Option.isSome_none, atDrew_eq, nilK_ptr, nilK_fn, fieldA_at, load1_at, orRd_some, optK_some, pickK_true, pickK_false, gopK_tt, gopK_ff, gopK_tf, gopK_ft, gopK_undef, gqK_tt, gqK_ff, gqK_tf, gqK_ft, gqK_undef, condK_true, condK_false, unK_not, binI_eql, binI_neq, binI_lss, binI_leq, binI_gtr, binI_geq, binI_add, binI_sub, binI_mul, binP_eql_none, binP_neq_none, binM_eql_none, binM_neq_none, binL_eql_none, lenL_at, convI_at, extractK_at, Option.bind_some, List.getElem?_cons_zero, List.getElem?_cons_succ, Option.isNone_some, Option.isNone_none, Bool.not_true, Bool.not_false, Nat.zero_add]
    exact hk
  | some x =>
    rw [hr] at hk
    simp only [Option.isSome_some, atDrew_eq, nilK_ptr, nilK_fn, fieldA_at, load1_at, orRd_some, optK_some, pickK_true, pickK_false, gopK_tt, gopK_ff, gopK_tf, gopK_ft, gopK_undef, gqK_tt, gqK_ff, gqK_tf, gqK_ft, gqK_undef, condK_true, condK_false, unK_not, binI_eql, binI_neq, binI_lss, binI_leq, binI_gtr, binI_geq, binI_add, binI_sub, binI_mul, binP_eql_none, binP_neq_none, binM_eql_none, binM_neq_none, binL_eql_none, lenL_at, convI_at, extractK_at, Option.bind_some, List.getElem?_cons_zero, List.getElem?_cons_succ, Option.isNone_some, Option.isNone_none, Bool.not_true, Bool.not_false, Nat.zero_add, h.top, h.look_some hr, Bool.false_eq_true, if_false, h.cell hr, whCells]
    by_cases hx : x.kind = 14
    · have : (x.kind == 14) = true := by simpa using hx
      simp only [this, atDrew_eq, nilK_ptr, nilK_fn, fieldA_at, load1_at, orRd_some, optK_some, pickK_true, pickK_false, gopK_tt, gopK_ff, gopK_tf, gopK_ft, gopK_undef, gqK_tt, gqK_ff, gqK_tf, gqK_ft, gqK_undef, condK_true, condK_false, unK_not, binI_eql, binI_neq, binI_lss, binI_leq, binI_gtr, binI_geq, binI_add, binI_sub, binI_mul, binP_eql_none, binP_neq_none, binM_eql_none, binM_neq_none, binL_eql_none, lenL_at, convI_at, extractK_at, Option.bind_some, List.getElem?_cons_zero, List.getElem?_cons_succ, Option.isNone_some, Option.isNone_none, Bool.not_true, Bool.not_false, Nat.zero_add]
      simpa [hx] using hk
    · have : (x.kind == 14) = false := by simpa using hx
      simp only [this, atDrew_eq, nilK_ptr, nilK_fn, fieldA_at, load1_at, orRd_some, optK_some, pickK_true, pickK_false, gopK_tt, gopK_ff, gopK_tf, gopK_ft, gopK_undef, gqK_tt, gqK_ff, gqK_tf, gqK_ft, gqK_undef, condK_true, condK_false, unK_not, binI_eql, binI_neq, binI_lss, binI_leq, binI_gtr, binI_geq, binI_add, binI_sub, binI_mul, binP_eql_none, binP_neq_none, binM_eql_none, binM_neq_none, binL_eql_none, lenL_at, convI_at, extractK_at, Option.bind_some, List.getElem?_cons_zero, List.getElem?_cons_succ, Option.isNone_some, Option.isNone_none, Bool.not_true, Bool.not_false, Nat.zero_add]
      simpa [hx, this] using hk

theorem len_c (h : WRep w L a) (hk : k (vi a.things.length) w) : callOn prog fn_World_Len #[ptr L.p] w k := by
  apply F_World_Len_on
  unfold F_World_Len
  refine none_c h ?_
  simp only [atDrew_eq, nilK_ptr, nilK_fn, fieldA_at, load1_at, orRd_some, optK_some, pickK_true, pickK_false, gopK_tt, gopK_ff, gopK_tf, gopK_ft, gopK_undef, gqK_tt, gqK_ff, gqK_tf, gqK_ft, gqK_undef, condK_true, condK_false, unK_not, binI_eql, binI_neq, binI_lss, binI_leq, binI_gtr, binI_geq, binI_add, binI_sub, binI_mul, binP_eql_none, binP_neq_none, binM_eql_none, binM_neq_none, binL_eql_none, lenL_at, convI_at, extractK_at, Option.bind_some, List.getElem?_cons_zero, List.getElem?_cons_succ, Option.isNone_some, Option.isNone_none, Bool.not_true, Bool.not_false, Nat.zero_add, h.top, lenM, h.things]
  have : L.es.length = a.things.length := by simpa using h.ents.length_eq
  rw [this]
  exact hk
end
end Go.X
