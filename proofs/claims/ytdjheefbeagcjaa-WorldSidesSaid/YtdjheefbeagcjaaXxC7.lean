/- Contracts: which sides reach one another; whether a thing is free. -/
import Derived.Test.YtdjheefbeagcjaaXxC6
set_option linter.unusedSimpArgs false
set_option linter.unusedVariables false
namespace Go.X
open Go Go.AW

section
variable {w : World} {L : Lay} {a : AW} {k : Value → World → Prop}

theorem open_step (a : AW) (n : Nat) (x y : Int) : open_ a (n + 1) x y = if x = y then true else
    if a.cut.getD (max x y).toNat false then false else open_ a n (a.parents.getD ((max x y).toNat - 1) 0) (min x y) := rfl

theorem open_fuel (hf : WF a) (hp : a.parents.length + 1 = a.made.length) : ∀ (n m : Nat) (x y : Int), 0 ≤ x → 0 ≤ y → x < a.made.length → y < a.made.length → x.toNat + y.toNat < n → x.toNat + y.toNat < m → open_ a n x y = open_ a m x y
  | 0, _, _, _, _, _, _, _, h, _ => by omega
  | _, 0, _, _, _, _, _, _, _, h => by omega
  | n + 1, m + 1, x, y, hx, hy, hx1, hy1, hn, hm => by
    rw [open_step, open_step]
    by_cases hxy : x = y
    · simp only [hxy, if_true]
    · simp only [hxy, if_false]
      split
      · rfl
      · have hmax : 1 ≤ max x y := by omega
        have ht := hf.tree ((max x y).toNat - 1) (by omega)
        exact open_fuel hf hp n m _ _ (by omega) (by omega) (by omega) (by omega) (by omega) (by omega)

theorem WRep.cut_at (h : WRep w L a) {s : Int} (h0 : 0 ≤ s) (h1 : s < a.made.length) :
    ∃ b i c, (∀ (q : IntKind) (k : Value → Prop), indexS 1 L.cut (.int q s) k = k (.pointer (some ⟨b, i, none⟩))) ∧ cellsOf w b = some c ∧ c[i]? = some (.bool (a.cut.getD s.toNat false)) := by
  have hl := h.len1
  obtain ⟨b, i, c, hix, _, hc, _, hci, _⟩ := h.cut.place (j := s) h0 (by simp; omega)
  have hlt : s.toNat < a.cut.length := by omega
  exact ⟨b, i, c, hix, hc, by rw [hci]; simp [hlt, List.getD_eq_getElem?_getD]⟩

theorem WRep.par_at (h : WRep w L a) {s : Int} (h0 : 1 ≤ s) (h1 : s < a.made.length) :
    ∃ b i c, (∀ (q : IntKind) (k : Value → Prop), indexS 1 L.par (.int q (s - 1)) k = k (.pointer (some ⟨b, i, none⟩))) ∧ cellsOf w b = some c ∧ c[i]? = some (vi (a.parents.getD (s.toNat - 1) 0)) := by
  have hl := h.len2
  obtain ⟨b, i, c, hix, _, hc, _, hci, _⟩ := h.par.place (j := s - 1) (by omega) (by simp; omega)
  have e1 : (s - 1).toNat = s.toNat - 1 := by omega
  have hlt : s.toNat - 1 < a.parents.length := by omega
  exact ⟨b, i, c, hix, hc, by rw [hci, e1]; simp [hlt, List.getD_eq_getElem?_getD]⟩

theorem side_spec {s : Int} : a.side s = true ↔ 0 ≤ s ∧ s < a.made.length := by
  simp only [AW.side, Bool.and_eq_true, decide_eq_true_eq]
  rfl

theorem open_c (h : WRep w L a) (hf : WF a) (x y : Int) (hk : k (.bool (a.open x y)) w) : callOn prog fn_World_Open #[ptr L.p, vi x, vi y] w k := by
  apply F_World_Open_on
  unfold F_World_Open
  refine side_c h x ?_
  unfold AW.open at hk
  cases hx : a.side x with
  | false =>
    simp only [hx, Bool.false_and] at hk
    simp only [atDrew_eq, nilK_ptr, nilK_fn, fieldA_at, load1_at, orRd_some, optK_some, pickK_true, pickK_false, gopK_tt, gopK_ff, gopK_tf, gopK_ft, gopK_undef, gqK_tt, gqK_ff, gqK_tf, gqK_ft, gqK_undef, condK_true, condK_false, unK_not, binI_eql, binI_neq, binI_lss, binI_leq, binI_gtr, binI_geq, binI_add, binI_sub, binI_mul, binP_eql_none, binP_neq_none, binM_eql_none, binM_neq_none, binL_eql_none, lenL_at, convI_at, extractK_at, Option.bind_some, List.getElem?_cons_zero, List.getElem?_cons_succ, Option.isNone_some, Option.isNone_none, Bool.not_true, Bool.not_false, Nat.zero_add]
    exact hk
  | true =>
    simp only [atDrew_eq, nilK_ptr, nilK_fn, fieldA_at, load1_at, orRd_some, optK_some, pickK_true, pickK_false, gopK_tt, gopK_ff, gopK_tf, gopK_ft, gopK_undef, gqK_tt, gqK_ff, gqK_tf, gqK_ft, gqK_undef, condK_true, condK_false, unK_not, binI_eql, binI_neq, binI_lss, binI_leq, binI_gtr, binI_geq, binI_add, binI_sub, binI_mul, binP_eql_none, binP_neq_none, binM_eql_none, binM_neq_none, binL_eql_none, lenL_at, convI_at, extractK_at, Option.bind_some, List.getElem?_cons_zero, List.getElem?_cons_succ, Option.isNone_some, Option.isNone_none, Bool.not_true, Bool.not_false, Nat.zero_add]
    refine side_c h y ?_
    cases hy : a.side y with
    | false =>
      simp only [hx, hy, Bool.false_and, Bool.and_false] at hk
      simp only [atDrew_eq, nilK_ptr, nilK_fn, fieldA_at, load1_at, orRd_some, optK_some, pickK_true, pickK_false, gopK_tt, gopK_ff, gopK_tf, gopK_ft, gopK_undef, gqK_tt, gqK_ff, gqK_tf, gqK_ft, gqK_undef, condK_true, condK_false, unK_not, binI_eql, binI_neq, binI_lss, binI_leq, binI_gtr, binI_geq, binI_add, binI_sub, binI_mul, binP_eql_none, binP_neq_none, binM_eql_none, binM_neq_none, binL_eql_none, lenL_at, convI_at, extractK_at, Option.bind_some, List.getElem?_cons_zero, List.getElem?_cons_succ, Option.isNone_some, Option.isNone_none, Bool.not_true, Bool.not_false, Nat.zero_add]
      exact hk
    | true =>
      simp only [hx, hy, Bool.true_and] at hk
      simp only [atDrew_eq, nilK_ptr, nilK_fn, fieldA_at, load1_at, orRd_some, optK_some, pickK_true, pickK_false, gopK_tt, gopK_ff, gopK_tf, gopK_ft, gopK_undef, gqK_tt, gqK_ff, gqK_tf, gqK_ft, gqK_undef, condK_true, condK_false, unK_not, binI_eql, binI_neq, binI_lss, binI_leq, binI_gtr, binI_geq, binI_add, binI_sub, binI_mul, binP_eql_none, binP_neq_none, binM_eql_none, binM_neq_none, binL_eql_none, lenL_at, convI_at, extractK_at, Option.bind_some, List.getElem?_cons_zero, List.getElem?_cons_succ, Option.isNone_some, Option.isNone_none, Bool.not_true, Bool.not_false, Nat.zero_add]
      rw [side_spec] at hx hy
      have h3 := h.len3
      have h2 := h.len2
      refine ⟨fun m e w' => ∃ (x' y' : Int), 0 ≤ x' ∧ 0 ≤ y' ∧ x' < a.made.length ∧ y' < a.made.length ∧ m = x'.toNat + y'.toNat ∧ e 0 = ptr L.p ∧ e 1 = vi x' ∧ e 2 = vi y' ∧ w' = w ∧ open_ a (x'.toNat + y'.toNat + 1) x' y' = open_ a (x.toNat + y.toNat + 1) x y, x.toNat + y.toNat,
        ⟨x, y, hx.1, hy.1, hx.2, hy.2, rfl, rfl, rfl, rfl, rfl, rfl⟩, ?_⟩
      rintro m e w1 ⟨x', y', hx0, hy0, hx1, hy1, rfl, g0, g1, g2, rfl, ho⟩
      simp only [g1, g2, atDrew_eq, nilK_ptr, nilK_fn, fieldA_at, load1_at, orRd_some, optK_some, pickK_true, pickK_false, gopK_tt, gopK_ff, gopK_tf, gopK_ft, gopK_undef, gqK_tt, gqK_ff, gqK_tf, gqK_ft, gqK_undef, condK_true, condK_false, unK_not, binI_eql, binI_neq, binI_lss, binI_leq, binI_gtr, binI_geq, binI_add, binI_sub, binI_mul, binP_eql_none, binP_neq_none, binM_eql_none, binM_neq_none, binL_eql_none, lenL_at, convI_at, extractK_at, Option.bind_some, List.getElem?_cons_zero, List.getElem?_cons_succ, Option.isNone_some, Option.isNone_none, Bool.not_true, Bool.not_false, Nat.zero_add]
      rw [open_step] at ho
      by_cases hxy : x' = y'
      · have hb : (x' != y') = false := by simp [hxy]
        simp only [hxy, if_true] at ho
        simp only [hb, atDrew_eq, nilK_ptr, nilK_fn, fieldA_at, load1_at, orRd_some, optK_some, pickK_true, pickK_false, gopK_tt, gopK_ff, gopK_tf, gopK_ft, gopK_undef, gqK_tt, gqK_ff, gqK_tf, gqK_ft, gqK_undef, condK_true, condK_false, unK_not, binI_eql, binI_neq, binI_lss, binI_leq, binI_gtr, binI_geq, binI_add, binI_sub, binI_mul, binP_eql_none, binP_neq_none, binM_eql_none, binM_neq_none, binL_eql_none, lenL_at, convI_at, extractK_at, Option.bind_some, List.getElem?_cons_zero, List.getElem?_cons_succ, Option.isNone_some, Option.isNone_none, Bool.not_true, Bool.not_false, Nat.zero_add]
        rw [← ho] at hk
        exact hk
      · have hb : (x' != y') = true := by simp [hxy]
        simp only [hxy, if_false] at ho
        simp only [hb, atDrew_eq, nilK_ptr, nilK_fn, fieldA_at, load1_at, orRd_some, optK_some, pickK_true, pickK_false, gopK_tt, gopK_ff, gopK_tf, gopK_ft, gopK_undef, gqK_tt, gqK_ff, gqK_tf, gqK_ft, gqK_undef, condK_true, condK_false, unK_not, binI_eql, binI_neq, binI_lss, binI_leq, binI_gtr, binI_geq, binI_add, binI_sub, binI_mul, binP_eql_none, binP_neq_none, binM_eql_none, binM_neq_none, binL_eql_none, lenL_at, convI_at, extractK_at, Option.bind_some, List.getElem?_cons_zero, List.getElem?_cons_succ, Option.isNone_some, Option.isNone_none, Bool.not_true, Bool.not_false, Nat.zero_add]
        by_cases hlt : x' < y'
        · have hd : decide (x' < y') = true := by simpa using hlt
          have e1 : max x' y' = y' := by omega
          have e2 : min x' y' = x' := by omega
          rw [e1, e2] at ho
          obtain ⟨b, i, c, hix, hc, hv⟩ := h.cut_at hy0 hy1
          simp only [hd, atDrew_eq, nilK_ptr, nilK_fn, fieldA_at, load1_at, orRd_some, optK_some, pickK_true, pickK_false, gopK_tt, gopK_ff, gopK_tf, gopK_ft, gopK_undef, gqK_tt, gqK_ff, gqK_tf, gqK_ft, gqK_undef, condK_true, condK_false, unK_not, binI_eql, binI_neq, binI_lss, binI_leq, binI_gtr, binI_geq, binI_add, binI_sub, binI_mul, binP_eql_none, binP_neq_none, binM_eql_none, binM_neq_none, binL_eql_none, lenL_at, convI_at, extractK_at, Option.bind_some, List.getElem?_cons_zero, List.getElem?_cons_succ, Option.isNone_some, Option.isNone_none, Bool.not_true, Bool.not_false, Nat.zero_add, upd_get, Nat.reduceEqDiff, if_false, if_true, g0, h.top, hix, hc, hv]
          cases hcut : a.cut.getD y'.toNat false with
          | true =>
            simp only [hcut, if_true] at ho
            simp only [atDrew_eq, nilK_ptr, nilK_fn, fieldA_at, load1_at, orRd_some, optK_some, pickK_true, pickK_false, gopK_tt, gopK_ff, gopK_tf, gopK_ft, gopK_undef, gqK_tt, gqK_ff, gqK_tf, gqK_ft, gqK_undef, condK_true, condK_false, unK_not, binI_eql, binI_neq, binI_lss, binI_leq, binI_gtr, binI_geq, binI_add, binI_sub, binI_mul, binP_eql_none, binP_neq_none, binM_eql_none, binM_neq_none, binL_eql_none, lenL_at, convI_at, extractK_at, Option.bind_some, List.getElem?_cons_zero, List.getElem?_cons_succ, Option.isNone_some, Option.isNone_none, Bool.not_true, Bool.not_false, Nat.zero_add]
            rw [← ho] at hk
            exact hk
          | false =>
            simp only [hcut, Bool.false_eq_true, if_false] at ho
            have hw : IntKind.i64.wrap (y' - 1) = y' - 1 := wrap64_id (by omega) (by omega)
            obtain ⟨b2, i2, c2, hix2, hc2, hv2⟩ := h.par_at (s := y') (by omega) hy1
            have ht := hf.tree (y'.toNat - 1) (by omega)
            simp only [atDrew_eq, nilK_ptr, nilK_fn, fieldA_at, load1_at, orRd_some, optK_some, pickK_true, pickK_false, gopK_tt, gopK_ff, gopK_tf, gopK_ft, gopK_undef, gqK_tt, gqK_ff, gqK_tf, gqK_ft, gqK_undef, condK_true, condK_false, unK_not, binI_eql, binI_neq, binI_lss, binI_leq, binI_gtr, binI_geq, binI_add, binI_sub, binI_mul, binP_eql_none, binP_neq_none, binM_eql_none, binM_neq_none, binL_eql_none, lenL_at, convI_at, extractK_at, Option.bind_some, List.getElem?_cons_zero, List.getElem?_cons_succ, Option.isNone_some, Option.isNone_none, Bool.not_true, Bool.not_false, Nat.zero_add, hw, hix2, hc2, hv2]
            refine ⟨(a.parents.getD (y'.toNat - 1) 0).toNat + x'.toNat, by omega, a.parents.getD (y'.toNat - 1) 0, x', ht.1, hx0, by omega, hx1, rfl, by first | exact g0 | trivial, by first | rfl | trivial, by first | rfl | trivial, by first | rfl | trivial, ?_⟩
            rw [← ho]
            exact open_fuel hf h2 _ _ _ _ (by omega) (by omega) (by omega) (by omega) (by omega) (by omega)
        · have hd : decide (x' < y') = false := by simpa using hlt
          have e1 : max x' y' = x' := by omega
          have e2 : min x' y' = y' := by omega
          rw [e1, e2] at ho
          obtain ⟨b, i, c, hix, hc, hv⟩ := h.cut_at hx0 hx1
          simp only [hd, atDrew_eq, nilK_ptr, nilK_fn, fieldA_at, load1_at, orRd_some, optK_some, pickK_true, pickK_false, gopK_tt, gopK_ff, gopK_tf, gopK_ft, gopK_undef, gqK_tt, gqK_ff, gqK_tf, gqK_ft, gqK_undef, condK_true, condK_false, unK_not, binI_eql, binI_neq, binI_lss, binI_leq, binI_gtr, binI_geq, binI_add, binI_sub, binI_mul, binP_eql_none, binP_neq_none, binM_eql_none, binM_neq_none, binL_eql_none, lenL_at, convI_at, extractK_at, Option.bind_some, List.getElem?_cons_zero, List.getElem?_cons_succ, Option.isNone_some, Option.isNone_none, Bool.not_true, Bool.not_false, Nat.zero_add, upd_get, Nat.reduceEqDiff, if_false, if_true, g0, g1, g2, h.top, hix, hc, hv]
          cases hcut : a.cut.getD x'.toNat false with
          | true =>
            simp only [hcut, if_true] at ho
            simp only [atDrew_eq, nilK_ptr, nilK_fn, fieldA_at, load1_at, orRd_some, optK_some, pickK_true, pickK_false, gopK_tt, gopK_ff, gopK_tf, gopK_ft, gopK_undef, gqK_tt, gqK_ff, gqK_tf, gqK_ft, gqK_undef, condK_true, condK_false, unK_not, binI_eql, binI_neq, binI_lss, binI_leq, binI_gtr, binI_geq, binI_add, binI_sub, binI_mul, binP_eql_none, binP_neq_none, binM_eql_none, binM_neq_none, binL_eql_none, lenL_at, convI_at, extractK_at, Option.bind_some, List.getElem?_cons_zero, List.getElem?_cons_succ, Option.isNone_some, Option.isNone_none, Bool.not_true, Bool.not_false, Nat.zero_add]
            rw [← ho] at hk
            exact hk
          | false =>
            simp only [hcut, Bool.false_eq_true, if_false] at ho
            have hw : IntKind.i64.wrap (x' - 1) = x' - 1 := wrap64_id (by omega) (by omega)
            obtain ⟨b2, i2, c2, hix2, hc2, hv2⟩ := h.par_at (s := x') (by omega) hx1
            have ht := hf.tree (x'.toNat - 1) (by omega)
            simp only [atDrew_eq, nilK_ptr, nilK_fn, fieldA_at, load1_at, orRd_some, optK_some, pickK_true, pickK_false, gopK_tt, gopK_ff, gopK_tf, gopK_ft, gopK_undef, gqK_tt, gqK_ff, gqK_tf, gqK_ft, gqK_undef, condK_true, condK_false, unK_not, binI_eql, binI_neq, binI_lss, binI_leq, binI_gtr, binI_geq, binI_add, binI_sub, binI_mul, binP_eql_none, binP_neq_none, binM_eql_none, binM_neq_none, binL_eql_none, lenL_at, convI_at, extractK_at, Option.bind_some, List.getElem?_cons_zero, List.getElem?_cons_succ, Option.isNone_some, Option.isNone_none, Bool.not_true, Bool.not_false, Nat.zero_add, hw, hix2, hc2, hv2]
            refine ⟨(a.parents.getD (x'.toNat - 1) 0).toNat + y'.toNat, by omega, a.parents.getD (x'.toNat - 1) 0, y', ht.1, hy0, by omega, hy1, rfl, by first | exact g0 | trivial, by first | rfl | trivial, by first | exact g2 | rfl | trivial, by first | rfl | trivial, ?_⟩
            rw [← ho]
            exact open_fuel hf h2 _ _ _ _ (by omega) (by omega) (by omega) (by omega) (by omega) (by omega)
end
end Go.X
