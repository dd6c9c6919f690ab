/- Texts of this family, put together. -/
import Derived.Test.YtdjheefbeagcjaaXxC6
/- Contracts: which sides reach one another; whether a thing is free. -/
set_option linter.unusedSimpArgs false
set_option linter.unusedVariables false
namespace Go.X
open Go Go.AW

section
variable {w : World} {L : Lay} {a : AW} {k : Value → World → Prop}

theorem open_step (a : AW) (n : Nat) (x y : Int) : open_ a (n + 1) x y = if x = y then true else
    if a.cut.getD (max x y).toNat false then false else open_ a n (a.parents.getD ((max x y).toNat - 1) 0) (min x y) := rfl

theorem open_fuel (hf : WF a) (hp : a.parents.length + 1 = a.made.length) : ∀ (n m : Nat) (x y : Int), 0 ≤ x → 0 ≤ y → x < a.made.length → y < a.made.length → x.toNat + y.toNat < n → x.toNat + y.toNat < m → open_ a n x y = open_ a m x y
  | 0, _, _, _, _, _, _, _, h, _ => by omega
  | _, 0, _, _, _, _, _, _, _, h => by omega
  | n + 1, m + 1, x, y, hx, hy, hx1, hy1, hn, hm => by
    rw [open_step, open_step]
    by_cases hxy : x = y
    · simp only [hxy, if_true]
    · simp only [hxy, if_false]
      split
      · rfl
      · have hmax : 1 ≤ max x y := by omega
        have ht := hf.tree ((max x y).toNat - 1) (by omega)
        exact open_fuel hf hp n m _ _ (by omega) (by omega) (by omega) (by omega) (by omega) (by omega)

theorem WRep.cut_at (h : WRep w L a) {s : Int} (h0 : 0 ≤ s) (h1 : s < a.made.length) :
    ∃ b i c, (∀ (q : IntKind) (k : Value → Prop), indexS 1 L.cut (.int q s) k = k (.pointer (some ⟨b, i, none⟩))) ∧ cellsOf w b = some c ∧ c[i]? = some (.bool (a.cut.getD s.toNat false)) := by
  have hl := h.len1
  obtain ⟨b, i, c, hix, _, hc, _, hci, _⟩ := h.cut.place (j := s) h0 (by simp; omega)
  have hlt : s.toNat < a.cut.length := by omega
  exact ⟨b, i, c, hix, hc, by rw [hci]; simp [hlt, List.getD_eq_getElem?_getD]⟩

theorem WRep.par_at (h : WRep w L a) {s : Int} (h0 : 1 ≤ s) (h1 : s < a.made.length) :
    ∃ b i c, (∀ (q : IntKind) (k : Value → Prop), indexS 1 L.par (.int q (s - 1)) k = k (.pointer (some ⟨b, i, none⟩))) ∧ cellsOf w b = some c ∧ c[i]? = some (vi (a.parents.getD (s.toNat - 1) 0)) := by
  have hl := h.len2
  obtain ⟨b, i, c, hix, _, hc, _, hci, _⟩ := h.par.place (j := s - 1) (by omega) (by simp; omega)
  have e1 : (s - 1).toNat = s.toNat - 1 := by omega
  have hlt : s.toNat - 1 < a.parents.length := by omega
  exact ⟨b, i, c, hix, hc, by rw [hci, e1]; simp [hlt, List.getD_eq_getElem?_getD]⟩

theorem side_spec {s : Int} : a.side s = true ↔ 0 ≤ s ∧ s < a.made.length := by
  simp only [AW.side, Bool.and_eq_true, decide_eq_true_eq]
  rfl

theorem open_c (h : WRep w L a) (hf : WF a) (x y : Int) (hk : k (.bool (a.open x y)) w) : callOn prog fn_World_Open #[ptr L.p, vi x, vi y] w k := by
  apply F_World_Open_on
  unfold F_World_Open
  refine side_c h x ?_
  unfold AW.open at hk
  cases hx : a.side x with
  | false =>
    simp only [hx, Bool.false_and] at hk
    simp only [atDrew_eq, nilK_ptr, nilK_fn, fieldA_at, load1_at, orRd_some, optK_some, pickK_true, pickK_false, gopK_tt, gopK_ff, gopK_tf, gopK_ft, gopK_undef, gqK_tt, gqK_ff, gqK_tf, gqK_ft, gqK_undef, condK_true, condK_false, unK_not, binI_eql, binI_neq, binI_lss, binI_leq, binI_gtr, binI_geq, binI_add, binI_sub, binI_mul, binP_eql_none, binP_neq_none, binM_eql_none, binM_neq_none, binL_eql_none, lenL_at, convI_at, extractK_at, Option.bind_some, List.getElem?_cons_zero, List.getElem?_cons_succ, Option.isNone_some, Option.isNone_none, Bool.not_true, Bool.not_false, Nat.zero_add]
    exact hk
  | true =>
    simp only [atDrew_eq, nilK_ptr, nilK_fn, fieldA_at, load1_at, orRd_some, optK_some, pickK_true, pickK_false, gopK_tt, gopK_ff, gopK_tf, gopK_ft, gopK_undef, gqK_tt, gqK_ff, gqK_tf, gqK_ft, gqK_undef, condK_true, condK_false, unK_not, binI_eql, binI_neq, binI_lss, binI_leq, binI_gtr, binI_geq, binI_add, binI_sub, binI_mul, binP_eql_none, binP_neq_none, binM_eql_none, binM_neq_none, binL_eql_none, lenL_at, convI_at, extractK_at, Option.bind_some, List.getElem?_cons_zero, List.getElem?_cons_succ, Option.isNone_some, Option.isNone_none, Bool.not_true, Bool.not_false, Nat.zero_add]
    refine side_c h y ?_
    cases hy : a.side y with
    | false =>
      simp only [hx, hy, Bool.false_and, Bool.and_false] at hk
      simp only [atDrew_eq, nilK_ptr, nilK_fn, fieldA_at, load1_at, orRd_some, optK_some, pickK_true, pickK_false, gopK_tt, gopK_ff, gopK_tf, gopK_ft, gopK_undef, gqK_tt, gqK_ff, gqK_tf, gqK_ft, gqK_undef, condK_true, condK_false, unK_not, binI_eql, binI_neq, binI_lss, binI_leq, binI_gtr, binI_geq, binI_add, binI_sub, binI_mul, binP_eql_none, binP_neq_none, binM_eql_none, binM_neq_none, binL_eql_none, lenL_at, convI_at, extractK_at, Option.bind_some, List.getElem?_cons_zero, List.getElem?_cons_succ, Option.isNone_some, Option.isNone_none, Bool.not_true, Bool.not_false, Nat.zero_add]
      exact hk
    | true =>
      simp only [hx, hy, Bool.true_and] at hk
      simp only [atDrew_eq, nilK_ptr, nilK_fn, fieldA_at, load1_at, orRd_some, optK_some, pickK_true, pickK_false, gopK_tt, gopK_ff, gopK_tf, gopK_ft, gopK_undef, gqK_tt, gqK_ff, gqK_tf, gqK_ft, gqK_undef, condK_true, condK_false, unK_not, binI_eql, binI_neq, binI_lss, binI_leq, binI_gtr, binI_geq, binI_add, binI_sub, binI_mul, binP_eql_none, binP_neq_none, binM_eql_none, binM_neq_none, binL_eql_none, lenL_at, convI_at, extractK_at, Option.bind_some, List.getElem?_cons_zero, List.getElem?_cons_succ, Option.isNone_some, Option.isNone_none, Bool.not_true, Bool.not_false, Nat.zero_add]
      rw [side_spec] at hx hy
      have h3 := h.len3
      have h2 := h.len2
      refine ⟨fun m e w' => ∃ (x' y' : Int), 0 ≤ x' ∧ 0 ≤ y' ∧ x' < a.made.length ∧ y' < a.made.length ∧ m = x'.toNat + y'.toNat ∧ e 0 = ptr L.p ∧ e 1 = vi x' ∧ e 2 = vi y' ∧ w' = w ∧ open_ a (x'.toNat + y'.toNat + 1) x' y' = open_ a (x.toNat + y.toNat + 1) x y, x.toNat + y.toNat,
        ⟨x, y, hx.1, hy.1, hx.2, hy.2, rfl, rfl, rfl, rfl, rfl, rfl⟩, ?_⟩
      rintro m e w1 ⟨x', y', hx0, hy0, hx1, hy1, rfl, g0, g1, g2, rfl, ho⟩
      simp only [g1, g2, atDrew_eq, nilK_ptr, nilK_fn, fieldA_at, load1_at, orRd_some, optK_some, pickK_true, pickK_false, gopK_tt, gopK_ff, gopK_tf, gopK_ft, gopK_undef, gqK_tt, gqK_ff, gqK_tf, gqK_ft, gqK_undef, condK_true, condK_false, unK_not, binI_eql, binI_neq, binI_lss, binI_leq, binI_gtr, binI_geq, binI_add, binI_sub, binI_mul, binP_eql_none, binP_neq_none, binM_eql_none, binM_neq_none, binL_eql_none, lenL_at, convI_at, extractK_at, Option.bind_some, List.getElem?_cons_zero, List.getElem?_cons_succ, Option.isNone_some, Option.isNone_none, Bool.not_true, Bool.not_false, Nat.zero_add]
      rw [open_step] at ho
      by_cases hxy : x' = y'
      · have hb : (x' != y') = false := by simp [hxy]
        simp only [hxy, if_true] at ho
        simp only [hb, atDrew_eq, nilK_ptr, nilK_fn, fieldA_at, load1_at, orRd_some, optK_some, pickK_true, pickK_false, gopK_tt, gopK_ff, gopK_tf, gopK_ft, gopK_undef, gqK_tt, gqK_ff, gqK_tf, gqK_ft, gqK_undef, condK_true, condK_false, unK_not, binI_eql, binI_neq, binI_lss, binI_leq, binI_gtr, binI_geq, binI_add, binI_sub, binI_mul, binP_eql_none, binP_neq_none, binM_eql_none, binM_neq_none, binL_eql_none, lenL_at, convI_at, extractK_at, Option.bind_some, List.getElem?_cons_zero, List.getElem?_cons_succ, Option.isNone_some, Option.isNone_none, Bool.not_true, Bool.not_false, Nat.zero_add]
        rw [← ho] at hk
        exact hk
      · have hb : (x' != y') = true := by simp [hxy]
        simp only [hxy, if_false] at ho
        simp only [hb, atDrew_eq, nilK_ptr, nilK_fn, fieldA_at, load1_at, orRd_some, optK_some, pickK_true, pickK_false, gopK_tt, gopK_ff, gopK_tf, gopK_ft, gopK_undef, gqK_tt, gqK_ff, gqK_tf, gqK_ft, gqK_undef, condK_true, condK_false, unK_not, binI_eql, binI_neq, binI_lss, binI_leq, binI_gtr, binI_geq, binI_add, binI_sub, binI_mul, binP_eql_none, binP_neq_none, binM_eql_none, binM_neq_none, binL_eql_none, lenL_at, convI_at, extractK_at, Option.bind_some, List.getElem?_cons_zero, List.getElem?_cons_succ, Option.isNone_some, Option.isNone_none, Bool.not_true, Bool.not_false, Nat.zero_add]
        by_cases hlt : x' < y'
        · have hd : decide (x' < y') = true := by simpa using hlt
          have e1 : max x' y' = y' := by omega
          have e2 : min x' y' = x' := by omega
          rw [e1, e2] at ho
          obtain ⟨b, i, c, hix, hc, hv⟩ := h.cut_at hy0 hy1
          simp only [hd, atDrew_eq, nilK_ptr, nilK_fn, fieldA_at, load1_at, orRd_some, optK_some, pickK_true, pickK_false, gopK_tt, gopK_ff, gopK_tf, gopK_ft, gopK_undef, gqK_tt, gqK_ff, gqK_tf, gqK_ft, gqK_undef, condK_true, condK_false, unK_not, binI_eql, binI_neq, binI_lss, binI_leq, binI_gtr, binI_geq, binI_add, binI_sub, binI_mul, binP_eql_none, binP_neq_none, binM_eql_none, binM_neq_none, binL_eql_none, lenL_at, convI_at, extractK_at, Option.bind_some, List.getElem?_cons_zero, List.getElem?_cons_succ, Option.isNone_some, Option.isNone_none, Bool.not_true, Bool.not_false, Nat.zero_add, upd_get, Nat.reduceEqDiff, if_false, if_true, g0, h.top, hix, hc, hv]
          cases hcut : a.cut.getD y'.toNat false with
          | true =>
            simp only [hcut, if_true] at ho
            simp only [atDrew_eq, nilK_ptr, nilK_fn, fieldA_at, load1_at, orRd_some, optK_some, pickK_true, pickK_false, gopK_tt, gopK_ff, gopK_tf, gopK_ft, gopK_undef, gqK_tt, gqK_ff, gqK_tf, gqK_ft, gqK_undef, condK_true, condK_false, unK_not, binI_eql, binI_neq, binI_lss, binI_leq, binI_gtr, binI_geq, binI_add, binI_sub, binI_mul, binP_eql_none, binP_neq_none, binM_eql_none, binM_neq_none, binL_eql_none, lenL_at, convI_at, extractK_at, Option.bind_some, List.getElem?_cons_zero, List.getElem?_cons_succ, Option.isNone_some, Option.isNone_none, Bool.not_true, Bool.not_false, Nat.zero_add]
            rw [← ho] at hk
            exact hk
          | false =>
            simp only [hcut, Bool.false_eq_true, if_false] at ho
            have hw : IntKind.i64.wrap (y' - 1) = y' - 1 := wrap64_id (by omega) (by omega)
            obtain ⟨b2, i2, c2, hix2, hc2, hv2⟩ := h.par_at (s := y') (by omega) hy1
            have ht := hf.tree (y'.toNat - 1) (by omega)
            simp only [atDrew_eq, nilK_ptr, nilK_fn, fieldA_at, load1_at, orRd_some, optK_some, pickK_true, pickK_false, gopK_tt, gopK_ff, gopK_tf, gopK_ft, gopK_undef, gqK_tt, gqK_ff, gqK_tf, gqK_ft, gqK_undef, condK_true, condK_false, unK_not, binI_eql, binI_neq, binI_lss, binI_leq, binI_gtr, binI_geq, binI_add, binI_sub, binI_mul, binP_eql_none, binP_neq_none, binM_eql_none, binM_neq_none, binL_eql_none, lenL_at, convI_at, extractK_at, Option.bind_some, List.getElem?_cons_zero, List.getElem?_cons_succ, Option.isNone_some, Option.isNone_none, Bool.not_true, Bool.not_false, Nat.zero_add, hw, hix2, hc2, hv2]
            refine ⟨(a.parents.getD (y'.toNat - 1) 0).toNat + x'.toNat, by omega, a.parents.getD (y'.toNat - 1) 0, x', ht.1, hx0, by omega, hx1, rfl, by first | exact g0 | trivial, by first | rfl | trivial, by first | rfl | trivial, by first | rfl | trivial, ?_⟩
            rw [← ho]
            exact open_fuel hf h2 _ _ _ _ (by omega) (by omega) (by omega) (by omega) (by omega) (by omega)
        · have hd : decide (x' < y') = false := by simpa using hlt
          have e1 : max x' y' = x' := by omega
          have e2 : min x' y' = y' := by omega
          rw [e1, e2] at ho
          obtain ⟨b, i, c, hix, hc, hv⟩ := h.cut_at hx0 hx1
          simp only [hd, atDrew_eq, nilK_ptr, nilK_fn, fieldA_at, load1_at, orRd_some, optK_some, pickK_true, pickK_false, gopK_tt, gopK_ff, gopK_tf, gopK_ft, gopK_undef, gqK_tt, gqK_ff, gqK_tf, gqK_ft, gqK_undef, condK_true, condK_false, unK_not, binI_eql, binI_neq, binI_lss, binI_leq, binI_gtr, binI_geq, binI_add, binI_sub, binI_mul, binP_eql_none, binP_neq_none, binM_eql_none, binM_neq_none, binL_eql_none, lenL_at, convI_at, extractK_at, Option.bind_some, List.getElem?_cons_zero, List.getElem?_cons_succ, Option.isNone_some, Option.isNone_none, Bool.not_true, Bool.not_false, Nat.zero_add, upd_get, Nat.reduceEqDiff, if_false, if_true, g0, g1, g2, h.top, hix, hc, hv]
          cases hcut : a.cut.getD x'.toNat false with
          | true =>
            simp only [hcut, if_true] at ho
            simp only [atDrew_eq, nilK_ptr, nilK_fn, fieldA_at, load1_at, orRd_some, optK_some, pickK_true, pickK_false, gopK_tt, gopK_ff, gopK_tf, gopK_ft, gopK_undef, gqK_tt, gqK_ff, gqK_tf, gqK_ft, gqK_undef, condK_true, condK_false, unK_not, binI_eql, binI_neq, binI_lss, binI_leq, binI_gtr, binI_geq, binI_add, binI_sub, binI_mul, binP_eql_none, binP_neq_none, binM_eql_none, binM_neq_none, binL_eql_none, lenL_at, convI_at, extractK_at, Option.bind_some, List.getElem?_cons_zero, List.getElem?_cons_succ, Option.isNone_some, Option.isNone_none, Bool.not_true, Bool.not_false, Nat.zero_add]
            rw [← ho] at hk
            exact hk
          | false =>
            simp only [hcut, Bool.false_eq_true, if_false] at ho
            have hw : IntKind.i64.wrap (x' - 1) = x' - 1 := wrap64_id (by omega) (by omega)
            obtain ⟨b2, i2, c2, hix2, hc2, hv2⟩ := h.par_at (s := x') (by omega) hx1
            have ht := hf.tree (x'.toNat - 1) (by omega)
            simp only [atDrew_eq, nilK_ptr, nilK_fn, fieldA_at, load1_at, orRd_some, optK_some, pickK_true, pickK_false, gopK_tt, gopK_ff, gopK_tf, gopK_ft, gopK_undef, gqK_tt, gqK_ff, gqK_tf, gqK_ft, gqK_undef, condK_true, condK_false, unK_not, binI_eql, binI_neq, binI_lss, binI_leq, binI_gtr, binI_geq, binI_add, binI_sub, binI_mul, binP_eql_none, binP_neq_none, binM_eql_none, binM_neq_none, binL_eql_none, lenL_at, convI_at, extractK_at, Option.bind_some, List.getElem?_cons_zero, List.getElem?_cons_succ, Option.isNone_some, Option.isNone_none, Bool.not_true, Bool.not_false, Nat.zero_add, hw, hix2, hc2, hv2]
            refine ⟨(a.parents.getD (x'.toNat - 1) 0).toNat + y'.toNat, by omega, a.parents.getD (x'.toNat - 1) 0, y', ht.1, hy0, by omega, hy1, rfl, by first | exact g0 | trivial, by first | rfl | trivial, by first | exact g2 | rfl | trivial, by first | rfl | trivial, ?_⟩
            rw [← ho]
            exact open_fuel hf h2 _ _ _ _ (by omega) (by omega) (by omega) (by omega) (by omega) (by omega)
end
end Go.X
/- Contract: Free. -/
set_option linter.unusedSimpArgs false
set_option linter.unusedVariables false
namespace Go.X
open Go Go.AW

section
variable {w : World} {L : Lay} {a : AW} {k : Value → World → Prop}

theorem way_is : ∀ (n : Nat) (r t : Int), t ∈ way a n r → a.is t = true
  | 0, r, t, h => by simp [way] at h
  | n + 1, r, t, h => by
    rw [way_step] at h
    cases hr : a.at r with
    | none => rw [hr] at h; simp at h
    | some x =>
      rw [hr] at h
      simp only [] at h
      split at h
      · rcases List.mem_cons.1 h with rfl | h
        · simp [AW.is, hr]
        · exact way_is n _ _ h
      · have : t = r := by simpa using h
        subst this
        simp [AW.is, hr]

theorem free_c (h : WRep w L a) (hf : WF a) (hfew : Few a) (s r : Int) (hk : ∀ w', Ext w w' → k (vi (a.free s r)) w') : callOn prog fn_World_Free #[ptr L.p, vi s, vi r] w k := by
  apply F_World_Free_on
  unfold F_World_Free
  refine none_c h ?_
  simp only [atDrew_eq, nilK_ptr, nilK_fn, fieldA_at, load1_at, orRd_some, optK_some, pickK_true, pickK_false, gopK_tt, gopK_ff, gopK_tf, gopK_ft, gopK_undef, gqK_tt, gqK_ff, gqK_tf, gqK_ft, gqK_undef, condK_true, condK_false, unK_not, binI_eql, binI_neq, binI_lss, binI_leq, binI_gtr, binI_geq, binI_add, binI_sub, binI_mul, binP_eql_none, binP_neq_none, binM_eql_none, binM_neq_none, binL_eql_none, lenL_at, convI_at, extractK_at, Option.bind_some, List.getElem?_cons_zero, List.getElem?_cons_succ, Option.isNone_some, Option.isNone_none, Bool.not_true, Bool.not_false, Nat.zero_add]
  refine side_c h s ?_
  unfold Go.AW.AW.free at hk
  cases hs : a.side s with
  | false =>
    simp only [hs, Bool.not_false, if_true] at hk
    simp only [atDrew_eq, nilK_ptr, nilK_fn, fieldA_at, load1_at, orRd_some, optK_some, pickK_true, pickK_false, gopK_tt, gopK_ff, gopK_tf, gopK_ft, gopK_undef, gqK_tt, gqK_ff, gqK_tf, gqK_ft, gqK_undef, condK_true, condK_false, unK_not, binI_eql, binI_neq, binI_lss, binI_leq, binI_gtr, binI_geq, binI_add, binI_sub, binI_mul, binP_eql_none, binP_neq_none, binM_eql_none, binM_neq_none, binL_eql_none, lenL_at, convI_at, extractK_at, Option.bind_some, List.getElem?_cons_zero, List.getElem?_cons_succ, Option.isNone_some, Option.isNone_none, Bool.not_true, Bool.not_false, Nat.zero_add]
    exact hk w .refl
  | true =>
    simp only [hs, Bool.not_true, Bool.false_eq_true, if_false] at hk
    simp only [atDrew_eq, nilK_ptr, nilK_fn, fieldA_at, load1_at, orRd_some, optK_some, pickK_true, pickK_false, gopK_tt, gopK_ff, gopK_tf, gopK_ft, gopK_undef, gqK_tt, gqK_ff, gqK_tf, gqK_ft, gqK_undef, condK_true, condK_false, unK_not, binI_eql, binI_neq, binI_lss, binI_leq, binI_gtr, binI_geq, binI_add, binI_sub, binI_mul, binP_eql_none, binP_neq_none, binM_eql_none, binM_neq_none, binL_eql_none, lenL_at, convI_at, extractK_at, Option.bind_some, List.getElem?_cons_zero, List.getElem?_cons_succ, Option.isNone_some, Option.isNone_none, Bool.not_true, Bool.not_false, Nat.zero_add]
    refine is_c h r ?_
    cases hi : a.is r with
    | false =>
      simp only [hi, Bool.not_false, if_true] at hk
      simp only [atDrew_eq, nilK_ptr, nilK_fn, fieldA_at, load1_at, orRd_some, optK_some, pickK_true, pickK_false, gopK_tt, gopK_ff, gopK_tf, gopK_ft, gopK_undef, gqK_tt, gqK_ff, gqK_tf, gqK_ft, gqK_undef, condK_true, condK_false, unK_not, binI_eql, binI_neq, binI_lss, binI_leq, binI_gtr, binI_geq, binI_add, binI_sub, binI_mul, binP_eql_none, binP_neq_none, binM_eql_none, binM_neq_none, binL_eql_none, lenL_at, convI_at, extractK_at, Option.bind_some, List.getElem?_cons_zero, List.getElem?_cons_succ, Option.isNone_some, Option.isNone_none, Bool.not_true, Bool.not_false, Nat.zero_add]
      exact hk w .refl
    | true =>
      simp only [hi, Bool.not_true, Bool.false_eq_true, if_false] at hk
      simp only [atDrew_eq, nilK_ptr, nilK_fn, fieldA_at, load1_at, orRd_some, optK_some, pickK_true, pickK_false, gopK_tt, gopK_ff, gopK_tf, gopK_ft, gopK_undef, gqK_tt, gqK_ff, gqK_tf, gqK_ft, gqK_undef, condK_true, condK_false, unK_not, binI_eql, binI_neq, binI_lss, binI_leq, binI_gtr, binI_geq, binI_add, binI_sub, binI_mul, binP_eql_none, binP_neq_none, binM_eql_none, binM_neq_none, binL_eql_none, lenL_at, convI_at, extractK_at, Option.bind_some, List.getElem?_cons_zero, List.getElem?_cons_succ, Option.isNone_some, Option.isNone_none, Bool.not_true, Bool.not_false, Nat.zero_add]
      refine way_c h hf hfew r fun v w0 he0 hsv _ => ?_
      have hlen := way_few h hfew r
      have hway : ∀ t ∈ a.way r, a.is t = true := fun t ht => way_is _ _ _ ht
      simp only [hsv.lenL, List.length_map]
      generalize a.way r = l at hk hsv hlen hway
      refine ⟨fun m e w' => ∃ (i : Nat) (f : Int), i ≤ l.length ∧ m = l.length - i ∧ e 0 = ptr L.p ∧ e 1 = vi f ∧ e 25 = v ∧ e 26 = vi l.length ∧ e 27 = vi i ∧ Ext w0 w' ∧ free a (l.drop i) f = free a l s, l.length,
        ⟨0, s, by omega, rfl, rfl, rfl, rfl, rfl, rfl, .refl, rfl⟩, ?_⟩
      rintro m e w1 ⟨i, f, hil, rfl, g0, g1, g25, g26, g27, he, hfr⟩
      have h1 := h.ext (he0.trans he)
      simp only [g26, g27, atDrew_eq, nilK_ptr, nilK_fn, fieldA_at, load1_at, orRd_some, optK_some, pickK_true, pickK_false, gopK_tt, gopK_ff, gopK_tf, gopK_ft, gopK_undef, gqK_tt, gqK_ff, gqK_tf, gqK_ft, gqK_undef, condK_true, condK_false, unK_not, binI_eql, binI_neq, binI_lss, binI_leq, binI_gtr, binI_geq, binI_add, binI_sub, binI_mul, binP_eql_none, binP_neq_none, binM_eql_none, binM_neq_none, binL_eql_none, lenL_at, convI_at, extractK_at, Option.bind_some, List.getElem?_cons_zero, List.getElem?_cons_succ, Option.isNone_some, Option.isNone_none, Bool.not_true, Bool.not_false, Nat.zero_add]
      by_cases hlt : i < l.length
      · have hd : decide ((i : Int) < (l.length : Int)) = true := by simpa using hlt
        obtain ⟨b, o, c, hix, _, hc, _, hci, _⟩ := (hsv.ext he).place (j := (i : Int)) (by omega) (by simpa using hlt)
        have hv : c[o]? = some (vi (l.getD i 0)) := by rw [hci]; simp [hlt, List.getD_eq_getElem?_getD]
        have hdrop : l.drop i = l.getD i 0 :: l.drop (i + 1) := by
          rw [List.drop_eq_getElem_cons hlt]; simp [List.getD_eq_getElem?_getD, hlt]
        obtain ⟨x, hx⟩ := is_some (hway (l.getD i 0) (by simp [List.getD_eq_getElem?_getD, hlt]))
        have hw : IntKind.i64.wrap ((i : Int) + 1) = ((i + 1 : Nat) : Int) := by rw [wrap64_id (by omega) (by omega)]; omega
        have hbits := hf.bits _ (mem_at hx)
        simp only [hd, atDrew_eq, nilK_ptr, nilK_fn, fieldA_at, load1_at, orRd_some, optK_some, pickK_true, pickK_false, gopK_tt, gopK_ff, gopK_tf, gopK_ft, gopK_undef, gqK_tt, gqK_ff, gqK_tf, gqK_ft, gqK_undef, condK_true, condK_false, unK_not, binI_eql, binI_neq, binI_lss, binI_leq, binI_gtr, binI_geq, binI_add, binI_sub, binI_mul, binP_eql_none, binP_neq_none, binM_eql_none, binM_neq_none, binL_eql_none, lenL_at, convI_at, extractK_at, Option.bind_some, List.getElem?_cons_zero, List.getElem?_cons_succ, Option.isNone_some, Option.isNone_none, Bool.not_true, Bool.not_false, Nat.zero_add, g0, g25, hix, hc, hv, h1.top, h1.look_some hx, Bool.false_eq_true, if_false, h1.cell hx, whCells]
        rw [hdrop] at hfr
        simp only [free, hx] at hfr
        by_cases h14 : x.kind = 14
        · have hb : (x.kind == 14) = true := by simpa using h14
          simp only [h14, if_true] at hfr
          simp only [hb, atDrew_eq, nilK_ptr, nilK_fn, fieldA_at, load1_at, orRd_some, optK_some, pickK_true, pickK_false, gopK_tt, gopK_ff, gopK_tf, gopK_ft, gopK_undef, gqK_tt, gqK_ff, gqK_tf, gqK_ft, gqK_undef, condK_true, condK_false, unK_not, binI_eql, binI_neq, binI_lss, binI_leq, binI_gtr, binI_geq, binI_add, binI_sub, binI_mul, binP_eql_none, binP_neq_none, binM_eql_none, binM_neq_none, binL_eql_none, lenL_at, convI_at, extractK_at, Option.bind_some, List.getElem?_cons_zero, List.getElem?_cons_succ, Option.isNone_some, Option.isNone_none, Bool.not_true, Bool.not_false, Nat.zero_add, upd_get, Nat.reduceEqDiff, if_false, g27, hw]
          refine ⟨l.length - (i + 1), by omega, i + 1, f, by omega, rfl, g0, g1, g25, g26, rfl, he, hfr⟩
        · have hb : (x.kind == 14) = false := by simpa using h14
          simp only [h14, if_false] at hfr
          simp only [hb, atDrew_eq, nilK_ptr, nilK_fn, fieldA_at, load1_at, orRd_some, optK_some, pickK_true, pickK_false, gopK_tt, gopK_ff, gopK_tf, gopK_ft, gopK_undef, gqK_tt, gqK_ff, gqK_tf, gqK_ft, gqK_undef, condK_true, condK_false, unK_not, binI_eql, binI_neq, binI_lss, binI_leq, binI_gtr, binI_geq, binI_add, binI_sub, binI_mul, binP_eql_none, binP_neq_none, binM_eql_none, binM_neq_none, binL_eql_none, lenL_at, convI_at, extractK_at, Option.bind_some, List.getElem?_cons_zero, List.getElem?_cons_succ, Option.isNone_some, Option.isNone_none, Bool.not_true, Bool.not_false, Nat.zero_add]
          have hopen : ∀ w2, Ext w1 w2 → ∀ {K : Value → World → Prop}, K (.bool (a.open f x.home)) w2 → callOn prog fn_World_Open #[ptr L.p, vi f, vi x.home] w2 K := fun w2 he2 K hK => open_c (h1.ext he2) hf f x.home hK
          refine Q_World_Free_R12_on (C := fun w' => Ext w1 w')
            (Q := fun e' => e' 70 = .bool (!a.open f x.home || a.shut x) ∧ e' 0 = ptr L.p ∧ e' 1 = vi f ∧ e' 9 = ptr (L.bk (l.getD i 0)) ∧ e' 25 = v ∧ e' 26 = vi l.length ∧ e' 27 = vi i) (Ext.drew w1) ?_ ?_
          · unfold Q_World_Free_R12
            simp only [upd_get, Nat.reduceEqDiff, if_false, if_true, g0, g1]
            refine qop_intro _ (fun w2 hw2 => ⟨rfl, hw2⟩) ?_
            refine qop_intro _ (fun w2 hw2 => ⟨rfl, hw2⟩) ?_
            refine qop_intro _ (fun w2 hw2 => ⟨rfl, hw2⟩) ?_
            refine qop_intro _ (fun w2 hw2 => ⟨rfl, hw2⟩) ?_
            refine qop_intro _ (fun w2 hw2 => by simp only [atDrew_eq, nilK_ptr, nilK_fn, fieldA_at, load1_at, orRd_some, optK_some, pickK_true, pickK_false, gopK_tt, gopK_ff, gopK_tf, gopK_ft, gopK_undef, gqK_tt, gqK_ff, gqK_tf, gqK_ft, gqK_undef, condK_true, condK_false, unK_not, binI_eql, binI_neq, binI_lss, binI_leq, binI_gtr, binI_geq, binI_add, binI_sub, binI_mul, binP_eql_none, binP_neq_none, binM_eql_none, binM_neq_none, binL_eql_none, lenL_at, convI_at, extractK_at, Option.bind_some, List.getElem?_cons_zero, List.getElem?_cons_succ, Option.isNone_some, Option.isNone_none, Bool.not_true, Bool.not_false, Nat.zero_add]; first | exact ⟨rfl, hw2⟩ | exact ⟨trivial, hw2⟩) ?_
            refine qop_intro (vi x.home) (fun w2 hw2 => by simp only [atDrew_eq, nilK_ptr, nilK_fn, fieldA_at, load1_at, orRd_some, optK_some, pickK_true, pickK_false, gopK_tt, gopK_ff, gopK_tf, gopK_ft, gopK_undef, gqK_tt, gqK_ff, gqK_tf, gqK_ft, gqK_undef, condK_true, condK_false, unK_not, binI_eql, binI_neq, binI_lss, binI_leq, binI_gtr, binI_geq, binI_add, binI_sub, binI_mul, binP_eql_none, binP_neq_none, binM_eql_none, binM_neq_none, binL_eql_none, lenL_at, convI_at, extractK_at, Option.bind_some, List.getElem?_cons_zero, List.getElem?_cons_succ, Option.isNone_some, Option.isNone_none, Bool.not_true, Bool.not_false, Nat.zero_add, (h1.ext hw2).cell hx, whCells]; exact ⟨trivial, hw2⟩) ?_
            refine qop_intro (.bool (a.open f x.home)) (fun w2 hw2 => hopen w2 hw2 ⟨rfl, hw2⟩) ?_
            refine qop_intro _ (fun w2 hw2 => ⟨rfl, hw2⟩) ?_
            refine qop_intro _ (fun w2 hw2 => ⟨rfl, hw2⟩) ?_
            cases ho : a.open f x.home with
            | false =>
              simp only [atDrew_eq, nilK_ptr, nilK_fn, fieldA_at, load1_at, orRd_some, optK_some, pickK_true, pickK_false, gopK_tt, gopK_ff, gopK_tf, gopK_ft, gopK_undef, gqK_tt, gqK_ff, gqK_tf, gqK_ft, gqK_undef, condK_true, condK_false, unK_not, binI_eql, binI_neq, binI_lss, binI_leq, binI_gtr, binI_geq, binI_add, binI_sub, binI_mul, binP_eql_none, binP_neq_none, binM_eql_none, binM_neq_none, binL_eql_none, lenL_at, convI_at, extractK_at, Option.bind_some, List.getElem?_cons_zero, List.getElem?_cons_succ, Option.isNone_some, Option.isNone_none, Bool.not_true, Bool.not_false, Nat.zero_add]
              refine qop_intro (.bool true) (fun w2 hw2 => by simp only [atDrew_eq, nilK_ptr, nilK_fn, fieldA_at, load1_at, orRd_some, optK_some, pickK_true, pickK_false, gopK_tt, gopK_ff, gopK_tf, gopK_ft, gopK_undef, gqK_tt, gqK_ff, gqK_tf, gqK_ft, gqK_undef, condK_true, condK_false, unK_not, binI_eql, binI_neq, binI_lss, binI_leq, binI_gtr, binI_geq, binI_add, binI_sub, binI_mul, binP_eql_none, binP_neq_none, binM_eql_none, binM_neq_none, binL_eql_none, lenL_at, convI_at, extractK_at, Option.bind_some, List.getElem?_cons_zero, List.getElem?_cons_succ, Option.isNone_some, Option.isNone_none, Bool.not_true, Bool.not_false, Nat.zero_add]; exact ⟨trivial, hw2⟩) ?_
              simp only [upd_get, Nat.reduceEqDiff, if_false, if_true, g0, g1, g25, g26, g27, Bool.true_or]
              exact ⟨trivial, trivial, trivial, trivial, trivial, trivial, trivial⟩
            | true =>
              simp only [atDrew_eq, nilK_ptr, nilK_fn, fieldA_at, load1_at, orRd_some, optK_some, pickK_true, pickK_false, gopK_tt, gopK_ff, gopK_tf, gopK_ft, gopK_undef, gqK_tt, gqK_ff, gqK_tf, gqK_ft, gqK_undef, condK_true, condK_false, unK_not, binI_eql, binI_neq, binI_lss, binI_leq, binI_gtr, binI_geq, binI_add, binI_sub, binI_mul, binP_eql_none, binP_neq_none, binM_eql_none, binM_neq_none, binL_eql_none, lenL_at, convI_at, extractK_at, Option.bind_some, List.getElem?_cons_zero, List.getElem?_cons_succ, Option.isNone_some, Option.isNone_none, Bool.not_true, Bool.not_false, Nat.zero_add]
              refine qop_intro _ (fun w2 hw2 => ⟨rfl, hw2⟩) ?_
              refine qop_intro _ (fun w2 hw2 => ⟨rfl, hw2⟩) ?_
              refine qop_intro _ (fun w2 hw2 => by simp only [atDrew_eq, nilK_ptr, nilK_fn, fieldA_at, load1_at, orRd_some, optK_some, pickK_true, pickK_false, gopK_tt, gopK_ff, gopK_tf, gopK_ft, gopK_undef, gqK_tt, gqK_ff, gqK_tf, gqK_ft, gqK_undef, condK_true, condK_false, unK_not, binI_eql, binI_neq, binI_lss, binI_leq, binI_gtr, binI_geq, binI_add, binI_sub, binI_mul, binP_eql_none, binP_neq_none, binM_eql_none, binM_neq_none, binL_eql_none, lenL_at, convI_at, extractK_at, Option.bind_some, List.getElem?_cons_zero, List.getElem?_cons_succ, Option.isNone_some, Option.isNone_none, Bool.not_true, Bool.not_false, Nat.zero_add]; first | exact ⟨rfl, hw2⟩ | exact ⟨trivial, hw2⟩) ?_
              refine qop_intro (vb x.kind) (fun w2 hw2 => by simp only [atDrew_eq, nilK_ptr, nilK_fn, fieldA_at, load1_at, orRd_some, optK_some, pickK_true, pickK_false, gopK_tt, gopK_ff, gopK_tf, gopK_ft, gopK_undef, gqK_tt, gqK_ff, gqK_tf, gqK_ft, gqK_undef, condK_true, condK_false, unK_not, binI_eql, binI_neq, binI_lss, binI_leq, binI_gtr, binI_geq, binI_add, binI_sub, binI_mul, binP_eql_none, binP_neq_none, binM_eql_none, binM_neq_none, binL_eql_none, lenL_at, convI_at, extractK_at, Option.bind_some, List.getElem?_cons_zero, List.getElem?_cons_succ, Option.isNone_some, Option.isNone_none, Bool.not_true, Bool.not_false, Nat.zero_add, (h1.ext hw2).cell hx, whCells]; exact ⟨trivial, hw2⟩) ?_
              refine qop_intro (.bool (x.kind == 15)) (fun w2 hw2 => by simp only [atDrew_eq, nilK_ptr, nilK_fn, fieldA_at, load1_at, orRd_some, optK_some, pickK_true, pickK_false, gopK_tt, gopK_ff, gopK_tf, gopK_ft, gopK_undef, gqK_tt, gqK_ff, gqK_tf, gqK_ft, gqK_undef, condK_true, condK_false, unK_not, binI_eql, binI_neq, binI_lss, binI_leq, binI_gtr, binI_geq, binI_add, binI_sub, binI_mul, binP_eql_none, binP_neq_none, binM_eql_none, binM_neq_none, binL_eql_none, lenL_at, convI_at, extractK_at, Option.bind_some, List.getElem?_cons_zero, List.getElem?_cons_succ, Option.isNone_some, Option.isNone_none, Bool.not_true, Bool.not_false, Nat.zero_add]; exact ⟨trivial, hw2⟩) ?_
              refine qop_intro _ (fun w2 hw2 => ⟨rfl, hw2⟩) ?_
              by_cases h15 : x.kind = 15
              · have hb15 : (x.kind == 15) = true := by simpa using h15
                obtain ⟨y, hy⟩ := is_some (hf.gate _ (mem_at hx) h15)
                simp only [hb15, atDrew_eq, nilK_ptr, nilK_fn, fieldA_at, load1_at, orRd_some, optK_some, pickK_true, pickK_false, gopK_tt, gopK_ff, gopK_tf, gopK_ft, gopK_undef, gqK_tt, gqK_ff, gqK_tf, gqK_ft, gqK_undef, condK_true, condK_false, unK_not, binI_eql, binI_neq, binI_lss, binI_leq, binI_gtr, binI_geq, binI_add, binI_sub, binI_mul, binP_eql_none, binP_neq_none, binM_eql_none, binM_neq_none, binL_eql_none, lenL_at, convI_at, extractK_at, Option.bind_some, List.getElem?_cons_zero, List.getElem?_cons_succ, Option.isNone_some, Option.isNone_none, Bool.not_true, Bool.not_false, Nat.zero_add]
                refine qop_intro _ (fun w2 hw2 => ⟨rfl, hw2⟩) ?_
                refine qop_intro _ (fun w2 hw2 => ⟨rfl, hw2⟩) ?_
                refine qop_intro _ (fun w2 hw2 => by simp only [atDrew_eq, nilK_ptr, nilK_fn, fieldA_at, load1_at, orRd_some, optK_some, pickK_true, pickK_false, gopK_tt, gopK_ff, gopK_tf, gopK_ft, gopK_undef, gqK_tt, gqK_ff, gqK_tf, gqK_ft, gqK_undef, condK_true, condK_false, unK_not, binI_eql, binI_neq, binI_lss, binI_leq, binI_gtr, binI_geq, binI_add, binI_sub, binI_mul, binP_eql_none, binP_neq_none, binM_eql_none, binM_neq_none, binL_eql_none, lenL_at, convI_at, extractK_at, Option.bind_some, List.getElem?_cons_zero, List.getElem?_cons_succ, Option.isNone_some, Option.isNone_none, Bool.not_true, Bool.not_false, Nat.zero_add]; first | exact ⟨rfl, hw2⟩ | exact ⟨trivial, hw2⟩) ?_
                refine qop_intro (.map (some L.bm)) (fun w2 hw2 => by simp only [atDrew_eq, nilK_ptr, nilK_fn, fieldA_at, load1_at, orRd_some, optK_some, pickK_true, pickK_false, gopK_tt, gopK_ff, gopK_tf, gopK_ft, gopK_undef, gqK_tt, gqK_ff, gqK_tf, gqK_ft, gqK_undef, condK_true, condK_false, unK_not, binI_eql, binI_neq, binI_lss, binI_leq, binI_gtr, binI_geq, binI_add, binI_sub, binI_mul, binP_eql_none, binP_neq_none, binM_eql_none, binM_neq_none, binL_eql_none, lenL_at, convI_at, extractK_at, Option.bind_some, List.getElem?_cons_zero, List.getElem?_cons_succ, Option.isNone_some, Option.isNone_none, Bool.not_true, Bool.not_false, Nat.zero_add, (h1.ext hw2).top]; exact ⟨trivial, hw2⟩) ?_
                refine qop_intro _ (fun w2 hw2 => ⟨rfl, hw2⟩) ?_
                refine qop_intro _ (fun w2 hw2 => ⟨rfl, hw2⟩) ?_
                refine qop_intro _ (fun w2 hw2 => by simp only [atDrew_eq, nilK_ptr, nilK_fn, fieldA_at, load1_at, orRd_some, optK_some, pickK_true, pickK_false, gopK_tt, gopK_ff, gopK_tf, gopK_ft, gopK_undef, gqK_tt, gqK_ff, gqK_tf, gqK_ft, gqK_undef, condK_true, condK_false, unK_not, binI_eql, binI_neq, binI_lss, binI_leq, binI_gtr, binI_geq, binI_add, binI_sub, binI_mul, binP_eql_none, binP_neq_none, binM_eql_none, binM_neq_none, binL_eql_none, lenL_at, convI_at, extractK_at, Option.bind_some, List.getElem?_cons_zero, List.getElem?_cons_succ, Option.isNone_some, Option.isNone_none, Bool.not_true, Bool.not_false, Nat.zero_add]; first | exact ⟨rfl, hw2⟩ | exact ⟨trivial, hw2⟩) ?_
                refine qop_intro (vi x.by_) (fun w2 hw2 => by simp only [atDrew_eq, nilK_ptr, nilK_fn, fieldA_at, load1_at, orRd_some, optK_some, pickK_true, pickK_false, gopK_tt, gopK_ff, gopK_tf, gopK_ft, gopK_undef, gqK_tt, gqK_ff, gqK_tf, gqK_ft, gqK_undef, condK_true, condK_false, unK_not, binI_eql, binI_neq, binI_lss, binI_leq, binI_gtr, binI_geq, binI_add, binI_sub, binI_mul, binP_eql_none, binP_neq_none, binM_eql_none, binM_neq_none, binL_eql_none, lenL_at, convI_at, extractK_at, Option.bind_some, List.getElem?_cons_zero, List.getElem?_cons_succ, Option.isNone_some, Option.isNone_none, Bool.not_true, Bool.not_false, Nat.zero_add, (h1.ext hw2).cell hx, whCells]; exact ⟨trivial, hw2⟩) ?_
                refine qop_intro (ptr (L.bk x.by_)) (fun w2 hw2 => by rw [(h1.ext hw2).look_some hy]; exact ⟨rfl, hw2⟩) ?_
                refine qop_intro _ (fun w2 hw2 => ⟨rfl, hw2⟩) ?_
                refine qop_intro _ (fun w2 hw2 => by simp only [atDrew_eq, nilK_ptr, nilK_fn, fieldA_at, load1_at, orRd_some, optK_some, pickK_true, pickK_false, gopK_tt, gopK_ff, gopK_tf, gopK_ft, gopK_undef, gqK_tt, gqK_ff, gqK_tf, gqK_ft, gqK_undef, condK_true, condK_false, unK_not, binI_eql, binI_neq, binI_lss, binI_leq, binI_gtr, binI_geq, binI_add, binI_sub, binI_mul, binP_eql_none, binP_neq_none, binM_eql_none, binM_neq_none, binL_eql_none, lenL_at, convI_at, extractK_at, Option.bind_some, List.getElem?_cons_zero, List.getElem?_cons_succ, Option.isNone_some, Option.isNone_none, Bool.not_true, Bool.not_false, Nat.zero_add]; first | exact ⟨rfl, hw2⟩ | exact ⟨trivial, hw2⟩) ?_
                refine qop_intro (.bool y.full) (fun w2 hw2 => by simp only [atDrew_eq, nilK_ptr, nilK_fn, fieldA_at, load1_at, orRd_some, optK_some, pickK_true, pickK_false, gopK_tt, gopK_ff, gopK_tf, gopK_ft, gopK_undef, gqK_tt, gqK_ff, gqK_tf, gqK_ft, gqK_undef, condK_true, condK_false, unK_not, binI_eql, binI_neq, binI_lss, binI_leq, binI_gtr, binI_geq, binI_add, binI_sub, binI_mul, binP_eql_none, binP_neq_none, binM_eql_none, binM_neq_none, binL_eql_none, lenL_at, convI_at, extractK_at, Option.bind_some, List.getElem?_cons_zero, List.getElem?_cons_succ, Option.isNone_some, Option.isNone_none, Bool.not_true, Bool.not_false, Nat.zero_add, (h1.ext hw2).cell hy, whCells]; exact ⟨trivial, hw2⟩) ?_
                refine qop_intro (.bool y.full) (fun w2 hw2 => by simp only [atDrew_eq, nilK_ptr, nilK_fn, fieldA_at, load1_at, orRd_some, optK_some, pickK_true, pickK_false, gopK_tt, gopK_ff, gopK_tf, gopK_ft, gopK_undef, gqK_tt, gqK_ff, gqK_tf, gqK_ft, gqK_undef, condK_true, condK_false, unK_not, binI_eql, binI_neq, binI_lss, binI_leq, binI_gtr, binI_geq, binI_add, binI_sub, binI_mul, binP_eql_none, binP_neq_none, binM_eql_none, binM_neq_none, binL_eql_none, lenL_at, convI_at, extractK_at, Option.bind_some, List.getElem?_cons_zero, List.getElem?_cons_succ, Option.isNone_some, Option.isNone_none, Bool.not_true, Bool.not_false, Nat.zero_add]; exact ⟨trivial, hw2⟩) ?_
                refine qop_intro (.bool y.full) (fun w2 hw2 => by simp only [atDrew_eq, nilK_ptr, nilK_fn, fieldA_at, load1_at, orRd_some, optK_some, pickK_true, pickK_false, gopK_tt, gopK_ff, gopK_tf, gopK_ft, gopK_undef, gqK_tt, gqK_ff, gqK_tf, gqK_ft, gqK_undef, condK_true, condK_false, unK_not, binI_eql, binI_neq, binI_lss, binI_leq, binI_gtr, binI_geq, binI_add, binI_sub, binI_mul, binP_eql_none, binP_neq_none, binM_eql_none, binM_neq_none, binL_eql_none, lenL_at, convI_at, extractK_at, Option.bind_some, List.getElem?_cons_zero, List.getElem?_cons_succ, Option.isNone_some, Option.isNone_none, Bool.not_true, Bool.not_false, Nat.zero_add]; exact ⟨trivial, hw2⟩) ?_
                simp only [upd_get, Nat.reduceEqDiff, if_false, if_true, g0, g1, g25, g26, g27, AW.shut, h15, hy, Bool.false_or, decide_true, Bool.true_and, Bool.not_true]
                exact ⟨trivial, trivial, trivial, trivial, trivial, trivial, trivial⟩
              · have hb15 : (x.kind == 15) = false := by simpa using h15
                simp only [hb15, atDrew_eq, nilK_ptr, nilK_fn, fieldA_at, load1_at, orRd_some, optK_some, pickK_true, pickK_false, gopK_tt, gopK_ff, gopK_tf, gopK_ft, gopK_undef, gqK_tt, gqK_ff, gqK_tf, gqK_ft, gqK_undef, condK_true, condK_false, unK_not, binI_eql, binI_neq, binI_lss, binI_leq, binI_gtr, binI_geq, binI_add, binI_sub, binI_mul, binP_eql_none, binP_neq_none, binM_eql_none, binM_neq_none, binL_eql_none, lenL_at, convI_at, extractK_at, Option.bind_some, List.getElem?_cons_zero, List.getElem?_cons_succ, Option.isNone_some, Option.isNone_none, Bool.not_true, Bool.not_false, Nat.zero_add]
                refine qop_intro (.bool false) (fun w2 hw2 => by simp only [atDrew_eq, nilK_ptr, nilK_fn, fieldA_at, load1_at, orRd_some, optK_some, pickK_true, pickK_false, gopK_tt, gopK_ff, gopK_tf, gopK_ft, gopK_undef, gqK_tt, gqK_ff, gqK_tf, gqK_ft, gqK_undef, condK_true, condK_false, unK_not, binI_eql, binI_neq, binI_lss, binI_leq, binI_gtr, binI_geq, binI_add, binI_sub, binI_mul, binP_eql_none, binP_neq_none, binM_eql_none, binM_neq_none, binL_eql_none, lenL_at, convI_at, extractK_at, Option.bind_some, List.getElem?_cons_zero, List.getElem?_cons_succ, Option.isNone_some, Option.isNone_none, Bool.not_true, Bool.not_false, Nat.zero_add]; exact ⟨trivial, hw2⟩) ?_
                refine qop_intro (.bool false) (fun w2 hw2 => by simp only [atDrew_eq, nilK_ptr, nilK_fn, fieldA_at, load1_at, orRd_some, optK_some, pickK_true, pickK_false, gopK_tt, gopK_ff, gopK_tf, gopK_ft, gopK_undef, gqK_tt, gqK_ff, gqK_tf, gqK_ft, gqK_undef, condK_true, condK_false, unK_not, binI_eql, binI_neq, binI_lss, binI_leq, binI_gtr, binI_geq, binI_add, binI_sub, binI_mul, binP_eql_none, binP_neq_none, binM_eql_none, binM_neq_none, binL_eql_none, lenL_at, convI_at, extractK_at, Option.bind_some, List.getElem?_cons_zero, List.getElem?_cons_succ, Option.isNone_some, Option.isNone_none, Bool.not_true, Bool.not_false, Nat.zero_add]; exact ⟨trivial, hw2⟩) ?_
                simp only [upd_get, Nat.reduceEqDiff, if_false, if_true, g0, g1, g25, g26, g27, AW.shut, h15, Bool.false_or, decide_false, Bool.false_and, Bool.not_true]
                exact ⟨trivial, trivial, trivial, trivial, trivial, trivial, trivial⟩
          · rintro e2 w2 he2 ⟨q70, q0, q1, q9, q25, q26, q27⟩
            have h2 := h1.ext he2
            simp only [q70]
            cases hcond : (!a.open f x.home || a.shut x) with
            | true =>
              rw [if_pos hcond] at hfr
              simp only [atDrew_eq, nilK_ptr, nilK_fn, fieldA_at, load1_at, orRd_some, optK_some, pickK_true, pickK_false, gopK_tt, gopK_ff, gopK_tf, gopK_ft, gopK_undef, gqK_tt, gqK_ff, gqK_tf, gqK_ft, gqK_undef, condK_true, condK_false, unK_not, binI_eql, binI_neq, binI_lss, binI_leq, binI_gtr, binI_geq, binI_add, binI_sub, binI_mul, binP_eql_none, binP_neq_none, binM_eql_none, binM_neq_none, binL_eql_none, lenL_at, convI_at, extractK_at, Option.bind_some, List.getElem?_cons_zero, List.getElem?_cons_succ, Option.isNone_some, Option.isNone_none, Bool.not_true, Bool.not_false, Nat.zero_add]
              rw [← hfr] at hk
              exact hk w2 ((he0.trans he).trans he2)
            | false =>
              rw [if_neg (by rw [hcond]; simp)] at hfr
              simp only [atDrew_eq, nilK_ptr, nilK_fn, fieldA_at, load1_at, orRd_some, optK_some, pickK_true, pickK_false, gopK_tt, gopK_ff, gopK_tf, gopK_ft, gopK_undef, gqK_tt, gqK_ff, gqK_tf, gqK_ft, gqK_undef, condK_true, condK_false, unK_not, binI_eql, binI_neq, binI_lss, binI_leq, binI_gtr, binI_geq, binI_add, binI_sub, binI_mul, binP_eql_none, binP_neq_none, binM_eql_none, binM_neq_none, binL_eql_none, lenL_at, convI_at, extractK_at, Option.bind_some, List.getElem?_cons_zero, List.getElem?_cons_succ, Option.isNone_some, Option.isNone_none, Bool.not_true, Bool.not_false, Nat.zero_add, q9, h2.cell hx, whCells, upd_get, Nat.reduceEqDiff, if_false, if_true, q27, hw]
              refine ⟨l.length - (i + 1), by omega, i + 1, x.home, by omega, rfl, q0, rfl, q25, q26, rfl, he.trans he2, hfr⟩
      · have hd : decide ((i : Int) < (l.length : Int)) = false := by simpa using hlt
        have : i = l.length := by omega
        subst this
        simp only [List.drop_length, free] at hfr
        simp only [hd, atDrew_eq, nilK_ptr, nilK_fn, fieldA_at, load1_at, orRd_some, optK_some, pickK_true, pickK_false, gopK_tt, gopK_ff, gopK_tf, gopK_ft, gopK_undef, gqK_tt, gqK_ff, gqK_tf, gqK_ft, gqK_undef, condK_true, condK_false, unK_not, binI_eql, binI_neq, binI_lss, binI_leq, binI_gtr, binI_geq, binI_add, binI_sub, binI_mul, binP_eql_none, binP_neq_none, binM_eql_none, binM_neq_none, binL_eql_none, lenL_at, convI_at, extractK_at, Option.bind_some, List.getElem?_cons_zero, List.getElem?_cons_succ, Option.isNone_some, Option.isNone_none, Bool.not_true, Bool.not_false, Nat.zero_add]
        rw [← hfr] at hk
        exact hk w1 (he0.trans he)
end
end Go.X
/- Contracts: a new thing is laid down. -/
set_option linter.unusedSimpArgs false
set_option linter.unusedVariables false
namespace Go.X
open Go Go.AW

section
variable {w : World} {L : Lay} {a : AW} {k : Value → World → Prop}

theorem upd_new {m : Nat} {es : List MapEntry} {c : Nat} {pair : Bool} {key x : Value} {k : World → Prop} (hm : mapOf w m = some (es, c)) (hs : keyShape pair key = true) (hf : findK key es 0 = some none)
    (h : ∀ w', Keeps (· = m) w w' → mapOf w' m = some (es ++ [⟨key, x, c⟩], c + 1) → w'.heap.size = w.heap.size → k w') : updM pair (.map (some m)) key x w k := by
  simp only [updM, hm, hf]
  exact ⟨hs, h _ (Keeps.setMap w m _ _) (mapOf_setMap hm _ _) (by simp [setMap])⟩

theorem index_no {p bm bf b j : Nat} {par cut last made : Value} {es : List MapEntry} {cm : Nat} {r : Int} {x : Wh} (htop : cellsOf w p = some [par, cut, .map (some bm), .map (some bf), last, made])
    (hth : mapOf w bm = some (es, cm)) (hf : findK (vi r) es 0 = some (some (j, ptr b))) (hc : cellsOf w b = some (whCells x)) (hx : x.kind ≠ 14) (hk : k (.tuple #[]) w) :
    callOn prog fn_World_index #[ptr p, vi r] w k := by
  apply F_World_index_on
  unfold F_World_index
  have hb : (x.kind == 14) = false := by simpa using hx
  simp only [atDrew_eq, nilK_ptr, nilK_fn, fieldA_at, load1_at, orRd_some, optK_some, pickK_true, pickK_false, gopK_tt, gopK_ff, gopK_tf, gopK_ft, gopK_undef, gqK_tt, gqK_ff, gqK_tf, gqK_ft, gqK_undef, condK_true, condK_false, unK_not, binI_eql, binI_neq, binI_lss, binI_leq, binI_gtr, binI_geq, binI_add, binI_sub, binI_mul, binP_eql_none, binP_neq_none, binM_eql_none, binM_neq_none, binL_eql_none, lenL_at, convI_at, extractK_at, Option.bind_some, List.getElem?_cons_zero, List.getElem?_cons_succ, Option.isNone_some, Option.isNone_none, Bool.not_true, Bool.not_false, Nat.zero_add, htop, lookM, hth, hf, foundM, Bool.false_eq_true, if_false]
  refine ⟨rfl, ?_⟩
  simp only [atDrew_eq, nilK_ptr, nilK_fn, fieldA_at, load1_at, orRd_some, optK_some, pickK_true, pickK_false, gopK_tt, gopK_ff, gopK_tf, gopK_ft, gopK_undef, gqK_tt, gqK_ff, gqK_tf, gqK_ft, gqK_undef, condK_true, condK_false, unK_not, binI_eql, binI_neq, binI_lss, binI_leq, binI_gtr, binI_geq, binI_add, binI_sub, binI_mul, binP_eql_none, binP_neq_none, binM_eql_none, binM_neq_none, binL_eql_none, lenL_at, convI_at, extractK_at, Option.bind_some, List.getElem?_cons_zero, List.getElem?_cons_succ, Option.isNone_some, Option.isNone_none, Bool.not_true, Bool.not_false, Nat.zero_add, hc, whCells, hb]
  exact hk

theorem index_yes {p bm bf b j : Nat} {par cut last made : Value} {es fs : List MapEntry} {cm cf : Nat} {r : Int} {x : Wh} (htop : cellsOf w p = some [par, cut, .map (some bm), .map (some bf), last, made])
    (hth : mapOf w bm = some (es, cm)) (hf : findK (vi r) es 0 = some (some (j, ptr b))) (hc : cellsOf w b = some (whCells x)) (hx : x.kind = 14) (hfac : mapOf w bf = some (fs, cf))
    (hnew : findK (fkey x.of x.set) fs 0 = some none)
    (hk : ∀ w', Keeps (· = bf) w w' → mapOf w' bf = some (fs ++ [⟨fkey x.of x.set, vi r, cf⟩], cf + 1) → k (.tuple #[]) w') :
    callOn prog fn_World_index #[ptr p, vi r] w k := by
  apply F_World_index_on
  unfold F_World_index
  have hb : (x.kind == 14) = true := by simpa using hx
  simp only [atDrew_eq, nilK_ptr, nilK_fn, fieldA_at, load1_at, orRd_some, optK_some, pickK_true, pickK_false, gopK_tt, gopK_ff, gopK_tf, gopK_ft, gopK_undef, gqK_tt, gqK_ff, gqK_tf, gqK_ft, gqK_undef, condK_true, condK_false, unK_not, binI_eql, binI_neq, binI_lss, binI_leq, binI_gtr, binI_geq, binI_add, binI_sub, binI_mul, binP_eql_none, binP_neq_none, binM_eql_none, binM_neq_none, binL_eql_none, lenL_at, convI_at, extractK_at, Option.bind_some, List.getElem?_cons_zero, List.getElem?_cons_succ, Option.isNone_some, Option.isNone_none, Bool.not_true, Bool.not_false, Nat.zero_add, htop, lookM, hth, hf, foundM, Bool.false_eq_true, if_false]
  refine ⟨rfl, ?_⟩
  have htop' := (Ext.drew w).cells htop id
  have hc' := (Ext.drew w).cells hc id
  have hfac' := (Ext.drew w).map hfac id
  have hbs : ∀ (t s : Int) (q : Value → Prop), buildS (.agg #[vi 0, vb 0]) [(0, 1), (1, 1)] [(0, vi t), (1, vb s)] q = q (fkey t s) := fun t s q => rfl
  simp only [atDrew_eq, nilK_ptr, nilK_fn, fieldA_at, load1_at, orRd_some, optK_some, pickK_true, pickK_false, gopK_tt, gopK_ff, gopK_tf, gopK_ft, gopK_undef, gqK_tt, gqK_ff, gqK_tf, gqK_ft, gqK_undef, condK_true, condK_false, unK_not, binI_eql, binI_neq, binI_lss, binI_leq, binI_gtr, binI_geq, binI_add, binI_sub, binI_mul, binP_eql_none, binP_neq_none, binM_eql_none, binM_neq_none, binL_eql_none, lenL_at, convI_at, extractK_at, Option.bind_some, List.getElem?_cons_zero, List.getElem?_cons_succ, Option.isNone_some, Option.isNone_none, Bool.not_true, Bool.not_false, Nat.zero_add, hc, whCells, hb, htop', hc']
  rw [hbs]
  exact upd_new hfac' rfl hnew fun w' hkp hm _ => hk w' (Keeps.trans (Keeps.of_ext (Ext.drew w)) hkp) hm

theorem findK_append {key : Value} : ∀ {es : List MapEntry} {i : Nat} {e : MapEntry}, findK key es i = some none → keyEq key e.key = some true → findK key (es ++ [e]) i = some (some (i + es.length, e.val))
  | [], i, e, _, he => by simp [findK, he]
  | x :: es, i, e, h, he => by
    simp only [findK] at h
    cases ht : keyEq key x.key with
    | none => simp [ht] at h
    | some t =>
      cases t with
      | true => simp [ht] at h
      | false =>
        simp [ht] at h
        have := findK_append h he
        simp only [List.cons_append, findK, ht, this, List.length_cons]
        congr 3
        omega

theorem foot_add (L : Lay) (a : AW) (x : Wh) (b : Nat) (hp : ∀ t ∈ a.things, t.1 ≤ a.last) (L' : Lay)
    (hL : L'.p = L.p ∧ L'.bm = L.bm ∧ L'.bf = L.bf ∧ L'.par = L.par ∧ L'.cut = L.cut ∧ L'.made = L.made) (hbk : L'.bk = fun r => if r = a.last + 1 then b else L.bk r) :
    foot L' (a.add x) = foot L a ++ [b] := by
  obtain ⟨h1, h2, h3, h4, h5, h6⟩ := hL
  have hm : (a.add x).things.map (fun t => L'.bk t.1) = a.things.map (fun t => L.bk t.1) ++ [b] := by
    simp only [AW.add, List.map_append, List.map_cons, List.map_nil, hbk, if_true]
    congr 1
    apply List.map_congr_left
    intro t ht
    have := hp t ht
    rw [if_neg (by omega)]
  unfold foot
  rw [hm, h1, h2, h3, h4, h5, h6]
  simp

structure Grown (w w' : World) (L L' : Lay) (a a' : AW) : Prop where
  p : L'.p = L.p
  rep : WRep w' L' a'
  keeps : Keeps (fun b => b ∈ foot L a) w w'
  foot : ∀ b ∈ foot L' a', b ∈ foot L a ∨ w.heap.size ≤ b

theorem foot_parts {L : Lay} {a : AW} (h : (foot L a).Nodup) : L.p ≠ L.bm ∧ L.p ≠ L.bf ∧ L.bm ≠ L.bf ∧ (∀ b ∈ sliceBlk L.par, b ≠ L.p ∧ b ≠ L.bm ∧ b ≠ L.bf) ∧ (∀ b ∈ sliceBlk L.cut, b ≠ L.p ∧ b ≠ L.bm ∧ b ≠ L.bf) ∧
    (∀ b ∈ sliceBlk L.made, b ≠ L.p ∧ b ≠ L.bm ∧ b ≠ L.bf) ∧ (∀ t ∈ a.things, L.bk t.1 ≠ L.p ∧ L.bk t.1 ≠ L.bm ∧ L.bk t.1 ≠ L.bf) ∧ (∀ b ∈ sliceBlk L.made, (∀ c ∈ sliceBlk L.par, c ≠ b) ∧ (∀ c ∈ sliceBlk L.cut, c ≠ b) ∧ ∀ t ∈ a.things, L.bk t.1 ≠ b) := by
  simp only [foot, List.nodup_cons, List.mem_cons, List.mem_append, not_or, List.nodup_append, List.mem_map, not_exists, not_and] at h
  obtain ⟨⟨p1, p2, p3, p4, p5, p6⟩, ⟨m1, m2, m3, m4, m5⟩, ⟨f1, f2, f3, f4⟩, h1, ⟨h2, ⟨h3, h4, h5⟩, h6⟩, h7⟩ := h
  refine ⟨p1, p2, m1, fun b hb => ⟨fun e => p3 (e ▸ hb), fun e => m2 (e ▸ hb), fun e => f1 (e ▸ hb)⟩, fun b hb => ⟨fun e => p4 (e ▸ hb), fun e => m3 (e ▸ hb), fun e => f2 (e ▸ hb)⟩,
    fun b hb => ⟨fun e => p5 (e ▸ hb), fun e => m4 (e ▸ hb), fun e => f3 (e ▸ hb)⟩, fun t ht => ⟨p6 t ht, m5 t ht, f4 t ht⟩, fun b hb => ⟨fun c hc => h7 c hc b (.inr (.inl hb)), fun c hc => h6 c hc b (.inl hb), fun t ht e => h5 b hb (L.bk t.1) ⟨t, ht, rfl⟩ e.symm⟩⟩

theorem lay_c (h : WRep w L a) (x : Wh) (hlast : a.last + 1 < 4611686018427387904) (hhome : x.kind ≠ 14 → a.side x.home = true) (hmade : x.kind ≠ 14 → 0 ≤ a.made.getD x.home.toNat 0 ∧ a.made.getD x.home.toNat 0 < 4611686018427387904)
    (hfac : x.kind = 14 → a.find x.of x.set = none) (hk : ∀ w' L', Grown w w' L L' a (a.add x) → k (vi (a.last + 1)) w') :
    callOn prog fn_World_lay #[ptr L.p, whV x] w k := by
  apply F_World_lay_on
  unfold F_World_lay
  obtain ⟨d1, d2, d3, dpar, dcut, dmade, dth, dmm⟩ := foot_parts h.apart
  have hlt := h.lt
  refine box_intro fun b w1 he1 hb0 hb1 hbc => ?_
  have h1 := h.ext he1
  have hbc : cellsOf w1 b = some (whCells x) := hbc
  have hbf : b ∉ foot L a := fun hb => by have := hlt b hb; omega
  have hnb : ∀ c ∈ foot L a, c ≠ b := fun c hc e => hbf (e ▸ hc)
  have mp : L.p ∈ foot L a := by simp [foot]
  have mm : L.bm ∈ foot L a := by simp [foot]
  have mf : L.bf ∈ foot L a := by simp [foot]
  have mpar : ∀ c ∈ sliceBlk L.par, c ∈ foot L a := fun c hc => by simp [foot, hc]
  have mcut : ∀ c ∈ sliceBlk L.cut, c ∈ foot L a := fun c hc => by simp [foot, hc]
  have mmade : ∀ c ∈ sliceBlk L.made, c ∈ foot L a := fun c hc => by simp [foot, hc]
  have mth : ∀ t ∈ a.things, L.bk t.1 ∈ foot L a := fun t ht => by
    simp only [foot, List.mem_cons, List.mem_append, List.mem_map]
    exact .inr (.inr (.inr (.inr (.inr (.inr ⟨t, ht, rfl⟩)))))
  have hw : IntKind.i64.wrap (a.last + 1) = a.last + 1 := wrap64_id (by have := h.low; omega) (by omega)
  simp only [atDrew_eq, nilK_ptr, nilK_fn, fieldA_at, load1_at, orRd_some, optK_some, pickK_true, pickK_false, gopK_tt, gopK_ff, gopK_tf, gopK_ft, gopK_undef, gqK_tt, gqK_ff, gqK_tf, gqK_ft, gqK_undef, condK_true, condK_false, unK_not, binI_eql, binI_neq, binI_lss, binI_leq, binI_gtr, binI_geq, binI_add, binI_sub, binI_mul, binP_eql_none, binP_neq_none, binM_eql_none, binM_neq_none, binL_eql_none, lenL_at, convI_at, extractK_at, Option.bind_some, List.getElem?_cons_zero, List.getElem?_cons_succ, Option.isNone_some, Option.isNone_none, Bool.not_true, Bool.not_false, Nat.zero_add, h1.top, hw]
  refine store1_intro h1.top (by simp) rfl fun w2 hk2 ht2 hs2 => ?_
  simp only [List.set_cons_succ, List.set_cons_zero] at ht2
  have e2 := Ext.drew w2
  generalize w2.drew = w3 at e2
  have ht3 := e2.cells ht2 id
  have hth3 := e2.map (hk2.map h1.things (Ne.symm d1)) id
  have hfac3 := e2.map (hk2.map h1.facets (Ne.symm d2)) id
  have hbc3 := e2.cells (hk2.cells hbc (fun e => hnb _ mp e.symm)) id
  simp only [atDrew_eq, nilK_ptr, nilK_fn, fieldA_at, load1_at, orRd_some, optK_some, pickK_true, pickK_false, gopK_tt, gopK_ff, gopK_tf, gopK_ft, gopK_undef, gqK_tt, gqK_ff, gqK_tf, gqK_ft, gqK_undef, condK_true, condK_false, unK_not, binI_eql, binI_neq, binI_lss, binI_leq, binI_gtr, binI_geq, binI_add, binI_sub, binI_mul, binP_eql_none, binP_neq_none, binM_eql_none, binM_neq_none, binL_eql_none, lenL_at, convI_at, extractK_at, Option.bind_some, List.getElem?_cons_zero, List.getElem?_cons_succ, Option.isNone_some, Option.isNone_none, Bool.not_true, Bool.not_false, Nat.zero_add, ht3]
  have hno : a.at (a.last + 1) = none := by
    cases hr : a.at (a.last + 1) with
    | none => rfl
    | some y => have := h.pos hr; omega
  refine upd_new hth3 rfl (h.find_none hno) fun w4 hk4 hth4 _ => ?_
  have ht4 := hk4.cells ht3 d1
  have hfac4 := hk4.map hfac3 (Ne.symm d3)
  have hbc4 := hk4.cells hbc3 (fun e => hnb _ mm e.symm)
  have hK4 : Keeps (fun c => c ∈ foot L a) w w4 :=
    ((Keeps.of_ext he1).trans' (hk2.mono fun c _ hc => hc) fun c _ hc => hc ▸ mp).trans' ((Keeps.of_ext e2 (S := fun c => c ∈ foot L a)).trans (hk4.mono fun c _ hc => hc ▸ mm)) fun c _ hc => hc
  simp only [atDrew_eq, nilK_ptr, nilK_fn, fieldA_at, load1_at, orRd_some, optK_some, pickK_true, pickK_false, gopK_tt, gopK_ff, gopK_tf, gopK_ft, gopK_undef, gqK_tt, gqK_ff, gqK_tf, gqK_ft, gqK_undef, condK_true, condK_false, unK_not, binI_eql, binI_neq, binI_lss, binI_leq, binI_gtr, binI_geq, binI_add, binI_sub, binI_mul, binP_eql_none, binP_neq_none, binM_eql_none, binM_neq_none, binL_eql_none, lenL_at, convI_at, extractK_at, Option.bind_some, List.getElem?_cons_zero, List.getElem?_cons_succ, Option.isNone_some, Option.isNone_none, Bool.not_true, Bool.not_false, Nat.zero_add, ht4]
  have hfind := findK_append (key := vi (a.last + 1)) (e := ⟨vi (a.last + 1), ptr b, L.cm⟩) (h.find_none hno) (by simp [keyEq])
  -- what the new layout is, the facets' map aside
  have fin : ∀ (w6 : World) (fs' : List MapEntry) (cf' : Nat), Keeps (fun c => c ∈ foot L a) w w6 → cellsOf w6 L.p = some [L.par, L.cut, .map (some L.bm), .map (some L.bf), vi (a.last + 1), L.made] →
      mapOf w6 L.bm = some (L.es ++ [⟨vi (a.last + 1), ptr b, L.cm⟩], L.cm + 1) → mapOf w6 L.bf = some (fs', cf') → cellsOf w6 b = some (whCells x) → SliceOf w6 L.par (a.parents.map vi) → SliceOf w6 L.cut (a.cut.map .bool) →
      SliceOf w6 L.made ((a.add x).made.map vi) → (∀ t ∈ a.things, cellsOf w6 (L.bk t.1) = some (whCells t.2)) →
      (fs'.map kv).Perm (((a.add x).things.filter fun t => t.2.kind == 14).map fun t => (fkey t.2.of t.2.set, vi t.1)) → k (vi (a.last + 1)) w6 := by
    intro w6 fs' cf' hK ht hm hf hb hpar hcut hmd hcells hperm
    have hfoot := foot_add L a x b (fun t ht => (h.nums t ht).2) { L with es := L.es ++ [⟨vi (a.last + 1), ptr b, L.cm⟩], cm := L.cm + 1, fs := fs', cf := cf', bk := fun r => if r = a.last + 1 then b else L.bk r } ⟨rfl, rfl, rfl, rfl, rfl, rfl⟩ rfl
    refine hk w6 { L with es := L.es ++ [⟨vi (a.last + 1), ptr b, L.cm⟩], cm := L.cm + 1, fs := fs', cf := cf', bk := fun r => if r = a.last + 1 then b else L.bk r } ⟨rfl, ?_, hK, ?_⟩
    · refine { top := ht, par := hpar, cut := hcut, made := hmd, things := hm, facets := hf, ents := ?_, facs := hperm, cells := ?_, born := ?_, apart := ?_, sorted := ?_, len1 := ?_, len2 := ?_, len3 := ?_, nums := ?_, low := ?_, high := hlast }
      · simp only [AW.add, List.map_append, List.map_cons, List.map_nil, kv, if_true]
        refine List.Perm.append ?_ (.refl _)
        have : a.things.map (fun t => (vi t.1, ptr (L.bk t.1))) = a.things.map fun t => (vi t.1, ptr (if t.1 = a.last + 1 then b else L.bk t.1)) := by
          apply List.map_congr_left
          intro t ht
          have := (h.nums t ht).2
          rw [if_neg (by omega)]
        rw [← this]
        exact h.ents
      · intro t ht
        simp only [AW.add, List.mem_append, List.mem_singleton] at ht
        rcases ht with ht | rfl
        · have := (h.nums t ht).2
          simp only []
          rw [if_neg (by omega)]
          exact hcells t ht
        · simp only [if_true]
          exact hb
      · constructor
        · simp only [List.map_append, List.map_cons, List.map_nil, List.nodup_append, h.born.1, true_and]
          refine ⟨by simp, ?_⟩
          intro u hu v hv
          obtain ⟨e, he, rfl⟩ := List.mem_map.1 hu
          have := h.born.2 e he
          simp at hv
          omega
        · intro e he
          simp only [List.mem_append, List.mem_singleton] at he
          rcases he with he | rfl
          · have := h.born.2 e he; simp only []; omega
          · simp
      · rw [hfoot]
        refine List.nodup_append.2 ⟨h.apart, by simp, ?_⟩
        intro u hu v hv
        simp at hv
        subst hv
        exact hnb u hu
      · simp only [AW.add]
        refine List.pairwise_append.2 ⟨h.sorted, by simp, ?_⟩
        intro s hs t ht
        simp at ht
        subst ht
        have := (h.nums s hs).2
        simp only []
        omega
      · simp only [AW.add]; split <;> simp [h.len1]
      · simp only [AW.add]; split <;> simp [h.len2]
      · simp only [AW.add]; split <;> simp [h.len3]
      · intro t ht
        simp only [AW.add, List.mem_append, List.mem_singleton] at ht
        have hl := h.low
        rcases ht with ht | rfl
        · have := h.nums t ht; simp only [AW.add]; omega
        · simp only [AW.add]; omega
      · have := h.low; simp only [AW.add]; omega
    · intro c hc
      rw [hfoot] at hc
      simp only [List.mem_append, List.mem_singleton] at hc
      rcases hc with hc | rfl
      · exact .inl hc
      · exact .inr hb0
  have hpar4 : SliceOf w4 L.par (a.parents.map vi) := (((h1.par.keeps hk2 fun c hc e => (dpar c hc).1 e).ext e2).keeps hk4 fun c hc e => (dpar c hc).2.1 e)
  have hcut4 : SliceOf w4 L.cut (a.cut.map .bool) := (((h1.cut.keeps hk2 fun c hc e => (dcut c hc).1 e).ext e2).keeps hk4 fun c hc e => (dcut c hc).2.1 e)
  have hmade4 : SliceOf w4 L.made (a.made.map vi) := (((h1.made.keeps hk2 fun c hc e => (dmade c hc).1 e).ext e2).keeps hk4 fun c hc e => (dmade c hc).2.1 e)
  have hcel4 : ∀ t ∈ a.things, cellsOf w4 (L.bk t.1) = some (whCells t.2) := fun t ht => hk4.cells (e2.cells (hk2.cells (h1.cells t ht) (dth t ht).1) id) (dth t ht).2.1
  by_cases hkind : x.kind = 14
  · refine index_yes ht4 hth4 hfind hbc4 hkind hfac4 (h.findF_none (hfac hkind)) fun w5 hk5 hf5 => ?_
    have ht5 := hk5.cells ht4 d2
    have hth5 := hk5.map hth4 d3
    have hbc5 := hk5.cells hbc4 (fun e => hnb _ mf e.symm)
    have hb5 : (x.kind != 14) = false := by simpa using hkind
    simp only [atDrew_eq, nilK_ptr, nilK_fn, fieldA_at, load1_at, orRd_some, optK_some, pickK_true, pickK_false, gopK_tt, gopK_ff, gopK_tf, gopK_ft, gopK_undef, gqK_tt, gqK_ff, gqK_tf, gqK_ft, gqK_undef, condK_true, condK_false, unK_not, binI_eql, binI_neq, binI_lss, binI_leq, binI_gtr, binI_geq, binI_add, binI_sub, binI_mul, binP_eql_none, binP_neq_none, binM_eql_none, binM_neq_none, binL_eql_none, lenL_at, convI_at, extractK_at, Option.bind_some, List.getElem?_cons_zero, List.getElem?_cons_succ, Option.isNone_some, Option.isNone_none, Bool.not_true, Bool.not_false, Nat.zero_add, hbc5, whCells, hb5, ht5]
    simp only [atDrew_eq, nilK_ptr, nilK_fn, fieldA_at, load1_at, orRd_some, optK_some, pickK_true, pickK_false, gopK_tt, gopK_ff, gopK_tf, gopK_ft, gopK_undef, gqK_tt, gqK_ff, gqK_tf, gqK_ft, gqK_undef, condK_true, condK_false, unK_not, binI_eql, binI_neq, binI_lss, binI_leq, binI_gtr, binI_geq, binI_add, binI_sub, binI_mul, binP_eql_none, binP_neq_none, binM_eql_none, binM_neq_none, binL_eql_none, lenL_at, convI_at, extractK_at, Option.bind_some, List.getElem?_cons_zero, List.getElem?_cons_succ, Option.isNone_some, Option.isNone_none, Bool.not_true, Bool.not_false, Nat.zero_add, upd_get, start_get, List.getD_cons_zero, List.getD_cons_succ, if_true, if_false, Int.reduceBEq, Int.reduceBNe, beq_self_eq_true, reduceIte, Nat.reduceEqDiff, hbc5, ht5]
    have hK5 : Keeps (fun c => c ∈ foot L a) w w5 := hK4.trans' hk5 fun c _ hc => hc ▸ mf
    have hsame : (a.add x).made = a.made := by simp [AW.add, hkind]
    refine fin w5 _ _ hK5 ht5 hth5 hf5 hbc5 (hpar4.keeps hk5 fun c hc e => (dpar c hc).2.2 e) (hcut4.keeps hk5 fun c hc e => (dcut c hc).2.2 e) (by rw [hsame]; exact hmade4.keeps hk5 fun c hc e => (dmade c hc).2.2 e)
      (fun t ht => hk5.cells (hcel4 t ht) (dth t ht).2.2) ?_
    simp only [AW.add, List.map_append, List.map_cons, List.map_nil, kv, List.filter_append, List.filter_cons, hkind, beq_self_eq_true, if_true, List.filter_nil]
    exact List.Perm.append h.facs (.refl _)
  · refine index_no ht4 hth4 hfind hbc4 hkind ?_
    have hb5 : (x.kind != 14) = true := by simpa using hkind
    have hx14 : (x.kind == 14) = false := by simpa using hkind
    simp only [atDrew_eq, nilK_ptr, nilK_fn, fieldA_at, load1_at, orRd_some, optK_some, pickK_true, pickK_false, gopK_tt, gopK_ff, gopK_tf, gopK_ft, gopK_undef, gqK_tt, gqK_ff, gqK_tf, gqK_ft, gqK_undef, condK_true, condK_false, unK_not, binI_eql, binI_neq, binI_lss, binI_leq, binI_gtr, binI_geq, binI_add, binI_sub, binI_mul, binP_eql_none, binP_neq_none, binM_eql_none, binM_neq_none, binL_eql_none, lenL_at, convI_at, extractK_at, Option.bind_some, List.getElem?_cons_zero, List.getElem?_cons_succ, Option.isNone_some, Option.isNone_none, Bool.not_true, Bool.not_false, Nat.zero_add, hbc4, whCells, hb5, ht4]
    have e5 := Ext.drew w4
    generalize w4.drew = w5 at e5
    have ht5 := e5.cells ht4 id
    have hbc5 := e5.cells hbc4 id
    have hhm := hhome hkind
    obtain ⟨m0, m1⟩ := hmade hkind
    simp only [AW.side, Bool.and_eq_true, decide_eq_true_eq] at hhm
    unfold AW.sides at hhm
    have hlen : x.home < ((a.made.map vi).length : Int) := by simp; omega
    obtain ⟨bb, i, c, hix, hbb, hc, hic, hci, hset⟩ := (hmade4.ext e5).place (j := x.home) (by omega) hlen
    have hlt : x.home.toNat < a.made.length := by simp at hlen; omega
    have hv : c[i]? = some (vi (a.made.getD x.home.toNat 0)) := by
      rw [hci]
      simp [hlt, List.getD_eq_getElem?_getD]
    have hwm : IntKind.i64.wrap (a.made.getD x.home.toNat 0 + 1) = a.made.getD x.home.toNat 0 + 1 := wrap64_id (by omega) (by omega)
    simp only [atDrew_eq, nilK_ptr, nilK_fn, fieldA_at, load1_at, orRd_some, optK_some, pickK_true, pickK_false, gopK_tt, gopK_ff, gopK_tf, gopK_ft, gopK_undef, gqK_tt, gqK_ff, gqK_tf, gqK_ft, gqK_undef, condK_true, condK_false, unK_not, binI_eql, binI_neq, binI_lss, binI_leq, binI_gtr, binI_geq, binI_add, binI_sub, binI_mul, binP_eql_none, binP_neq_none, binM_eql_none, binM_neq_none, binL_eql_none, lenL_at, convI_at, extractK_at, Option.bind_some, List.getElem?_cons_zero, List.getElem?_cons_succ, Option.isNone_some, Option.isNone_none, Bool.not_true, Bool.not_false, Nat.zero_add, ht5, hbc5, whCells, hix, hc, hv, hwm]
    refine store1_intro hc hic rfl fun w6 hk6 hc6 _ => ?_
    obtain ⟨n1, n2, n3⟩ := dmade bb hbb
    obtain ⟨q1, q2, q3⟩ := dmm bb hbb
    have ht6 := hk6.cells ht5 (Ne.symm n1)
    simp only [atDrew_eq, nilK_ptr, nilK_fn, fieldA_at, load1_at, orRd_some, optK_some, pickK_true, pickK_false, gopK_tt, gopK_ff, gopK_tf, gopK_ft, gopK_undef, gqK_tt, gqK_ff, gqK_tf, gqK_ft, gqK_undef, condK_true, condK_false, unK_not, binI_eql, binI_neq, binI_lss, binI_leq, binI_gtr, binI_geq, binI_add, binI_sub, binI_mul, binP_eql_none, binP_neq_none, binM_eql_none, binM_neq_none, binL_eql_none, lenL_at, convI_at, extractK_at, Option.bind_some, List.getElem?_cons_zero, List.getElem?_cons_succ, Option.isNone_some, Option.isNone_none, Bool.not_true, Bool.not_false, Nat.zero_add, upd_get, start_get, List.getD_cons_zero, List.getD_cons_succ, if_true, if_false, Int.reduceBEq, Int.reduceBNe, beq_self_eq_true, reduceIte, Nat.reduceEqDiff, ht6]
    have hK6 : Keeps (fun c => c ∈ foot L a) w w6 := (hK4.trans (Keeps.of_ext e5)).trans' hk6 fun c _ hc => hc ▸ mmade _ hbb
    refine fin w6 L.fs L.cf hK6 ht6 (hk6.map (e5.map hth4 id) (Ne.symm n2)) (hk6.map (e5.map hfac4 id) (Ne.symm n3)) (hk6.cells hbc5 (fun e => hnb _ (mmade _ hbb) e.symm))
      ((hpar4.ext e5).keeps hk6 q1) ((hcut4.ext e5).keeps hk6 q2) ?_ (fun t ht => hk6.cells (e5.cells (hcel4 t ht) id) (q3 t ht)) ?_
    · have := hset w6 _ hc6
      simpa [AW.add, hkind, List.map_set] using this
    · simp only [AW.add, List.filter_append, List.filter_cons, hx14, List.filter_nil, Bool.false_eq_true, if_false, List.append_nil]
      exact h.facs
end
end Go.X
