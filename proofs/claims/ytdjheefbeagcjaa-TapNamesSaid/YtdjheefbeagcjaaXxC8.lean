/- Texts of this family, put together. -/
import Derived.Test.YtdjheefbeagcjaaXxC6
/- Contracts: which sides reach one another; whether a thing is free. -/
set_option linter.unusedSimpArgs false
set_option linter.unusedVariables false
namespace Go.X
open Go Go.AW

section
variable {w : World} {L : Lay} {a : AW} {k : Value → World → Prop}

theorem open_step (a : AW) (n : Nat) (x y : Int) : open_ a (n + 1) x y = if x = y then true else
    if a.cut.getD (max x y).toNat false then false else open_ a n (a.parents.getD ((max x y).toNat - 1) 0) (min x y) := rfl

theorem open_fuel (hf : WF a) (hp : a.parents.length + 1 = a.made.length) : ∀ (n m : Nat) (x y : Int), 0 ≤ x → 0 ≤ y → x < a.made.length → y < a.made.length → x.toNat + y.toNat < n → x.toNat + y.toNat < m → open_ a n x y = open_ a m x y
  | 0, _, _, _, _, _, _, _, h, _ => by omega
  | _, 0, _, _, _, _, _, _, _, h => by omega
  | n + 1, m + 1, x, y, hx, hy, hx1, hy1, hn, hm => by
    rw [open_step, open_step]
    by_cases hxy : x = y
    · simp only [hxy, if_true]
    · simp only [hxy, if_false]
      split
      · rfl
      · have hmax : 1 ≤ max x y := by omega
        have ht := hf.tree ((max x y).toNat - 1) (by omega)
        exact open_fuel hf hp n m _ _ (by omega) (by omega) (by omega) (by omega) (by omega) (by omega)

theorem WRep.cut_at (h : WRep w L a) {s : Int} (h0 : 0 ≤ s) (h1 : s < a.made.length) :
    ∃ b i c, (∀ (q : IntKind) (k : Value → Prop), indexS 1 L.cut (.int q s) k = k (.pointer (some ⟨b, i, none⟩))) ∧ cellsOf w b = some c ∧ c[i]? = some (.bool (a.cut.getD s.toNat false)) := by
  have hl := h.len1
  obtain ⟨b, i, c, hix, _, hc, _, hci, _⟩ := h.cut.place (j := s) h0 (by simp; omega)
  have hlt : s.toNat < a.cut.length := by omega
  exact ⟨b, i, c, hix, hc, by rw [hci]; simp [hlt, List.getD_eq_getElem?_getD]⟩

theorem WRep.par_at (h : WRep w L a) {s : Int} (h0 : 1 ≤ s) (h1 : s < a.made.length) :
    ∃ b i c, (∀ (q : IntKind) (k : Value → Prop), indexS 1 L.par (.int q (s - 1)) k = k (.pointer (some ⟨b, i, none⟩))) ∧ cellsOf w b = some c ∧ c[i]? = some (vi (a.parents.getD (s.toNat - 1) 0)) := by
  have hl := h.len2
  obtain ⟨b, i, c, hix, _, hc, _, hci, _⟩ := h.par.place (j := s - 1) (by omega) (by simp; omega)
  have e1 : (s - 1).toNat = s.toNat - 1 := by omega
  have hlt : s.toNat - 1 < a.parents.length := by omega
  exact ⟨b, i, c, hix, hc, by rw [hci, e1]; simp [hlt, List.getD_eq_getElem?_getD]⟩

theorem side_spec {s : Int} : a.side s = true ↔ 0 ≤ s ∧ s < a.made.length := by
  simp only [AW.side, Bool.and_eq_true, decide_eq_true_eq]
  rfl

theorem open_c (h : WRep w L a) (hf : WF a) (x y : Int) (hk : k (.bool (a.open x y)) w) : callOn prog fn_World_Open #[ptr L.p, vi x, vi y] w k := by
  apply F_World_Open_on
  unfold F_World_Open
  refine side_c h x ?_
  unfold AW.open at hk
  cases hx : a.side x with
  | false =>
    simp only [hx, Bool.false_and] at hk
    simp only [atDrew_eq, nilK_ptr, nilK_fn, fieldA_at, load1_at, orRd_some, optK_some, pickK_true, pickK_false, gopK_tt, gopK_ff, gopK_tf, gopK_ft, gopK_undef, gqK_tt, gqK_ff, gqK_tf, gqK_ft, gqK_undef, condK_true, condK_false, unK_not, binI_eql, binI_neq, binI_lss, binI_leq, binI_gtr, binI_geq, binI_add, binI_sub, binI_mul, binP_eql_none, binP_neq_none, binM_eql_none, binM_neq_none, binL_eql_none, lenL_at, convI_at, extractK_at, Option.bind_some, List.getElem?_cons_zero, List.getElem?_cons_succ, Option.isNone_some, Option.isNone_none, Bool.not_true, Bool.not_false, Nat.zero_add]
    exact hk
  | true =>
    simp only [atDrew_eq, nilK_ptr, nilK_fn, fieldA_at, load1_at, orRd_some, optK_some, pickK_true, pickK_false, gopK_tt, gopK_ff, gopK_tf, gopK_ft, gopK_undef, gqK_tt, gqK_ff, gqK_tf, gqK_ft, gqK_undef, condK_true, condK_false, unK_not, binI_eql, binI_neq, binI_lss, binI_leq, binI_gtr, binI_geq, binI_add, binI_sub, binI_mul, binP_eql_none, binP_neq_none, binM_eql_none, binM_neq_none, binL_eql_none, lenL_at, convI_at, extractK_at, Option.bind_some, List.getElem?_cons_zero, List.getElem?_cons_succ, Option.isNone_some, Option.isNone_none, Bool.not_true, Bool.not_false, Nat.zero_add]
    refine side_c h y ?_
    cases hy : a.side y with
    | false =>
      simp only [hx, hy, Bool.false_and, Bool.and_false] at hk
      simp only [atDrew_eq, nilK_ptr, nilK_fn, fieldA_at, load1_at, orRd_some, optK_some, pickK_true, pickK_false, gopK_tt, gopK_ff, gopK_tf, gopK_ft, gopK_undef, gqK_tt, gqK_ff, gqK_tf, gqK_ft, gqK_undef, condK_true, condK_false, unK_not, binI_eql, binI_neq, binI_lss, binI_leq, binI_gtr, binI_geq, binI_add, binI_sub, binI_mul, binP_eql_none, binP_neq_none, binM_eql_none, binM_neq_none, binL_eql_none, lenL_at, convI_at, extractK_at, Option.bind_some, List.getElem?_cons_zero, List.getElem?_cons_succ, Option.isNone_some, Option.isNone_none, Bool.not_true, Bool.not_false, Nat.zero_add]
      exact hk
    | true =>
      simp only [hx, hy, Bool.true_and] at hk
      simp only [atDrew_eq, nilK_ptr, nilK_fn, fieldA_at, load1_at, orRd_some, optK_some, pickK_true, pickK_false, gopK_tt, gopK_ff, gopK_tf, gopK_ft, gopK_undef, gqK_tt, gqK_ff, gqK_tf, gqK_ft, gqK_undef, condK_true, condK_false, unK_not, binI_eql, binI_neq, binI_lss, binI_leq, binI_gtr, binI_geq, binI_add, binI_sub, binI_mul, binP_eql_none, binP_neq_none, binM_eql_none, binM_neq_none, binL_eql_none, lenL_at, convI_at, extractK_at, Option.bind_some, List.getElem?_cons_zero, List.getElem?_cons_succ, Option.isNone_some, Option.isNone_none, Bool.not_true, Bool.not_false, Nat.zero_add]
      rw [side_spec] at hx hy
      have h3 := h.len3
      have h2 := h.len2
      refine ⟨fun m e w' => ∃ (x' y' : Int), 0 ≤ x' ∧ 0 ≤ y' ∧ x' < a.made.length ∧ y' < a.made.length ∧ m = x'.toNat + y'.toNat ∧ e 0 = ptr L.p ∧ e 1 = vi x' ∧ e 2 = vi y' ∧ w' = w ∧ open_ a (x'.toNat + y'.toNat + 1) x' y' = open_ a (x.toNat + y.toNat + 1) x y, x.toNat + y.toNat,
        ⟨x, y, hx.1, hy.1, hx.2, hy.2, rfl, rfl, rfl, rfl, rfl, rfl⟩, ?_⟩
      rintro m e w1 ⟨x', y', hx0, hy0, hx1, hy1, rfl, g0, g1, g2, rfl, ho⟩
      simp only [g1, g2, atDrew_eq, nilK_ptr, nilK_fn, fieldA_at, load1_at, orRd_some, optK_some, pickK_true, pickK_false, gopK_tt, gopK_ff, gopK_tf, gopK_ft, gopK_undef, gqK_tt, gqK_ff, gqK_tf, gqK_ft, gqK_undef, condK_true, condK_false, unK_not, binI_eql, binI_neq, binI_lss, binI_leq, binI_gtr, binI_geq, binI_add, binI_sub, binI_mul, binP_eql_none, binP_neq_none, binM_eql_none, binM_neq_none, binL_eql_none, lenL_at, convI_at, extractK_at, Option.bind_some, List.getElem?_cons_zero, List.getElem?_cons_succ, Option.isNone_some, Option.isNone_none, Bool.not_true, Bool.not_false, Nat.zero_add]
      rw [open_step] at ho
      by_cases hxy : x' = y'
      · have hb : (x' != y') = false := by simp [hxy]
        simp only [hxy, if_true] at ho
        simp only [hb, atDrew_eq, nilK_ptr, nilK_fn, fieldA_at, load1_at, orRd_some, optK_some, pickK_true, pickK_false, gopK_tt, gopK_ff, gopK_tf, gopK_ft, gopK_undef, gqK_tt, gqK_ff, gqK_tf, gqK_ft, gqK_undef, condK_true, condK_false, unK_not, binI_eql, binI_neq, binI_lss, binI_leq, binI_gtr, binI_geq, binI_add, binI_sub, binI_mul, binP_eql_none, binP_neq_none, binM_eql_none, binM_neq_none, binL_eql_none, lenL_at, convI_at, extractK_at, Option.bind_some, List.getElem?_cons_zero, List.getElem?_cons_succ, Option.isNone_some, Option.isNone_none, Bool.not_true, Bool.not_false, Nat.zero_add]
        rw [← ho] at hk
        exact hk
      · have hb : (x' != y') = true := by simp [hxy]
        simp only [hxy, if_false] at ho
        simp only [hb, atDrew_eq, nilK_ptr, nilK_fn, fieldA_at, load1_at, orRd_some, optK_some, pickK_true, pickK_false, gopK_tt, gopK_ff, gopK_tf, gopK_ft, gopK_undef, gqK_tt, gqK_ff, gqK_tf, gqK_ft, gqK_undef, condK_true, condK_false, unK_not, binI_eql, binI_neq, binI_lss, binI_leq, binI_gtr, binI_geq, binI_add, binI_sub, binI_mul, binP_eql_none, binP_neq_none, binM_eql_none, binM_neq_none, binL_eql_none, lenL_at, convI_at, extractK_at, Option.bind_some, List.getElem?_cons_zero, List.getElem?_cons_succ, Option.isNone_some, Option.isNone_none, Bool.not_true, Bool.not_false, Nat.zero_add]
        by_cases hlt : x' < y'
        · have hd : decide (x' < y') = true := by simpa using hlt
          have e1 : max x' y' = y' := by omega
          have e2 : min x' y' = x' := by omega
          rw [e1, e2] at ho
          obtain ⟨b, i, c, hix, hc, hv⟩ := h.cut_at hy0 hy1
          simp only [hd, atDrew_eq, nilK_ptr, nilK_fn, fieldA_at, load1_at, orRd_some, optK_some, pickK_true, pickK_false, gopK_tt, gopK_ff, gopK_tf, gopK_ft, gopK_undef, gqK_tt, gqK_ff, gqK_tf, gqK_ft, gqK_undef, condK_true, condK_false, unK_not, binI_eql, binI_neq, binI_lss, binI_leq, binI_gtr, binI_geq, binI_add, binI_sub, binI_mul, binP_eql_none, binP_neq_none, binM_eql_none, binM_neq_none, binL_eql_none, lenL_at, convI_at, extractK_at, Option.bind_some, List.getElem?_cons_zero, List.getElem?_cons_succ, Option.isNone_some, Option.isNone_none, Bool.not_true, Bool.not_false, Nat.zero_add, upd_get, Nat.reduceEqDiff, if_false, if_true, g0, h.top, hix, hc, hv]
          cases hcut : a.cut.getD y'.toNat false with
          | true =>
            simp only [hcut, if_true] at ho
            simp only [atDrew_eq, nilK_ptr, nilK_fn, fieldA_at, load1_at, orRd_some, optK_some, pickK_true, pickK_false, gopK_tt, gopK_ff, gopK_tf, gopK_ft, gopK_undef, gqK_tt, gqK_ff, gqK_tf, gqK_ft, gqK_undef, condK_true, condK_false, unK_not, binI_eql, binI_neq, binI_lss, binI_leq, binI_gtr, binI_geq, binI_add, binI_sub, binI_mul, binP_eql_none, binP_neq_none, binM_eql_none, binM_neq_none, binL_eql_none, lenL_at, convI_at, extractK_at, Option.bind_some, List.getElem?_cons_zero, List.getElem?_cons_succ, Option.isNone_some, Option.isNone_none, Bool.not_true, Bool.not_false, Nat.zero_add]
            rw [← ho] at hk
            exact hk
          | false =>
            simp only [hcut, Bool.false_eq_true, if_false] at ho
            have hw : IntKind.i64.wrap (y' - 1) = y' - 1 := wrap64_id (by omega) (by omega)
            obtain ⟨b2, i2, c2, hix2, hc2, hv2⟩ := h.par_at (s := y') (by omega) hy1
            have ht := hf.tree (y'.toNat - 1) (by omega)
            simp only [atDrew_eq, nilK_ptr, nilK_fn, fieldA_at, load1_at, orRd_some, optK_some, pickK_true, pickK_false, gopK_tt, gopK_ff, gopK_tf, gopK_ft, gopK_undef, gqK_tt, gqK_ff, gqK_tf, gqK_ft, gqK_undef, condK_true, condK_false, unK_not, binI_eql, binI_neq, binI_lss, binI_leq, binI_gtr, binI_geq, binI_add, binI_sub, binI_mul, binP_eql_none, binP_neq_none, binM_eql_none, binM_neq_none, binL_eql_none, lenL_at, convI_at, extractK_at, Option.bind_some, List.getElem?_cons_zero, List.getElem?_cons_succ, Option.isNone_some, Option.isNone_none, Bool.not_true, Bool.not_false, Nat.zero_add, hw, hix2, hc2, hv2]
            refine ⟨(a.parents.getD (y'.toNat - 1) 0).toNat + x'.toNat, by omega, a.parents.getD (y'.toNat - 1) 0, x', ht.1, hx0, by omega, hx1, rfl, by first | exact g0 | trivial, by first | rfl | trivial, by first | rfl | trivial, by first | rfl | trivial, ?_⟩
            rw [← ho]
            exact open_fuel hf h2 _ _ _ _ (by omega) (by omega) (by omega) (by omega) (by omega) (by omega)
        · have hd : decide (x' < y') = false := by simpa using hlt
          have e1 : max x' y' = x' := by omega
          have e2 : min x' y' = y' := by omega
          rw [e1, e2] at ho
          obtain ⟨b, i, c, hix, hc, hv⟩ := h.cut_at hx0 hx1
          simp only [hd, atDrew_eq, nilK_ptr, nilK_fn, fieldA_at, load1_at, orRd_some, optK_some, pickK_true, pickK_false, gopK_tt, gopK_ff, gopK_tf, gopK_ft, gopK_undef, gqK_tt, gqK_ff, gqK_tf, gqK_ft, gqK_undef, condK_true, condK_false, unK_not, binI_eql, binI_neq, binI_lss, binI_leq, binI_gtr, binI_geq, binI_add, binI_sub, binI_mul, binP_eql_none, binP_neq_none, binM_eql_none, binM_neq_none, binL_eql_none, lenL_at, convI_at, extractK_at, Option.bind_some, List.getElem?_cons_zero, List.getElem?_cons_succ, Option.isNone_some, Option.isNone_none, Bool.not_true, Bool.not_false, Nat.zero_add, upd_get, Nat.reduceEqDiff, if_false, if_true, g0, g1, g2, h.top, hix, hc, hv]
          cases hcut : a.cut.getD x'.toNat false with
          | true =>
            simp only [hcut, if_true] at ho
            simp only [atDrew_eq, nilK_ptr, nilK_fn, fieldA_at, load1_at, orRd_some, optK_some, pickK_true, pickK_false, gopK_tt, gopK_ff, gopK_tf, gopK_ft, gopK_undef, gqK_tt, gqK_ff, gqK_tf, gqK_ft, gqK_undef, condK_true, condK_false, unK_not, binI_eql, binI_neq, binI_lss, binI_leq, binI_gtr, binI_geq, binI_add, binI_sub, binI_mul, binP_eql_none, binP_neq_none, binM_eql_none, binM_neq_none, binL_eql_none, lenL_at, convI_at, extractK_at, Option.bind_some, List.getElem?_cons_zero, List.getElem?_cons_succ, Option.isNone_some, Option.isNone_none, Bool.not_true, Bool.not_false, Nat.zero_add]
            rw [← ho] at hk
            exact hk
          | false =>
            simp only [hcut, Bool.false_eq_true, if_false] at ho
            have hw : IntKind.i64.wrap (x' - 1) = x' - 1 := wrap64_id (by omega) (by omega)
            obtain ⟨b2, i2, c2, hix2, hc2, hv2⟩ := h.par_at (s := x') (by omega) hx1
            have ht := hf.tree (x'.toNat - 1) (by omega)
            simp only [atDrew_eq, nilK_ptr, nilK_fn, fieldA_at, load1_at, orRd_some, optK_some, pickK_true, pickK_false, gopK_tt, gopK_ff, gopK_tf, gopK_ft, gopK_undef, gqK_tt, gqK_ff, gqK_tf, gqK_ft, gqK_undef, condK_true, condK_false, unK_not, binI_eql, binI_neq, binI_lss, binI_leq, binI_gtr, binI_geq, binI_add, binI_sub, binI_mul, binP_eql_none, binP_neq_none, binM_eql_none, binM_neq_none, binL_eql_none, lenL_at, convI_at, extractK_at, Option.bind_some, List.getElem?_cons_zero, List.getElem?_cons_succ, Option.isNone_some, Option.isNone_none, Bool.not_true, Bool.not_false, Nat.zero_add, hw, hix2, hc2, hv2]
            refine ⟨(a.parents.getD (x'.toNat - 1) 0).toNat + y'.toNat, by omega, a.parents.getD (x'.toNat - 1) 0, y', ht.1, hy0, by omega, hy1, rfl, by first | exact g0 | trivial, by first | rfl | trivial, by first | exact g2 | rfl | trivial, by first | rfl | trivial, ?_⟩
            rw [← ho]
            exact open_fuel hf h2 _ _ _ _ (by omega) (by omega) (by omega) (by omega) (by omega) (by omega)
end
end Go.X
/- Contract: Free. -/
set_option linter.unusedSimpArgs false
set_option linter.unusedVariables false
namespace Go.X
open Go Go.AW

section
variable {w : World} {L : Lay} {a : AW} {k : Value → World → Prop}

theorem way_is : ∀ (n : Nat) (r t : Int), t ∈ way a n r → a.is t = true
  | 0, r, t, h => by simp [way] at h
  | n + 1, r, t, h => by
    rw [way_step] at h
    cases hr : a.at r with
    | none => rw [hr] at h; simp at h
    | some x =>
      rw [hr] at h
      simp only [] at h
      split at h
      · rcases List.mem_cons.1 h with rfl | h
        · simp [AW.is, hr]
        · exact way_is n _ _ h
      · have : t = r := by simpa using h
        subst this
        simp [AW.is, hr]

theorem free_c (h : WRep w L a) (hf : WF a) (hfew : Few a) (s r : Int) (hk : ∀ w', Ext w w' → k (vi (a.free s r)) w') : callOn prog fn_World_Free #[ptr L.p, vi s, vi r] w k := by
  apply F_World_Free_on
  unfold F_World_Free
  refine none_c h ?_
  simp only [atDrew_eq, nilK_ptr, nilK_fn, fieldA_at, load1_at, orRd_some, optK_some, pickK_true, pickK_false, gopK_tt, gopK_ff, gopK_tf, gopK_ft, gopK_undef, gqK_tt, gqK_ff, gqK_tf, gqK_ft, gqK_undef, condK_true, condK_false, unK_not, binI_eql, binI_neq, binI_lss, binI_leq, binI_gtr, binI_geq, binI_add, binI_sub, binI_mul, binP_eql_none, binP_neq_none, binM_eql_none, binM_neq_none, binL_eql_none, lenL_at, convI_at, extractK_at, Option.bind_some, List.getElem?_cons_zero, List.getElem?_cons_succ, Option.isNone_some, Option.isNone_none, Bool.not_true, Bool.not_false, Nat.zero_add]
  refine side_c h s ?_
  unfold Go.AW.AW.free at hk
  cases hs : a.side s with
  | false =>
    simp only [hs, Bool.not_false, if_true] at hk
    simp only [atDrew_eq, nilK_ptr, nilK_fn, fieldA_at, load1_at, orRd_some, optK_some, pickK_true, pickK_false, gopK_tt, gopK_ff, gopK_tf, gopK_ft, gopK_undef, gqK_tt, gqK_ff, gqK_tf, gqK_ft, gqK_undef, condK_true, condK_false, unK_not, binI_eql, binI_neq, binI_lss, binI_leq, binI_gtr, binI_geq, binI_add, binI_sub, binI_mul, binP_eql_none, binP_neq_none, binM_eql_none, binM_neq_none, binL_eql_none, lenL_at, convI_at, extractK_at, Option.bind_some, List.getElem?_cons_zero, List.getElem?_cons_succ, Option.isNone_some, Option.isNone_none, Bool.not_true, Bool.not_false, Nat.zero_add]
    exact hk w .refl
  | true =>
    simp only [hs, Bool.not_true, Bool.false_eq_true, if_false] at hk
    simp only [atDrew_eq, nilK_ptr, nilK_fn, fieldA_at, load1_at, orRd_some, optK_some, pickK_true, pickK_false, gopK_tt, gopK_ff, gopK_tf, gopK_ft, gopK_undef, gqK_tt, gqK_ff, gqK_tf, gqK_ft, gqK_undef, condK_true, condK_false, unK_not, binI_eql, binI_neq, binI_lss, binI_leq, binI_gtr, binI_geq, binI_add, binI_sub, binI_mul, binP_eql_none, binP_neq_none, binM_eql_none, binM_neq_none, binL_eql_none, lenL_at, convI_at, extractK_at, Option.bind_some, List.getElem?_cons_zero, List.getElem?_cons_succ, Option.isNone_some, Option.isNone_none, Bool.not_true, Bool.not_false, Nat.zero_add]
    refine is_c h r ?_
    cases hi : a.is r with
    | false =>
      simp only [hi, Bool.not_false, if_true] at hk
      simp only [atDrew_eq, nilK_ptr, nilK_fn, fieldA_at, load1_at, orRd_some, optK_some, pickK_true, pickK_false, gopK_tt, gopK_ff, gopK_tf, gopK_ft, gopK_undef, gqK_tt, gqK_ff, gqK_tf, gqK_ft, gqK_undef, condK_true, condK_false, unK_not, binI_eql, binI_neq, binI_lss, binI_leq, binI_gtr, binI_geq, binI_add, binI_sub, binI_mul, binP_eql_none, binP_neq_none, binM_eql_none, binM_neq_none, binL_eql_none, lenL_at, convI_at, extractK_at, Option.bind_some, List.getElem?_cons_zero, List.getElem?_cons_succ, Option.isNone_some, Option.isNone_none, Bool.not_true, Bool.not_false, Nat.zero_add]
      exact hk w .refl
    | true =>
      simp only [hi, Bool.not_true, Bool.false_eq_true, if_false] at hk
      simp only [atDrew_eq, nilK_ptr, nilK_fn, fieldA_at, load1_at, orRd_some, optK_some, pickK_true, pickK_false, gopK_tt, gopK_ff, gopK_tf, gopK_ft, gopK_undef, gqK_tt, gqK_ff, gqK_tf, gqK_ft, gqK_undef, condK_true, condK_false, unK_not, binI_eql, binI_neq, binI_lss, binI_leq, binI_gtr, binI_geq, binI_add, binI_sub, binI_mul, binP_eql_none, binP_neq_none, binM_eql_none, binM_neq_none, binL_eql_none, lenL_at, convI_at, extractK_at, Option.bind_some, List.getElem?_cons_zero, List.getElem?_cons_succ, Option.isNone_some, Option.isNone_none, Bool.not_true, Bool.not_false, Nat.zero_add]
      refine way_c h hf hfew r fun v w0 he0 hsv _ => ?_
      have hlen := way_few h hfew r
      have hway : ∀ t ∈ a.way r, a.is t = true := fun t ht => way_is _ _ _ ht
      simp only [hsv.lenL, List.length_map]
      generalize a.way r = l at hk hsv hlen hway
      refine ⟨fun m e w' => ∃ (i : Nat) (f : Int), i ≤ l.length ∧ m = l.length - i ∧ e 0 = ptr L.p ∧ e 1 = vi f ∧ e 25 = v ∧ e 26 = vi l.length ∧ e 27 = vi i ∧ Ext w0 w' ∧ free a (l.drop i) f = free a l s, l.length,
        ⟨0, s, by omega, rfl, rfl, rfl, rfl, rfl, rfl, .refl, rfl⟩, ?_⟩
      rintro m e w1 ⟨i, f, hil, rfl, g0, g1, g25, g26, g27, he, hfr⟩
      have h1 := h.ext (he0.trans he)
      simp only [g26, g27, atDrew_eq, nilK_ptr, nilK_fn, fieldA_at, load1_at, orRd_some, optK_some, pickK_true, pickK_false, gopK_tt, gopK_ff, gopK_tf, gopK_ft, gopK_undef, gqK_tt, gqK_ff, gqK_tf, gqK_ft, gqK_undef, condK_true, condK_false, unK_not, binI_eql, binI_neq, binI_lss, binI_leq, binI_gtr, binI_geq, binI_add, binI_sub, binI_mul, binP_eql_none, binP_neq_none, binM_eql_none, binM_neq_none, binL_eql_none, lenL_at, convI_at, extractK_at, Option.bind_some, List.getElem?_cons_zero, List.getElem?_cons_succ, Option.isNone_some, Option.isNone_none, Bool.not_true, Bool.not_false, Nat.zero_add]
      by_cases hlt : i < l.length
      · have hd : decide ((i : Int) < (l.length : Int)) = true := by simpa using hlt
        obtain ⟨b, o, c, hix, _, hc, _, hci, _⟩ := (hsv.ext he).place (j := (i : Int)) (by omega) (by simpa using hlt)
        have hv : c[o]? = some (vi (l.getD i 0)) := by rw [hci]; simp [hlt, List.getD_eq_getElem?_getD]
        have hdrop : l.drop i = l.getD i 0 :: l.drop (i + 1) := by
          rw [List.drop_eq_getElem_cons hlt]; simp [List.getD_eq_getElem?_getD, hlt]
        obtain ⟨x, hx⟩ := is_some (hway (l.getD i 0) (by simp [List.getD_eq_getElem?_getD, hlt]))
        have hw : IntKind.i64.wrap ((i : Int) + 1) = ((i + 1 : Nat) : Int) := by rw [wrap64_id (by omega) (by omega)]; omega
        have hbits := hf.bits _ (mem_at hx)
        simp only [hd, atDrew_eq, nilK_ptr, nilK_fn, fieldA_at, load1_at, orRd_some, optK_some, pickK_true, pickK_false, gopK_tt, gopK_ff, gopK_tf, gopK_ft, gopK_undef, gqK_tt, gqK_ff, gqK_tf, gqK_ft, gqK_undef, condK_true, condK_false, unK_not, binI_eql, binI_neq, binI_lss, binI_leq, binI_gtr, binI_geq, binI_add, binI_sub, binI_mul, binP_eql_none, binP_neq_none, binM_eql_none, binM_neq_none, binL_eql_none, lenL_at, convI_at, extractK_at, Option.bind_some, List.getElem?_cons_zero, List.getElem?_cons_succ, Option.isNone_some, Option.isNone_none, Bool.not_true, Bool.not_false, Nat.zero_add, g0, g25, hix, hc, hv, h1.top, h1.look_some hx, Bool.false_eq_true, if_false, h1.cell hx, whCells]
        rw [hdrop] at hfr
        simp only [free, hx] at hfr
        by_cases h14 : x.kind = 14
        · have hb : (x.kind == 14) = true := by simpa using h14
          simp only [h14, if_true] at hfr
          simp only [hb, atDrew_eq, nilK_ptr, nilK_fn, fieldA_at, load1_at, orRd_some, optK_some, pickK_true, pickK_false, gopK_tt, gopK_ff, gopK_tf, gopK_ft, gopK_undef, gqK_tt, gqK_ff, gqK_tf, gqK_ft, gqK_undef, condK_true, condK_false, unK_not, binI_eql, binI_neq, binI_lss, binI_leq, binI_gtr, binI_geq, binI_add, binI_sub, binI_mul, binP_eql_none, binP_neq_none, binM_eql_none, binM_neq_none, binL_eql_none, lenL_at, convI_at, extractK_at, Option.bind_some, List.getElem?_cons_zero, List.getElem?_cons_succ, Option.isNone_some, Option.isNone_none, Bool.not_true, Bool.not_false, Nat.zero_add, upd_get, Nat.reduceEqDiff, if_false, g27, hw]
          refine ⟨l.length - (i + 1), by omega, i + 1, f, by omega, rfl, g0, g1, g25, g26, rfl, he, hfr⟩
        · have hb : (x.kind == 14) = false := by simpa using h14
          simp only [h14, if_false] at hfr
          simp only [hb, atDrew_eq, nilK_ptr, nilK_fn, fieldA_at, load1_at, orRd_some, optK_some, pickK_true, pickK_false, gopK_tt, gopK_ff, gopK_tf, gopK_ft, gopK_undef, gqK_tt, gqK_ff, gqK_tf, gqK_ft, gqK_undef, condK_true, condK_false, unK_not, binI_eql, binI_neq, binI_lss, binI_leq, binI_gtr, binI_geq, binI_add, binI_sub, binI_mul, binP_eql_none, binP_neq_none, binM_eql_none, binM_neq_none, binL_eql_none, lenL_at, convI_at, extractK_at, Option.bind_some, List.getElem?_cons_zero, List.getElem?_cons_succ, Option.isNone_some, Option.isNone_none, Bool.not_true, Bool.not_false, Nat.zero_add]
          have hopen : ∀ w2, Ext w1 w2 → ∀ {K : Value → World → Prop}, K (.bool (a.open f x.home)) w2 → callOn prog fn_World_Open #[ptr L.p, vi f, vi x.home] w2 K := fun w2 he2 K hK => open_c (h1.ext he2) hf f x.home hK
          refine Q_World_Free_R12_on (C := fun w' => Ext w1 w')
            (Q := fun e' => e' 70 = .bool (!a.open f x.home || a.shut x) ∧ e' 0 = ptr L.p ∧ e' 1 = vi f ∧ e' 9 = ptr (L.bk (l.getD i 0)) ∧ e' 25 = v ∧ e' 26 = vi l.length ∧ e' 27 = vi i) (Ext.drew w1) ?_ ?_
          · unfold Q_World_Free_R12
            simp only [upd_get, Nat.reduceEqDiff, if_false, if_true, g0, g1]
            refine qop_intro _ (fun w2 hw2 => ⟨rfl, hw2⟩) ?_
            refine qop_intro _ (fun w2 hw2 => ⟨rfl, hw2⟩) ?_
            refine qop_intro _ (fun w2 hw2 => ⟨rfl, hw2⟩) ?_
            refine qop_intro _ (fun w2 hw2 => ⟨rfl, hw2⟩) ?_
            refine qop_intro _ (fun w2 hw2 => by simp only [atDrew_eq, nilK_ptr, nilK_fn, fieldA_at, load1_at, orRd_some, optK_some, pickK_true, pickK_false, gopK_tt, gopK_ff, gopK_tf, gopK_ft, gopK_undef, gqK_tt, gqK_ff, gqK_tf, gqK_ft, gqK_undef, condK_true, condK_false, unK_not, binI_eql, binI_neq, binI_lss, binI_leq, binI_gtr, binI_geq, binI_add, binI_sub, binI_mul, binP_eql_none, binP_neq_none, binM_eql_none, binM_neq_none, binL_eql_none, lenL_at, convI_at, extractK_at, Option.bind_some, List.getElem?_cons_zero, List.getElem?_cons_succ, Option.isNone_some, Option.isNone_none, Bool.not_true, Bool.not_false, Nat.zero_add]; first | exact ⟨rfl, hw2⟩ | exact ⟨trivial, hw2⟩) ?_
            refine qop_intro (vi x.home) (fun w2 hw2 => by simp only [atDrew_eq, nilK_ptr, nilK_fn, fieldA_at, load1_at, orRd_some, optK_some, pickK_true, pickK_false, gopK_tt, gopK_ff, gopK_tf, gopK_ft, gopK_undef, gqK_tt, gqK_ff, gqK_tf, gqK_ft, gqK_undef, condK_true, condK_false, unK_not, binI_eql, binI_neq, binI_lss, binI_leq, binI_gtr, binI_geq, binI_add, binI_sub, binI_mul, binP_eql_none, binP_neq_none, binM_eql_none, binM_neq_none, binL_eql_none, lenL_at, convI_at, extractK_at, Option.bind_some, List.getElem?_cons_zero, List.getElem?_cons_succ, Option.isNone_some, Option.isNone_none, Bool.not_true, Bool.not_false, Nat.zero_add, (h1.ext hw2).cell hx, whCells]; exact ⟨trivial, hw2⟩) ?_
            refine qop_intro (.bool (a.open f x.home)) (fun w2 hw2 => hopen w2 hw2 ⟨rfl, hw2⟩) ?_
            refine qop_intro _ (fun w2 hw2 => ⟨rfl, hw2⟩) ?_
            refine qop_intro _ (fun w2 hw2 => ⟨rfl, hw2⟩) ?_
            cases ho : a.open f x.home with
            | false =>
              simp only [atDrew_eq, nilK_ptr, nilK_fn, fieldA_at, load1_at, orRd_some, optK_some, pickK_true, pickK_false, gopK_tt, gopK_ff, gopK_tf, gopK_ft, gopK_undef, gqK_tt, gqK_ff, gqK_tf, gqK_ft, gqK_undef, condK_true, condK_false, unK_not, binI_eql, binI_neq, binI_lss, binI_leq, binI_gtr, binI_geq, binI_add, binI_sub, binI_mul, binP_eql_none, binP_neq_none, binM_eql_none, binM_neq_none, binL_eql_none, lenL_at, convI_at, extractK_at, Option.bind_some, List.getElem?_cons_zero, List.getElem?_cons_succ, Option.isNone_some, Option.isNone_none, Bool.not_true, Bool.not_false, Nat.zero_add]
              refine qop_intro (.bool true) (fun w2 hw2 => by simp only [atDrew_eq, nilK_ptr, nilK_fn, fieldA_at, load1_at, orRd_some, optK_some, pickK_true, pickK_false, gopK_tt, gopK_ff, gopK_tf, gopK_ft, gopK_undef, gqK_tt, gqK_ff, gqK_tf, gqK_ft, gqK_undef, condK_true, condK_false, unK_not, binI_eql, binI_neq, binI_lss, binI_leq, binI_gtr, binI_geq, binI_add, binI_sub, binI_mul, binP_eql_none, binP_neq_none, binM_eql_none, binM_neq_none, binL_eql_none, lenL_at, convI_at, extractK_at, Option.bind_some, List.getElem?_cons_zero, List.getElem?_cons_succ, Option.isNone_some, Option.isNone_none, Bool.not_true, Bool.not_false, Nat.zero_add]; exact ⟨trivial, hw2⟩) ?_
              simp only [upd_get, Nat.reduceEqDiff, if_false, if_true, g0, g1, g25, g26, g27, Bool.true_or]
              exact ⟨trivial, trivial, trivial, trivial, trivial, trivial, trivial⟩
            | true =>
              simp only [atDrew_eq, nilK_ptr, nilK_fn, fieldA_at, load1_at, orRd_some, optK_some, pickK_true, pickK_false, gopK_tt, gopK_ff, gopK_tf, gopK_ft, gopK_undef, gqK_tt, gqK_ff, gqK_tf, gqK_ft, gqK_undef, condK_true, condK_false, unK_not, binI_eql, binI_neq, binI_lss, binI_leq, binI_gtr, binI_geq, binI_add, binI_sub, binI_mul, binP_eql_none, binP_neq_none, binM_eql_none, binM_neq_none, binL_eql_none, lenL_at, convI_at, extractK_at, Option.bind_some, List.getElem?_cons_zero, List.getElem?_cons_succ, Option.isNone_some, Option.isNone_none, Bool.not_true, Bool.not_false, Nat.zero_add]
              refine qop_intro _ (fun w2 hw2 => ⟨rfl, hw2⟩) ?_
              refine qop_intro _ (fun w2 hw2 => ⟨rfl, hw2⟩) ?_
              refine qop_intro _ (fun w2 hw2 => by simp only [atDrew_eq, nilK_ptr, nilK_fn, fieldA_at, load1_at, orRd_some, optK_some, pickK_true, pickK_false, gopK_tt, gopK_ff, gopK_tf, gopK_ft, gopK_undef, gqK_tt, gqK_ff, gqK_tf, gqK_ft, gqK_undef, condK_true, condK_false, unK_not, binI_eql, binI_neq, binI_lss, binI_leq, binI_gtr, binI_geq, binI_add, binI_sub, binI_mul, binP_eql_none, binP_neq_none, binM_eql_none, binM_neq_none, binL_eql_none, lenL_at, convI_at, extractK_at, Option.bind_some, List.getElem?_cons_zero, List.getElem?_cons_succ, Option.isNone_some, Option.isNone_none, Bool.not_true, Bool.not_false, Nat.zero_add]; first | exact ⟨rfl, hw2⟩ | exact ⟨trivial, hw2⟩) ?_
              refine qop_intro (vb x.kind) (fun w2 hw2 => by simp only [atDrew_eq, nilK_ptr, nilK_fn, fieldA_at, load1_at, orRd_some, optK_some, pickK_true, pickK_false, gopK_tt, gopK_ff, gopK_tf, gopK_ft, gopK_undef, gqK_tt, gqK_ff, gqK_tf, gqK_ft, gqK_undef, condK_true, condK_false, unK_not, binI_eql, binI_neq, binI_lss, binI_leq, binI_gtr, binI_geq, binI_add, binI_sub, binI_mul, binP_eql_none, binP_neq_none, binM_eql_none, binM_neq_none, binL_eql_none, lenL_at, convI_at, extractK_at, Option.bind_some, List.getElem?_cons_zero, List.getElem?_cons_succ, Option.isNone_some, Option.isNone_none, Bool.not_true, Bool.not_false, Nat.zero_add, (h1.ext hw2).cell hx, whCells]; exact ⟨trivial, hw2⟩) ?_
              refine qop_intro (.bool (x.kind == 15)) (fun w2 hw2 => by simp only [atDrew_eq, nilK_ptr, nilK_fn, fieldA_at, load1_at, orRd_some, optK_some, pickK_true, pickK_false, gopK_tt, gopK_ff, gopK_tf, gopK_ft, gopK_undef, gqK_tt, gqK_ff, gqK_tf, gqK_ft, gqK_undef, condK_true, condK_false, unK_not, binI_eql, binI_neq, binI_lss, binI_leq, binI_gtr, binI_geq, binI_add, binI_sub, binI_mul, binP_eql_none, binP_neq_none, binM_eql_none, binM_neq_none, binL_eql_none, lenL_at, convI_at, extractK_at, Option.bind_some, List.getElem?_cons_zero, List.getElem?_cons_succ, Option.isNone_some, Option.isNone_none, Bool.not_true, Bool.not_false, Nat.zero_add]; exact ⟨trivial, hw2⟩) ?_
              refine qop_intro _ (fun w2 hw2 => ⟨rfl, hw2⟩) ?_
              by_cases h15 : x.kind = 15
              · have hb15 : (x.kind == 15) = true := by simpa using h15
                obtain ⟨y, hy⟩ := is_some (hf.gate _ (mem_at hx) h15)
                simp only [hb15, atDrew_eq, nilK_ptr, nilK_fn, fieldA_at, load1_at, orRd_some, optK_some, pickK_true, pickK_false, gopK_tt, gopK_ff, gopK_tf, gopK_ft, gopK_undef, gqK_tt, gqK_ff, gqK_tf, gqK_ft, gqK_undef, condK_true, condK_false, unK_not, binI_eql, binI_neq, binI_lss, binI_leq, binI_gtr, binI_geq, binI_add, binI_sub, binI_mul, binP_eql_none, binP_neq_none, binM_eql_none, binM_neq_none, binL_eql_none, lenL_at, convI_at, extractK_at, Option.bind_some, List.getElem?_cons_zero, List.getElem?_cons_succ, Option.isNone_some, Option.isNone_none, Bool.not_true, Bool.not_false, Nat.zero_add]
                refine qop_intro _ (fun w2 hw2 => ⟨rfl, hw2⟩) ?_
                refine qop_intro _ (fun w2 hw2 => ⟨rfl, hw2⟩) ?_
                refine qop_intro _ (fun w2 hw2 => by simp only [atDrew_eq, nilK_ptr, nilK_fn, fieldA_at, load1_at, orRd_some, optK_some, pickK_true, pickK_false, gopK_tt, gopK_ff, gopK_tf, gopK_ft, gopK_undef, gqK_tt, gqK_ff, gqK_tf, gqK_ft, gqK_undef, condK_true, condK_false, unK_not, binI_eql, binI_neq, binI_lss, binI_leq, binI_gtr, binI_geq, binI_add, binI_sub, binI_mul, binP_eql_none, binP_neq_none, binM_eql_none, binM_neq_none, binL_eql_none, lenL_at, convI_at, extractK_at, Option.bind_some, List.getElem?_cons_zero, List.getElem?_cons_succ, Option.isNone_some, Option.isNone_none, Bool.not_true, Bool.not_false, Nat.zero_add]; first | exact ⟨rfl, hw2⟩ | exact ⟨trivial, hw2⟩) ?_
                refine qop_intro (.map (some L.bm)) (fun w2 hw2 => by simp only [atDrew_eq, nilK_ptr, nilK_fn, fieldA_at, load1_at, orRd_some, optK_some, pickK_true, pickK_false, gopK_tt, gopK_ff, gopK_tf, gopK_ft, gopK_undef, gqK_tt, gqK_ff, gqK_tf, gqK_ft, gqK_undef, condK_true, condK_false, unK_not, binI_eql, binI_neq, binI_lss, binI_leq, binI_gtr, binI_geq, binI_add, binI_sub, binI_mul, binP_eql_none, binP_neq_none, binM_eql_none, binM_neq_none, binL_eql_none, lenL_at, convI_at, extractK_at, Option.bind_some, List.getElem?_cons_zero, List.getElem?_cons_succ, Option.isNone_some, Option.isNone_none, Bool.not_true, Bool.not_false, Nat.zero_add, (h1.ext hw2).top]; exact ⟨trivial, hw2⟩) ?_
                refine qop_intro _ (fun w2 hw2 => ⟨rfl, hw2⟩) ?_
                refine qop_intro _ (fun w2 hw2 => ⟨rfl, hw2⟩) ?_
                refine qop_intro _ (fun w2 hw2 => by simp only [atDrew_eq, nilK_ptr, nilK_fn, fieldA_at, load1_at, orRd_some, optK_some, pickK_true, pickK_false, gopK_tt, gopK_ff, gopK_tf, gopK_ft, gopK_undef, gqK_tt, gqK_ff, gqK_tf, gqK_ft, gqK_undef, condK_true, condK_false, unK_not, binI_eql, binI_neq, binI_lss, binI_leq, binI_gtr, binI_geq, binI_add, binI_sub, binI_mul, binP_eql_none, binP_neq_none, binM_eql_none, binM_neq_none, binL_eql_none, lenL_at, convI_at, extractK_at, Option.bind_some, List.getElem?_cons_zero, List.getElem?_cons_succ, Option.isNone_some, Option.isNone_none, Bool.not_true, Bool.not_false, Nat.zero_add]; first | exact ⟨rfl, hw2⟩ | exact ⟨trivial, hw2⟩) ?_
                refine qop_intro (vi x.by_) (fun w2 hw2 => by simp only [atDrew_eq, nilK_ptr, nilK_fn, fieldA_at, load1_at, orRd_some, optK_some, pickK_true, pickK_false, gopK_tt, gopK_ff, gopK_tf, gopK_ft, gopK_undef, gqK_tt, gqK_ff, gqK_tf, gqK_ft, gqK_undef, condK_true, condK_false, unK_not, binI_eql, binI_neq, binI_lss, binI_leq, binI_gtr, binI_geq, binI_add, binI_sub, binI_mul, binP_eql_none, binP_neq_none, binM_eql_none, binM_neq_none, binL_eql_none, lenL_at, convI_at, extractK_at, Option.bind_some, List.getElem?_cons_zero, List.getElem?_cons_succ, Option.isNone_some, Option.isNone_none, Bool.not_true, Bool.not_false, Nat.zero_add, (h1.ext hw2).cell hx, whCells]; exact ⟨trivial, hw2⟩) ?_
                refine qop_intro (ptr (L.bk x.by_)) (fun w2 hw2 => by rw [(h1.ext hw2).look_some hy]; exact ⟨rfl, hw2⟩) ?_
                refine qop_intro _ (fun w2 hw2 => ⟨rfl, hw2⟩) ?_
                refine qop_intro _ (fun w2 hw2 => by simp only [atDrew_eq, nilK_ptr, nilK_fn, fieldA_at, load1_at, orRd_some, optK_some, pickK_true, pickK_false, gopK_tt, gopK_ff, gopK_tf, gopK_ft, gopK_undef, gqK_tt, gqK_ff, gqK_tf, gqK_ft, gqK_undef, condK_true, condK_false, unK_not, binI_eql, binI_neq, binI_lss, binI_leq, binI_gtr, binI_geq, binI_add, binI_sub, binI_mul, binP_eql_none, binP_neq_none, binM_eql_none, binM_neq_none, binL_eql_none, lenL_at, convI_at, extractK_at, Option.bind_some, List.getElem?_cons_zero, List.getElem?_cons_succ, Option.isNone_some, Option.isNone_none, Bool.not_true, Bool.not_false, Nat.zero_add]; first | exact ⟨rfl, hw2⟩ | exact ⟨trivial, hw2⟩) ?_
                refine qop_intro (.bool y.full) (fun w2 hw2 => by simp only [atDrew_eq, nilK_ptr, nilK_fn, fieldA_at, load1_at, orRd_some, optK_some, pickK_true, pickK_false, gopK_tt, gopK_ff, gopK_tf, gopK_ft, gopK_undef, gqK_tt, gqK_ff, gqK_tf, gqK_ft, gqK_undef, condK_true, condK_false, unK_not, binI_eql, binI_neq, binI_lss, binI_leq, binI_gtr, binI_geq, binI_add, binI_sub, binI_mul, binP_eql_none, binP_neq_none, binM_eql_none, binM_neq_none, binL_eql_none, lenL_at, convI_at, extractK_at, Option.bind_some, List.getElem?_cons_zero, List.getElem?_cons_succ, Option.isNone_some, Option.isNone_none, Bool.not_true, Bool.not_false, Nat.zero_add, (h1.ext hw2).cell hy, whCells]; exact ⟨trivial, hw2⟩) ?_
                refine qop_intro (.bool y.full) (fun w2 hw2 => by simp only [atDrew_eq, nilK_ptr, nilK_fn, fieldA_at, load1_at, orRd_some, optK_some, pickK_true, pickK_false, gopK_tt, gopK_ff, gopK_tf, gopK_ft, gopK_undef, gqK_tt, gqK_ff, gqK_tf, gqK_ft, gqK_undef, condK_true, condK_false, unK_not, binI_eql, binI_neq, binI_lss, binI_leq, binI_gtr, binI_geq, binI_add, binI_sub, binI_mul, binP_eql_none, binP_neq_none, binM_eql_none, binM_neq_none, binL_eql_none, lenL_at, convI_at, extractK_at, Option.bind_some, List.getElem?_cons_zero, List.getElem?_cons_succ, Option.isNone_some, Option.isNone_none, Bool.not_true, Bool.not_false, Nat.zero_add]; exact ⟨trivial, hw2⟩) ?_
                refine qop_intro (.bool y.full) (fun w2 hw2 => by simp only [atDrew_eq, nilK_ptr, nilK_fn, fieldA_at, load1_at, orRd_some, optK_some, pickK_true, pickK_false, gopK_tt, gopK_ff, gopK_tf, gopK_ft, gopK_undef, gqK_tt, gqK_ff, gqK_tf, gqK_ft, gqK_undef, condK_true, condK_false, unK_not, binI_eql, binI_neq, binI_lss, binI_leq, binI_gtr, binI_geq, binI_add, binI_sub, binI_mul, binP_eql_none, binP_neq_none, binM_eql_none, binM_neq_none, binL_eql_none, lenL_at, convI_at, extractK_at, Option.bind_some, List.getElem?_cons_zero, List.getElem?_cons_succ, Option.isNone_some, Option.isNone_none, Bool.not_true, Bool.not_false, Nat.zero_add]; exact ⟨trivial, hw2⟩) ?_
                simp only [upd_get, Nat.reduceEqDiff, if_false, if_true, g0, g1, g25, g26, g27, AW.shut, h15, hy, Bool.false_or, decide_true, Bool.true_and, Bool.not_true]
                exact ⟨trivial, trivial, trivial, trivial, trivial, trivial, trivial⟩
              · have hb15 : (x.kind == 15) = false := by simpa using h15
                simp only [hb15, atDrew_eq, nilK_ptr, nilK_fn, fieldA_at, load1_at, orRd_some, optK_some, pickK_true, pickK_false, gopK_tt, gopK_ff, gopK_tf, gopK_ft, gopK_undef, gqK_tt, gqK_ff, gqK_tf, gqK_ft, gqK_undef, condK_true, condK_false, unK_not, binI_eql, binI_neq, binI_lss, binI_leq, binI_gtr, binI_geq, binI_add, binI_sub, binI_mul, binP_eql_none, binP_neq_none, binM_eql_none, binM_neq_none, binL_eql_none, lenL_at, convI_at, extractK_at, Option.bind_some, List.getElem?_cons_zero, List.getElem?_cons_succ, Option.isNone_some, Option.isNone_none, Bool.not_true, Bool.not_false, Nat.zero_add]
                refine qop_intro (.bool false) (fun w2 hw2 => by simp only [atDrew_eq, nilK_ptr, nilK_fn, fieldA_at, load1_at, orRd_some, optK_some, pickK_true, pickK_false, gopK_tt, gopK_ff, gopK_tf, gopK_ft, gopK_undef, gqK_tt, gqK_ff, gqK_tf, gqK_ft, gqK_undef, condK_true, condK_false, unK_not, binI_eql, binI_neq, binI_lss, binI_leq, binI_gtr, binI_geq, binI_add, binI_sub, binI_mul, binP_eql_none, binP_neq_none, binM_eql_none, binM_neq_none, binL_eql_none, lenL_at, convI_at, extractK_at, Option.bind_some, List.getElem?_cons_zero, List.getElem?_cons_succ, Option.isNone_some, Option.isNone_none, Bool.not_true, Bool.not_false, Nat.zero_add]; exact ⟨trivial, hw2⟩) ?_
                refine qop_intro (.bool false) (fun w2 hw2 => by simp only [atDrew_eq, nilK_ptr, nilK_fn, fieldA_at, load1_at, orRd_some, optK_some, pickK_true, pickK_false, gopK_tt, gopK_ff, gopK_tf, gopK_ft, gopK_undef, gqK_tt, gqK_ff, gqK_tf, gqK_ft, gqK_undef, condK_true, condK_false, unK_not, binI_eql, binI_neq, binI_lss, binI_leq, binI_gtr, binI_geq, binI_add, binI_sub, binI_mul, binP_eql_none, binP_neq_none, binM_eql_none, binM_neq_none, binL_eql_none, lenL_at, convI_at, extractK_at, Option.bind_some, List.getElem?_cons_zero, List.getElem?_cons_succ, Option.isNone_some, Option.isNone_none, Bool.not_true, Bool.not_false, Nat.zero_add]; exact ⟨trivial, hw2⟩) ?_
                simp only [upd_get, Nat.reduceEqDiff, if_false, if_true, g0, g1, g25, g26, g27, AW.shut, h15, Bool.false_or, decide_false, Bool.false_and, Bool.not_true]
                exact ⟨trivial, trivial, trivial, trivial, trivial, trivial, trivial⟩
          · rintro e2 w2 he2 ⟨q70, q0, q1, q9, q25, q26, q27⟩
            have h2 := h1.ext he2
            simp only [q70]
            cases hcond : (!a.open f x.home || a.shut x) with
            | true =>
              rw [if_pos hcond] at hfr
              simp only [atDrew_eq, nilK_ptr, nilK_fn, fieldA_at, load1_at, orRd_some, optK_some, pickK_true, pickK_false, gopK_tt, gopK_ff, gopK_tf, gopK_ft, gopK_undef, gqK_tt, gqK_ff, gqK_tf, gqK_ft, gqK_undef, condK_true, condK_false, unK_not, binI_eql, binI_neq, binI_lss, binI_leq, binI_gtr, binI_geq, binI_add, binI_sub, binI_mul, binP_eql_none, binP_neq_none, binM_eql_none, binM_neq_none, binL_eql_none, lenL_at, convI_at, extractK_at, Option.bind_some, List.getElem?_cons_zero, List.getElem?_cons_succ, Option.isNone_some, Option.isNone_none, Bool.not_true, Bool.not_false, Nat.zero_add]
              rw [← hfr] at hk
              exact hk w2 ((he0.trans he).trans he2)
            | false =>
              rw [if_neg (by rw [hcond]; simp)] at hfr
              simp only [atDrew_eq, nilK_ptr, nilK_fn, fieldA_at, load1_at, orRd_some, optK_some, pickK_true, pickK_false, gopK_tt, gopK_ff, gopK_tf, gopK_ft, gopK_undef, gqK_tt, gqK_ff, gqK_tf, gqK_ft, gqK_undef, condK_true, condK_false, unK_not, binI_eql, binI_neq, binI_lss, binI_leq, binI_gtr, binI_geq, binI_add, binI_sub, binI_mul, binP_eql_none, binP_neq_none, binM_eql_none, binM_neq_none, binL_eql_none, lenL_at, convI_at, extractK_at, Option.bind_some, List.getElem?_cons_zero, List.getElem?_cons_succ, Option.isNone_some, Option.isNone_none, Bool.not_true, Bool.not_false, Nat.zero_add, q9, h2.cell hx, whCells, upd_get, Nat.reduceEqDiff, if_false, if_true, q27, hw]
              refine ⟨l.length - (i + 1), by omega, i + 1, x.home, by omega, rfl, q0, rfl, q25, q26, rfl, he.trans he2, hfr⟩
      · have hd : decide ((i : Int) < (l.length : Int)) = false := by simpa using hlt
        have : i = l.length := by omega
        subst this
        simp only [List.drop_length, free] at hfr
        simp only [hd, atDrew_eq, nilK_ptr, nilK_fn, fieldA_at, load1_at, orRd_some, optK_some, pickK_true, pickK_false, gopK_tt, gopK_ff, gopK_tf, gopK_ft, gopK_undef, gqK_tt, gqK_ff, gqK_tf, gqK_ft, gqK_undef, condK_true, condK_false, unK_not, binI_eql, binI_neq, binI_lss, binI_leq, binI_gtr, binI_geq, binI_add, binI_sub, binI_mul, binP_eql_none, binP_neq_none, binM_eql_none, binM_neq_none, binL_eql_none, lenL_at, convI_at, extractK_at, Option.bind_some, List.getElem?_cons_zero, List.getElem?_cons_succ, Option.isNone_some, Option.isNone_none, Bool.not_true, Bool.not_false, Nat.zero_add]
        rw [← hfr] at hk
        exact hk w1 (he0.trans he)
end
end Go.X
