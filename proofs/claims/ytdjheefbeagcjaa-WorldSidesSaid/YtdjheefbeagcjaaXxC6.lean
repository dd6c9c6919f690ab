/- Contracts: the way, the base, whether a thing is free. -/
import Derived.Test.YtdjheefbeagcjaaXxC5
set_option linter.unusedSimpArgs false
set_option linter.unusedVariables false
namespace Go.X
open Go Go.AW

section
variable {w : World} {L : Lay} {a : AW} {k : Value → World → Prop}

theorem way_step (a : AW) (n : Nat) (r : Int) : way a (n + 1) r = match a.at r with
    | none => []
    | some x => if AW.wraps x.kind then r :: way a n x.of else [r] := rfl

theorem way_fuel (hf : WF a) (hp : ∀ t ∈ a.things, 1 ≤ t.1) : ∀ (n m : Nat) (r : Int), r.toNat < n → r.toNat < m → way a n r = way a m r
  | 0, _, _, h, _ => by omega
  | _, 0, _, _, h => by omega
  | n + 1, m + 1, r, hn, hm => by
    rw [way_step, way_step]
    cases hr : a.at r with
    | none => rfl
    | some x =>
      have hd := hf.down _ (mem_at hr)
      have h1 := hp _ (mem_at hr)
      simp only [] at hd h1 ⊢
      by_cases hw : AW.wraps x.kind = true
      · have := hd hw
        simp only [hw, if_true]
        rw [way_fuel hf hp n m _ (by omega) (by omega)]
      · simp [hw]

theorem way_len (a : AW) : ∀ (n : Nat) (r : Int), (way a n r).length ≤ n
  | 0, _ => by simp [way]
  | n + 1, r => by
    rw [way_step]
    cases a.at r with
    | none => simp
    | some x =>
      simp only []
      split
      · have := way_len a n x.of; simp; omega
      · simp

theorem way_bound (h : WRep w L a) (r : Int) : (a.way r).length ≤ 4611686018427387904 := by
  have h1 := way_len a (r.toNat + 1) r
  show (way a (r.toNat + 1) r).length ≤ _
  cases hr : a.at r with
  | none => rw [way_step, hr]; simp
  | some x => have := h.pos hr; have := h.high; omega

/-- at most 2^43 things -/
def Few (a : AW) : Prop := a.last < 8796093022208

theorem way_few (h : WRep w L a) (hfew : Few a) (r : Int) : (a.way r).length ≤ 8796093022208 := by
  have h1 := way_len a (r.toNat + 1) r
  show (way a (r.toNat + 1) r).length ≤ _
  unfold Few at hfew
  cases hr : a.at r with
  | none => rw [way_step, hr]; simp
  | some x => have := h.pos hr; omega

theorem way_c (h : WRep w L a) (hf : WF a) (hfew : Few a) (r : Int) (hk : ∀ v w', Ext w w' → SliceOf w' v ((a.way r).map vi) → (∀ b ∈ sliceBlk v, w.heap.size ≤ b) → k v w') : callOn prog fn_World_Way #[ptr L.p, vi r] w k := by
  apply F_World_Way_on
  unfold F_World_Way
  have hp : ∀ t ∈ a.things, 1 ≤ t.1 := fun t ht => (h.nums t ht).1
  have hlen := way_few h hfew r
  simp only []
  refine ⟨fun m e w' => ∃ (r' : Int) (l : List Int), m = r'.toNat ∧ e 0 = ptr L.p ∧ e 1 = vi r' ∧ SliceOf w' (e 5) (l.map vi) ∧ (∀ b ∈ sliceBlk (e 5), w.heap.size ≤ b) ∧ Ext w w' ∧ l ++ way a (r'.toNat + 1) r' = a.way r, r.toNat,
    ⟨r, [], rfl, rfl, rfl, ⟨rfl, rfl, rfl⟩, fun b hb => by simp [upd_get, sliceBlk] at hb, .refl, rfl⟩, ?_⟩
  rintro m e w1 ⟨r', l, rfl, h0, h1, hs, hnew, he, hw⟩
  have h' := h.ext he
  simp only [h0, h1]
  refine is_c h' r' ?_
  unfold AW.is
  rw [way_step] at hw
  cases hr : a.at r' with
  | none =>
    rw [hr] at hw
    simp only [Option.isSome_none, atDrew_eq, nilK_ptr, nilK_fn, fieldA_at, load1_at, orRd_some, optK_some, pickK_true, pickK_false, gopK_tt, gopK_ff, gopK_tf, gopK_ft, gopK_undef, gqK_tt, gqK_ff, gqK_tf, gqK_ft, gqK_undef, condK_true, condK_false, unK_not, binI_eql, binI_neq, binI_lss, binI_leq, binI_gtr, binI_geq, binI_add, binI_sub, binI_mul, binP_eql_none, binP_neq_none, binM_eql_none, binM_neq_none, binL_eql_none, lenL_at, convI_at, extractK_at, Option.bind_some, List.getElem?_cons_zero, List.getElem?_cons_succ, Option.isNone_some, Option.isNone_none, Bool.not_true, Bool.not_false, Nat.zero_add, upd_get, Nat.reduceEqDiff, if_false]
    simp only [List.append_nil] at hw
    rw [← hw] at hk
    exact hk _ w1 he hs hnew
  | some x =>
    rw [hr] at hw
    have hd := hf.down _ (mem_at hr)
    have hp1 := hp _ (mem_at hr)
    simp only [] at hd hp1 hw
    simp only [Option.isSome_some, atDrew_eq, nilK_ptr, nilK_fn, fieldA_at, load1_at, orRd_some, optK_some, pickK_true, pickK_false, gopK_tt, gopK_ff, gopK_tf, gopK_ft, gopK_undef, gqK_tt, gqK_ff, gqK_tf, gqK_ft, gqK_undef, condK_true, condK_false, unK_not, binI_eql, binI_neq, binI_lss, binI_leq, binI_gtr, binI_geq, binI_add, binI_sub, binI_mul, binP_eql_none, binP_neq_none, binM_eql_none, binM_neq_none, binL_eql_none, lenL_at, convI_at, extractK_at, Option.bind_some, List.getElem?_cons_zero, List.getElem?_cons_succ, Option.isNone_some, Option.isNone_none, Bool.not_true, Bool.not_false, Nat.zero_add]
    refine build1 (fun v w2 he2 hsv => ?_) rfl
    have hs2 := hs.ext he2
    have hll : l.length + 1 ≤ 8796093022208 := by
      have : (l ++ (if AW.wraps x.kind = true then r' :: way a r'.toNat x.of else [r'])).length ≤ 8796093022208 := by rw [hw]; exact hlen
      simp only [List.length_append] at this
      split at this <;> simp at this <;> omega
    refine append_intro hs2 hsv (by simp [Value.oneCell']) rfl (by simp; omega) (by simp; omega) fun s' w3 hk3 hs3 hb3 => ?_
    have he3 : Ext w w3 := (he.trans he2).trans' hk3 fun b hb hin => by have := hnew b hin; omega
    have hnew3 : ∀ b ∈ sliceBlk s', w.heap.size ≤ b := by
      intro b hb
      rcases hb3 b hb with h3 | h3
      · exact hnew b h3
      · exact Nat.le_trans (he.trans he2).size h3
    have h3 := h.ext he3
    have hs3' : SliceOf w3 s' ((l ++ [r']).map vi) := by simpa using hs3
    simp only [atDrew_eq, nilK_ptr, nilK_fn, fieldA_at, load1_at, orRd_some, optK_some, pickK_true, pickK_false, gopK_tt, gopK_ff, gopK_tf, gopK_ft, gopK_undef, gqK_tt, gqK_ff, gqK_tf, gqK_ft, gqK_undef, condK_true, condK_false, unK_not, binI_eql, binI_neq, binI_lss, binI_leq, binI_gtr, binI_geq, binI_add, binI_sub, binI_mul, binP_eql_none, binP_neq_none, binM_eql_none, binM_neq_none, binL_eql_none, lenL_at, convI_at, extractK_at, Option.bind_some, List.getElem?_cons_zero, List.getElem?_cons_succ, Option.isNone_some, Option.isNone_none, Bool.not_true, Bool.not_false, Nat.zero_add, h3.top, h3.look_some hr, Bool.false_eq_true, if_false, h3.cell hr, whCells]
    refine wraps_c x.kind ?_
    cases hwr : AW.wraps x.kind with
    | false =>
      simp only [atDrew_eq, nilK_ptr, nilK_fn, fieldA_at, load1_at, orRd_some, optK_some, pickK_true, pickK_false, gopK_tt, gopK_ff, gopK_tf, gopK_ft, gopK_undef, gqK_tt, gqK_ff, gqK_tf, gqK_ft, gqK_undef, condK_true, condK_false, unK_not, binI_eql, binI_neq, binI_lss, binI_leq, binI_gtr, binI_geq, binI_add, binI_sub, binI_mul, binP_eql_none, binP_neq_none, binM_eql_none, binM_neq_none, binL_eql_none, lenL_at, convI_at, extractK_at, Option.bind_some, List.getElem?_cons_zero, List.getElem?_cons_succ, Option.isNone_some, Option.isNone_none, Bool.not_true, Bool.not_false, Nat.zero_add, upd_get, Nat.reduceEqDiff, if_false, if_true]
      simp only [hwr, Bool.false_eq_true, if_false] at hw
      rw [← hw] at hk
      exact hk _ w3 he3 hs3' hnew3
    | true =>
      simp only [atDrew_eq, nilK_ptr, nilK_fn, fieldA_at, load1_at, orRd_some, optK_some, pickK_true, pickK_false, gopK_tt, gopK_ff, gopK_tf, gopK_ft, gopK_undef, gqK_tt, gqK_ff, gqK_tf, gqK_ft, gqK_undef, condK_true, condK_false, unK_not, binI_eql, binI_neq, binI_lss, binI_leq, binI_gtr, binI_geq, binI_add, binI_sub, binI_mul, binP_eql_none, binP_neq_none, binM_eql_none, binM_neq_none, binL_eql_none, lenL_at, convI_at, extractK_at, Option.bind_some, List.getElem?_cons_zero, List.getElem?_cons_succ, Option.isNone_some, Option.isNone_none, Bool.not_true, Bool.not_false, Nat.zero_add, h3.cell hr, whCells]
      have hd' := hd hwr
      refine ⟨x.of.toNat, by omega, x.of, l ++ [r'], rfl, h0, rfl, hs3', hnew3, he3, ?_⟩
      simp only [hwr, if_true] at hw
      rw [← hw, List.append_assoc]
      congr 1
      show r' :: way a (x.of.toNat + 1) x.of = _
      rw [way_fuel hf hp (x.of.toNat + 1) r'.toNat _ (by omega) (by omega)]

theorem base_c (h : WRep w L a) (hf : WF a) (hfew : Few a) (r : Int) (hk : ∀ w', Ext w w' → k (vi (a.base r)) w') : callOn prog fn_World_Base #[ptr L.p, vi r] w k := by
  apply F_World_Base_on
  unfold F_World_Base
  have hlen := way_few h hfew r
  refine way_c h hf hfew r fun v w1 he hs _ => ?_
  simp only [hs.lenL, List.length_map, atDrew_eq, nilK_ptr, nilK_fn, fieldA_at, load1_at, orRd_some, optK_some, pickK_true, pickK_false, gopK_tt, gopK_ff, gopK_tf, gopK_ft, gopK_undef, gqK_tt, gqK_ff, gqK_tf, gqK_ft, gqK_undef, condK_true, condK_false, unK_not, binI_eql, binI_neq, binI_lss, binI_leq, binI_gtr, binI_geq, binI_add, binI_sub, binI_mul, binP_eql_none, binP_neq_none, binM_eql_none, binM_neq_none, binL_eql_none, lenL_at, convI_at, extractK_at, Option.bind_some, List.getElem?_cons_zero, List.getElem?_cons_succ, Option.isNone_some, Option.isNone_none, Bool.not_true, Bool.not_false, Nat.zero_add]
  unfold AW.base at hk
  generalize hl : a.way r = l at hk hs hlen
  cases hll : l with
  | nil =>
    subst hll
    simp only [List.length_nil, Int.ofNat_eq_natCast, Int.natCast_zero, beq_self_eq_true, atDrew_eq, nilK_ptr, nilK_fn, fieldA_at, load1_at, orRd_some, optK_some, pickK_true, pickK_false, gopK_tt, gopK_ff, gopK_tf, gopK_ft, gopK_undef, gqK_tt, gqK_ff, gqK_tf, gqK_ft, gqK_undef, condK_true, condK_false, unK_not, binI_eql, binI_neq, binI_lss, binI_leq, binI_gtr, binI_geq, binI_add, binI_sub, binI_mul, binP_eql_none, binP_neq_none, binM_eql_none, binM_neq_none, binL_eql_none, lenL_at, convI_at, extractK_at, Option.bind_some, List.getElem?_cons_zero, List.getElem?_cons_succ, Option.isNone_some, Option.isNone_none, Bool.not_true, Bool.not_false, Nat.zero_add]
    exact hk w1 he
  | cons y ys =>
    rw [← hll]
    have hpos : 0 < l.length := by simp [hll]
    have hb : ((l.length : Int) == 0) = false := by rw [beq_eq_false_iff_ne]; omega
    have hw : IntKind.i64.wrap ((l.length : Int) - 1) = ((l.length - 1 : Nat) : Int) := by rw [wrap64_id (by omega) (by omega)]; omega
    obtain ⟨b, i, c, hix, _, hc, _, hci, _⟩ := hs.place (j := ((l.length - 1 : Nat) : Int)) (by omega) (by simp; omega)
    have hv : c[i]? = some (vi (l.getLast?.getD 0)) := by
      rw [hci, List.getLast?_eq_getElem?]
      have : l.length - 1 < l.length := by omega
      simp [this]
    simp only [hb, atDrew_eq, nilK_ptr, nilK_fn, fieldA_at, load1_at, orRd_some, optK_some, pickK_true, pickK_false, gopK_tt, gopK_ff, gopK_tf, gopK_ft, gopK_undef, gqK_tt, gqK_ff, gqK_tf, gqK_ft, gqK_undef, condK_true, condK_false, unK_not, binI_eql, binI_neq, binI_lss, binI_leq, binI_gtr, binI_geq, binI_add, binI_sub, binI_mul, binP_eql_none, binP_neq_none, binM_eql_none, binM_neq_none, binL_eql_none, lenL_at, convI_at, extractK_at, Option.bind_some, List.getElem?_cons_zero, List.getElem?_cons_succ, Option.isNone_some, Option.isNone_none, Bool.not_true, Bool.not_false, Nat.zero_add, hw, hix, hc, hv]
    exact hk w1 he
end
end Go.X
