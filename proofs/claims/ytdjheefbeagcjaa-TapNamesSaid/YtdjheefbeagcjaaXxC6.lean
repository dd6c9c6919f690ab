/- Texts of this family, put together. -/
import Derived.Test.YtdjheefbeagcjaaXxC4
/- Contracts: the abilities of a thing, its way. -/
set_option linter.unusedSimpArgs false
set_option linter.unusedVariables false
namespace Go.X
open Go Go.AW

section
variable {w : World} {L : Lay} {a : AW} {k : Value → World → Prop}

theorem mem_at {r : Int} {x : Wh} (hr : a.at r = some x) : (r, x) ∈ a.things := lookup_mem hr

theorem is_some {r : Int} (h : a.is r = true) : ∃ x, a.at r = some x := Option.isSome_iff_exists.1 h

theorem WRep.pos (h : WRep w L a) {r : Int} {x : Wh} (hr : a.at r = some x) : 1 ≤ r ∧ r ≤ a.last := h.nums _ (mem_at hr)

theorem build1 {e : Nat} {x : Value} {z : Value} (h : ∀ v w', Ext w w' → SliceOf w' v [x] → k v w') (hx : x.oneCell' = true) : buildL e 1 z 1 [(0, x)] w k := by
  have hc : x.cells = #[x] := by cases x <;> first | rfl | simp [Value.oneCell'] at hx
  refine buildL_intro (cs := [x]) (by omega) ?_ rfl fun b w' he _ _ _ hs => h _ _ he hs
  have : (zerosOf (if 1 * 1 = 0 then #[] else z.cells) (1 * 1)).size = 1 := by simp [zerosOf]
  simp only [Instr.fill, hc]
  have hz : ∃ y, zerosOf (if 1 * 1 = 0 then #[] else z.cells) (1 * 1) = #[y] := by
    generalize zerosOf (if 1 * 1 = 0 then #[] else z.cells) (1 * 1) = q at this
    match q with
    | ⟨[y]⟩ => exact ⟨y, rfl⟩
    | ⟨[]⟩ => simp at this
    | ⟨_ :: _ :: _⟩ => simp at this
  obtain ⟨y, hy⟩ := hz
  rw [hy]
  rfl

theorem build2b {e : Nat} {x y : Int} (hx : 0 ≤ x ∧ x < 256) (hy : 0 ≤ y ∧ y < 256) (h : ∀ v w', Ext w w' → SliceOf w' v ([x, y].map vb) → bytes [x, y] → k v w') : buildL e 1 (vb 0) 2 [(0, vb x), (1, vb y)] w k := by
  refine build_bytes (l := [x, y]) (by kernel_rfl) (by simp) fun v w' he hs => h v w' he hs ?_
  intro z hz
  simp at hz
  rcases hz with rfl | rfl <;> omega

theorem able_step (a : AW) (n : Nat) (set r : Int) : able a (n + 1) set r = match a.at r with
    | none => 0
    | some x =>
      if x.kind = 14 then able a n (meet set x.set) x.of
      else if x.kind = 15 ∨ x.kind = 16 then able a n set x.of
      else meet set (can x.kind) := rfl

theorem can_range (q : Int) : 0 ≤ can q ∧ can q < 256 := by unfold can; repeat' split
                                                            all_goals omega

/-- more rounds than the number of the thing do not turn the answer -/
theorem able_fuel (hf : WF a) (hp : ∀ t ∈ a.things, 1 ≤ t.1) : ∀ (n m : Nat) (set r : Int), r.toNat < n → r.toNat < m → able a n set r = able a m set r
  | 0, _, _, _, h, _ => by omega
  | _, 0, _, _, _, h => by omega
  | n + 1, m + 1, set, r, hn, hm => by
    rw [able_step, able_step]
    cases hr : a.at r with
    | none => rfl
    | some x =>
      have hd := hf.down _ (mem_at hr)
      have h1 := hp _ (mem_at hr)
      simp only [] at hd h1 ⊢
      by_cases h14 : x.kind = 14
      · have := hd (by simp [AW.wraps, h14])
        simp only [h14, if_true]
        exact able_fuel hf hp n m _ _ (by omega) (by omega)
      · by_cases h15 : x.kind = 15 ∨ x.kind = 16
        · have := hd (by rcases h15 with h | h <;> simp [AW.wraps, h])
          simp only [h14, h15, if_true, if_false]
          exact able_fuel hf hp n m _ _ (by omega) (by omega)
        · simp only [h14, h15, if_false]

theorem meet63 {n : Int} (h0 : 0 ≤ n) (h : n < 64) : meet 63 n = n := by
  unfold meet
  have h1 : (63 : Int).toNat &&& n.toNat = n.toNat := by
    rw [Nat.and_comm]
    have := Nat.and_two_pow_sub_one_eq_mod n.toNat 6
    have h63 : (63 : Int).toNat = 2 ^ 6 - 1 := by decide
    rw [h63, this]
    exact Nat.mod_eq_of_lt (by omega)
  rw [h1]
  omega

theorem meet_le {x y : Int} (h0 : 0 ≤ x) (h : x < 64) : 0 ≤ meet x y ∧ meet x y < 64 := by
  have : x.toNat &&& y.toNat ≤ x.toNat := Nat.and_le_left
  unfold meet
  omega

theorem able_c (h : WRep w L a) (hf : WF a) (r : Int) (hk : ∀ w', Ext w w' → k (vb (a.able r)) w') : callOn prog fn_World_Able #[ptr L.p, vi r] w k := by
  apply F_World_Able_on
  unfold F_World_Able
  have hp : ∀ t ∈ a.things, 1 ≤ t.1 := fun t ht => (h.nums t ht).1
  refine ⟨fun m e w' => ∃ (r' set : Int), 0 ≤ set ∧ set < 64 ∧ m = r'.toNat ∧ e 0 = ptr L.p ∧ e 1 = vi r' ∧ e 5 = vb set ∧ Ext w w' ∧ able a (r'.toNat + 1) set r' = a.able r, r.toNat,
    ⟨r, 63, by omega, by omega, rfl, rfl, rfl, rfl, .refl, rfl⟩, ?_⟩
  rintro m e w1 ⟨r', set, hs0, hs1, rfl, h0, h1, h5, he, hab⟩
  have h' := h.ext he
  simp only [h0, h1, h5]
  refine is_c h' r' ?_
  unfold AW.is
  rw [able_step] at hab
  cases hr : a.at r' with
  | none =>
    rw [hr] at hab
    simp only [Option.isSome_none, atDrew_eq, nilK_ptr, nilK_fn, fieldA_at, load1_at, orRd_some, optK_some, pickK_true, pickK_false, gopK_tt, gopK_ff, gopK_tf, gopK_ft, gopK_undef, gqK_tt, gqK_ff, gqK_tf, gqK_ft, gqK_undef, condK_true, condK_false, unK_not, binI_eql, binI_neq, binI_lss, binI_leq, binI_gtr, binI_geq, binI_add, binI_sub, binI_mul, binP_eql_none, binP_neq_none, binM_eql_none, binM_neq_none, binL_eql_none, lenL_at, convI_at, extractK_at, Option.bind_some, List.getElem?_cons_zero, List.getElem?_cons_succ, Option.isNone_some, Option.isNone_none, Bool.not_true, Bool.not_false, Nat.zero_add]
    rw [← hab] at hk
    exact hk w1 he
  | some x =>
    rw [hr] at hab
    have hb := hf.bits _ (mem_at hr)
    have hd := hf.down _ (mem_at hr)
    have hp1 := hp _ (mem_at hr)
    simp only [] at hb hd hp1 hab
    simp only [Option.isSome_some, atDrew_eq, nilK_ptr, nilK_fn, fieldA_at, load1_at, orRd_some, optK_some, pickK_true, pickK_false, gopK_tt, gopK_ff, gopK_tf, gopK_ft, gopK_undef, gqK_tt, gqK_ff, gqK_tf, gqK_ft, gqK_undef, condK_true, condK_false, unK_not, binI_eql, binI_neq, binI_lss, binI_leq, binI_gtr, binI_geq, binI_add, binI_sub, binI_mul, binP_eql_none, binP_neq_none, binM_eql_none, binM_neq_none, binL_eql_none, lenL_at, convI_at, extractK_at, Option.bind_some, List.getElem?_cons_zero, List.getElem?_cons_succ, Option.isNone_some, Option.isNone_none, Bool.not_true, Bool.not_false, Nat.zero_add, h'.top, h'.look_some hr, Bool.false_eq_true, if_false, h'.cell hr, whCells]
    by_cases h14 : x.kind = 14
    · have hbq : (x.kind == 14) = true := by simpa using h14
      have hd' := hd (by simp [AW.wraps, h14])
      simp only [hbq, atDrew_eq, nilK_ptr, nilK_fn, fieldA_at, load1_at, orRd_some, optK_some, pickK_true, pickK_false, gopK_tt, gopK_ff, gopK_tf, gopK_ft, gopK_undef, gqK_tt, gqK_ff, gqK_tf, gqK_ft, gqK_undef, condK_true, condK_false, unK_not, binI_eql, binI_neq, binI_lss, binI_leq, binI_gtr, binI_geq, binI_add, binI_sub, binI_mul, binP_eql_none, binP_neq_none, binM_eql_none, binM_neq_none, binL_eql_none, lenL_at, convI_at, extractK_at, Option.bind_some, List.getElem?_cons_zero, List.getElem?_cons_succ, Option.isNone_some, Option.isNone_none, Bool.not_true, Bool.not_false, Nat.zero_add, upd_get, h0, h1, h5]
      refine build2b ⟨hs0, by omega⟩ ⟨hb.1, hb.2.1⟩ fun v w2 he2 hsl hby => ?_
      refine meet_c hsl hby (by simp) ?_
      have he3 := he.trans he2
      have h3 := h.ext he3
      have hm := meet_le (y := x.set) hs0 hs1
      simp only [List.foldl_cons, List.foldl_nil, meet63 hs0 hs1]
      simp only [upd_get, if_true, Nat.reduceEqDiff, if_false, atDrew_eq, nilK_ptr, nilK_fn, fieldA_at, load1_at, orRd_some, optK_some, pickK_true, pickK_false, gopK_tt, gopK_ff, gopK_tf, gopK_ft, gopK_undef, gqK_tt, gqK_ff, gqK_tf, gqK_ft, gqK_undef, condK_true, condK_false, unK_not, binI_eql, binI_neq, binI_lss, binI_leq, binI_gtr, binI_geq, binI_add, binI_sub, binI_mul, binP_eql_none, binP_neq_none, binM_eql_none, binM_neq_none, binL_eql_none, lenL_at, convI_at, extractK_at, Option.bind_some, List.getElem?_cons_zero, List.getElem?_cons_succ, Option.isNone_some, Option.isNone_none, Bool.not_true, Bool.not_false, Nat.zero_add, h3.cell hr, whCells]
      refine ⟨x.of.toNat, by omega, x.of, meet set x.set, hm.1, hm.2, by first | rfl | trivial, by first | exact h0 | trivial, by first | rfl | trivial, by first | rfl | trivial, he3, ?_⟩
      simp only [h14, if_true] at hab
      rw [← hab]
      exact able_fuel hf hp _ _ _ _ (by omega) (by omega)
    · have hbq : (x.kind == 14) = false := by simpa using h14
      simp only [hbq, atDrew_eq, nilK_ptr, nilK_fn, fieldA_at, load1_at, orRd_some, optK_some, pickK_true, pickK_false, gopK_tt, gopK_ff, gopK_tf, gopK_ft, gopK_undef, gqK_tt, gqK_ff, gqK_tf, gqK_ft, gqK_undef, condK_true, condK_false, unK_not, binI_eql, binI_neq, binI_lss, binI_leq, binI_gtr, binI_geq, binI_add, binI_sub, binI_mul, binP_eql_none, binP_neq_none, binM_eql_none, binM_neq_none, binL_eql_none, lenL_at, convI_at, extractK_at, Option.bind_some, List.getElem?_cons_zero, List.getElem?_cons_succ, Option.isNone_some, Option.isNone_none, Bool.not_true, Bool.not_false, Nat.zero_add]
      by_cases h15 : x.kind = 15 ∨ x.kind = 16
      · have hd' := hd (by rcases h15 with h | h <;> simp [AW.wraps, h])
        simp only [h14, h15, if_true, if_false] at hab
        have hor : (x.kind == 15) = true ∨ ((x.kind == 15) = false ∧ (x.kind == 16) = true) := by
          rcases h15 with h | h
          · exact .inl (by simpa using h)
          · by_cases h' : x.kind = 15
            · exact .inl (by simpa using h')
            · exact .inr ⟨by simpa using h', by simpa using h⟩
        rcases hor with h15 | ⟨h15, h16⟩
        · simp only [h15, atDrew_eq, nilK_ptr, nilK_fn, fieldA_at, load1_at, orRd_some, optK_some, pickK_true, pickK_false, gopK_tt, gopK_ff, gopK_tf, gopK_ft, gopK_undef, gqK_tt, gqK_ff, gqK_tf, gqK_ft, gqK_undef, condK_true, condK_false, unK_not, binI_eql, binI_neq, binI_lss, binI_leq, binI_gtr, binI_geq, binI_add, binI_sub, binI_mul, binP_eql_none, binP_neq_none, binM_eql_none, binM_neq_none, binL_eql_none, lenL_at, convI_at, extractK_at, Option.bind_some, List.getElem?_cons_zero, List.getElem?_cons_succ, Option.isNone_some, Option.isNone_none, Bool.not_true, Bool.not_false, Nat.zero_add, upd_get, if_true, Nat.reduceEqDiff, if_false, h'.cell hr, whCells]
          refine ⟨x.of.toNat, by omega, x.of, set, hs0, hs1, by first | rfl | trivial, by first | exact h0 | trivial, by first | rfl | trivial, by first | exact h5 | trivial, he, ?_⟩
          rw [← hab]
          exact able_fuel hf hp _ _ _ _ (by omega) (by omega)
        · simp only [h15, h16, atDrew_eq, nilK_ptr, nilK_fn, fieldA_at, load1_at, orRd_some, optK_some, pickK_true, pickK_false, gopK_tt, gopK_ff, gopK_tf, gopK_ft, gopK_undef, gqK_tt, gqK_ff, gqK_tf, gqK_ft, gqK_undef, condK_true, condK_false, unK_not, binI_eql, binI_neq, binI_lss, binI_leq, binI_gtr, binI_geq, binI_add, binI_sub, binI_mul, binP_eql_none, binP_neq_none, binM_eql_none, binM_neq_none, binL_eql_none, lenL_at, convI_at, extractK_at, Option.bind_some, List.getElem?_cons_zero, List.getElem?_cons_succ, Option.isNone_some, Option.isNone_none, Bool.not_true, Bool.not_false, Nat.zero_add, upd_get, if_true, Nat.reduceEqDiff, if_false, h'.cell hr, whCells]
          refine ⟨x.of.toNat, by omega, x.of, set, hs0, hs1, by first | rfl | trivial, by first | exact h0 | trivial, by first | rfl | trivial, by first | exact h5 | trivial, he, ?_⟩
          rw [← hab]
          exact able_fuel hf hp _ _ _ _ (by omega) (by omega)
      · have h15' : (x.kind == 15) = false := by simp; omega
        have h16' : (x.kind == 16) = false := by simp; omega
        simp only [h14, h15, if_false] at hab
        simp only [h15', h16', atDrew_eq, nilK_ptr, nilK_fn, fieldA_at, load1_at, orRd_some, optK_some, pickK_true, pickK_false, gopK_tt, gopK_ff, gopK_tf, gopK_ft, gopK_undef, gqK_tt, gqK_ff, gqK_tf, gqK_ft, gqK_undef, condK_true, condK_false, unK_not, binI_eql, binI_neq, binI_lss, binI_leq, binI_gtr, binI_geq, binI_add, binI_sub, binI_mul, binP_eql_none, binP_neq_none, binM_eql_none, binM_neq_none, binL_eql_none, lenL_at, convI_at, extractK_at, Option.bind_some, List.getElem?_cons_zero, List.getElem?_cons_succ, Option.isNone_some, Option.isNone_none, Bool.not_true, Bool.not_false, Nat.zero_add, upd_get, if_true, Nat.reduceEqDiff, if_false, h'.cell hr, whCells]
        refine can_c x.kind fun w2 he2 => ?_
        rw [h5]
        refine build2b ⟨hs0, by omega⟩ (can_range _) fun v w3 he3 hsl hby => ?_
        refine meet_c hsl hby (by simp) ?_
        simp only [List.foldl_cons, List.foldl_nil, meet63 hs0 hs1]
        rw [hab]
        exact hk w3 ((he.trans he2).trans he3)
end
end Go.X
/- Contracts: the way, the base, whether a thing is free. -/
set_option linter.unusedSimpArgs false
set_option linter.unusedVariables false
namespace Go.X
open Go Go.AW

section
variable {w : World} {L : Lay} {a : AW} {k : Value → World → Prop}

theorem way_step (a : AW) (n : Nat) (r : Int) : way a (n + 1) r = match a.at r with
    | none => []
    | some x => if AW.wraps x.kind then r :: way a n x.of else [r] := rfl

theorem way_fuel (hf : WF a) (hp : ∀ t ∈ a.things, 1 ≤ t.1) : ∀ (n m : Nat) (r : Int), r.toNat < n → r.toNat < m → way a n r = way a m r
  | 0, _, _, h, _ => by omega
  | _, 0, _, _, h => by omega
  | n + 1, m + 1, r, hn, hm => by
    rw [way_step, way_step]
    cases hr : a.at r with
    | none => rfl
    | some x =>
      have hd := hf.down _ (mem_at hr)
      have h1 := hp _ (mem_at hr)
      simp only [] at hd h1 ⊢
      by_cases hw : AW.wraps x.kind = true
      · have := hd hw
        simp only [hw, if_true]
        rw [way_fuel hf hp n m _ (by omega) (by omega)]
      · simp [hw]

theorem way_len (a : AW) : ∀ (n : Nat) (r : Int), (way a n r).length ≤ n
  | 0, _ => by simp [way]
  | n + 1, r => by
    rw [way_step]
    cases a.at r with
    | none => simp
    | some x =>
      simp only []
      split
      · have := way_len a n x.of; simp; omega
      · simp

theorem way_bound (h : WRep w L a) (r : Int) : (a.way r).length ≤ 4611686018427387904 := by
  have h1 := way_len a (r.toNat + 1) r
  show (way a (r.toNat + 1) r).length ≤ _
  cases hr : a.at r with
  | none => rw [way_step, hr]; simp
  | some x => have := h.pos hr; have := h.high; omega

/-- at most 2^43 things -/
def Few (a : AW) : Prop := a.last < 8796093022208

theorem way_few (h : WRep w L a) (hfew : Few a) (r : Int) : (a.way r).length ≤ 8796093022208 := by
  have h1 := way_len a (r.toNat + 1) r
  show (way a (r.toNat + 1) r).length ≤ _
  unfold Few at hfew
  cases hr : a.at r with
  | none => rw [way_step, hr]; simp
  | some x => have := h.pos hr; omega

theorem way_c (h : WRep w L a) (hf : WF a) (hfew : Few a) (r : Int) (hk : ∀ v w', Ext w w' → SliceOf w' v ((a.way r).map vi) → (∀ b ∈ sliceBlk v, w.heap.size ≤ b) → k v w') : callOn prog fn_World_Way #[ptr L.p, vi r] w k := by
  apply F_World_Way_on
  unfold F_World_Way
  have hp : ∀ t ∈ a.things, 1 ≤ t.1 := fun t ht => (h.nums t ht).1
  have hlen := way_few h hfew r
  simp only []
  refine ⟨fun m e w' => ∃ (r' : Int) (l : List Int), m = r'.toNat ∧ e 0 = ptr L.p ∧ e 1 = vi r' ∧ SliceOf w' (e 5) (l.map vi) ∧ (∀ b ∈ sliceBlk (e 5), w.heap.size ≤ b) ∧ Ext w w' ∧ l ++ way a (r'.toNat + 1) r' = a.way r, r.toNat,
    ⟨r, [], rfl, rfl, rfl, ⟨rfl, rfl, rfl⟩, fun b hb => by simp [upd_get, sliceBlk] at hb, .refl, rfl⟩, ?_⟩
  rintro m e w1 ⟨r', l, rfl, h0, h1, hs, hnew, he, hw⟩
  have h' := h.ext he
  simp only [h0, h1]
  refine is_c h' r' ?_
  unfold AW.is
  rw [way_step] at hw
  cases hr : a.at r' with
  | none =>
    rw [hr] at hw
    simp only [Option.isSome_none, atDrew_eq, nilK_ptr, nilK_fn, fieldA_at, load1_at, orRd_some, optK_some, pickK_true, pickK_false, gopK_tt, gopK_ff, gopK_tf, gopK_ft, gopK_undef, gqK_tt, gqK_ff, gqK_tf, gqK_ft, gqK_undef, condK_true, condK_false, unK_not, binI_eql, binI_neq, binI_lss, binI_leq, binI_gtr, binI_geq, binI_add, binI_sub, binI_mul, binP_eql_none, binP_neq_none, binM_eql_none, binM_neq_none, binL_eql_none, lenL_at, convI_at, extractK_at, Option.bind_some, List.getElem?_cons_zero, List.getElem?_cons_succ, Option.isNone_some, Option.isNone_none, Bool.not_true, Bool.not_false, Nat.zero_add, upd_get, Nat.reduceEqDiff, if_false]
    simp only [List.append_nil] at hw
    rw [← hw] at hk
    exact hk _ w1 he hs hnew
  | some x =>
    rw [hr] at hw
    have hd := hf.down _ (mem_at hr)
    have hp1 := hp _ (mem_at hr)
    simp only [] at hd hp1 hw
    simp only [Option.isSome_some, atDrew_eq, nilK_ptr, nilK_fn, fieldA_at, load1_at, orRd_some, optK_some, pickK_true, pickK_false, gopK_tt, gopK_ff, gopK_tf, gopK_ft, gopK_undef, gqK_tt, gqK_ff, gqK_tf, gqK_ft, gqK_undef, condK_true, condK_false, unK_not, binI_eql, binI_neq, binI_lss, binI_leq, binI_gtr, binI_geq, binI_add, binI_sub, binI_mul, binP_eql_none, binP_neq_none, binM_eql_none, binM_neq_none, binL_eql_none, lenL_at, convI_at, extractK_at, Option.bind_some, List.getElem?_cons_zero, List.getElem?_cons_succ, Option.isNone_some, Option.isNone_none, Bool.not_true, Bool.not_false, Nat.zero_add]
    refine build1 (fun v w2 he2 hsv => ?_) rfl
    have hs2 := hs.ext he2
    have hll : l.length + 1 ≤ 8796093022208 := by
      have : (l ++ (if AW.wraps x.kind = true then r' :: way a r'.toNat x.of else [r'])).length ≤ 8796093022208 := by rw [hw]; exact hlen
      simp only [List.length_append] at this
      split at this <;> simp at this <;> omega
    refine append_intro hs2 hsv (by simp [Value.oneCell']) rfl (by simp; omega) (by simp; omega) fun s' w3 hk3 hs3 hb3 => ?_
    have he3 : Ext w w3 := (he.trans he2).trans' hk3 fun b hb hin => by have := hnew b hin; omega
    have hnew3 : ∀ b ∈ sliceBlk s', w.heap.size ≤ b := by
      intro b hb
      rcases hb3 b hb with h3 | h3
      · exact hnew b h3
      · exact Nat.le_trans (he.trans he2).size h3
    have h3 := h.ext he3
    have hs3' : SliceOf w3 s' ((l ++ [r']).map vi) := by simpa using hs3
    simp only [atDrew_eq, nilK_ptr, nilK_fn, fieldA_at, load1_at, orRd_some, optK_some, pickK_true, pickK_false, gopK_tt, gopK_ff, gopK_tf, gopK_ft, gopK_undef, gqK_tt, gqK_ff, gqK_tf, gqK_ft, gqK_undef, condK_true, condK_false, unK_not, binI_eql, binI_neq, binI_lss, binI_leq, binI_gtr, binI_geq, binI_add, binI_sub, binI_mul, binP_eql_none, binP_neq_none, binM_eql_none, binM_neq_none, binL_eql_none, lenL_at, convI_at, extractK_at, Option.bind_some, List.getElem?_cons_zero, List.getElem?_cons_succ, Option.isNone_some, Option.isNone_none, Bool.not_true, Bool.not_false, Nat.zero_add, h3.top, h3.look_some hr, Bool.false_eq_true, if_false, h3.cell hr, whCells]
    refine wraps_c x.kind ?_
    cases hwr : AW.wraps x.kind with
    | false =>
      simp only [atDrew_eq, nilK_ptr, nilK_fn, fieldA_at, load1_at, orRd_some, optK_some, pickK_true, pickK_false, gopK_tt, gopK_ff, gopK_tf, gopK_ft, gopK_undef, gqK_tt, gqK_ff, gqK_tf, gqK_ft, gqK_undef, condK_true, condK_false, unK_not, binI_eql, binI_neq, binI_lss, binI_leq, binI_gtr, binI_geq, binI_add, binI_sub, binI_mul, binP_eql_none, binP_neq_none, binM_eql_none, binM_neq_none, binL_eql_none, lenL_at, convI_at, extractK_at, Option.bind_some, List.getElem?_cons_zero, List.getElem?_cons_succ, Option.isNone_some, Option.isNone_none, Bool.not_true, Bool.not_false, Nat.zero_add, upd_get, Nat.reduceEqDiff, if_false, if_true]
      simp only [hwr, Bool.false_eq_true, if_false] at hw
      rw [← hw] at hk
      exact hk _ w3 he3 hs3' hnew3
    | true =>
      simp only [atDrew_eq, nilK_ptr, nilK_fn, fieldA_at, load1_at, orRd_some, optK_some, pickK_true, pickK_false, gopK_tt, gopK_ff, gopK_tf, gopK_ft, gopK_undef, gqK_tt, gqK_ff, gqK_tf, gqK_ft, gqK_undef, condK_true, condK_false, unK_not, binI_eql, binI_neq, binI_lss, binI_leq, binI_gtr, binI_geq, binI_add, binI_sub, binI_mul, binP_eql_none, binP_neq_none, binM_eql_none, binM_neq_none, binL_eql_none, lenL_at, convI_at, extractK_at, Option.bind_some, List.getElem?_cons_zero, List.getElem?_cons_succ, Option.isNone_some, Option.isNone_none, Bool.not_true, Bool.not_false, Nat.zero_add, h3.cell hr, whCells]
      have hd' := hd hwr
      refine ⟨x.of.toNat, by omega, x.of, l ++ [r'], rfl, h0, rfl, hs3', hnew3, he3, ?_⟩
      simp only [hwr, if_true] at hw
      rw [← hw, List.append_assoc]
      congr 1
      show r' :: way a (x.of.toNat + 1) x.of = _
      rw [way_fuel hf hp (x.of.toNat + 1) r'.toNat _ (by omega) (by omega)]

theorem base_c (h : WRep w L a) (hf : WF a) (hfew : Few a) (r : Int) (hk : ∀ w', Ext w w' → k (vi (a.base r)) w') : callOn prog fn_World_Base #[ptr L.p, vi r] w k := by
  apply F_World_Base_on
  unfold F_World_Base
  have hlen := way_few h hfew r
  refine way_c h hf hfew r fun v w1 he hs _ => ?_
  simp only [hs.lenL, List.length_map, atDrew_eq, nilK_ptr, nilK_fn, fieldA_at, load1_at, orRd_some, optK_some, pickK_true, pickK_false, gopK_tt, gopK_ff, gopK_tf, gopK_ft, gopK_undef, gqK_tt, gqK_ff, gqK_tf, gqK_ft, gqK_undef, condK_true, condK_false, unK_not, binI_eql, binI_neq, binI_lss, binI_leq, binI_gtr, binI_geq, binI_add, binI_sub, binI_mul, binP_eql_none, binP_neq_none, binM_eql_none, binM_neq_none, binL_eql_none, lenL_at, convI_at, extractK_at, Option.bind_some, List.getElem?_cons_zero, List.getElem?_cons_succ, Option.isNone_some, Option.isNone_none, Bool.not_true, Bool.not_false, Nat.zero_add]
  unfold AW.base at hk
  generalize hl : a.way r = l at hk hs hlen
  cases hll : l with
  | nil =>
    subst hll
    simp only [List.length_nil, Int.ofNat_eq_natCast, Int.natCast_zero, beq_self_eq_true, atDrew_eq, nilK_ptr, nilK_fn, fieldA_at, load1_at, orRd_some, optK_some, pickK_true, pickK_false, gopK_tt, gopK_ff, gopK_tf, gopK_ft, gopK_undef, gqK_tt, gqK_ff, gqK_tf, gqK_ft, gqK_undef, condK_true, condK_false, unK_not, binI_eql, binI_neq, binI_lss, binI_leq, binI_gtr, binI_geq, binI_add, binI_sub, binI_mul, binP_eql_none, binP_neq_none, binM_eql_none, binM_neq_none, binL_eql_none, lenL_at, convI_at, extractK_at, Option.bind_some, List.getElem?_cons_zero, List.getElem?_cons_succ, Option.isNone_some, Option.isNone_none, Bool.not_true, Bool.not_false, Nat.zero_add]
    exact hk w1 he
  | cons y ys =>
    rw [← hll]
    have hpos : 0 < l.length := by simp [hll]
    have hb : ((l.length : Int) == 0) = false := by rw [beq_eq_false_iff_ne]; omega
    have hw : IntKind.i64.wrap ((l.length : Int) - 1) = ((l.length - 1 : Nat) : Int) := by rw [wrap64_id (by omega) (by omega)]; omega
    obtain ⟨b, i, c, hix, _, hc, _, hci, _⟩ := hs.place (j := ((l.length - 1 : Nat) : Int)) (by omega) (by simp; omega)
    have hv : c[i]? = some (vi (l.getLast?.getD 0)) := by
      rw [hci, List.getLast?_eq_getElem?]
      have : l.length - 1 < l.length := by omega
      simp [this]
    simp only [hb, atDrew_eq, nilK_ptr, nilK_fn, fieldA_at, load1_at, orRd_some, optK_some, pickK_true, pickK_false, gopK_tt, gopK_ff, gopK_tf, gopK_ft, gopK_undef, gqK_tt, gqK_ff, gqK_tf, gqK_ft, gqK_undef, condK_true, condK_false, unK_not, binI_eql, binI_neq, binI_lss, binI_leq, binI_gtr, binI_geq, binI_add, binI_sub, binI_mul, binP_eql_none, binP_neq_none, binM_eql_none, binM_neq_none, binL_eql_none, lenL_at, convI_at, extractK_at, Option.bind_some, List.getElem?_cons_zero, List.getElem?_cons_succ, Option.isNone_some, Option.isNone_none, Bool.not_true, Bool.not_false, Nat.zero_add, hw, hix, hc, hv]
    exact hk w1 he
end
end Go.X
