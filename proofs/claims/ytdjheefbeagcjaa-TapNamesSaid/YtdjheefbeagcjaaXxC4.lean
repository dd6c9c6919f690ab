/- Texts of this family, put together. -/
import Derived.Test.YtdjheefbeagcjaaXxC2
import Derived.KernelRfl
/- Contracts: edges, what was made, facets that are found. -/
set_option linter.unusedSimpArgs false
set_option linter.unusedVariables false
namespace Go.X
open Go Go.AW

section
variable {w : World} {L : Lay} {a : AW} {k : Value → World → Prop}

theorem load_place {b i : Nat} {c : List Value} {v : Value} {q : Value → Prop} (hc : cellsOf w b = some c) (hi : c[i]? = some v) : load1 (.pointer (some ⟨b, i, none⟩)) w q = q v := by
  simp only [load1_at, hc, orRd_some, Option.bind_some, hi, optK_some]

theorem wrap64_id {n : Int} (h0 : -9223372036854775808 ≤ n) (h : n ≤ 9223372036854775807) : IntKind.i64.wrap n = n := by
  simp [IntKind.wrap, IntKind.signed, IntKind.bits]
  omega

theorem isCut_c (h : WRep w L a) (n : Int) (hk : k (.bool (AW.edge a n && a.cut.getD n.toNat false)) w) : callOn prog fn_World_IsCut #[ptr L.p, vi n] w k := by
  apply F_World_IsCut_on
  unfold F_World_IsCut
  refine edge_c h n ?_
  cases he : AW.edge a n with
  | false =>
    simp only [atDrew_eq, nilK_ptr, nilK_fn, fieldA_at, load1_at, orRd_some, optK_some, pickK_true, pickK_false, gopK_tt, gopK_ff, gopK_tf, gopK_ft, gopK_undef, gqK_tt, gqK_ff, gqK_tf, gqK_ft, gqK_undef, condK_true, condK_false, unK_not, binI_eql, binI_neq, binI_lss, binI_leq, binI_gtr, binI_geq, binI_add, binI_sub, binI_mul, binP_eql_none, binP_neq_none, binM_eql_none, binM_neq_none, binL_eql_none, lenL_at, convI_at, extractK_at, Option.bind_some, List.getElem?_cons_zero, List.getElem?_cons_succ, Option.isNone_some, Option.isNone_none, Bool.not_true, Bool.not_false, Nat.zero_add]
    simpa [he] using hk
  | true =>
    simp only [AW.edge, Bool.and_eq_true, decide_eq_true_eq] at he
    unfold AW.sides at he
    have hlen : n < ((a.cut.map Value.bool).length : Int) := by have := h.len1; simp; omega
    obtain ⟨b, i, c, hix, _, hc, _, hci, _⟩ := h.cut.place (j := n) (by omega) hlen
    have hlt : n.toNat < a.cut.length := by simp at hlen; omega
    have hv : c[i]? = some (.bool (a.cut.getD n.toNat false)) := by
      rw [hci]
      simp [hlt, List.getD_eq_getElem?_getD]
    simp only [atDrew_eq, nilK_ptr, nilK_fn, fieldA_at, load1_at, orRd_some, optK_some, pickK_true, pickK_false, gopK_tt, gopK_ff, gopK_tf, gopK_ft, gopK_undef, gqK_tt, gqK_ff, gqK_tf, gqK_ft, gqK_undef, condK_true, condK_false, unK_not, binI_eql, binI_neq, binI_lss, binI_leq, binI_gtr, binI_geq, binI_add, binI_sub, binI_mul, binP_eql_none, binP_neq_none, binM_eql_none, binM_neq_none, binL_eql_none, lenL_at, convI_at, extractK_at, Option.bind_some, List.getElem?_cons_zero, List.getElem?_cons_succ, Option.isNone_some, Option.isNone_none, Bool.not_true, Bool.not_false, Nat.zero_add, h.top, hix, hc, hv]
    have he' : AW.edge a n = true := by unfold AW.edge AW.sides; simp [he]
    rw [he', Bool.true_and] at hk
    exact hk

theorem made_c (h : WRep w L a) (s : Int) (hk : k (vi (if a.side s then a.made.getD s.toNat 0 else 0)) w) : callOn prog fn_World_Made #[ptr L.p, vi s] w k := by
  apply F_World_Made_on
  unfold F_World_Made
  refine side_c h s ?_
  cases hs : a.side s with
  | false =>
    rw [hs] at hk
    simp only [atDrew_eq, nilK_ptr, nilK_fn, fieldA_at, load1_at, orRd_some, optK_some, pickK_true, pickK_false, gopK_tt, gopK_ff, gopK_tf, gopK_ft, gopK_undef, gqK_tt, gqK_ff, gqK_tf, gqK_ft, gqK_undef, condK_true, condK_false, unK_not, binI_eql, binI_neq, binI_lss, binI_leq, binI_gtr, binI_geq, binI_add, binI_sub, binI_mul, binP_eql_none, binP_neq_none, binM_eql_none, binM_neq_none, binL_eql_none, lenL_at, convI_at, extractK_at, Option.bind_some, List.getElem?_cons_zero, List.getElem?_cons_succ, Option.isNone_some, Option.isNone_none, Bool.not_true, Bool.not_false, Nat.zero_add]
    exact hk
  | true =>
    rw [hs] at hk
    simp only [AW.side, Bool.and_eq_true, decide_eq_true_eq] at hs
    unfold AW.sides at hs
    have hlen : s < ((a.made.map vi).length : Int) := by simp; omega
    obtain ⟨b, i, c, hix, _, hc, _, hci, _⟩ := h.made.place (j := s) (by omega) hlen
    have hlt : s.toNat < a.made.length := by simp at hlen; omega
    have hv : c[i]? = some (vi (a.made.getD s.toNat 0)) := by
      rw [hci]
      simp [hlt, List.getD_eq_getElem?_getD]
    simp only [atDrew_eq, nilK_ptr, nilK_fn, fieldA_at, load1_at, orRd_some, optK_some, pickK_true, pickK_false, gopK_tt, gopK_ff, gopK_tf, gopK_ft, gopK_undef, gqK_tt, gqK_ff, gqK_tf, gqK_ft, gqK_undef, condK_true, condK_false, unK_not, binI_eql, binI_neq, binI_lss, binI_leq, binI_gtr, binI_geq, binI_add, binI_sub, binI_mul, binP_eql_none, binP_neq_none, binM_eql_none, binM_neq_none, binL_eql_none, lenL_at, convI_at, extractK_at, Option.bind_some, List.getElem?_cons_zero, List.getElem?_cons_succ, Option.isNone_some, Option.isNone_none, Bool.not_true, Bool.not_false, Nat.zero_add, h.top, hix, hc, hv]
    exact hk

theorem parent_c (h : WRep w L a) (s : Int) (hk : k (.tuple #[vi (if s = 0 ∨ a.side s = false then 0 else a.parents.getD (s.toNat - 1) 0), vi (if s = 0 ∨ a.side s = false then 2 else 0)]) w) :
    callOn prog fn_World_Parent #[ptr L.p, vi s] w k := by
  apply F_World_Parent_on
  unfold F_World_Parent
  refine none_c h ?_
  simp only [atDrew_eq, nilK_ptr, nilK_fn, fieldA_at, load1_at, orRd_some, optK_some, pickK_true, pickK_false, gopK_tt, gopK_ff, gopK_tf, gopK_ft, gopK_undef, gqK_tt, gqK_ff, gqK_tf, gqK_ft, gqK_undef, condK_true, condK_false, unK_not, binI_eql, binI_neq, binI_lss, binI_leq, binI_gtr, binI_geq, binI_add, binI_sub, binI_mul, binP_eql_none, binP_neq_none, binM_eql_none, binM_neq_none, binL_eql_none, lenL_at, convI_at, extractK_at, Option.bind_some, List.getElem?_cons_zero, List.getElem?_cons_succ, Option.isNone_some, Option.isNone_none, Bool.not_true, Bool.not_false, Nat.zero_add]
  by_cases h0 : s = 0
  · have : (s == 0) = true := by simpa using h0
    simp only [this, atDrew_eq, nilK_ptr, nilK_fn, fieldA_at, load1_at, orRd_some, optK_some, pickK_true, pickK_false, gopK_tt, gopK_ff, gopK_tf, gopK_ft, gopK_undef, gqK_tt, gqK_ff, gqK_tf, gqK_ft, gqK_undef, condK_true, condK_false, unK_not, binI_eql, binI_neq, binI_lss, binI_leq, binI_gtr, binI_geq, binI_add, binI_sub, binI_mul, binP_eql_none, binP_neq_none, binM_eql_none, binM_neq_none, binL_eql_none, lenL_at, convI_at, extractK_at, Option.bind_some, List.getElem?_cons_zero, List.getElem?_cons_succ, Option.isNone_some, Option.isNone_none, Bool.not_true, Bool.not_false, Nat.zero_add]
    simpa [h0] using hk
  · have h00 : (s == 0) = false := by simpa using h0
    simp only [h00, atDrew_eq, nilK_ptr, nilK_fn, fieldA_at, load1_at, orRd_some, optK_some, pickK_true, pickK_false, gopK_tt, gopK_ff, gopK_tf, gopK_ft, gopK_undef, gqK_tt, gqK_ff, gqK_tf, gqK_ft, gqK_undef, condK_true, condK_false, unK_not, binI_eql, binI_neq, binI_lss, binI_leq, binI_gtr, binI_geq, binI_add, binI_sub, binI_mul, binP_eql_none, binP_neq_none, binM_eql_none, binM_neq_none, binL_eql_none, lenL_at, convI_at, extractK_at, Option.bind_some, List.getElem?_cons_zero, List.getElem?_cons_succ, Option.isNone_some, Option.isNone_none, Bool.not_true, Bool.not_false, Nat.zero_add]
    refine side_c h s ?_
    cases hs : a.side s with
    | false =>
      simp only [atDrew_eq, nilK_ptr, nilK_fn, fieldA_at, load1_at, orRd_some, optK_some, pickK_true, pickK_false, gopK_tt, gopK_ff, gopK_tf, gopK_ft, gopK_undef, gqK_tt, gqK_ff, gqK_tf, gqK_ft, gqK_undef, condK_true, condK_false, unK_not, binI_eql, binI_neq, binI_lss, binI_leq, binI_gtr, binI_geq, binI_add, binI_sub, binI_mul, binP_eql_none, binP_neq_none, binM_eql_none, binM_neq_none, binL_eql_none, lenL_at, convI_at, extractK_at, Option.bind_some, List.getElem?_cons_zero, List.getElem?_cons_succ, Option.isNone_some, Option.isNone_none, Bool.not_true, Bool.not_false, Nat.zero_add]
      simpa [hs] using hk
    | true =>
      rw [hs] at hk
      simp only [AW.side, Bool.and_eq_true, decide_eq_true_eq] at hs
      unfold AW.sides at hs
      have h3 := h.len3
      have h2 := h.len2
      have hw : IntKind.i64.wrap (s - 1) = s - 1 := wrap64_id (by omega) (by omega)
      have hlen : s - 1 < ((a.parents.map vi).length : Int) := by simp; omega
      obtain ⟨b, i, c, hix, _, hc, _, hci, _⟩ := h.par.place (j := s - 1) (by omega) hlen
      have hlt : (s - 1).toNat < a.parents.length := by simp at hlen; omega
      have hv : c[i]? = some (vi (a.parents.getD (s.toNat - 1) 0)) := by
        have e1 : (s - 1).toNat = s.toNat - 1 := by omega
        rw [e1] at hlt
        rw [hci, e1]
        simp [hlt, List.getD_eq_getElem?_getD]
      simp only [atDrew_eq, nilK_ptr, nilK_fn, fieldA_at, load1_at, orRd_some, optK_some, pickK_true, pickK_false, gopK_tt, gopK_ff, gopK_tf, gopK_ft, gopK_undef, gqK_tt, gqK_ff, gqK_tf, gqK_ft, gqK_undef, condK_true, condK_false, unK_not, binI_eql, binI_neq, binI_lss, binI_leq, binI_gtr, binI_geq, binI_add, binI_sub, binI_mul, binP_eql_none, binP_neq_none, binM_eql_none, binM_neq_none, binL_eql_none, lenL_at, convI_at, extractK_at, Option.bind_some, List.getElem?_cons_zero, List.getElem?_cons_succ, Option.isNone_some, Option.isNone_none, Bool.not_true, Bool.not_false, Nat.zero_add, h.top, hw, hix, hc, hv]
      simpa [h0] using hk

/-- a cut edge, among the plain data -/
def AW.cutEdge (a : AW) (n : Int) : AW := { a with cut := a.cut.set n.toNat true }

theorem foot_cutEdge (L : Lay) (a : AW) (n : Int) : foot L (AW.cutEdge a n) = foot L a := rfl

theorem cutEdge_no (h : WRep w L a) (n : Int) (he : AW.edge a n = false) (hk : k (vi 2) w) : callOn prog fn_World_CutEdge #[ptr L.p, vi n] w k := by
  apply F_World_CutEdge_on
  unfold F_World_CutEdge
  refine none_c h ?_
  simp only [atDrew_eq, nilK_ptr, nilK_fn, fieldA_at, load1_at, orRd_some, optK_some, pickK_true, pickK_false, gopK_tt, gopK_ff, gopK_tf, gopK_ft, gopK_undef, gqK_tt, gqK_ff, gqK_tf, gqK_ft, gqK_undef, condK_true, condK_false, unK_not, binI_eql, binI_neq, binI_lss, binI_leq, binI_gtr, binI_geq, binI_add, binI_sub, binI_mul, binP_eql_none, binP_neq_none, binM_eql_none, binM_neq_none, binL_eql_none, lenL_at, convI_at, extractK_at, Option.bind_some, List.getElem?_cons_zero, List.getElem?_cons_succ, Option.isNone_some, Option.isNone_none, Bool.not_true, Bool.not_false, Nat.zero_add]
  refine edge_c h n ?_
  simp only [he, atDrew_eq, nilK_ptr, nilK_fn, fieldA_at, load1_at, orRd_some, optK_some, pickK_true, pickK_false, gopK_tt, gopK_ff, gopK_tf, gopK_ft, gopK_undef, gqK_tt, gqK_ff, gqK_tf, gqK_ft, gqK_undef, condK_true, condK_false, unK_not, binI_eql, binI_neq, binI_lss, binI_leq, binI_gtr, binI_geq, binI_add, binI_sub, binI_mul, binP_eql_none, binP_neq_none, binM_eql_none, binM_neq_none, binL_eql_none, lenL_at, convI_at, extractK_at, Option.bind_some, List.getElem?_cons_zero, List.getElem?_cons_succ, Option.isNone_some, Option.isNone_none, Bool.not_true, Bool.not_false, Nat.zero_add]
  exact hk

theorem nodup_sep {L : Lay} {a : AW} (h : (foot L a).Nodup) {b : Nat} (hb : b ∈ sliceBlk L.cut) : b ≠ L.p ∧ b ≠ L.bm ∧ b ≠ L.bf ∧ (∀ c ∈ sliceBlk L.par, b ≠ c) ∧ (∀ c ∈ sliceBlk L.made, b ≠ c) ∧ ∀ t ∈ a.things, b ≠ L.bk t.1 := by
  simp only [foot, List.nodup_cons, List.mem_cons, List.mem_append, not_or, List.nodup_append, List.mem_map, not_exists, not_and] at h
  obtain ⟨⟨p1, p2, p3, p4, p5, p6⟩, ⟨m1, m2, m3, m4, m5⟩, ⟨f1, f2, f3, f4⟩, h1, ⟨h2, ⟨h3, h4, h5⟩, h6⟩, h7⟩ := h
  refine ⟨fun e => p4 (e ▸ hb), fun e => m3 (e ▸ hb), fun e => f2 (e ▸ hb), fun c hc e => ?_, fun c hc e => ?_, fun t ht e => ?_⟩
  · exact (h7 c hc b (.inl hb)) e.symm
  · exact (h6 b hb c (.inl hc)) e
  · exact (h6 b hb (L.bk t.1) (.inr ⟨t, ht, rfl⟩)) e

theorem cutEdge_yes (h : WRep w L a) (n : Int) (he : AW.edge a n = true) (hk : ∀ w', Keeps (fun b => b ∈ sliceBlk L.cut) w w' → WRep w' L (AW.cutEdge a n) → k (vi 0) w') :
    callOn prog fn_World_CutEdge #[ptr L.p, vi n] w k := by
  apply F_World_CutEdge_on
  unfold F_World_CutEdge
  refine none_c h ?_
  simp only [atDrew_eq, nilK_ptr, nilK_fn, fieldA_at, load1_at, orRd_some, optK_some, pickK_true, pickK_false, gopK_tt, gopK_ff, gopK_tf, gopK_ft, gopK_undef, gqK_tt, gqK_ff, gqK_tf, gqK_ft, gqK_undef, condK_true, condK_false, unK_not, binI_eql, binI_neq, binI_lss, binI_leq, binI_gtr, binI_geq, binI_add, binI_sub, binI_mul, binP_eql_none, binP_neq_none, binM_eql_none, binM_neq_none, binL_eql_none, lenL_at, convI_at, extractK_at, Option.bind_some, List.getElem?_cons_zero, List.getElem?_cons_succ, Option.isNone_some, Option.isNone_none, Bool.not_true, Bool.not_false, Nat.zero_add]
  refine edge_c h n ?_
  simp only [he, atDrew_eq, nilK_ptr, nilK_fn, fieldA_at, load1_at, orRd_some, optK_some, pickK_true, pickK_false, gopK_tt, gopK_ff, gopK_tf, gopK_ft, gopK_undef, gqK_tt, gqK_ff, gqK_tf, gqK_ft, gqK_undef, condK_true, condK_false, unK_not, binI_eql, binI_neq, binI_lss, binI_leq, binI_gtr, binI_geq, binI_add, binI_sub, binI_mul, binP_eql_none, binP_neq_none, binM_eql_none, binM_neq_none, binL_eql_none, lenL_at, convI_at, extractK_at, Option.bind_some, List.getElem?_cons_zero, List.getElem?_cons_succ, Option.isNone_some, Option.isNone_none, Bool.not_true, Bool.not_false, Nat.zero_add, h.top]
  simp only [AW.edge, Bool.and_eq_true, decide_eq_true_eq] at he
  unfold AW.sides at he
  have hlen : n < ((a.cut.map Value.bool).length : Int) := by have := h.len1; simp; omega
  obtain ⟨b, i, c, hix, hb, hc, hic, hci, hset⟩ := h.cut.place (j := n) (by omega) hlen
  simp only [hix]
  refine store1_intro hc hic rfl fun w' hkp hc' hsz => ?_
  have hkp' : Keeps (fun x => x ∈ sliceBlk L.cut) w w' := hkp.mono fun x _ hx => by subst hx; exact hb
  refine hk w' hkp' ?_
  obtain ⟨s1, s2, s3, s4, s5, s6⟩ := nodup_sep h.apart hb
  exact { h with
    top := hkp.cells h.top (Ne.symm s1)
    par := h.par.keeps hkp fun x hx e => s4 x hx e.symm
    cut := by have := hset w' _ hc'; simpa [AW.cutEdge, List.map_set] using this
    made := h.made.keeps hkp fun x hx e => s5 x hx e.symm
    things := hkp.map h.things (Ne.symm s2)
    facets := hkp.map h.facets (Ne.symm s3)
    cells := fun t ht => hkp.cells (h.cells t ht) (Ne.symm (s6 t ht))
    len1 := by simpa [AW.cutEdge] using h.len1 }

theorem fkey_eq (t s t' s' : Int) : keyEq (fkey t s) (fkey t' s') = some (t == t' && s == s') := by simp [keyEq, fkey]

theorem WRep.fac (h : WRep w L a) {e : MapEntry} (he : e ∈ L.fs) : ∃ t ∈ a.things, t.2.kind = 14 ∧ e.key = fkey t.2.of t.2.set ∧ e.val = vi t.1 := by
  have : kv e ∈ (a.things.filter fun t => t.2.kind == 14).map fun t => (fkey t.2.of t.2.set, vi t.1) := h.facs.subset (List.mem_map_of_mem he)
  obtain ⟨t, ht, hkv⟩ := List.mem_map.1 this
  simp only [kv, Prod.mk.injEq] at hkv
  obtain ⟨h1, h2⟩ := List.mem_filter.1 ht
  exact ⟨t, h1, by simpa using h2, hkv.1.symm, hkv.2.symm⟩

theorem WRep.fac_of (h : WRep w L a) {t : Int × Wh} (ht : t ∈ a.things) (hk : t.2.kind = 14) : ∃ e ∈ L.fs, e.key = fkey t.2.of t.2.set ∧ e.val = vi t.1 := by
  have : (fkey t.2.of t.2.set, vi t.1) ∈ L.fs.map kv := h.facs.symm.subset (List.mem_map_of_mem (f := fun t => (fkey t.2.of t.2.set, vi t.1)) (List.mem_filter.2 ⟨ht, by simpa using hk⟩))
  obtain ⟨e, he, hkv⟩ := List.mem_map.1 this
  simp only [kv, Prod.mk.injEq] at hkv
  exact ⟨e, he, hkv.1, hkv.2⟩

theorem WRep.findF_none (h : WRep w L a) {t s : Int} (hf : a.find t s = none) : findK (fkey t s) L.fs 0 = some none :=
  findK_miss fun e he => by
    obtain ⟨x, hx, hk, hkey, _⟩ := h.fac he
    rw [hkey, fkey_eq]
    simp only [AW.find, Option.map_eq_none_iff, List.find?_eq_none] at hf
    have := hf x hx
    simp only [hk, beq_self_eq_true, Bool.true_and, Bool.and_eq_true, beq_iff_eq, not_and] at this
    simp only [Option.some.injEq, Bool.and_eq_false_iff, beq_eq_false_iff_ne]
    by_cases h1 : t = x.2.of
    · exact .inr fun h2 => this h1.symm h2.symm
    · exact .inl h1

theorem find_mem {a : AW} {t s r : Int} (hf : a.find t s = some r) : ∃ x, (r, x) ∈ a.things ∧ x.kind = 14 ∧ x.of = t ∧ x.set = s := by
  simp only [AW.find, Option.map_eq_some_iff] at hf
  obtain ⟨y, hy, rfl⟩ := hf
  have h1 := List.mem_of_find?_eq_some hy
  have h2 := List.find?_some hy
  simp only [Bool.and_eq_true, beq_iff_eq] at h2
  exact ⟨y.2, h1, h2.1.1, h2.1.2, h2.2⟩

theorem WRep.findF_some (h : WRep w L a) (ho : OneFacet a) {t s r : Int} (hf : a.find t s = some r) : ∃ j, findK (fkey t s) L.fs 0 = some (some (j, vi r)) := by
  obtain ⟨x, hx, hk, h1, h2⟩ := find_mem hf
  obtain ⟨e, he, hkey, hv⟩ := h.fac_of hx hk
  obtain ⟨j, e2, g1, g2, g3, g4⟩ := findK_hit (key := fkey t s) (es := L.fs) (i := 0) (fun e he => by
    obtain ⟨y, hy, _, hkey, _⟩ := h.fac he
    rw [hkey, fkey_eq]; rfl) ⟨e, he, by rw [hkey, fkey_eq]; simp [h1, h2]⟩
  obtain ⟨y, hy, hyk, hkey2, hv2⟩ := h.fac (List.mem_of_getElem? g3)
  rw [hkey2, fkey_eq] at g4
  simp only [Option.some.injEq, Bool.and_eq_true, beq_iff_eq] at g4
  have : y = (r, x) := ho y hy (r, x) hx hyk hk (by rw [← g4.1, h1]) (by rw [← g4.2, h2])
  subst this
  exact ⟨j, by rw [g1, hv2]⟩

theorem find_c (h : WRep w L a) (ho : OneFacet a) (t s : Int) (hk : k (.tuple #[vi ((a.find t s).getD 0), .bool (a.find t s).isSome]) w) : callOn prog fn_World_Find #[ptr L.p, vi t, vb s] w k := by
  apply F_World_Find_on
  unfold F_World_Find
  refine none_c h ?_
  have hb : ∀ q : Value → Prop, buildS (.agg #[vi 0, vb 0]) [(0, 1), (1, 1)] [(0, vi t), (1, vb s)] q = q (fkey t s) := fun q => rfl
  simp only [atDrew_eq, nilK_ptr, nilK_fn, fieldA_at, load1_at, orRd_some, optK_some, pickK_true, pickK_false, gopK_tt, gopK_ff, gopK_tf, gopK_ft, gopK_undef, gqK_tt, gqK_ff, gqK_tf, gqK_ft, gqK_undef, condK_true, condK_false, unK_not, binI_eql, binI_neq, binI_lss, binI_leq, binI_gtr, binI_geq, binI_add, binI_sub, binI_mul, binP_eql_none, binP_neq_none, binM_eql_none, binM_neq_none, binL_eql_none, lenL_at, convI_at, extractK_at, Option.bind_some, List.getElem?_cons_zero, List.getElem?_cons_succ, Option.isNone_some, Option.isNone_none, Bool.not_true, Bool.not_false, Nat.zero_add, h.top]
  rw [hb]
  cases hf : a.find t s with
  | none =>
    rw [hf] at hk
    simp only [lookM, h.facets, h.findF_none hf, foundM]
    refine ⟨rfl, ?_⟩
    simp only [if_true, atDrew_eq, nilK_ptr, nilK_fn, fieldA_at, load1_at, orRd_some, optK_some, pickK_true, pickK_false, gopK_tt, gopK_ff, gopK_tf, gopK_ft, gopK_undef, gqK_tt, gqK_ff, gqK_tf, gqK_ft, gqK_undef, condK_true, condK_false, unK_not, binI_eql, binI_neq, binI_lss, binI_leq, binI_gtr, binI_geq, binI_add, binI_sub, binI_mul, binP_eql_none, binP_neq_none, binM_eql_none, binM_neq_none, binL_eql_none, lenL_at, convI_at, extractK_at, Option.bind_some, List.getElem?_cons_zero, List.getElem?_cons_succ, Option.isNone_some, Option.isNone_none, Bool.not_true, Bool.not_false, Nat.zero_add]
    exact hk
  | some r =>
    rw [hf] at hk
    obtain ⟨j, hj⟩ := h.findF_some ho hf
    simp only [lookM, h.facets, hj, foundM]
    refine ⟨rfl, ?_⟩
    simp only [if_true, atDrew_eq, nilK_ptr, nilK_fn, fieldA_at, load1_at, orRd_some, optK_some, pickK_true, pickK_false, gopK_tt, gopK_ff, gopK_tf, gopK_ft, gopK_undef, gqK_tt, gqK_ff, gqK_tf, gqK_ft, gqK_undef, condK_true, condK_false, unK_not, binI_eql, binI_neq, binI_lss, binI_leq, binI_gtr, binI_geq, binI_add, binI_sub, binI_mul, binP_eql_none, binP_neq_none, binM_eql_none, binM_neq_none, binL_eql_none, lenL_at, convI_at, extractK_at, Option.bind_some, List.getElem?_cons_zero, List.getElem?_cons_succ, Option.isNone_some, Option.isNone_none, Bool.not_true, Bool.not_false, Nat.zero_add]
    exact hk
end
end Go.X
/- Contracts: sets of abilities, the way to a base. -/
set_option linter.unusedSimpArgs false
set_option linter.unusedVariables false
namespace Go.X
open Go Go.AW

theorem bv8 {a : Int} (h0 : 0 ≤ a) (h : a < 256) : BitVec.ofInt 8 a = BitVec.ofNat 8 a.toNat := by
  obtain ⟨n, rfl⟩ := Int.eq_ofNat_of_zero_le h0
  simp

theorem wrap8 {n : Int} (h0 : 0 ≤ n) (h : n < 256) : IntKind.u8.wrap n = n := by
  simp [IntKind.wrap, IntKind.signed, IntKind.bits]
  omega

theorem and_lt8 {m n : Nat} (h : m < 256) : m &&& n < 256 := Nat.lt_of_le_of_lt Nat.and_le_left h

theorem meet_range {a b : Int} (h0 : 0 ≤ a) (h : a < 256) : 0 ≤ meet a b ∧ meet a b < 256 := by
  have := and_lt8 (m := a.toNat) (n := b.toNat) (by omega)
  unfold meet
  omega

theorem binI_and8 {a b : Int} (ha : 0 ≤ a) (ha' : a < 256) (hb : 0 ≤ b) (hb' : b < 256) (k : Value → Prop) : binI .and (vb a) (vb b) k = k (vb (meet a b)) := by
  have h : (BitVec.ofInt 8 a &&& BitVec.ofInt 8 b).toNat = a.toNat &&& b.toNat := by
    rw [bv8 ha ha', bv8 hb hb', BitVec.toNat_and, BitVec.toNat_ofNat, BitVec.toNat_ofNat, Nat.mod_eq_of_lt (by omega), Nat.mod_eq_of_lt (by omega)]
  have hw : IntKind.u8.wrap ((a.toNat &&& b.toNat : Nat) : Int) = ((a.toNat &&& b.toNat : Nat) : Int) := wrap8 (by omega) (by have := and_lt8 (m := a.toNat) (n := b.toNat) (by omega); omega)
  simp only [binI, binInt, bitsOf, if_true]
  show k (.int .u8 (IntKind.u8.wrap (((BitVec.ofInt 8 a &&& BitVec.ofInt 8 b).toNat : Nat) : Int))) = _
  rw [h, hw]
  rfl

theorem binI_andNot8 {a b : Int} (ha : 0 ≤ a) (ha' : a < 256) (hb : 0 ≤ b) (hb' : b < 256) (k : Value → Prop) : binI .andNot (vb a) (vb b) k = k (vb (without a b)) := by
  have h : (BitVec.ofInt 8 a &&& ~~~BitVec.ofInt 8 b).toNat = a.toNat &&& (255 - b.toNat) := by
    rw [bv8 ha ha', bv8 hb hb', BitVec.toNat_and, BitVec.toNat_not, BitVec.toNat_ofNat, BitVec.toNat_ofNat, Nat.mod_eq_of_lt (by omega), Nat.mod_eq_of_lt (by omega)]
  have hw : IntKind.u8.wrap ((a.toNat &&& (255 - b.toNat) : Nat) : Int) = ((a.toNat &&& (255 - b.toNat) : Nat) : Int) := wrap8 (by omega) (by have := and_lt8 (m := a.toNat) (n := 255 - b.toNat) (by omega); omega)
  simp only [binI, binInt, bitsOf, if_true]
  show k (.int .u8 (IntKind.u8.wrap (((BitVec.ofInt 8 a &&& ~~~BitVec.ofInt 8 b).toNat : Nat) : Int))) = _
  rw [h, hw]
  rfl

def join (a b : Int) : Int := (a.toNat ||| b.toNat : Nat)

theorem or_lt8 {m n : Nat} (h : m < 256) (h' : n < 256) : m ||| n < 256 := Nat.or_lt_two_pow (n := 8) h h'

theorem binI_or8 {a b : Int} (ha : 0 ≤ a) (ha' : a < 256) (hb : 0 ≤ b) (hb' : b < 256) (k : Value → Prop) : binI .or (vb a) (vb b) k = k (vb (join a b)) := by
  have h : (BitVec.ofInt 8 a ||| BitVec.ofInt 8 b).toNat = a.toNat ||| b.toNat := by
    rw [bv8 ha ha', bv8 hb hb', BitVec.toNat_or, BitVec.toNat_ofNat, BitVec.toNat_ofNat, Nat.mod_eq_of_lt (by omega), Nat.mod_eq_of_lt (by omega)]
  have hw : IntKind.u8.wrap ((a.toNat ||| b.toNat : Nat) : Int) = ((a.toNat ||| b.toNat : Nat) : Int) := wrap8 (by omega) (by have := or_lt8 (m := a.toNat) (n := b.toNat) (by omega) (by omega); omega)
  simp only [binI, binInt, bitsOf, if_true]
  show k (.int .u8 (IntKind.u8.wrap (((BitVec.ofInt 8 a ||| BitVec.ofInt 8 b).toNat : Nat) : Int))) = _
  rw [h, hw]
  rfl

/-- a slice of the call's own, written out -/
theorem buildL_intro {e : Nat} {z : Value} {n : Nat} {parts : List (Nat × Value)} {cs : List Value} {w : World} {k : Value → World → Prop} (hn : n ≤ 16777216) (hf : Instr.fill (fun j => some (j * 1, 1)) (zerosOf (if n * 1 = 0 then #[] else z.cells) (n * 1)) parts = some cs.toArray) (hl : cs.length = n)
    (h : ∀ b w', Ext w w' → w.heap.size ≤ b → b < w'.heap.size → cellsOf w' b = some cs → SliceOf w' (.slice (some ⟨b, 0, none⟩) n n) cs → k (.slice (some ⟨b, 0, none⟩) n n) w') : buildL e 1 z n parts w k := by
  unfold buildL
  refine ⟨by omega, ?_⟩
  rw [hf]
  have hc := cellsOf_new w cs.toArray e
  simp only [List.toList_toArray] at hc
  exact h _ _ (.alloc _ _) (Nat.le_refl _) (by simp) hc ⟨Nat.le_refl _, cs, hc, hl.symm, by rw [List.drop_zero]; exact List.take_of_length_le (by omega), by simp [hl]⟩

section
variable {w : World} {L : Lay} {a : AW} {k : Value → World → Prop}

theorem SliceOf.lenL {v : Value} {l : List Value} (h : SliceOf w v l) (q : Value → Prop) : lenL v q = q (vi l.length) := by
  unfold SliceOf at h
  split at h
  · obtain ⟨rfl, _, rfl⟩ := h; rfl
  · obtain ⟨_, _, _, rfl, _⟩ := h; rfl
  · exact h.elim

def bytes (l : List Int) : Prop := ∀ x ∈ l, 0 ≤ x ∧ x < 256

theorem foldl_meet_range : ∀ (l : List Int) (x : Int), 0 ≤ x → x < 256 → 0 ≤ l.foldl meet x ∧ l.foldl meet x < 256
  | [], x, h0, h => ⟨h0, h⟩
  | y :: l, x, h0, h => by
    have := meet_range (b := y) h0 h
    exact foldl_meet_range l _ this.1 this.2

theorem foldl_take_succ {β : Type} (f : β → Int → β) (x : β) (l : List Int) {i : Nat} (h : i < l.length) : (l.take (i + 1)).foldl f x = f ((l.take i).foldl f x) (l.getD i 0) := by
  rw [List.take_succ_eq_append_getElem h, List.foldl_append]
  simp [List.getD_eq_getElem?_getD, h]

theorem meet_c {v : Value} {l : List Int} (h : SliceOf w v (l.map vb)) (hb : bytes l) (hlen : l.length < 4611686018427387904) (hk : k (vb (l.foldl meet 63)) w) : callOn prog fn_able_Meet #[v] w k := by
  apply F_able_Meet_on
  unfold F_able_Meet
  rw [h.lenL, List.length_map]
  refine ⟨fun m e w' => ∃ i : Nat, i ≤ l.length ∧ m = l.length - i ∧ e 8 = vi i ∧ e 7 = vi l.length ∧ e 6 = v ∧ e 3 = vb ((l.take i).foldl meet 63) ∧ w' = w, l.length, ⟨0, by omega, by omega, rfl, rfl, rfl, rfl, rfl⟩, ?_⟩
  rintro m e w' ⟨i, hi, rfl, h8, h7, h6, h3, rfl⟩
  simp only [h8, h7, h6, h3, atDrew_eq, nilK_ptr, nilK_fn, fieldA_at, load1_at, orRd_some, optK_some, pickK_true, pickK_false, gopK_tt, gopK_ff, gopK_tf, gopK_ft, gopK_undef, gqK_tt, gqK_ff, gqK_tf, gqK_ft, gqK_undef, condK_true, condK_false, unK_not, binI_eql, binI_neq, binI_lss, binI_leq, binI_gtr, binI_geq, binI_add, binI_sub, binI_mul, binP_eql_none, binP_neq_none, binM_eql_none, binM_neq_none, binL_eql_none, lenL_at, convI_at, extractK_at, Option.bind_some, List.getElem?_cons_zero, List.getElem?_cons_succ, Option.isNone_some, Option.isNone_none, Bool.not_true, Bool.not_false, Nat.zero_add]
  by_cases hlt : i < l.length
  · have hd : decide ((i : Int) < (l.length : Int)) = true := by simpa using hlt
    obtain ⟨b, o, c, hix, _, hc, _, hci, _⟩ := h.place (j := (i : Int)) (by omega) (by simpa using hlt)
    have hv : c[o]? = some (vb (l.getD i 0)) := by rw [hci]; simp [hlt, List.getD_eq_getElem?_getD]
    have hr := foldl_meet_range (l.take i) 63 (by omega) (by omega)
    have hx := hb (l.getD i 0) (by simp [List.getD_eq_getElem?_getD, hlt])
    have hw : IntKind.i64.wrap ((i : Int) + 1) = ((i + 1 : Nat) : Int) := by rw [wrap64_id (by omega) (by omega)]; omega
    simp only [hd, atDrew_eq, nilK_ptr, nilK_fn, fieldA_at, load1_at, orRd_some, optK_some, pickK_true, pickK_false, gopK_tt, gopK_ff, gopK_tf, gopK_ft, gopK_undef, gqK_tt, gqK_ff, gqK_tf, gqK_ft, gqK_undef, condK_true, condK_false, unK_not, binI_eql, binI_neq, binI_lss, binI_leq, binI_gtr, binI_geq, binI_add, binI_sub, binI_mul, binP_eql_none, binP_neq_none, binM_eql_none, binM_neq_none, binL_eql_none, lenL_at, convI_at, extractK_at, Option.bind_some, List.getElem?_cons_zero, List.getElem?_cons_succ, Option.isNone_some, Option.isNone_none, Bool.not_true, Bool.not_false, Nat.zero_add, hix, hc, hv, binI_and8 hr.1 hr.2 hx.1 hx.2, hw]
    refine ⟨l.length - (i + 1), by omega, i + 1, by omega, rfl, rfl, h7, h6, ?_, trivial⟩
    rw [foldl_take_succ _ _ _ hlt]
    rfl
  · have hd : decide ((i : Int) < (l.length : Int)) = false := by simpa using hlt
    have : i = l.length := by omega
    subst this
    simp only [hd, atDrew_eq, nilK_ptr, nilK_fn, fieldA_at, load1_at, orRd_some, optK_some, pickK_true, pickK_false, gopK_tt, gopK_ff, gopK_tf, gopK_ft, gopK_undef, gqK_tt, gqK_ff, gqK_tf, gqK_ft, gqK_undef, condK_true, condK_false, unK_not, binI_eql, binI_neq, binI_lss, binI_leq, binI_gtr, binI_geq, binI_add, binI_sub, binI_mul, binP_eql_none, binP_neq_none, binM_eql_none, binM_neq_none, binL_eql_none, lenL_at, convI_at, extractK_at, Option.bind_some, List.getElem?_cons_zero, List.getElem?_cons_succ, Option.isNone_some, Option.isNone_none, Bool.not_true, Bool.not_false, Nat.zero_add, List.take_length]
    exact hk

theorem join_range {a b : Int} (h0 : 0 ≤ a) (h : a < 256) (h0' : 0 ≤ b) (h' : b < 256) : 0 ≤ join a b ∧ join a b < 256 := by
  have := or_lt8 (m := a.toNat) (n := b.toNat) (by omega) (by omega)
  unfold join
  omega

def joins (x y : Int) : Int := join x (meet y 63)

theorem foldl_joins_range : ∀ (l : List Int) (x : Int), bytes l → 0 ≤ x → x < 256 → 0 ≤ l.foldl joins x ∧ l.foldl joins x < 256
  | [], x, _, h0, h => ⟨h0, h⟩
  | y :: l, x, hb, h0, h => by
    have hy := hb y (by simp)
    have hm := meet_range (b := 63) hy.1 hy.2
    have := join_range h0 h hm.1 hm.2
    exact foldl_joins_range l _ (fun z hz => hb z (by simp [hz])) this.1 this.2

theorem join_c {v : Value} {l : List Int} (h : SliceOf w v (l.map vb)) (hb : bytes l) (hlen : l.length < 4611686018427387904) (hk : k (vb (l.foldl joins 0)) w) : callOn prog fn_able_Join #[v] w k := by
  apply F_able_Join_on
  unfold F_able_Join
  rw [h.lenL, List.length_map]
  refine ⟨fun m e w' => ∃ i : Nat, i ≤ l.length ∧ m = l.length - i ∧ e 8 = vi i ∧ e 7 = vi l.length ∧ e 6 = v ∧ e 3 = vb ((l.take i).foldl joins 0) ∧ w' = w, l.length, ⟨0, by omega, by omega, rfl, rfl, rfl, rfl, rfl⟩, ?_⟩
  rintro m e w' ⟨i, hi, rfl, h8, h7, h6, h3, rfl⟩
  simp only [h8, h7, h6, h3, atDrew_eq, nilK_ptr, nilK_fn, fieldA_at, load1_at, orRd_some, optK_some, pickK_true, pickK_false, gopK_tt, gopK_ff, gopK_tf, gopK_ft, gopK_undef, gqK_tt, gqK_ff, gqK_tf, gqK_ft, gqK_undef, condK_true, condK_false, unK_not, binI_eql, binI_neq, binI_lss, binI_leq, binI_gtr, binI_geq, binI_add, binI_sub, binI_mul, binP_eql_none, binP_neq_none, binM_eql_none, binM_neq_none, binL_eql_none, lenL_at, convI_at, extractK_at, Option.bind_some, List.getElem?_cons_zero, List.getElem?_cons_succ, Option.isNone_some, Option.isNone_none, Bool.not_true, Bool.not_false, Nat.zero_add]
  by_cases hlt : i < l.length
  · have hd : decide ((i : Int) < (l.length : Int)) = true := by simpa using hlt
    obtain ⟨b, o, c, hix, _, hc, _, hci, _⟩ := h.place (j := (i : Int)) (by omega) (by simpa using hlt)
    have hv : c[o]? = some (vb (l.getD i 0)) := by rw [hci]; simp [hlt, List.getD_eq_getElem?_getD]
    have hr := foldl_joins_range (l.take i) 0 (fun z hz => hb z (List.mem_of_mem_take hz)) (by omega) (by omega)
    have hx := hb (l.getD i 0) (by simp [List.getD_eq_getElem?_getD, hlt])
    have hm := meet_range (b := 63) hx.1 hx.2
    have hw : IntKind.i64.wrap ((i : Int) + 1) = ((i + 1 : Nat) : Int) := by rw [wrap64_id (by omega) (by omega)]; omega
    simp only [hd, atDrew_eq, nilK_ptr, nilK_fn, fieldA_at, load1_at, orRd_some, optK_some, pickK_true, pickK_false, gopK_tt, gopK_ff, gopK_tf, gopK_ft, gopK_undef, gqK_tt, gqK_ff, gqK_tf, gqK_ft, gqK_undef, condK_true, condK_false, unK_not, binI_eql, binI_neq, binI_lss, binI_leq, binI_gtr, binI_geq, binI_add, binI_sub, binI_mul, binP_eql_none, binP_neq_none, binM_eql_none, binM_neq_none, binL_eql_none, lenL_at, convI_at, extractK_at, Option.bind_some, List.getElem?_cons_zero, List.getElem?_cons_succ, Option.isNone_some, Option.isNone_none, Bool.not_true, Bool.not_false, Nat.zero_add, hix, hc, hv, binI_and8 hx.1 hx.2 (show (0 : Int) ≤ 63 by omega) (show (63 : Int) < 256 by omega), binI_or8 hr.1 hr.2 hm.1 hm.2, hw]
    refine ⟨l.length - (i + 1), by omega, i + 1, by omega, rfl, rfl, h7, h6, ?_, trivial⟩
    rw [foldl_take_succ _ _ _ hlt]
    rfl
  · have hd : decide ((i : Int) < (l.length : Int)) = false := by simpa using hlt
    have : i = l.length := by omega
    subst this
    simp only [hd, atDrew_eq, nilK_ptr, nilK_fn, fieldA_at, load1_at, orRd_some, optK_some, pickK_true, pickK_false, gopK_tt, gopK_ff, gopK_tf, gopK_ft, gopK_undef, gqK_tt, gqK_ff, gqK_tf, gqK_ft, gqK_undef, condK_true, condK_false, unK_not, binI_eql, binI_neq, binI_lss, binI_leq, binI_gtr, binI_geq, binI_add, binI_sub, binI_mul, binP_eql_none, binP_neq_none, binM_eql_none, binM_neq_none, binL_eql_none, lenL_at, convI_at, extractK_at, Option.bind_some, List.getElem?_cons_zero, List.getElem?_cons_succ, Option.isNone_some, Option.isNone_none, Bool.not_true, Bool.not_false, Nat.zero_add, List.take_length]
    exact hk

theorem build_bytes {e : Nat} {parts : List (Nat × Value)} {l : List Int} (hf : Instr.fill (fun j => some (j * 1, 1)) (zerosOf (if l.length * 1 = 0 then #[] else (vb 0).cells) (l.length * 1)) parts = some (l.map vb).toArray) (hn : l.length ≤ 16777216)
    (h : ∀ v w', Ext w w' → SliceOf w' v (l.map vb) → k v w') : buildL e 1 (vb 0) l.length parts w k :=
  buildL_intro hn hf (by simp) fun b w' he _ _ _ hs => h _ _ he hs

theorem can_c (q : Int) (hk : ∀ w', Ext w w' → k (vb (can q)) w') : callOn prog fn_world_can #[vb q] w k := by
  apply F_world_can_on
  unfold F_world_can
  have two : ∀ (x y : Int), bytes [x, y] → ∀ {e : Nat}, can q = [x, y].foldl joins 0 → buildL e 1 (vb 0) 2 [(0, vb x), (1, vb y)] w (fun t w => callOn prog fn_able_Join #[t] w fun t w => k t w) := by
    intro x y hb e hc
    refine build_bytes (l := [x, y]) (by kernel_rfl) (by simp) fun v w' he hs => ?_
    refine join_c hs hb (by simp) ?_
    rw [← hc]
    exact hk w' he
  have three : ∀ (x y z : Int), bytes [x, y, z] → ∀ {e : Nat}, can q = [x, y, z].foldl joins 0 → buildL e 1 (vb 0) 3 [(0, vb x), (1, vb y), (2, vb z)] w (fun t w => callOn prog fn_able_Join #[t] w fun t w => k t w) := by
    intro x y z hb e hc
    refine build_bytes (l := [x, y, z]) (by kernel_rfl) (by simp) fun v w' he hs => ?_
    refine join_c hs hb (by simp) ?_
    rw [← hc]
    exact hk w' he
  have b2 : ∀ x y : Int, 0 ≤ x → x < 256 → 0 ≤ y → y < 256 → bytes [x, y] := by
    intro x y _ _ _ _ z hz
    simp at hz
    rcases hz with rfl | rfl <;> omega
  have hr := hk w .refl
  have nb : ∀ c : Int, q ≠ c → (q == c) = false := fun c h => by simpa using h
  by_cases h1 : q = 1
  · subst h1
    simp only [atDrew_eq, nilK_ptr, nilK_fn, fieldA_at, load1_at, orRd_some, optK_some, pickK_true, pickK_false, gopK_tt, gopK_ff, gopK_tf, gopK_ft, gopK_undef, gqK_tt, gqK_ff, gqK_tf, gqK_ft, gqK_undef, condK_true, condK_false, unK_not, binI_eql, binI_neq, binI_lss, binI_leq, binI_gtr, binI_geq, binI_add, binI_sub, binI_mul, binP_eql_none, binP_neq_none, binM_eql_none, binM_neq_none, binL_eql_none, lenL_at, convI_at, extractK_at, Option.bind_some, List.getElem?_cons_zero, List.getElem?_cons_succ, Option.isNone_some, Option.isNone_none, Bool.not_true, Bool.not_false, Nat.zero_add, upd_get, start_get, List.getD_cons_zero, List.getD_cons_succ, if_true, if_false, Int.reduceBEq, Int.reduceBNe, beq_self_eq_true, reduceIte, Nat.reduceEqDiff]
    exact two 1 2 (b2 _ _ (by omega) (by omega) (by omega) (by omega)) (by decide)
  by_cases h2 : q = 2
  · subst h2
    simp only [atDrew_eq, nilK_ptr, nilK_fn, fieldA_at, load1_at, orRd_some, optK_some, pickK_true, pickK_false, gopK_tt, gopK_ff, gopK_tf, gopK_ft, gopK_undef, gqK_tt, gqK_ff, gqK_tf, gqK_ft, gqK_undef, condK_true, condK_false, unK_not, binI_eql, binI_neq, binI_lss, binI_leq, binI_gtr, binI_geq, binI_add, binI_sub, binI_mul, binP_eql_none, binP_neq_none, binM_eql_none, binM_neq_none, binL_eql_none, lenL_at, convI_at, extractK_at, Option.bind_some, List.getElem?_cons_zero, List.getElem?_cons_succ, Option.isNone_some, Option.isNone_none, Bool.not_true, Bool.not_false, Nat.zero_add, upd_get, start_get, List.getD_cons_zero, List.getD_cons_succ, if_true, if_false, Int.reduceBEq, Int.reduceBNe, beq_self_eq_true, reduceIte, Nat.reduceEqDiff]
    exact two 1 8 (b2 _ _ (by omega) (by omega) (by omega) (by omega)) (by decide)
  by_cases h3 : q = 3
  · subst h3
    simp only [atDrew_eq, nilK_ptr, nilK_fn, fieldA_at, load1_at, orRd_some, optK_some, pickK_true, pickK_false, gopK_tt, gopK_ff, gopK_tf, gopK_ft, gopK_undef, gqK_tt, gqK_ff, gqK_tf, gqK_ft, gqK_undef, condK_true, condK_false, unK_not, binI_eql, binI_neq, binI_lss, binI_leq, binI_gtr, binI_geq, binI_add, binI_sub, binI_mul, binP_eql_none, binP_neq_none, binM_eql_none, binM_neq_none, binL_eql_none, lenL_at, convI_at, extractK_at, Option.bind_some, List.getElem?_cons_zero, List.getElem?_cons_succ, Option.isNone_some, Option.isNone_none, Bool.not_true, Bool.not_false, Nat.zero_add, upd_get, start_get, List.getD_cons_zero, List.getD_cons_succ, if_true, if_false, Int.reduceBEq, Int.reduceBNe, beq_self_eq_true, reduceIte, Nat.reduceEqDiff]
    exact two 1 8 (b2 _ _ (by omega) (by omega) (by omega) (by omega)) (by decide)
  by_cases h4 : q = 4
  · subst h4
    simp only [atDrew_eq, nilK_ptr, nilK_fn, fieldA_at, load1_at, orRd_some, optK_some, pickK_true, pickK_false, gopK_tt, gopK_ff, gopK_tf, gopK_ft, gopK_undef, gqK_tt, gqK_ff, gqK_tf, gqK_ft, gqK_undef, condK_true, condK_false, unK_not, binI_eql, binI_neq, binI_lss, binI_leq, binI_gtr, binI_geq, binI_add, binI_sub, binI_mul, binP_eql_none, binP_neq_none, binM_eql_none, binM_neq_none, binL_eql_none, lenL_at, convI_at, extractK_at, Option.bind_some, List.getElem?_cons_zero, List.getElem?_cons_succ, Option.isNone_some, Option.isNone_none, Bool.not_true, Bool.not_false, Nat.zero_add, upd_get, start_get, List.getD_cons_zero, List.getD_cons_succ, if_true, if_false, Int.reduceBEq, Int.reduceBNe, beq_self_eq_true, reduceIte, Nat.reduceEqDiff]
    exact two 8 4 (b2 _ _ (by omega) (by omega) (by omega) (by omega)) (by decide)
  by_cases h5 : q = 5
  · subst h5
    simp only [atDrew_eq, nilK_ptr, nilK_fn, fieldA_at, load1_at, orRd_some, optK_some, pickK_true, pickK_false, gopK_tt, gopK_ff, gopK_tf, gopK_ft, gopK_undef, gqK_tt, gqK_ff, gqK_tf, gqK_ft, gqK_undef, condK_true, condK_false, unK_not, binI_eql, binI_neq, binI_lss, binI_leq, binI_gtr, binI_geq, binI_add, binI_sub, binI_mul, binP_eql_none, binP_neq_none, binM_eql_none, binM_neq_none, binL_eql_none, lenL_at, convI_at, extractK_at, Option.bind_some, List.getElem?_cons_zero, List.getElem?_cons_succ, Option.isNone_some, Option.isNone_none, Bool.not_true, Bool.not_false, Nat.zero_add, upd_get, start_get, List.getD_cons_zero, List.getD_cons_succ, if_true, if_false, Int.reduceBEq, Int.reduceBNe, beq_self_eq_true, reduceIte, Nat.reduceEqDiff]
    exact hr
  by_cases h6 : q = 6
  · subst h6
    simp only [atDrew_eq, nilK_ptr, nilK_fn, fieldA_at, load1_at, orRd_some, optK_some, pickK_true, pickK_false, gopK_tt, gopK_ff, gopK_tf, gopK_ft, gopK_undef, gqK_tt, gqK_ff, gqK_tf, gqK_ft, gqK_undef, condK_true, condK_false, unK_not, binI_eql, binI_neq, binI_lss, binI_leq, binI_gtr, binI_geq, binI_add, binI_sub, binI_mul, binP_eql_none, binP_neq_none, binM_eql_none, binM_neq_none, binL_eql_none, lenL_at, convI_at, extractK_at, Option.bind_some, List.getElem?_cons_zero, List.getElem?_cons_succ, Option.isNone_some, Option.isNone_none, Bool.not_true, Bool.not_false, Nat.zero_add, upd_get, start_get, List.getD_cons_zero, List.getD_cons_succ, if_true, if_false, Int.reduceBEq, Int.reduceBNe, beq_self_eq_true, reduceIte, Nat.reduceEqDiff]
    exact hr
  by_cases h8 : q = 8
  · subst h8
    simp only [atDrew_eq, nilK_ptr, nilK_fn, fieldA_at, load1_at, orRd_some, optK_some, pickK_true, pickK_false, gopK_tt, gopK_ff, gopK_tf, gopK_ft, gopK_undef, gqK_tt, gqK_ff, gqK_tf, gqK_ft, gqK_undef, condK_true, condK_false, unK_not, binI_eql, binI_neq, binI_lss, binI_leq, binI_gtr, binI_geq, binI_add, binI_sub, binI_mul, binP_eql_none, binP_neq_none, binM_eql_none, binM_neq_none, binL_eql_none, lenL_at, convI_at, extractK_at, Option.bind_some, List.getElem?_cons_zero, List.getElem?_cons_succ, Option.isNone_some, Option.isNone_none, Bool.not_true, Bool.not_false, Nat.zero_add, upd_get, start_get, List.getD_cons_zero, List.getD_cons_succ, if_true, if_false, Int.reduceBEq, Int.reduceBNe, beq_self_eq_true, reduceIte, Nat.reduceEqDiff]
    exact hr
  by_cases h12 : q = 12
  · subst h12
    simp only [atDrew_eq, nilK_ptr, nilK_fn, fieldA_at, load1_at, orRd_some, optK_some, pickK_true, pickK_false, gopK_tt, gopK_ff, gopK_tf, gopK_ft, gopK_undef, gqK_tt, gqK_ff, gqK_tf, gqK_ft, gqK_undef, condK_true, condK_false, unK_not, binI_eql, binI_neq, binI_lss, binI_leq, binI_gtr, binI_geq, binI_add, binI_sub, binI_mul, binP_eql_none, binP_neq_none, binM_eql_none, binM_neq_none, binL_eql_none, lenL_at, convI_at, extractK_at, Option.bind_some, List.getElem?_cons_zero, List.getElem?_cons_succ, Option.isNone_some, Option.isNone_none, Bool.not_true, Bool.not_false, Nat.zero_add, upd_get, start_get, List.getD_cons_zero, List.getD_cons_succ, if_true, if_false, Int.reduceBEq, Int.reduceBNe, beq_self_eq_true, reduceIte, Nat.reduceEqDiff]
    exact hr
  by_cases h9 : q = 9
  · subst h9
    simp only [atDrew_eq, nilK_ptr, nilK_fn, fieldA_at, load1_at, orRd_some, optK_some, pickK_true, pickK_false, gopK_tt, gopK_ff, gopK_tf, gopK_ft, gopK_undef, gqK_tt, gqK_ff, gqK_tf, gqK_ft, gqK_undef, condK_true, condK_false, unK_not, binI_eql, binI_neq, binI_lss, binI_leq, binI_gtr, binI_geq, binI_add, binI_sub, binI_mul, binP_eql_none, binP_neq_none, binM_eql_none, binM_neq_none, binL_eql_none, lenL_at, convI_at, extractK_at, Option.bind_some, List.getElem?_cons_zero, List.getElem?_cons_succ, Option.isNone_some, Option.isNone_none, Bool.not_true, Bool.not_false, Nat.zero_add, upd_get, start_get, List.getD_cons_zero, List.getD_cons_succ, if_true, if_false, Int.reduceBEq, Int.reduceBNe, beq_self_eq_true, reduceIte, Nat.reduceEqDiff]
    refine three 1 4 8 ?_ (by decide)
    intro z hz
    simp at hz
    rcases hz with rfl | rfl | rfl <;> omega
  by_cases h10 : q = 10
  · subst h10
    simp only [atDrew_eq, nilK_ptr, nilK_fn, fieldA_at, load1_at, orRd_some, optK_some, pickK_true, pickK_false, gopK_tt, gopK_ff, gopK_tf, gopK_ft, gopK_undef, gqK_tt, gqK_ff, gqK_tf, gqK_ft, gqK_undef, condK_true, condK_false, unK_not, binI_eql, binI_neq, binI_lss, binI_leq, binI_gtr, binI_geq, binI_add, binI_sub, binI_mul, binP_eql_none, binP_neq_none, binM_eql_none, binM_neq_none, binL_eql_none, lenL_at, convI_at, extractK_at, Option.bind_some, List.getElem?_cons_zero, List.getElem?_cons_succ, Option.isNone_some, Option.isNone_none, Bool.not_true, Bool.not_false, Nat.zero_add, upd_get, start_get, List.getD_cons_zero, List.getD_cons_succ, if_true, if_false, Int.reduceBEq, Int.reduceBNe, beq_self_eq_true, reduceIte, Nat.reduceEqDiff]
    exact hr
  by_cases h11 : q = 11
  · subst h11
    simp only [atDrew_eq, nilK_ptr, nilK_fn, fieldA_at, load1_at, orRd_some, optK_some, pickK_true, pickK_false, gopK_tt, gopK_ff, gopK_tf, gopK_ft, gopK_undef, gqK_tt, gqK_ff, gqK_tf, gqK_ft, gqK_undef, condK_true, condK_false, unK_not, binI_eql, binI_neq, binI_lss, binI_leq, binI_gtr, binI_geq, binI_add, binI_sub, binI_mul, binP_eql_none, binP_neq_none, binM_eql_none, binM_neq_none, binL_eql_none, lenL_at, convI_at, extractK_at, Option.bind_some, List.getElem?_cons_zero, List.getElem?_cons_succ, Option.isNone_some, Option.isNone_none, Bool.not_true, Bool.not_false, Nat.zero_add, upd_get, start_get, List.getD_cons_zero, List.getD_cons_succ, if_true, if_false, Int.reduceBEq, Int.reduceBNe, beq_self_eq_true, reduceIte, Nat.reduceEqDiff]
    exact hr
  by_cases h13 : q = 13
  · subst h13
    simp only [atDrew_eq, nilK_ptr, nilK_fn, fieldA_at, load1_at, orRd_some, optK_some, pickK_true, pickK_false, gopK_tt, gopK_ff, gopK_tf, gopK_ft, gopK_undef, gqK_tt, gqK_ff, gqK_tf, gqK_ft, gqK_undef, condK_true, condK_false, unK_not, binI_eql, binI_neq, binI_lss, binI_leq, binI_gtr, binI_geq, binI_add, binI_sub, binI_mul, binP_eql_none, binP_neq_none, binM_eql_none, binM_neq_none, binL_eql_none, lenL_at, convI_at, extractK_at, Option.bind_some, List.getElem?_cons_zero, List.getElem?_cons_succ, Option.isNone_some, Option.isNone_none, Bool.not_true, Bool.not_false, Nat.zero_add, upd_get, start_get, List.getD_cons_zero, List.getD_cons_succ, if_true, if_false, Int.reduceBEq, Int.reduceBNe, beq_self_eq_true, reduceIte, Nat.reduceEqDiff]
    exact two 1 32 (b2 _ _ (by omega) (by omega) (by omega) (by omega)) (by decide)
  simp only [atDrew_eq, nilK_ptr, nilK_fn, fieldA_at, load1_at, orRd_some, optK_some, pickK_true, pickK_false, gopK_tt, gopK_ff, gopK_tf, gopK_ft, gopK_undef, gqK_tt, gqK_ff, gqK_tf, gqK_ft, gqK_undef, condK_true, condK_false, unK_not, binI_eql, binI_neq, binI_lss, binI_leq, binI_gtr, binI_geq, binI_add, binI_sub, binI_mul, binP_eql_none, binP_neq_none, binM_eql_none, binM_neq_none, binL_eql_none, lenL_at, convI_at, extractK_at, Option.bind_some, List.getElem?_cons_zero, List.getElem?_cons_succ, Option.isNone_some, Option.isNone_none, Bool.not_true, Bool.not_false, Nat.zero_add, upd_get, start_get, List.getD_cons_zero, List.getD_cons_succ, if_true, if_false, Int.reduceBEq, Int.reduceBNe, beq_self_eq_true, reduceIte, Nat.reduceEqDiff, nb 1 h1, nb 2 h2, nb 3 h3, nb 4 h4, nb 5 h5, nb 6 h6, nb 8 h8, nb 9 h9, nb 10 h10, nb 11 h11, nb 12 h12, nb 13 h13]
  have : can q = 0 := by simp [can, h1, h2, h3, h4, h5, h6, h8, h9, h10, h11, h12, h13]
  rw [this] at hr
  exact hr
end
end Go.X
