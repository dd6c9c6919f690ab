/- Contracts: a new thing is laid down. -/
import Derived.Test.YtdjheefbeagcjaaXxC8
set_option linter.unusedSimpArgs false
set_option linter.unusedVariables false
namespace Go.X
open Go Go.AW

section
variable {w : World} {L : Lay} {a : AW} {k : Value → World → Prop}

theorem upd_new {m : Nat} {es : List MapEntry} {c : Nat} {pair : Bool} {key x : Value} {k : World → Prop} (hm : mapOf w m = some (es, c)) (hs : keyShape pair key = true) (hf : findK key es 0 = some none)
    (h : ∀ w', Keeps (· = m) w w' → mapOf w' m = some (es ++ [⟨key, x, c⟩], c + 1) → w'.heap.size = w.heap.size → k w') : updM pair (.map (some m)) key x w k := by
  simp only [updM, hm, hf]
  exact ⟨hs, h _ (Keeps.setMap w m _ _) (mapOf_setMap hm _ _) (by simp [setMap])⟩

theorem index_no {p bm bf b j : Nat} {par cut last made : Value} {es : List MapEntry} {cm : Nat} {r : Int} {x : Wh} (htop : cellsOf w p = some [par, cut, .map (some bm), .map (some bf), last, made])
    (hth : mapOf w bm = some (es, cm)) (hf : findK (vi r) es 0 = some (some (j, ptr b))) (hc : cellsOf w b = some (whCells x)) (hx : x.kind ≠ 14) (hk : k (.tuple #[]) w) :
    callOn prog fn_World_index #[ptr p, vi r] w k := by
  apply F_World_index_on
  unfold F_World_index
  have hb : (x.kind == 14) = false := by simpa using hx
  simp only [atDrew_eq, nilK_ptr, nilK_fn, fieldA_at, load1_at, orRd_some, optK_some, pickK_true, pickK_false, gopK_tt, gopK_ff, gopK_tf, gopK_ft, gopK_undef, gqK_tt, gqK_ff, gqK_tf, gqK_ft, gqK_undef, condK_true, condK_false, unK_not, binI_eql, binI_neq, binI_lss, binI_leq, binI_gtr, binI_geq, binI_add, binI_sub, binI_mul, binP_eql_none, binP_neq_none, binM_eql_none, binM_neq_none, binL_eql_none, lenL_at, convI_at, extractK_at, Option.bind_some, List.getElem?_cons_zero, List.getElem?_cons_succ, Option.isNone_some, Option.isNone_none, Bool.not_true, Bool.not_false, Nat.zero_add, htop, lookM, hth, hf, foundM, Bool.false_eq_true, if_false]
  refine ⟨rfl, ?_⟩
  simp only [atDrew_eq, nilK_ptr, nilK_fn, fieldA_at, load1_at, orRd_some, optK_some, pickK_true, pickK_false, gopK_tt, gopK_ff, gopK_tf, gopK_ft, gopK_undef, gqK_tt, gqK_ff, gqK_tf, gqK_ft, gqK_undef, condK_true, condK_false, unK_not, binI_eql, binI_neq, binI_lss, binI_leq, binI_gtr, binI_geq, binI_add, binI_sub, binI_mul, binP_eql_none, binP_neq_none, binM_eql_none, binM_neq_none, binL_eql_none, lenL_at, convI_at, extractK_at, Option.bind_some, List.getElem?_cons_zero, List.getElem?_cons_succ, Option.isNone_some, Option.isNone_none, Bool.not_true, Bool.not_false, Nat.zero_add, hc, whCells, hb]
  exact hk

theorem index_yes {p bm bf b j : Nat} {par cut last made : Value} {es fs : List MapEntry} {cm cf : Nat} {r : Int} {x : Wh} (htop : cellsOf w p = some [par, cut, .map (some bm), .map (some bf), last, made])
    (hth : mapOf w bm = some (es, cm)) (hf : findK (vi r) es 0 = some (some (j, ptr b))) (hc : cellsOf w b = some (whCells x)) (hx : x.kind = 14) (hfac : mapOf w bf = some (fs, cf))
    (hnew : findK (fkey x.of x.set) fs 0 = some none)
    (hk : ∀ w', Keeps (· = bf) w w' → mapOf w' bf = some (fs ++ [⟨fkey x.of x.set, vi r, cf⟩], cf + 1) → k (.tuple #[]) w') :
    callOn prog fn_World_index #[ptr p, vi r] w k := by
  apply F_World_index_on
  unfold F_World_index
  have hb : (x.kind == 14) = true := by simpa using hx
  simp only [atDrew_eq, nilK_ptr, nilK_fn, fieldA_at, load1_at, orRd_some, optK_some, pickK_true, pickK_false, gopK_tt, gopK_ff, gopK_tf, gopK_ft, gopK_undef, gqK_tt, gqK_ff, gqK_tf, gqK_ft, gqK_undef, condK_true, condK_false, unK_not, binI_eql, binI_neq, binI_lss, binI_leq, binI_gtr, binI_geq, binI_add, binI_sub, binI_mul, binP_eql_none, binP_neq_none, binM_eql_none, binM_neq_none, binL_eql_none, lenL_at, convI_at, extractK_at, Option.bind_some, List.getElem?_cons_zero, List.getElem?_cons_succ, Option.isNone_some, Option.isNone_none, Bool.not_true, Bool.not_false, Nat.zero_add, htop, lookM, hth, hf, foundM, Bool.false_eq_true, if_false]
  refine ⟨rfl, ?_⟩
  have htop' := (Ext.drew w).cells htop id
  have hc' := (Ext.drew w).cells hc id
  have hfac' := (Ext.drew w).map hfac id
  have hbs : ∀ (t s : Int) (q : Value → Prop), buildS (.agg #[vi 0, vb 0]) [(0, 1), (1, 1)] [(0, vi t), (1, vb s)] q = q (fkey t s) := fun t s q => rfl
  simp only [atDrew_eq, nilK_ptr, nilK_fn, fieldA_at, load1_at, orRd_some, optK_some, pickK_true, pickK_false, gopK_tt, gopK_ff, gopK_tf, gopK_ft, gopK_undef, gqK_tt, gqK_ff, gqK_tf, gqK_ft, gqK_undef, condK_true, condK_false, unK_not, binI_eql, binI_neq, binI_lss, binI_leq, binI_gtr, binI_geq, binI_add, binI_sub, binI_mul, binP_eql_none, binP_neq_none, binM_eql_none, binM_neq_none, binL_eql_none, lenL_at, convI_at, extractK_at, Option.bind_some, List.getElem?_cons_zero, List.getElem?_cons_succ, Option.isNone_some, Option.isNone_none, Bool.not_true, Bool.not_false, Nat.zero_add, hc, whCells, hb, htop', hc']
  rw [hbs]
  exact upd_new hfac' rfl hnew fun w' hkp hm _ => hk w' (Keeps.trans (Keeps.of_ext (Ext.drew w)) hkp) hm

theorem findK_append {key : Value} : ∀ {es : List MapEntry} {i : Nat} {e : MapEntry}, findK key es i = some none → keyEq key e.key = some true → findK key (es ++ [e]) i = some (some (i + es.length, e.val))
  | [], i, e, _, he => by simp [findK, he]
  | x :: es, i, e, h, he => by
    simp only [findK] at h
    cases ht : keyEq key x.key with
    | none => simp [ht] at h
    | some t =>
      cases t with
      | true => simp [ht] at h
      | false =>
        simp [ht] at h
        have := findK_append h he
        simp only [List.cons_append, findK, ht, this, List.length_cons]
        congr 3
        omega

theorem foot_add (L : Lay) (a : AW) (x : Wh) (b : Nat) (hp : ∀ t ∈ a.things, t.1 ≤ a.last) (L' : Lay)
    (hL : L'.p = L.p ∧ L'.bm = L.bm ∧ L'.bf = L.bf ∧ L'.par = L.par ∧ L'.cut = L.cut ∧ L'.made = L.made) (hbk : L'.bk = fun r => if r = a.last + 1 then b else L.bk r) :
    foot L' (a.add x) = foot L a ++ [b] := by
  obtain ⟨h1, h2, h3, h4, h5, h6⟩ := hL
  have hm : (a.add x).things.map (fun t => L'.bk t.1) = a.things.map (fun t => L.bk t.1) ++ [b] := by
    simp only [AW.add, List.map_append, List.map_cons, List.map_nil, hbk, if_true]
    congr 1
    apply List.map_congr_left
    intro t ht
    have := hp t ht
    rw [if_neg (by omega)]
  unfold foot
  rw [hm, h1, h2, h3, h4, h5, h6]
  simp

structure Grown (w w' : World) (L L' : Lay) (a a' : AW) : Prop where
  p : L'.p = L.p
  rep : WRep w' L' a'
  keeps : Keeps (fun b => b ∈ foot L a) w w'
  foot : ∀ b ∈ foot L' a', b ∈ foot L a ∨ w.heap.size ≤ b

theorem foot_parts {L : Lay} {a : AW} (h : (foot L a).Nodup) : L.p ≠ L.bm ∧ L.p ≠ L.bf ∧ L.bm ≠ L.bf ∧ (∀ b ∈ sliceBlk L.par, b ≠ L.p ∧ b ≠ L.bm ∧ b ≠ L.bf) ∧ (∀ b ∈ sliceBlk L.cut, b ≠ L.p ∧ b ≠ L.bm ∧ b ≠ L.bf) ∧
    (∀ b ∈ sliceBlk L.made, b ≠ L.p ∧ b ≠ L.bm ∧ b ≠ L.bf) ∧ (∀ t ∈ a.things, L.bk t.1 ≠ L.p ∧ L.bk t.1 ≠ L.bm ∧ L.bk t.1 ≠ L.bf) ∧ (∀ b ∈ sliceBlk L.made, (∀ c ∈ sliceBlk L.par, c ≠ b) ∧ (∀ c ∈ sliceBlk L.cut, c ≠ b) ∧ ∀ t ∈ a.things, L.bk t.1 ≠ b) := by
  simp only [foot, List.nodup_cons, List.mem_cons, List.mem_append, not_or, List.nodup_append, List.mem_map, not_exists, not_and] at h
  obtain ⟨⟨p1, p2, p3, p4, p5, p6⟩, ⟨m1, m2, m3, m4, m5⟩, ⟨f1, f2, f3, f4⟩, h1, ⟨h2, ⟨h3, h4, h5⟩, h6⟩, h7⟩ := h
  refine ⟨p1, p2, m1, fun b hb => ⟨fun e => p3 (e ▸ hb), fun e => m2 (e ▸ hb), fun e => f1 (e ▸ hb)⟩, fun b hb => ⟨fun e => p4 (e ▸ hb), fun e => m3 (e ▸ hb), fun e => f2 (e ▸ hb)⟩,
    fun b hb => ⟨fun e => p5 (e ▸ hb), fun e => m4 (e ▸ hb), fun e => f3 (e ▸ hb)⟩, fun t ht => ⟨p6 t ht, m5 t ht, f4 t ht⟩, fun b hb => ⟨fun c hc => h7 c hc b (.inr (.inl hb)), fun c hc => h6 c hc b (.inl hb), fun t ht e => h5 b hb (L.bk t.1) ⟨t, ht, rfl⟩ e.symm⟩⟩

theorem lay_c (h : WRep w L a) (x : Wh) (hlast : a.last + 1 < 4611686018427387904) (hhome : x.kind ≠ 14 → a.side x.home = true) (hmade : x.kind ≠ 14 → 0 ≤ a.made.getD x.home.toNat 0 ∧ a.made.getD x.home.toNat 0 < 4611686018427387904)
    (hfac : x.kind = 14 → a.find x.of x.set = none) (hk : ∀ w' L', Grown w w' L L' a (a.add x) → k (vi (a.last + 1)) w') :
    callOn prog fn_World_lay #[ptr L.p, whV x] w k := by
  apply F_World_lay_on
  unfold F_World_lay
  obtain ⟨d1, d2, d3, dpar, dcut, dmade, dth, dmm⟩ := foot_parts h.apart
  have hlt := h.lt
  refine box_intro fun b w1 he1 hb0 hb1 hbc => ?_
  have h1 := h.ext he1
  have hbc : cellsOf w1 b = some (whCells x) := hbc
  have hbf : b ∉ foot L a := fun hb => by have := hlt b hb; omega
  have hnb : ∀ c ∈ foot L a, c ≠ b := fun c hc e => hbf (e ▸ hc)
  have mp : L.p ∈ foot L a := by simp [foot]
  have mm : L.bm ∈ foot L a := by simp [foot]
  have mf : L.bf ∈ foot L a := by simp [foot]
  have mpar : ∀ c ∈ sliceBlk L.par, c ∈ foot L a := fun c hc => by simp [foot, hc]
  have mcut : ∀ c ∈ sliceBlk L.cut, c ∈ foot L a := fun c hc => by simp [foot, hc]
  have mmade : ∀ c ∈ sliceBlk L.made, c ∈ foot L a := fun c hc => by simp [foot, hc]
  have mth : ∀ t ∈ a.things, L.bk t.1 ∈ foot L a := fun t ht => by
    simp only [foot, List.mem_cons, List.mem_append, List.mem_map]
    exact .inr (.inr (.inr (.inr (.inr (.inr ⟨t, ht, rfl⟩)))))
  have hw : IntKind.i64.wrap (a.last + 1) = a.last + 1 := wrap64_id (by have := h.low; omega) (by omega)
  simp only [atDrew_eq, nilK_ptr, nilK_fn, fieldA_at, load1_at, orRd_some, optK_some, pickK_true, pickK_false, gopK_tt, gopK_ff, gopK_tf, gopK_ft, gopK_undef, gqK_tt, gqK_ff, gqK_tf, gqK_ft, gqK_undef, condK_true, condK_false, unK_not, binI_eql, binI_neq, binI_lss, binI_leq, binI_gtr, binI_geq, binI_add, binI_sub, binI_mul, binP_eql_none, binP_neq_none, binM_eql_none, binM_neq_none, binL_eql_none, lenL_at, convI_at, extractK_at, Option.bind_some, List.getElem?_cons_zero, List.getElem?_cons_succ, Option.isNone_some, Option.isNone_none, Bool.not_true, Bool.not_false, Nat.zero_add, h1.top, hw]
  refine store1_intro h1.top (by simp) rfl fun w2 hk2 ht2 hs2 => ?_
  simp only [List.set_cons_succ, List.set_cons_zero] at ht2
  have e2 := Ext.drew w2
  generalize w2.drew = w3 at e2
  have ht3 := e2.cells ht2 id
  have hth3 := e2.map (hk2.map h1.things (Ne.symm d1)) id
  have hfac3 := e2.map (hk2.map h1.facets (Ne.symm d2)) id
  have hbc3 := e2.cells (hk2.cells hbc (fun e => hnb _ mp e.symm)) id
  simp only [atDrew_eq, nilK_ptr, nilK_fn, fieldA_at, load1_at, orRd_some, optK_some, pickK_true, pickK_false, gopK_tt, gopK_ff, gopK_tf, gopK_ft, gopK_undef, gqK_tt, gqK_ff, gqK_tf, gqK_ft, gqK_undef, condK_true, condK_false, unK_not, binI_eql, binI_neq, binI_lss, binI_leq, binI_gtr, binI_geq, binI_add, binI_sub, binI_mul, binP_eql_none, binP_neq_none, binM_eql_none, binM_neq_none, binL_eql_none, lenL_at, convI_at, extractK_at, Option.bind_some, List.getElem?_cons_zero, List.getElem?_cons_succ, Option.isNone_some, Option.isNone_none, Bool.not_true, Bool.not_false, Nat.zero_add, ht3]
  have hno : a.at (a.last + 1) = none := by
    cases hr : a.at (a.last + 1) with
    | none => rfl
    | some y => have := h.pos hr; omega
  refine upd_new hth3 rfl (h.find_none hno) fun w4 hk4 hth4 _ => ?_
  have ht4 := hk4.cells ht3 d1
  have hfac4 := hk4.map hfac3 (Ne.symm d3)
  have hbc4 := hk4.cells hbc3 (fun e => hnb _ mm e.symm)
  have hK4 : Keeps (fun c => c ∈ foot L a) w w4 :=
    ((Keeps.of_ext he1).trans' (hk2.mono fun c _ hc => hc) fun c _ hc => hc ▸ mp).trans' ((Keeps.of_ext e2 (S := fun c => c ∈ foot L a)).trans (hk4.mono fun c _ hc => hc ▸ mm)) fun c _ hc => hc
  simp only [atDrew_eq, nilK_ptr, nilK_fn, fieldA_at, load1_at, orRd_some, optK_some, pickK_true, pickK_false, gopK_tt, gopK_ff, gopK_tf, gopK_ft, gopK_undef, gqK_tt, gqK_ff, gqK_tf, gqK_ft, gqK_undef, condK_true, condK_false, unK_not, binI_eql, binI_neq, binI_lss, binI_leq, binI_gtr, binI_geq, binI_add, binI_sub, binI_mul, binP_eql_none, binP_neq_none, binM_eql_none, binM_neq_none, binL_eql_none, lenL_at, convI_at, extractK_at, Option.bind_some, List.getElem?_cons_zero, List.getElem?_cons_succ, Option.isNone_some, Option.isNone_none, Bool.not_true, Bool.not_false, Nat.zero_add, ht4]
  have hfind := findK_append (key := vi (a.last + 1)) (e := ⟨vi (a.last + 1), ptr b, L.cm⟩) (h.find_none hno) (by simp [keyEq])
  -- what the new layout is, the facets' map aside
  have fin : ∀ (w6 : World) (fs' : List MapEntry) (cf' : Nat), Keeps (fun c => c ∈ foot L a) w w6 → cellsOf w6 L.p = some [L.par, L.cut, .map (some L.bm), .map (some L.bf), vi (a.last + 1), L.made] →
      mapOf w6 L.bm = some (L.es ++ [⟨vi (a.last + 1), ptr b, L.cm⟩], L.cm + 1) → mapOf w6 L.bf = some (fs', cf') → cellsOf w6 b = some (whCells x) → SliceOf w6 L.par (a.parents.map vi) → SliceOf w6 L.cut (a.cut.map .bool) →
      SliceOf w6 L.made ((a.add x).made.map vi) → (∀ t ∈ a.things, cellsOf w6 (L.bk t.1) = some (whCells t.2)) →
      (fs'.map kv).Perm (((a.add x).things.filter fun t => t.2.kind == 14).map fun t => (fkey t.2.of t.2.set, vi t.1)) → k (vi (a.last + 1)) w6 := by
    intro w6 fs' cf' hK ht hm hf hb hpar hcut hmd hcells hperm
    have hfoot := foot_add L a x b (fun t ht => (h.nums t ht).2) { L with es := L.es ++ [⟨vi (a.last + 1), ptr b, L.cm⟩], cm := L.cm + 1, fs := fs', cf := cf', bk := fun r => if r = a.last + 1 then b else L.bk r } ⟨rfl, rfl, rfl, rfl, rfl, rfl⟩ rfl
    refine hk w6 { L with es := L.es ++ [⟨vi (a.last + 1), ptr b, L.cm⟩], cm := L.cm + 1, fs := fs', cf := cf', bk := fun r => if r = a.last + 1 then b else L.bk r } ⟨rfl, ?_, hK, ?_⟩
    · refine { top := ht, par := hpar, cut := hcut, made := hmd, things := hm, facets := hf, ents := ?_, facs := hperm, cells := ?_, born := ?_, apart := ?_, sorted := ?_, len1 := ?_, len2 := ?_, len3 := ?_, nums := ?_, low := ?_, high := hlast }
      · simp only [AW.add, List.map_append, List.map_cons, List.map_nil, kv, if_true]
        refine List.Perm.append ?_ (.refl _)
        have : a.things.map (fun t => (vi t.1, ptr (L.bk t.1))) = a.things.map fun t => (vi t.1, ptr (if t.1 = a.last + 1 then b else L.bk t.1)) := by
          apply List.map_congr_left
          intro t ht
          have := (h.nums t ht).2
          rw [if_neg (by omega)]
        rw [← this]
        exact h.ents
      · intro t ht
        simp only [AW.add, List.mem_append, List.mem_singleton] at ht
        rcases ht with ht | rfl
        · have := (h.nums t ht).2
          simp only []
          rw [if_neg (by omega)]
          exact hcells t ht
        · simp only [if_true]
          exact hb
      · constructor
        · simp only [List.map_append, List.map_cons, List.map_nil, List.nodup_append, h.born.1, true_and]
          refine ⟨by simp, ?_⟩
          intro u hu v hv
          obtain ⟨e, he, rfl⟩ := List.mem_map.1 hu
          have := h.born.2 e he
          simp at hv
          omega
        · intro e he
          simp only [List.mem_append, List.mem_singleton] at he
          rcases he with he | rfl
          · have := h.born.2 e he; simp only []; omega
          · simp
      · rw [hfoot]
        refine List.nodup_append.2 ⟨h.apart, by simp, ?_⟩
        intro u hu v hv
        simp at hv
        subst hv
        exact hnb u hu
      · simp only [AW.add]
        refine List.pairwise_append.2 ⟨h.sorted, by simp, ?_⟩
        intro s hs t ht
        simp at ht
        subst ht
        have := (h.nums s hs).2
        simp only []
        omega
      · simp only [AW.add]; split <;> simp [h.len1]
      · simp only [AW.add]; split <;> simp [h.len2]
      · simp only [AW.add]; split <;> simp [h.len3]
      · intro t ht
        simp only [AW.add, List.mem_append, List.mem_singleton] at ht
        have hl := h.low
        rcases ht with ht | rfl
        · have := h.nums t ht; simp only [AW.add]; omega
        · simp only [AW.add]; omega
      · have := h.low; simp only [AW.add]; omega
    · intro c hc
      rw [hfoot] at hc
      simp only [List.mem_append, List.mem_singleton] at hc
      rcases hc with hc | rfl
      · exact .inl hc
      · exact .inr hb0
  have hpar4 : SliceOf w4 L.par (a.parents.map vi) := (((h1.par.keeps hk2 fun c hc e => (dpar c hc).1 e).ext e2).keeps hk4 fun c hc e => (dpar c hc).2.1 e)
  have hcut4 : SliceOf w4 L.cut (a.cut.map .bool) := (((h1.cut.keeps hk2 fun c hc e => (dcut c hc).1 e).ext e2).keeps hk4 fun c hc e => (dcut c hc).2.1 e)
  have hmade4 : SliceOf w4 L.made (a.made.map vi) := (((h1.made.keeps hk2 fun c hc e => (dmade c hc).1 e).ext e2).keeps hk4 fun c hc e => (dmade c hc).2.1 e)
  have hcel4 : ∀ t ∈ a.things, cellsOf w4 (L.bk t.1) = some (whCells t.2) := fun t ht => hk4.cells (e2.cells (hk2.cells (h1.cells t ht) (dth t ht).1) id) (dth t ht).2.1
  by_cases hkind : x.kind = 14
  · refine index_yes ht4 hth4 hfind hbc4 hkind hfac4 (h.findF_none (hfac hkind)) fun w5 hk5 hf5 => ?_
    have ht5 := hk5.cells ht4 d2
    have hth5 := hk5.map hth4 d3
    have hbc5 := hk5.cells hbc4 (fun e => hnb _ mf e.symm)
    have hb5 : (x.kind != 14) = false := by simpa using hkind
    simp only [atDrew_eq, nilK_ptr, nilK_fn, fieldA_at, load1_at, orRd_some, optK_some, pickK_true, pickK_false, gopK_tt, gopK_ff, gopK_tf, gopK_ft, gopK_undef, gqK_tt, gqK_ff, gqK_tf, gqK_ft, gqK_undef, condK_true, condK_false, unK_not, binI_eql, binI_neq, binI_lss, binI_leq, binI_gtr, binI_geq, binI_add, binI_sub, binI_mul, binP_eql_none, binP_neq_none, binM_eql_none, binM_neq_none, binL_eql_none, lenL_at, convI_at, extractK_at, Option.bind_some, List.getElem?_cons_zero, List.getElem?_cons_succ, Option.isNone_some, Option.isNone_none, Bool.not_true, Bool.not_false, Nat.zero_add, hbc5, whCells, hb5, ht5]
    simp only [atDrew_eq, nilK_ptr, nilK_fn, fieldA_at, load1_at, orRd_some, optK_some, pickK_true, pickK_false, gopK_tt, gopK_ff, gopK_tf, gopK_ft, gopK_undef, gqK_tt, gqK_ff, gqK_tf, gqK_ft, gqK_undef, condK_true, condK_false, unK_not, binI_eql, binI_neq, binI_lss, binI_leq, binI_gtr, binI_geq, binI_add, binI_sub, binI_mul, binP_eql_none, binP_neq_none, binM_eql_none, binM_neq_none, binL_eql_none, lenL_at, convI_at, extractK_at, Option.bind_some, List.getElem?_cons_zero, List.getElem?_cons_succ, Option.isNone_some, Option.isNone_none, Bool.not_true, Bool.not_false, Nat.zero_add, upd_get, start_get, List.getD_cons_zero, List.getD_cons_succ, if_true, if_false, Int.reduceBEq, Int.reduceBNe, beq_self_eq_true, reduceIte, Nat.reduceEqDiff, hbc5, ht5]
    have hK5 : Keeps (fun c => c ∈ foot L a) w w5 := hK4.trans' hk5 fun c _ hc => hc ▸ mf
    have hsame : (a.add x).made = a.made := by simp [AW.add, hkind]
    refine fin w5 _ _ hK5 ht5 hth5 hf5 hbc5 (hpar4.keeps hk5 fun c hc e => (dpar c hc).2.2 e) (hcut4.keeps hk5 fun c hc e => (dcut c hc).2.2 e) (by rw [hsame]; exact hmade4.keeps hk5 fun c hc e => (dmade c hc).2.2 e)
      (fun t ht => hk5.cells (hcel4 t ht) (dth t ht).2.2) ?_
    simp only [AW.add, List.map_append, List.map_cons, List.map_nil, kv, List.filter_append, List.filter_cons, hkind, beq_self_eq_true, if_true, List.filter_nil]
    exact List.Perm.append h.facs (.refl _)
  · refine index_no ht4 hth4 hfind hbc4 hkind ?_
    have hb5 : (x.kind != 14) = true := by simpa using hkind
    have hx14 : (x.kind == 14) = false := by simpa using hkind
    simp only [atDrew_eq, nilK_ptr, nilK_fn, fieldA_at, load1_at, orRd_some, optK_some, pickK_true, pickK_false, gopK_tt, gopK_ff, gopK_tf, gopK_ft, gopK_undef, gqK_tt, gqK_ff, gqK_tf, gqK_ft, gqK_undef, condK_true, condK_false, unK_not, binI_eql, binI_neq, binI_lss, binI_leq, binI_gtr, binI_geq, binI_add, binI_sub, binI_mul, binP_eql_none, binP_neq_none, binM_eql_none, binM_neq_none, binL_eql_none, lenL_at, convI_at, extractK_at, Option.bind_some, List.getElem?_cons_zero, List.getElem?_cons_succ, Option.isNone_some, Option.isNone_none, Bool.not_true, Bool.not_false, Nat.zero_add, hbc4, whCells, hb5, ht4]
    have e5 := Ext.drew w4
    generalize w4.drew = w5 at e5
    have ht5 := e5.cells ht4 id
    have hbc5 := e5.cells hbc4 id
    have hhm := hhome hkind
    obtain ⟨m0, m1⟩ := hmade hkind
    simp only [AW.side, Bool.and_eq_true, decide_eq_true_eq] at hhm
    unfold AW.sides at hhm
    have hlen : x.home < ((a.made.map vi).length : Int) := by simp; omega
    obtain ⟨bb, i, c, hix, hbb, hc, hic, hci, hset⟩ := (hmade4.ext e5).place (j := x.home) (by omega) hlen
    have hlt : x.home.toNat < a.made.length := by simp at hlen; omega
    have hv : c[i]? = some (vi (a.made.getD x.home.toNat 0)) := by
      rw [hci]
      simp [hlt, List.getD_eq_getElem?_getD]
    have hwm : IntKind.i64.wrap (a.made.getD x.home.toNat 0 + 1) = a.made.getD x.home.toNat 0 + 1 := wrap64_id (by omega) (by omega)
    simp only [atDrew_eq, nilK_ptr, nilK_fn, fieldA_at, load1_at, orRd_some, optK_some, pickK_true, pickK_false, gopK_tt, gopK_ff, gopK_tf, gopK_ft, gopK_undef, gqK_tt, gqK_ff, gqK_tf, gqK_ft, gqK_undef, condK_true, condK_false, unK_not, binI_eql, binI_neq, binI_lss, binI_leq, binI_gtr, binI_geq, binI_add, binI_sub, binI_mul, binP_eql_none, binP_neq_none, binM_eql_none, binM_neq_none, binL_eql_none, lenL_at, convI_at, extractK_at, Option.bind_some, List.getElem?_cons_zero, List.getElem?_cons_succ, Option.isNone_some, Option.isNone_none, Bool.not_true, Bool.not_false, Nat.zero_add, ht5, hbc5, whCells, hix, hc, hv, hwm]
    refine store1_intro hc hic rfl fun w6 hk6 hc6 _ => ?_
    obtain ⟨n1, n2, n3⟩ := dmade bb hbb
    obtain ⟨q1, q2, q3⟩ := dmm bb hbb
    have ht6 := hk6.cells ht5 (Ne.symm n1)
    simp only [atDrew_eq, nilK_ptr, nilK_fn, fieldA_at, load1_at, orRd_some, optK_some, pickK_true, pickK_false, gopK_tt, gopK_ff, gopK_tf, gopK_ft, gopK_undef, gqK_tt, gqK_ff, gqK_tf, gqK_ft, gqK_undef, condK_true, condK_false, unK_not, binI_eql, binI_neq, binI_lss, binI_leq, binI_gtr, binI_geq, binI_add, binI_sub, binI_mul, binP_eql_none, binP_neq_none, binM_eql_none, binM_neq_none, binL_eql_none, lenL_at, convI_at, extractK_at, Option.bind_some, List.getElem?_cons_zero, List.getElem?_cons_succ, Option.isNone_some, Option.isNone_none, Bool.not_true, Bool.not_false, Nat.zero_add, upd_get, start_get, List.getD_cons_zero, List.getD_cons_succ, if_true, if_false, Int.reduceBEq, Int.reduceBNe, beq_self_eq_true, reduceIte, Nat.reduceEqDiff, ht6]
    have hK6 : Keeps (fun c => c ∈ foot L a) w w6 := (hK4.trans (Keeps.of_ext e5)).trans' hk6 fun c _ hc => hc ▸ mmade _ hbb
    refine fin w6 L.fs L.cf hK6 ht6 (hk6.map (e5.map hth4 id) (Ne.symm n2)) (hk6.map (e5.map hfac4 id) (Ne.symm n3)) (hk6.cells hbc5 (fun e => hnb _ (mmade _ hbb) e.symm))
      ((hpar4.ext e5).keeps hk6 q1) ((hcut4.ext e5).keeps hk6 q2) ?_ (fun t ht => hk6.cells (e5.cells (hcel4 t ht) id) (q3 t ht)) ?_
    · have := hset w6 _ hc6
      simpa [AW.add, hkind, List.map_set] using this
    · simp only [AW.add, List.filter_append, List.filter_cons, hx14, List.filter_nil, Bool.false_eq_true, if_false, List.append_nil]
      exact h.facs
end
end Go.X
