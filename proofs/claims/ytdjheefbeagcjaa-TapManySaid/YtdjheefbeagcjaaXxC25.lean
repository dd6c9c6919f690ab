/- Texts of this family, put together. -/
import Derived.Test.YtdjheefbeagcjaaXxC9
import Derived.Test.YtdjheefbeagcjaaXxSt
/- One thing of a world changes; a world that is owned. -/
set_option linter.unusedSimpArgs false
set_option linter.unusedVariables false
namespace Go.AW

/-- r has y -/
def AW.put (a : AW) (r : Int) (y : Wh) : AW := { a with things := a.things.map fun t => if t.1 = r then (r, y) else t }

theorem lookup_put {l : List (Int × Wh)} {r q : Int} {y : Wh} : lookup (l.map fun t => if t.1 = r then (r, y) else t) q = if q = r then (lookup l q).map fun _ => y else lookup l q := by
  induction l with
  | nil => simp [lookup]
  | cons t l ih =>
    simp only [List.map_cons, lookup]
    by_cases ht : t.1 = r
    · simp only [ht, if_true]
      by_cases hq : r = q
      · subst hq; simp
      · have : ¬ q = r := fun e => hq e.symm
        simp only [hq, this, if_false, ih]
    · simp only [ht, if_false]
      by_cases hq : t.1 = q
      · have : ¬ q = r := fun e => ht (hq.trans e)
        simp only [hq, this, if_true, if_false]
      · simp only [hq, if_false, ih]

theorem AW.at_put (a : AW) (r q : Int) (y : Wh) : (a.put r y).at q = if q = r then (a.at q).map fun _ => y else a.at q := lookup_put

theorem AW.put_fst (a : AW) (r : Int) (y : Wh) : (a.put r y).things.map (·.1) = a.things.map (·.1) := by
  simp only [AW.put, List.map_map]
  apply List.map_congr_left
  intro t _
  simp only [Function.comp]
  split
  · rename_i h; exact h.symm
  · rfl
end Go.AW
namespace Go.X
open Go Go.AW

theorem foot_put (L : Lay) (a : AW) (r : Int) (y : Wh) : foot L (a.put r y) = foot L a := by
  have h : ∀ b : AW, b.things.map (fun t => L.bk t.1) = (b.things.map (·.1)).map L.bk := fun b => by simp [List.map_map, Function.comp_def]
  simp only [foot]
  rw [h, h, AW.put_fst]

section
variable {w0 w w' : World} {L L' : Lay} {a a' : AW} {S : Nat → Prop} {R R' : List Res}

theorem WRep.bk_ne (h : WRep w L a) {t t' : Int × Wh} (ht : t ∈ a.things) (ht' : t' ∈ a.things) (hne : t.1 ≠ t'.1) : L.bk t.1 ≠ L.bk t'.1 := by
  intro e
  have hn : (a.things.map fun t => L.bk t.1).Nodup := by
    have := h.apart
    simp only [foot, List.nodup_cons, List.nodup_append] at this
    exact this.2.2.2.2.1.2.1.2.1
  have key : ∀ (l : List (Int × Wh)), (l.map fun t => L.bk t.1).Nodup → t ∈ l → t' ∈ l → t = t' := by
    intro l hl hm hm'
    induction l with
    | nil => simp at hm
    | cons s l ih =>
      simp only [List.map_cons, List.nodup_cons, List.mem_map, not_exists, not_and] at hl
      rcases List.mem_cons.1 hm with h1 | h1 <;> rcases List.mem_cons.1 hm' with h2 | h2
      · rw [h1, h2]
      · exact absurd (by rw [← e, h1]) (hl.1 t' h2)
      · exact absurd (by rw [e, h2]) (hl.1 t h1)
      · exact ih hl.2 h1 h2
  exact hne (by rw [key _ hn ht ht'])

theorem WRep.put (h : WRep w L a) {r : Int} {x y : Wh} (hr : a.at r = some x) (hk : x.kind ≠ 14) (hk' : y.kind ≠ 14) (hkp : Keeps (· = L.bk r) w w') (hc : cellsOf w' (L.bk r) = some (whCells y)) : WRep w' L (a.put r y) := by
  have hmem : (r, x) ∈ a.things := lookup_mem hr
  obtain ⟨d1, d2, d3, dpar, dcut, dmade, dth, dmm⟩ := foot_parts h.apart
  have hb := dth _ hmem
  have hn : ∀ b ∈ sliceBlk L.par ++ (sliceBlk L.cut ++ sliceBlk L.made), b ≠ L.bk r := by
    have := h.apart
    simp only [foot, List.nodup_cons, List.nodup_append, List.mem_append, List.mem_map] at this
    obtain ⟨_, _, _, _, ⟨_, ⟨_, _, g1⟩, g2⟩, g3⟩ := this
    intro b hb
    simp only [List.mem_append] at hb
    rcases hb with hb | hb | hb
    · exact g3 b hb _ (.inr (.inr ⟨_, hmem, rfl⟩))
    · exact g2 b hb _ (.inr ⟨_, hmem, rfl⟩)
    · exact g1 b hb _ ⟨_, hmem, rfl⟩
  have hfst : ∀ {β : Type} (f : Int → β), (a.put r y).things.map (fun t => f t.1) = a.things.map (fun t => f t.1) := fun f => by
    have h1 : ∀ b : AW, b.things.map (fun t => f t.1) = (b.things.map (·.1)).map f := fun b => by simp [List.map_map, Function.comp_def]
    rw [h1, h1, AW.put_fst]
  refine { top := hkp.cells h.top (Ne.symm hb.1), par := h.par.keeps hkp fun b hbb => hn b (by simp [hbb]), cut := h.cut.keeps hkp fun b hbb => hn b (by simp [hbb]),
           made := h.made.keeps hkp fun b hbb => hn b (by simp [hbb]), things := hkp.map h.things (Ne.symm hb.2.1), facets := hkp.map h.facets (Ne.symm hb.2.2),
           ents := ?_, facs := ?_, cells := ?_, born := h.born, apart := by rw [foot_put]; exact h.apart, sorted := ?_, len1 := h.len1, len2 := h.len2, len3 := h.len3, nums := ?_, low := h.low, high := h.high }
  · rw [hfst fun i => (vi i, ptr (L.bk i))]
    exact h.ents
  · have : ((a.put r y).things.filter fun t => t.2.kind == 14).map (fun t => (fkey t.2.of t.2.set, vi t.1)) = (a.things.filter fun t => t.2.kind == 14).map fun t => (fkey t.2.of t.2.set, vi t.1) := by
      have hall : ∀ t ∈ a.things, t.1 = r → t.2 = x := fun t ht e => by
        have := h.at_mem ht
        rw [e, hr] at this
        exact (Option.some.inj this).symm
      simp only [AW.put]
      generalize a.things = l at hall
      clear hmem hfst
      induction l with
      | nil => rfl
      | cons t l ih =>
        have ih := ih fun s hs => hall s (List.mem_cons_of_mem _ hs)
        simp only [List.map_cons, List.filter_cons]
        by_cases ht : t.1 = r
        · have h2 := hall t (by simp) ht
          have e1 : (y.kind == 14) = false := by simpa using hk'
          have e2 : (t.2.kind == 14) = false := by rw [h2]; simpa using hk
          simp only [ht, if_true, e1, e2, Bool.false_eq_true, if_false]
          exact ih
        · simp only [ht, if_false]
          split
          · simp only [List.map_cons, ih]
          · exact ih
    rw [this]
    exact h.facs
  · intro t ht
    simp only [AW.put, List.mem_map] at ht
    obtain ⟨s, hs, rfl⟩ := ht
    split
    · exact hc
    · rename_i hne
      exact hkp.cells (h.cells s hs) (h.bk_ne hs hmem hne)
  · have h1 : (a.things.map (·.1)).Pairwise (· < ·) := List.pairwise_map.2 h.sorted
    rw [← AW.put_fst a r y] at h1
    exact List.pairwise_map.1 h1
  · intro t ht
    have : t.1 ∈ (a.put r y).things.map (·.1) := List.mem_map_of_mem ht
    rw [AW.put_fst] at this
    obtain ⟨s, hs, he⟩ := List.mem_map.1 this
    have := h.nums s hs
    rw [he] at this
    exact this

/-- a world that lay there is owned from now on -/
theorem State.own_world (st : State (fun _ => False) w0 w R) (h : WRep w0 L a) : State (fun b => b ∈ foot L a) w0 w (.world L a :: R) := by
  refine ⟨Keeps.of_ext st.keeps, fun q hq => ?_, ?_, fun b hb => ?_⟩
  · rcases List.mem_cons.1 hq with rfl | hq
    · exact h.ext st.keeps
    · exact st.holds q hq
  · simp only [blksOf, List.flatMap_cons]
    refine List.nodup_append.2 ⟨h.apart, st.apart, fun b hb c hc e => ?_⟩
    subst e
    have h1 := h.lt b hb
    rcases st.own b hc with h2 | h2
    · exact h2
    · omega
  · simp only [blksOf, List.flatMap_cons, List.mem_append] at hb
    rcases hb with hb | hb
    · exact .inl hb
    · rcases st.own b hb with h | h
      · exact h.elim
      · exact .inr h

theorem State.grown (st : State S w0 w R) (g : Grown w w' L L' a a') (hs : Sub (.world L a) (.world L' a') R R') : State S w0 w' R' :=
  st.change hs g.keeps g.rep g.rep.apart g.foot

theorem State.toGrown (st : State (fun b => b ∈ foot L a) w0 w R) (hm : .world L' a' ∈ R) (hp : L'.p = L.p) : Grown w0 w L L' a a' :=
  ⟨hp, st.rep hm, st.keeps, fun b hb => st.own b (blksOf_mem hm hb)⟩

theorem Grown.refl (h : WRep w L a) : Grown w w L L a a := ⟨rfl, h, .refl, fun _ h => .inl h⟩
theorem Grown.ext (h : WRep w L a) (he : Ext w w') : Grown w w' L L a a := ⟨rfl, h.ext he, .of_ext he, fun _ h => .inl h⟩

/-- a field of a thing that is no facet is written -/
theorem State.put1 {r : Int} {x y : Wh} {i : Nat} {u : Value} {q : World → Prop} (st : State S w0 w R) (hs : Sub (.world L a) (.world L (a.put r y)) R R') (hr : a.at r = some x) (hk : x.kind ≠ 14) (hk' : y.kind ≠ 14)
    (hi : i < 16) (hv : u.oneCell' = true) (hy : (whCells x).set i u = whCells y) (h : ∀ w, State S w0 w R' → q w) : Go.X.storeN 1 (.pointer (some ⟨L.bk r, i, none⟩)) u w q := by
  have hw := st.rep hs.mem
  refine store1_intro (hw.cell hr) (by simpa [whCells] using hi) hv fun w' hkp hc _ => ?_
  rw [hy] at hc
  have hm : L.bk r ∈ foot L a := by
    simp only [foot, List.mem_cons, List.mem_append, List.mem_map]
    exact .inr (.inr (.inr (.inr (.inr (.inr ⟨_, lookup_mem hr, rfl⟩)))))
  refine h w' (st.change hs (hkp.mono fun b _ hb => hb ▸ hm) (hw.put hr hk hk' hkp hc) ?_ ?_)
  · show (foot L (a.put r y)).Nodup
    rw [foot_put]; exact hw.apart
  · intro b hb
    have hb : b ∈ foot L (a.put r y) := hb
    rw [foot_put] at hb
    exact .inl hb

/-- all of a thing that is no facet is written -/
theorem State.putAll {r : Int} {x y : Wh} {q : World → Prop} (st : State S w0 w R) (hs : Sub (.world L a) (.world L (a.put r y)) R R') (hr : a.at r = some x) (hk : x.kind ≠ 14) (hk' : y.kind ≠ 14)
    (h : ∀ w, State S w0 w R' → q w) : Go.X.storeN 16 (ptr (L.bk r)) (whV y) w q := by
  have hw := st.rep hs.mem
  refine storeN_intro (cs := whCells y) (hw.cell hr) rfl (by simp [whCells]) (by simp [whCells, Value.oneCell']) fun w' hkp hc _ => ?_
  have hc : cellsOf w' (L.bk r) = some (whCells y) := hc
  have hm : L.bk r ∈ foot L a := by
    simp only [foot, List.mem_cons, List.mem_append, List.mem_map]
    exact .inr (.inr (.inr (.inr (.inr (.inr ⟨_, lookup_mem hr, rfl⟩)))))
  refine h w' (st.change hs (hkp.mono fun b _ hb => hb ▸ hm) (hw.put hr hk hk' hkp hc) ?_ ?_)
  · show (foot L (a.put r y)).Nodup
    rw [foot_put]; exact hw.apart
  · intro b hb
    have hb : b ∈ foot L (a.put r y) := hb
    rw [foot_put] at hb
    exact .inl hb
end
end Go.X
/- Going over a map, in whatever order. -/
set_option linter.unusedSimpArgs false
set_option linter.unusedVariables false
namespace Go.X
open Go Go.AW

/-- the object of a range over the map m that has met vis -/
abbrev iterO (m c : Nat) (vis : List MapEntry) : Obj := .mapIter (some m) c (vis.map (·.born)).toArray c

/-- a map's entries: each born once, and before now -/
structure Born (es : List MapEntry) (c : Nat) : Prop where
  nodup : (es.map (·.born)).Nodup
  lt : ∀ e ∈ es, e.born < c

theorem Born.inj {es : List MapEntry} {c : Nat} (h : Born es c) {e f : MapEntry} (he : e ∈ es) (hf : f ∈ es) (hb : e.born = f.born) : e = f := by
  have := h.nodup
  clear h
  induction es with
  | nil => simp at he
  | cons x es ih =>
    simp only [List.map_cons, List.nodup_cons, List.mem_map, not_exists, not_and] at this
    rcases List.mem_cons.1 he with h1 | h1 <;> rcases List.mem_cons.1 hf with h2 | h2
    · rw [h1, h2]
    · subst h1; exact absurd hb.symm (this.1 f h2)
    · subst h2; exact absurd hb (this.1 e h1)
    · exact ih h1 h2 this.2

theorem nodup_len : ∀ {l m : List Nat}, l.Nodup → (∀ x ∈ l, x ∈ m) → l.length ≤ m.length
  | [], _, _, _ => by simp
  | x :: l, m, hn, hs => by
    have hx := hs x (by simp)
    have hn' := List.nodup_cons.1 hn
    have := nodup_len (l := l) (m := m.erase x) hn'.2 fun y hy => (List.mem_erase_of_ne (a := y) (b := x) (fun e : y = x => hn'.1 (by rw [← e]; exact hy))).2 (hs y (by simp [hy]))
    rw [List.length_erase_of_mem hx] at this
    have hpos : 0 < m.length := List.length_pos_of_mem hx
    simp only [List.length_cons]; omega

/-- what has been met of a map's entries -/
structure Vis (es vis : List MapEntry) : Prop where
  nodup : (vis.map (·.born)).Nodup
  sub : ∀ e ∈ vis, e ∈ es

theorem Vis.nil (es : List MapEntry) : Vis es [] := ⟨by simp, by simp⟩

theorem Vis.snoc {es vis : List MapEntry} {c : Nat} (h : Vis es vis) (hb : Born es c) {e : MapEntry} (he : e ∈ es) (hn : e ∉ vis) : Vis es (vis ++ [e]) ∧ vis.length < es.length := by
  have h1 : Vis es (vis ++ [e]) := by
    refine ⟨?_, fun x hx => ?_⟩
    · simp only [List.map_append, List.map_cons, List.map_nil]
      refine List.nodup_append.2 ⟨h.nodup, by simp, fun x hx y hy hxy => ?_⟩
      simp at hy; subst hy; subst hxy
      obtain ⟨z, hz, hzb⟩ := List.mem_map.1 hx
      have := hb.inj (h.sub z hz) he hzb
      subst this; exact hn hz
    · rcases List.mem_append.1 hx with hx | hx
      · exact h.sub x hx
      · simp at hx; subst hx; exact he
  refine ⟨h1, ?_⟩
  have := nodup_len h1.nodup (m := es.map (·.born)) fun x hx => by
    obtain ⟨z, hz, rfl⟩ := List.mem_map.1 hx
    exact List.mem_map_of_mem (h1.sub z hz)
  simp at this; omega

section
variable {S : Nat → Prop} {w0 w : World} {R R' : List Res} {K : Value → World → Prop} {k : Value → Prop}

theorem State.range {m c : Nat} {es : List MapEntry} (st : State S w0 w R) (hm : mapOf w m = some (es, c)) (hk : ∀ it w, State S w0 w (.obj it (iterO m c []) :: R) → K (ptr it) w) : rangeM (.map (some m)) w K := by
  unfold rangeM
  simp only [hm]
  refine hk _ _ (st.push (.alloc _ _) (r := .obj w.heap.size (iterO m c [])) ?_ (by simp [Res.blks]) (by simp [Res.blks]))
  show (w.alloc _).heap[w.heap.size]? = _
  unfold World.alloc
  simp only [Array.getElem?_push_size]
  rfl

theorem setObj_keeps (w : World) (r : Nat) (o : Obj) : Keeps (fun b => b ∈ [r]) w (setObjW w r o) :=
  ⟨by simp [setObjW], fun b _ hb => by
    simp only [List.mem_singleton] at hb
    simp only [setObjW]
    rw [Array.getElem?_setIfInBounds_ne (Ne.symm hb)], rfl, rfl, rfl⟩

theorem State.next {it m c : Nat} {es vis : List MapEntry} (R' : List MapEntry → List Res) (st : State S w0 w R) (hs : ∀ vis', Sub (.obj it (iterO m c vis)) (.obj it (iterO m c vis')) R (R' vis')) (hm : mapOf w m = some (es, c)) (hb : Born es c) (hv : ∀ e ∈ vis, e ∈ es)
    (hmore : ∀ e ∈ es, e ∉ vis → ∀ w, State S w0 w (R' (vis ++ [e])) → K (.tuple #[.bool true, e.key, e.val]) w) (hdone : (∀ e ∈ es, e ∈ vis) → ∀ w, State S w0 w R → K (.tuple #[.bool false]) w) : nextK (ptr it) w K := by
  have ho : w.heap[it]? = some (iterO m c vis) := st.holds _ (hs []).mem
  have hcon : ∀ e ∈ es, ((vis.map (·.born)).toArray.contains e.born = false) → e ∉ vis := by
    intro e he h hin
    have : (vis.map (·.born)).toArray.contains e.born = true := by
      simp only [List.contains_toArray, List.contains_iff_mem]
      exact List.mem_map_of_mem hin
    rw [this] at h; simp at h
  unfold nextK
  simp only [ho, hm]
  refine ⟨?_, fun w1 hw1 => ?_⟩
  · cases vis with
    | nil => exact .inl rfl
    | cons e vis => exact .inr ⟨e, hv e (by simp), hb.lt e (hv e (by simp))⟩
  · have st1 : State S w0 w1 R := by
      rcases hw1 with rfl | rfl
      · exact st
      · exact st.drew
    have ho1 : w1.heap[it]? = some (iterO m c vis) := st1.holds _ (hs []).mem
    refine ⟨fun e he hc => ?_, fun hall => hdone (fun e he => ?_) w1 st1⟩
    · refine hmore e he (hcon e he hc) _ (st1.change (hs (vis ++ [e])) ((setObj_keeps w1 it _).mono fun b _ h => h) ?_ (by simp [Res.blks]) (by simp [Res.blks]))
      show (setObjW w1 it _).heap[it]? = _
      have hlt := lt_of_get ho1
      simp only [setObjW]
      rw [Array.getElem?_setIfInBounds_self_of_lt hlt]
      simp [iterO]
    · by_cases hin : e ∈ vis
      · exact hin
      · exfalso
        have hc : (vis.map (·.born)).toArray.contains e.born = false := by
          cases h : (vis.map (·.born)).toArray.contains e.born with
          | false => rfl
          | true =>
            simp only [List.contains_toArray, List.contains_iff_mem, List.mem_map] at h
            obtain ⟨f, hf, hfe⟩ := h
            have := hb.inj (hv f hf) he hfe
            subst this
            exact absurd hf hin
        have := hall e he hc
        have := hb.lt e he
        omega

theorem State.entry {it m c : Nat} {es vis : List MapEntry} {e : MapEntry} (st : State S w0 w R) (ho : .obj it (iterO m c (vis ++ [e])) ∈ R) (hm : mapOf w m = some (es, c)) (hb : Born es c) (he : e ∈ es) (hk : k (.tuple #[e.key, e.val])) : entryK (ptr it) w k := by
  have ho : w.heap[it]? = some (iterO m c (vis ++ [e])) := st.holds _ ho
  unfold entryK
  have hback : ((vis ++ [e]).map (·.born)).toArray.back? = some e.born := by simp
  have hfind : es.find? (fun x => x.born == e.born) = some e := by
    rw [List.find?_eq_some_iff_append]
    have key : ∀ (l : List MapEntry), Born l c → e ∈ l → ∃ xs bs, l = xs ++ e :: bs ∧ ∀ a ∈ xs, (!(a.born == e.born)) = true := by
      intro l hl hel
      obtain ⟨xs, bs, rfl⟩ := List.append_of_mem hel
      refine ⟨xs, bs, rfl, fun a ha => ?_⟩
      simp only [Bool.not_eq_true', beq_eq_false_iff_ne]
      intro hae
      have hn := hl.nodup
      simp only [List.map_append, List.map_cons, List.nodup_append] at hn
      exact hn.2.2 a.born (List.mem_map_of_mem ha) e.born (by simp) hae
    obtain ⟨xs, bs, h1, h2⟩ := key es hb he
    exact ⟨by simp, xs, bs, h1, h2⟩
  simp only [ho, hm, hback, hfind]
  exact ⟨trivial, hk⟩
end
end Go.X
