/- A map that marks numbers; a world in its pieces. -/
import Derived.Test.YtdjheefbeagcjaaXxC25
set_option linter.unusedSimpArgs false
set_option linter.unusedVariables false
set_option maxRecDepth 20000
namespace Go.X
open Go Go.AW

/-- the map's entries mark the numbers G, in this order -/
structure Marks (es : List MapEntry) (c : Nat) (G : List Int) : Prop where
  ents : es.map kv = G.map fun r => (vi r, vi 1)
  nodup : G.Nodup
  born : Born es c

theorem Marks.nil : Marks [] 0 [] := ⟨rfl, by simp, ⟨by simp, by simp⟩⟩

theorem Marks.ent {es : List MapEntry} {c : Nat} {G : List Int} (h : Marks es c G) {e : MapEntry} (he : e ∈ es) : ∃ r ∈ G, e.key = vi r ∧ e.val = vi 1 := by
  have : kv e ∈ G.map fun r => (vi r, vi 1) := by rw [← h.ents]; exact List.mem_map_of_mem he
  obtain ⟨r, hr, hkv⟩ := List.mem_map.1 this
  simp only [kv, Prod.mk.injEq] at hkv
  exact ⟨r, hr, hkv.1.symm, hkv.2.symm⟩

theorem Marks.ent_of {es : List MapEntry} {c : Nat} {G : List Int} (h : Marks es c G) {r : Int} (hr : r ∈ G) : ∃ e ∈ es, e.key = vi r ∧ e.val = vi 1 := by
  have : (vi r, vi 1) ∈ es.map kv := by rw [h.ents]; exact List.mem_map_of_mem (f := fun r => (vi r, vi 1)) hr
  obtain ⟨e, he, hkv⟩ := List.mem_map.1 this
  simp only [kv, Prod.mk.injEq] at hkv
  exact ⟨e, he, hkv.1, hkv.2⟩

theorem Marks.find_no {es : List MapEntry} {c : Nat} {G : List Int} (h : Marks es c G) {q : Int} (hq : q ∉ G) : findK (vi q) es 0 = some none :=
  findK_miss fun e he => by
    obtain ⟨r, hr, hk, _⟩ := h.ent he
    rw [hk, keyEq_vi]
    simp only [Option.some.injEq, beq_eq_false_iff_ne]
    intro e; subst e; exact hq hr

theorem Marks.find_yes {es : List MapEntry} {c : Nat} {G : List Int} (h : Marks es c G) {q : Int} (hq : q ∈ G) : ∃ j e, findK (vi q) es 0 = some (some (j, vi 1)) ∧ es[j]? = some e ∧ e.key = vi q ∧ e.val = vi 1 := by
  obtain ⟨e, he, hk, hv⟩ := h.ent_of hq
  obtain ⟨j, e2, h1, h2, h3, h4⟩ := findK_hit (key := vi q) (es := es) (i := 0) (fun e he => by
    obtain ⟨t, ht, hk, _⟩ := h.ent he
    rw [hk, keyEq_vi]; rfl) ⟨e, he, by rw [hk, keyEq_vi]; simp⟩
  obtain ⟨t, ht, hk2, hv2⟩ := h.ent (List.mem_of_getElem? h3)
  rw [hk2, keyEq_vi] at h4
  have : q = t := by simpa using h4
  subst this
  exact ⟨j, e2, by rw [h1, hv2], by simpa using h3, hk2, hv2⟩

def addTo (G : List Int) (q : Int) : List Int := if q ∈ G then G else G ++ [q]
theorem mem_addTo {G : List Int} {q r : Int} : r ∈ addTo G q ↔ r ∈ G ∨ r = q := by
  unfold addTo
  split
  · rename_i h; exact ⟨.inl, fun h' => h'.elim id fun e => e ▸ h⟩
  · simp

section
variable {S : Nat → Prop} {w0 w : World} {R R' : List Res} {K : Value → World → Prop} {k : Value → Prop} {L : Lay} {a : AW}

theorem State.markLook {b c : Nat} {es : List MapEntry} {G : List Int} {q : Int} (st : State S w0 w R) (hm : .map b es c ∈ R) (hG : Marks es c G) (hk : k (vi (if q ∈ G then 1 else 0))) : lookM false (vi 0) (.map (some b)) (vi q) false w k := by
  have hmap : mapOf w b = some (es, c) := st.holds _ hm
  by_cases hq : q ∈ G
  · obtain ⟨j, e, hf, _⟩ := hG.find_yes hq
    rw [if_pos hq] at hk
    simpa [lookM, hmap, hf, foundM, keyShape] using hk
  · rw [if_neg hq] at hk
    simpa [lookM, hmap, hG.find_no hq, foundM, keyShape] using hk

theorem modify_same {α β : Type} (f : α → β) (g : α → α) : ∀ (l : List α) (j : Nat) (e : α), l[j]? = some e → f (g e) = f e → (l.modify j g).map f = l.map f
  | [], _, _, h, _ => by simp at h
  | x :: l, 0, e, h, he => by simp at h; subst h; simp [he]
  | x :: l, j + 1, e, h, he => by
    simp at h
    simp [modify_same f g l j e h he]

theorem State.mark {b c : Nat} {es : List MapEntry} {G : List Int} {q : Int} {f : World → Prop} (R' : List MapEntry → Nat → List Res) (st : State S w0 w R) (hs : ∀ es' c', Sub (.map b es c) (.map b es' c') R (R' es' c')) (hG : Marks es c G)
    (hk : ∀ es' c' w, Marks es' c' (addTo G q) → State S w0 w (R' es' c') → f w) : updM false (.map (some b)) (vi q) (vi 1) w f := by
  have hmap : mapOf w b = some (es, c) := st.holds _ (hs [] 0).mem
  have key : ∀ es' c', Marks es' c' (addTo G q) → f (setMap w b es' c') := fun es' c' hM =>
    hk es' c' _ hM (st.change (hs es' c') ((Keeps.setMap w b es' c').mono fun x _ hx => by simp [Res.blks, hx]) (mapOf_setMap hmap es' c') (by simp [Res.blks]) (by simp [Res.blks]))
  by_cases hq : q ∈ G
  · obtain ⟨j, e, hf, hj, he1, he2⟩ := hG.find_yes hq
    simp only [updM, hmap, hf]
    refine ⟨rfl, key _ _ ?_⟩
    have hadd : addTo G q = G := if_pos hq
    rw [hadd]
    have h1 := modify_same kv (fun e => { e with key := vi q, val := vi 1 }) es j e hj (by simp [kv, he1, he2])
    have h2 := modify_same (·.born) (fun e => { e with key := vi q, val := vi 1 }) es j e hj rfl
    refine ⟨by rw [h1]; exact hG.ents, hG.nodup, ⟨by rw [h2]; exact hG.born.nodup, fun x hx => ?_⟩⟩
    have : x.born ∈ (es.modify j fun e => { e with key := vi q, val := vi 1 }).map (·.born) := List.mem_map_of_mem hx
    rw [h2] at this
    obtain ⟨y, hy, hyb⟩ := List.mem_map.1 this
    rw [← hyb]; exact hG.born.lt y hy
  · simp only [updM, hmap, hG.find_no hq]
    refine ⟨rfl, key _ _ ?_⟩
    have hadd : addTo G q = G ++ [q] := if_neg hq
    rw [hadd]
    refine ⟨by simp [kv, hG.ents], ?_, ⟨?_, fun x hx => ?_⟩⟩
    · refine List.nodup_append.2 ⟨hG.nodup, by simp, fun x hx y hy e => ?_⟩
      simp at hy; subst hy; subst e; exact hq hx
    · simp only [List.map_append, List.map_cons, List.map_nil]
      refine List.nodup_append.2 ⟨hG.born.nodup, by simp, fun x hx y hy e => ?_⟩
      simp at hy; subst hy; subst e
      obtain ⟨z, hz, hzb⟩ := List.mem_map.1 hx
      have := hG.born.lt z hz; omega
    · rcases List.mem_append.1 hx with hx | hx
      · have := hG.born.lt x hx; omega
      · simp at hx; subst hx; simp

/-- the pieces that a world lies in -/
def tops (L : Lay) (last : Int) : List Value := [L.par, L.cut, .map (some L.bm), .map (some L.bf), vi last, L.made]
def things (L : Lay) (ts : List (Int × Wh)) : List Res := ts.map fun t => .cells (L.bk t.1) (whCells t.2)
def pieces (L : Lay) (a : AW) (ts : List (Int × Wh)) : List Res :=
  .cells L.p (tops L a.last) :: .map L.bm L.es L.cm :: .map L.bf L.fs L.cf :: .slice L.par (a.parents.map vi) :: .slice L.cut (a.cut.map .bool) :: .slice L.made (a.made.map vi) :: things L ts

theorem blks_pieces (L : Lay) (a : AW) : blksOf (pieces L a a.things) = foot L a := by
  simp only [pieces, blksOf, List.flatMap_cons, Res.blks, foot, things]
  have : List.flatMap Res.blks (a.things.map fun t => Res.cells (L.bk t.1) (whCells t.2)) = a.things.map fun t => L.bk t.1 := by
    induction a.things with
    | nil => rfl
    | cons t l ih => simp only [List.map_cons, List.flatMap_cons, Res.blks, ih, List.singleton_append]
  rw [this]
  simp

theorem State.open_world (st : State S w0 w (.world L a :: R)) : State S w0 w (pieces L a a.things ++ R) := by
  have h := st.rep (.head _)
  have hb : blksOf (pieces L a a.things ++ R) = blksOf (.world L a :: R) := by
    have h1 : blksOf (pieces L a a.things ++ R) = blksOf (pieces L a a.things) ++ blksOf R := by simp [blksOf]
    rw [h1, blks_pieces]
    simp [blksOf, Res.blks]
  refine ⟨st.keeps, fun r hr => ?_, by rw [hb]; exact st.apart, by rw [hb]; exact st.own⟩
  rcases List.mem_append.1 hr with hr | hr
  · simp only [pieces, List.mem_cons, things, List.mem_map] at hr
    rcases hr with rfl | rfl | rfl | rfl | rfl | rfl | ⟨t, ht, rfl⟩
    · exact h.top
    · exact h.things
    · exact h.facets
    · exact h.par
    · exact h.cut
    · exact h.made
    · exact h.cells t ht
  · exact st.holds r (by simp [hr])

/-- what else a world's picture says -/
structure Fit (L : Lay) (a : AW) : Prop where
  ents : (L.es.map kv).Perm (a.things.map fun t => (vi t.1, ptr (L.bk t.1)))
  facs : (L.fs.map kv).Perm ((a.things.filter fun t => t.2.kind == 14).map fun t => (fkey t.2.of t.2.set, vi t.1))
  born : (L.es.map (·.born)).Nodup ∧ ∀ e ∈ L.es, e.born < L.cm
  sorted : a.things.Pairwise fun s t => s.1 < t.1
  len1 : a.cut.length = a.made.length
  len2 : a.parents.length + 1 = a.made.length
  len3 : a.made.length ≤ 16
  nums : ∀ t ∈ a.things, 1 ≤ t.1 ∧ t.1 ≤ a.last
  low : 0 ≤ a.last
  high : a.last < 4611686018427387904

theorem WRep.fit (h : WRep w L a) : Fit L a := ⟨h.ents, h.facs, h.born, h.sorted, h.len1, h.len2, h.len3, h.nums, h.low, h.high⟩

theorem State.close_world (st : State S w0 w (pieces L a a.things ++ R)) (f : Fit L a) : State S w0 w (.world L a :: R) := by
  have hb : blksOf (pieces L a a.things ++ R) = blksOf (.world L a :: R) := by
    have h1 : blksOf (pieces L a a.things ++ R) = blksOf (pieces L a a.things) ++ blksOf R := by simp [blksOf]
    rw [h1, blks_pieces]
    simp [blksOf, Res.blks]
  have hap : (foot L a).Nodup := by
    have := st.apart
    rw [hb] at this
    simp only [blksOf, List.flatMap_cons, Res.blks, List.nodup_append] at this
    exact this.1
  have g : ∀ r ∈ pieces L a a.things, r.holds w := fun r hr => st.holds r (by simp [hr])
  refine ⟨st.keeps, fun r hr => ?_, by rw [← hb]; exact st.apart, by rw [← hb]; exact st.own⟩
  rcases List.mem_cons.1 hr with rfl | hr
  · exact { top := g (.cells L.p (tops L a.last)) (by simp [pieces]), par := g (.slice L.par (a.parents.map vi)) (by simp [pieces]), cut := g (.slice L.cut (a.cut.map .bool)) (by simp [pieces]),
            made := g (.slice L.made (a.made.map vi)) (by simp [pieces]), things := g (.map L.bm L.es L.cm) (by simp [pieces]), facets := g (.map L.bf L.fs L.cf) (by simp [pieces]),
            ents := f.ents, facs := f.facs, cells := fun t ht => g (.cells (L.bk t.1) (whCells t.2)) (by simp only [pieces, things, List.mem_cons, List.mem_map]; exact .inr (.inr (.inr (.inr (.inr (.inr ⟨t, ht, rfl⟩)))))),
            born := f.born, apart := hap, sorted := f.sorted, len1 := f.len1, len2 := f.len2, len3 := f.len3, nums := f.nums, low := f.low, high := f.high }
  · exact st.holds r (by simp [hr])
end
end Go.X
