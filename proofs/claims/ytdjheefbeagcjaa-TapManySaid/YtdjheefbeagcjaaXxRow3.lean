/- Texts of this family, put together. -/
import Derived.ProofKit
import Derived.Test.YtdjheefbeagcjaaXxCt
import Derived.Deep.Grids
/- A law's row out of its call: the call returns true, and nothing that was there has turned. No program in it. -/
set_option linter.unusedSimpArgs false
set_option linter.unusedVariables false
namespace Go.X
open Go Go.RowKit Go.ChangeShapes

theorem Keeps.below {w w' : World} (h : Ext w w') : Below w.heap.size w w' := ⟨h.io.1, h.io.2.1, h.io.2.2, h.size, fun k hk => h.same k hk id⟩

section
variable {H : Type} {enc : TypeId × Value → H} {P : Program}

theorem trodAll_below (hl : laidOutB P = true) {W W' : World} (hb : Below W.heap.size W W') : ∀ (ts : List TypeId) {vs : List Value} {ds : List (DataW H)} {ps : List MemPlace}, (∀ t ∈ ts, P.readableRec t = true ∧ t < P.types.size) →
    DataW.TrodAll enc P W 0 (fun _ => true) true ts vs ds ps → (∀ x ∈ ps, x.block < W.heap.size) → DataW.TrodAll enc P W' 0 (fun b => decide (b < W.heap.size)) true ts vs ds ps
  | [], _, _, _, _, h, _ => by
    obtain ⟨rfl, rfl, rfl⟩ := trodAll_nil h
    exact h
  | t :: ts, _, _, _, hr, h, hlt => by
    obtain ⟨v, vs1, d, ds1, a, b, rfl, rfl, rfl, h1, h2⟩ := trodAll_cons h
    have h1' := Below.trod hl (hr t (by simp)).1 (hr t (by simp)).2 h1 hb fun x hx => hlt x (by simp [hx])
    have h2' := trodAll_below hl hb ts (fun t ht => hr t (by simp [ht])) h2 fun x hx => hlt x (by simp [hx])
    exact ⟨a, b, h1', h2', rfl⟩

/-- the law's word: true, and each argument reads as it read -/
theorem post_law {f : Func} {s : ChangeSpec} {W W' : World} {args : Array Value} {ds gs : List (DataW H)} {before : List MemPlace} {t : TypeId} (hl : laidOutB P = true)
    (hW : DataW.Whole enc P f.params.toList s.vars false W args.toList ds gs before) (hv : s.vars = []) (hs : s.fn H (ds ++ gs) = { results := [.lit (.bool true)], args := ds })
    (hp : ∀ t ∈ f.params.toList, P.readableRec t = true ∧ t < P.types.size) (hr : f.resultTypes = #[t]) (ht : P.underlying t = some .bool) (hb : Below W.heap.size W W') :
    s.post enc P f false true false false W args (.bool true) W' := by
  have hlt := hW.lt
  have hW0 := hW
  obtain ⟨p, q, hA, hV, rfl, hfz, hnd⟩ := hW0
  have hV' : DataW.TrodVars enc P W (fun _ => true) [] gs q := by rw [hv] at hV; exact hV
  obtain ⟨hg, hq⟩ := trodVars_none hV'
  subst hg; subst hq
  refine ⟨ds, [], p ++ [], [], p, [], hW, ?_, ?_, ?_, hb.frame _, fun h => by simp at h⟩
  · rw [hr, hs]
    exact trodAll_mk1 (shut_bool ht true)
  · rw [hs]
    exact trodAll_below hl hb _ hp hA fun x hx => hlt x (by simp [hx])
  · rw [hv, hs]
    exact hV'
end
end Go.X
/- A law's arguments: slices of whole numbers and of bools, as they lie in whatever memory. No program in it. -/
set_option linter.unusedSimpArgs false
set_option linter.unusedVariables false
namespace Go.X
open Go Go.RowKit Go.ChangeShapes Go.WideShapes

section
variable {H : Type} {enc : TypeId × Value → H} {P : Program} {W : World}

theorem reads_cells {a : Addr} {n cap : Nat} {l : List Value} (hl : n = l.length) (hc : n ≤ cap) (h : ∀ i, i < cap → ∃ v, W.cell? (a.add i) = some v ∧ ∀ u, l[i]? = some u → v = u) : ReadsOf W (.slice (some a) n cap) l := by
  by_cases h0 : cap = 0
  · have : n = 0 := by omega
    subst this
    exact .inl ⟨rfl, h0, by rw [← List.length_eq_zero_iff, ← hl]⟩
  · obtain ⟨v0, hv0, _⟩ := h 0 (by omega)
    have ha0 : a.add 0 = a := by simp [Addr.add]
    rw [ha0] at hv0
    obtain ⟨b, i, sp⟩ := a
    unfold World.cell? at hv0
    simp only at hv0
    split at hv0
    · rename_i c e fr hb
      cases sp with
      | some s => simp at hv0
      | none =>
        simp only [Option.isSome_none, Bool.false_eq_true, if_false] at hv0
        have hcell : ∀ j, j < cap → ∃ v, c[i + j]? = some v ∧ ∀ u, l[j]? = some u → v = u := by
          intro j hj
          obtain ⟨v, hv, hu⟩ := h j hj
          have e1 : (Addr.add ⟨b, i, none⟩ j) = ⟨b, i + j, none⟩ := by
            unfold Addr.add
            split
            · rename_i h; simp [h]
            · rfl
          rw [e1] at hv
          unfold World.cell? at hv
          simp only [hb, Option.isSome_none, Bool.false_eq_true, if_false] at hv
          exact ⟨v, hv, hu⟩
        have hsz : i + cap ≤ c.size := by
          obtain ⟨v, hv, _⟩ := hcell (cap - 1) (by omega)
          have := (Array.getElem?_eq_some_iff.1 hv).1
          omega
        refine .inr ⟨b, i, c.toList, rfl, hc, by simp [cellsRd, hb], hl, ?_, by simpa using hsz⟩
        apply List.ext_getElem?
        intro j
        by_cases hj : j < n
        · obtain ⟨v, hv, hu⟩ := hcell j (by omega)
          have hlj : l[j]? = some l[j] := List.getElem?_eq_getElem (by omega)
          have := hu _ hlj
          simp only [List.getElem?_take, hj, if_true, List.getElem?_drop, Array.getElem?_toList]
          rw [hv, hlj, this]
        · rw [List.getElem?_eq_none (by simp; omega), List.getElem?_eq_none (by omega)]
    · simp at hv0

/-- a slice of whole numbers -/
theorem arg_ints {t e : TypeId} {k : IntKind} {v : Value} {d : DataW H} {p : List MemPlace} (ht : P.underlying t = some (.slice e)) (he : P.underlying e = some (.int k)) (hc : P.cellsOf e = 1) {base : Nat}
    (hok : Value.okWide P W .any base t v) (h : DataW.Trod enc P W 0 (fun _ => true) true t v d p) : ∃ l : List Int, ReadsOf W v (l.map (.int k)) ∧ (∀ n ∈ l, k.min ≤ n ∧ n ≤ k.max) ∧ l.length ≤ maxLen := by
  obtain ⟨a0, len, cap, rfl⟩ := okWide_slice ht hok
  obtain ⟨fuel, hf⟩ := h
  rcases open_ints ht he hc hf with ⟨hcs, hx⟩ | ⟨a, len', cap', zs, hcs, _, hl, hm, hz, hx, hcell, hw⟩
  · simp [Value.cells] at hcs
    obtain ⟨rfl, rfl, rfl⟩ := hcs
    exact ⟨[], ⟨rfl, rfl, rfl⟩, by simp, by simp⟩
  · simp [Value.cells] at hcs
    obtain ⟨rfl, rfl, rfl⟩ := hcs
    simp only [if_true] at hz
    have hll : (zs.take len).length = len := by simp; omega
    refine ⟨zs.take len, reads_cells (by simp; omega) hl fun i hi => ⟨_, hcell i (by omega), fun u hu => ?_⟩, fun n hn => ?_, by omega⟩
    · simp only [List.getElem?_map, Option.map_eq_some_iff] at hu
      obtain ⟨z, hz', rfl⟩ := hu
      rw [List.getElem?_take] at hz'
      split at hz'
      · rw [List.getD_eq_getElem?_getD, hz']; rfl
      · simp at hz'
    · have := hw n (List.mem_of_mem_take hn)
      simpa [Lit.wf] using this

/-- three whole numbers -/
theorem arg_arr3 {t e : TypeId} {k : IntKind} {v : Value} (ht : P.underlying t = some (.array 3 e)) (he : P.underlying e = some (.int k)) (hc : P.cellsOf t = 3) (hts : P.cellTypes P.depth t = some [e, e, e]) {base : Nat}
    (hok : Value.okWide P W .any base t v) : ∃ a b c : Int, v = .agg #[.int k a, .int k b, .int k c] := by
  simp only [Value.okWide, ht] at hok
  obtain ⟨cs, rfl, hsz, ts, hts', _, hcs⟩ := hok
  rw [hts] at hts'
  obtain rfl := Option.some.inj hts'
  rw [hc] at hsz
  have each : ∀ i, i < 3 → ∃ n, cs[i]? = some (.int k n) := by
    intro i hi
    have hlt : i < cs.size := by omega
    obtain ⟨u, hu, hok⟩ := hcs i cs[i] (Array.getElem?_eq_getElem hlt)
    have hue : u = e := by
      have h3 : i = 0 ∨ i = 1 ∨ i = 2 := by omega
      rcases h3 with rfl | rfl | rfl <;> simp at hu <;> exact hu.symm
    subst hue
    have : Value.okWide P W .any base u cs[i] := by simp only [Value.okWide, he]; exact hok
    obtain ⟨n, hn⟩ := okWide_int he this
    exact ⟨n, by rw [Array.getElem?_eq_getElem hlt, hn]⟩
  obtain ⟨a, ha⟩ := each 0 (by omega)
  obtain ⟨b, hb⟩ := each 1 (by omega)
  obtain ⟨c, hc⟩ := each 2 (by omega)
  refine ⟨a, b, c, ?_⟩
  congr 1
  apply Array.ext_getElem?
  intro i
  by_cases h3 : i < 3
  · have h3 : i = 0 ∨ i = 1 ∨ i = 2 := by omega
    rcases h3 with rfl | rfl | rfl
    · rw [ha]; rfl
    · rw [hb]; rfl
    · rw [hc]; rfl
  · rw [Array.getElem?_eq_none (by omega), Array.getElem?_eq_none (by simp; omega)]
end
end Go.X
/- A law's arguments: slices of bools. No program in it. -/
set_option linter.unusedSimpArgs false
set_option linter.unusedVariables false
namespace Go.X
open Go Go.RowKit Go.ChangeShapes Go.WideShapes

section
variable {H : Type} {enc : TypeId × Value → H} {P : Program} {W : World}

theorem arg_bools {t e : TypeId} {v : Value} {d : DataW H} {p : List MemPlace} (ht : P.underlying t = some (.slice e)) (he : P.underlying e = some .bool) (hc : P.cellsOf e = 1) {base : Nat}
    (hok : Value.okWide P W .any base t v) (h : DataW.Trod enc P W 0 (fun _ => true) true t v d p) : ∃ l : List Bool, ReadsOf W v (l.map .bool) ∧ l.length ≤ maxLen := by
  obtain ⟨a0, len, cap, rfl⟩ := okWide_slice ht hok
  obtain ⟨fuel, hf⟩ := h
  rcases Deep.open_bools ht he hc hf with ⟨hcs, hx⟩ | ⟨a, len', cap', B, hcs, _, hl, hm, hx, hcell⟩
  · simp [Value.cells] at hcs
    obtain ⟨rfl, rfl, rfl⟩ := hcs
    exact ⟨[], ⟨rfl, rfl, rfl⟩, by simp⟩
  · simp [Value.cells] at hcs
    obtain ⟨rfl, rfl, rfl⟩ := hcs
    refine ⟨(List.range len).map B, reads_cells (by simp) hl fun i hi => ⟨_, hcell i hi, fun u hu => ?_⟩, by simp; omega⟩
    simp only [List.map_map, List.getElem?_map, Option.map_eq_some_iff] at hu
    obtain ⟨z, hz', rfl⟩ := hu
    rw [List.getElem?_range] at hz'
    · simp at hz'; subst hz'; rfl
    · have := (List.getElem?_eq_some_iff.1 hz').1
      simpa using this
end
end Go.X
