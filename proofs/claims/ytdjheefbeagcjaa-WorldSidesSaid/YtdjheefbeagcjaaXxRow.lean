/- A law's row out of its call: the call returns true, and nothing that was there has turned. No program in it. -/
import Derived.ProofKit
import Derived.Test.YtdjheefbeagcjaaXxCt
set_option linter.unusedSimpArgs false
set_option linter.unusedVariables false
namespace Go.X
open Go Go.RowKit Go.ChangeShapes

theorem Keeps.below {w w' : World} (h : Ext w w') : Below w.heap.size w w' := ⟨h.io.1, h.io.2.1, h.io.2.2, h.size, fun k hk => h.same k hk id⟩

section
variable {H : Type} {enc : TypeId × Value → H} {P : Program}

theorem trodAll_below (hl : laidOutB P = true) {W W' : World} (hb : Below W.heap.size W W') : ∀ (ts : List TypeId) {vs : List Value} {ds : List (DataW H)} {ps : List MemPlace}, (∀ t ∈ ts, P.readableRec t = true ∧ t < P.types.size) →
    DataW.TrodAll enc P W 0 (fun _ => true) true ts vs ds ps → (∀ x ∈ ps, x.block < W.heap.size) → DataW.TrodAll enc P W' 0 (fun b => decide (b < W.heap.size)) true ts vs ds ps
  | [], _, _, _, _, h, _ => by
    obtain ⟨rfl, rfl, rfl⟩ := trodAll_nil h
    exact h
  | t :: ts, _, _, _, hr, h, hlt => by
    obtain ⟨v, vs1, d, ds1, a, b, rfl, rfl, rfl, h1, h2⟩ := trodAll_cons h
    have h1' := Below.trod hl (hr t (by simp)).1 (hr t (by simp)).2 h1 hb fun x hx => hlt x (by simp [hx])
    have h2' := trodAll_below hl hb ts (fun t ht => hr t (by simp [ht])) h2 fun x hx => hlt x (by simp [hx])
    exact ⟨a, b, h1', h2', rfl⟩

/-- the law's word: true, and each argument reads as it read -/
theorem post_law {f : Func} {s : ChangeSpec} {W W' : World} {args : Array Value} {ds gs : List (DataW H)} {before : List MemPlace} {t : TypeId} (hl : laidOutB P = true)
    (hW : DataW.Whole enc P f.params.toList s.vars false W args.toList ds gs before) (hv : s.vars = []) (hs : s.fn H (ds ++ gs) = { results := [.lit (.bool true)], args := ds })
    (hp : ∀ t ∈ f.params.toList, P.readableRec t = true ∧ t < P.types.size) (hr : f.resultTypes = #[t]) (ht : P.underlying t = some .bool) (hb : Below W.heap.size W W') :
    s.post enc P f false true false false W args (.bool true) W' := by
  have hlt := hW.lt
  have hW0 := hW
  obtain ⟨p, q, hA, hV, rfl, hfz, hnd⟩ := hW0
  have hV' : DataW.TrodVars enc P W (fun _ => true) [] gs q := by rw [hv] at hV; exact hV
  obtain ⟨hg, hq⟩ := trodVars_none hV'
  subst hg; subst hq
  refine ⟨ds, [], p ++ [], [], p, [], hW, ?_, ?_, ?_, hb.frame _, fun h => by simp at h⟩
  · rw [hr, hs]
    exact trodAll_mk1 (shut_bool ht true)
  · rw [hs]
    exact trodAll_below hl hb _ hp hA fun x hx => hlt x (by simp [hx])
  · rw [hv, hs]
    exact hV'
end
end Go.X
