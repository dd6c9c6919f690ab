/- One theorem for all operations; then regions and code. -/
import Derived.Test.YtdjheefbeagcjaaXxRun3
set_option linter.unusedSimpArgs false
namespace Go.X
open Go

section
variable {P : Program} {w : World}

theorem upon_value {s : Sem Value} {k : Value → World → Prop} (h : ∃ v w', s.run P w = .ok v w' ∧ k v w') : Upon P k ((do pure (.value (← s)) : Sem Next).run P w) := by
  obtain ⟨v, w', hr, hk⟩ := h
  simp only [Sem.run_bind, hr, Result.andThen_ok, Sem.run_pure]
  exact hk

theorem upon_value' {s : Sem Value} {k : Value → Prop} {K : Value → World → Prop} (h : ∃ v, s.run P w = .ok v w ∧ k v) (hK : ∀ v, k v → K v w) :
    Upon P K ((do pure (.value (← s)) : Sem Next).run P w) :=
  let ⟨v, hr, hk⟩ := h; upon_value ⟨v, w, hr, hK v hk⟩

theorem upon_skip {s : Sem Unit} {k : World → Prop} {K : Value → World → Prop} (h : ∃ w', s.run P w = .ok () w' ∧ k w') (hK : ∀ w, k w → K undef w) :
    Upon P K ((do s; pure .skip : Sem Next).run P w) := by
  obtain ⟨w', hr, hk⟩ := h
  simp only [Sem.run_bind, hr, Result.andThen_ok, Sem.run_pure]
  exact hK _ hk

theorem map_toList {α β : Type} (a : Array α) (f : α → β) : (a.toList.map f).toArray = a.map f := by cases a; simp

theorem loadT_K {T : TypeId} {a : Value} {k : Value → Prop} (h : loadT P T a w k) : loadK P T a w k := by
  unfold loadT at h
  cases hk : known P T <;> simp only [hk, cond_true, cond_false] at h
  refine ⟨hk, ?_⟩
  cases ht : isAggT P T <;> simp only [ht, cond_true, cond_false] at h
  · simpa using h
  · simpa using h

theorem storeT_K {T : TypeId} {a x : Value} {k : World → Prop} (h : storeT P T a x w k) : storeK P T a x w k := by
  unfold storeT at h
  cases hk : known P T <;> simp only [hk, cond_true, cond_false] at h
  unfold storeN at h
  split at h
  · split at h
    · rename_i l hl
      simp only [storeK, hl]
      exact ⟨hk, h⟩
    · exact h.elim
  · exact h.elim

theorem fieldT_K {s : TypeId} {x : Value} {f : Nat} {k : Value → Prop} (h : fieldT P s x f k) : fieldK P s x f k := by
  unfold fieldT at h
  split at h
  · rename_i o T ho
    unfold fieldA at h
    unfold fieldK
    split at h
    · simp only [ho]; exact h
    · exact h.elim
  · exact h.elim

theorem fieldVT_K {s : TypeId} {x : Value} {f : Nat} {k : Value → Prop} (h : fieldVT P s x f k) : fieldVK P s x f k := by
  unfold fieldVT at h
  split at h
  · rename_i o T ho
    unfold fieldVK
    simp only [ho]
    cases ht : isAggT P T <;> simp only [ht, cond_true, cond_false] at h
    · unfold part1 at h
      split at h
      · simp only [partV, ht, Bool.false_eq_true, if_false]; exact h
      · exact h.elim
    · unfold partN at h
      split at h
      · simp only [partV, ht, if_true]; exact h
      · exact h.elim
  · exact h.elim

theorem indexT_K {T : TypeId} {x i : Value} {k : Value → Prop} (h : indexT P T x i k) : indexK P T x i k := by
  unfold indexT at h
  split at h
  · rename_i e hT
    cases hk : known P e <;> simp only [hk, cond_true, cond_false] at h
    unfold indexS at h
    split at h
    · simp only [indexK, hT]; exact ⟨hk, h⟩
    · exact h.elim
  · rename_i n e hT
    cases hk : known P e <;> simp only [hk, cond_true, cond_false] at h
    unfold indexA at h
    split at h
    · simp only [indexK, hT]; exact ⟨hk, h⟩
    · exact h.elim
  · exact h.elim

theorem indexVT_K {T : TypeId} {x i : Value} {k : Value → Prop} (h : indexVT P T x i k) : indexVK P T x i k := by
  unfold indexVT at h
  split at h
  · rename_i n e hT
    cases hk : known P e <;> simp only [hk, cond_true, cond_false] at h
    cases ht : isAggT P e <;> simp only [ht, cond_true, cond_false] at h
    · unfold indexV1 at h
      split at h
      · simp only [indexVK, hT, partV, ht, Bool.false_eq_true, if_false]; exact ⟨hk, h⟩
      · exact h.elim
    · unfold indexVN at h
      split at h
      · simp only [indexVK, hT, partV, ht, if_true]; exact ⟨hk, h⟩
      · exact h.elim
  · exact h.elim

theorem lenT_K {T : TypeId} {x : Value} {k : Value → Prop} (h : lenT P T x w k) : lenK P T x w k := by
  unfold lenT at h
  split at h
  · rename_i hT; unfold lenS at h; split at h
    · simp only [lenK, hT]; exact h
    · exact h.elim
  · rename_i hT; unfold lenL at h; split at h
    · simp only [lenK, hT]; exact h
    · exact h.elim
  · rename_i hT; unfold lenM at h; split at h
    · simp only [lenK, hT]; exact h
    · simp only [lenK, hT]; exact h
    · exact h.elim
  · exact h.elim

theorem convT_K {s d : TypeId} {x : Value} {k : Value → Prop} (h : convT P s d x k) : convK P s d x k := by
  unfold convT at h
  split at h
  · rename_i hs hd; unfold convI at h; split at h
    · simp only [convK, hs, hd]; exact h
    · exact h.elim
  · exact h.elim

theorem eqTo_K {op : BinOp} {T : TypeId} {d : TypeDesc} {r : Option Bool} {x y : Value} {k : Value → Prop} (hT : P.underlying T = some d) (hi : ∀ q a q' b, ¬ (x = .int q a ∧ y = .int q' b)) (hs : ∀ a b, ¬ (x = .string a ∧ y = .string b))
    (he : eqlV d x y = r) (h : eqTo op r k) : binK P op T x y k := by
  unfold eqTo at h
  rw [← he] at h
  unfold binK
  split
  · rename_i q a r b; exact absurd ⟨rfl, rfl⟩ (hi q a r b)
  · rename_i a b; exact absurd ⟨rfl, rfl⟩ (hs a b)
  · simp only [hT]
    split at h
    · rename_i b hb; simp only [hb]; exact h
    · rename_i b hb; simp only [hb]; exact h
    · exact h.elim

theorem eqlV_some_plain {d : TypeDesc} {x y : Value} (h : eqlV d x y ≠ none) : (∀ q a r b, ¬ (x = .int q a ∧ y = .int r b)) ∧ (∀ a b, ¬ (x = .string a ∧ y = .string b)) := by
  constructor
  · rintro q a r b ⟨rfl, rfl⟩; apply h; cases d <;> rfl
  · rintro a b ⟨rfl, rfl⟩; apply h; cases d <;> rfl

theorem eqTo_ne {op : BinOp} {r : Option Bool} {k : Value → Prop} (h : eqTo op r k) : r ≠ none := by
  unfold eqTo at h
  split at h
  · simp
  · simp
  · exact h.elim

theorem binT_K {op : BinOp} {T : TypeId} {x y : Value} {k : Value → Prop} (h : binT P op T x y k) : binK P op T x y k := by
  unfold binT at h
  split at h
  · unfold binI at h; split at h
    · simp only [binK]; exact h
    · exact h.elim
  · unfold binS at h; split at h
    · simp only [binK]; exact h
    · simp only [binK]; exact h
    · exact h.elim
  · rename_i hT; unfold binB at h; have hp := eqlV_some_plain (d := .bool) (eqTo_ne h); exact eqTo_K hT hp.1 hp.2 rfl h
  · rename_i hT; unfold binP at h; have hp := eqlV_some_plain (d := .pointer 0) (eqTo_ne h); exact eqTo_K hT hp.1 hp.2 rfl h
  · rename_i hT; unfold binM at h; have hp := eqlV_some_plain (d := .map 0 0) (eqTo_ne h); exact eqTo_K hT hp.1 hp.2 rfl h
  · rename_i hT; unfold binL at h; have hp := eqlV_some_plain (d := .slice 0) (eqTo_ne h); exact eqTo_K hT hp.1 hp.2 rfl h
  · rename_i hT; unfold binF at h; have hp := eqlV_some_plain (d := .func #[] #[] false) (eqTo_ne h); exact eqTo_K hT hp.1 hp.2 rfl h
  · exact h.elim

theorem callT_K {f : Value} {args : List Value} {k : Value → World → Prop} (h : callT P f args w k) : callK P f args w k := by
  unfold callT at h
  unfold callK
  split at h
  · rename_i g first captured
    cases he : enters P g <;> simp only [he, cond_true, cond_false] at h
    refine ⟨by first | exact he | rfl, ?_⟩
    have : ((first.toList ++ args) ++ captured.toList).toArray = (first ++ args.toArray) ++ captured := by
      apply Array.ext'; simp
    rw [← this]
    exact h
  · exact h.elim

theorem allocT_K {T : TypeId} {k : Value → World → Prop} (h : allocT P T w k) : allocK P T w k := by
  unfold allocT at h
  unfold allocK
  exact h

theorem keyKind_ok {K : TypeId} {p : Bool} {key : Value} (hp : keyKind P K = some p) (h : keyShape p key = true) : keyOk P K key = true := by
  unfold keyKind at hp
  cases hi : intKey P K with
  | true =>
    simp only [hi, cond_true, Option.some.injEq] at hp
    subst hp
    unfold intKey at hi
    split at hi
    · rename_i q hK
      unfold keyShape at h
      split at h <;> first | (simp at *; done) | skip
      simp [keyOk, hK]
    · simp at hi
  | false =>
    simp only [hi, cond_false] at hp
    cases hpk : pairKey P K with
    | false => simp [hpk] at hp
    | true =>
      simp only [hpk, cond_true, Option.some.injEq] at hp
      subst hp
      unfold pairKey at hpk
      split at hpk
      · rename_i fs hK
        split at hpk
        · rename_i f g hfs
          unfold keyShape at h
          split at h <;> first | (simp at *; done) | skip
          rename_i c
          split at h
          · rename_i hc
            simp only [keyOk, hK, hfs, hc]
            exact hpk
          · simp at h
        · simp at hpk
      · simp at hpk

theorem foundM_K {E : TypeId} {z : Value} {ok : Bool} {r : Option (Option (Nat × Value))} {k : Value → Prop} (hz : zeroOf P E = some z) (h : foundM z ok r k) : foundK P E ok r k := by
  unfold foundM at h
  unfold foundK
  split at h
  · exact h
  · simp only [hz]; exact h
  · exact h.elim

theorem lookupT_K {T : TypeId} {x i : Value} {ok : Bool} {k : Value → Prop} (h : lookupT P T x i ok w k) : lookupK P T x i ok w k := by
  unfold lookupT at h
  split at h
  · rename_i K E hT
    split at h
    · rename_i z p hz hp
      unfold lookM at h
      unfold lookupK
      split at h
      · simp only [hT]; exact ⟨keyKind_ok hp h.1, foundM_K hz h.2⟩
      · split at h
        · rename_i es c hm; simp only [hT, hm]; exact ⟨keyKind_ok hp h.1, foundM_K hz h.2⟩
        · exact h.elim
      · exact h.elim
    · exact h.elim
  · exact h.elim

theorem mapUpdateT_K {T : TypeId} {m key x : Value} {k : World → Prop} (h : mapUpdateT P T m key x w k) : mapUpdateK P T m key x w k := by
  unfold mapUpdateT at h
  split at h
  · rename_i K E hT
    split at h
    · rename_i p hp
      unfold updM at h
      unfold mapUpdateK
      split at h
      · split at h
        · rename_i es c hm; simp only [hT, hm]; exact ⟨keyKind_ok hp h.1, h.2⟩
        · exact h.elim
      · exact h.elim
    · exact h.elim
  · exact h.elim

theorem deleteT_K {T : TypeId} {m key : Value} {k : World → Prop} (h : deleteT P T m key w k) : deleteK P T m key w k := by
  unfold deleteT at h
  split at h
  · rename_i K E hT
    split at h
    · rename_i p hp
      unfold delM at h
      unfold deleteK
      split at h
      · split at h
        · rename_i es c hm; simp only [hT, hm]; exact ⟨keyKind_ok hp h.1, h.2⟩
        · exact h.elim
      · exact h.elim
    · exact h.elim
  · exact h.elim

theorem rangeT_K {T : TypeId} {x : Value} {k : Value → World → Prop} (h : rangeT P T x w k) : rangeK P T x w k := by
  unfold rangeT at h
  split at h
  · rename_i KE hT
    unfold rangeM at h
    unfold rangeK
    split at h
    · simp only [hT]; exact h
    · split at h
      · rename_i hm; simp only [hT, hm]; exact h
      · exact h.elim
    · exact h.elim
  · exact h.elim

theorem appendT_K {T X : TypeId} {s x : Value} {k : Value → World → Prop} (h : appendT P T X s x w k) : appendK P T X s x w k := by
  unfold appendT at h
  split at h
  · rename_i e e' hT hX
    cases hk : known P e <;> simp only [hk, cond_true, cond_false] at h
    split at h
    · rename_i i hi
      split at h
      · rename_i z hz
        unfold appendS at h
        unfold appendK
        split at h
        · rename_i base n cap xb m xc
          obtain ⟨new, h1, h2, h3, h4⟩ := h
          simp only [hT, hX]
          have hs : sizeT P e = i.size := by simp [sizeT, hi]
          rw [hs]
          refine ⟨hk, z, new, by simp [zeroOf, hi, hz], h1, h2, h3, fun hc => ?_⟩
          obtain ⟨old, a, b, c, d⟩ := h4 hc
          refine ⟨old, a, fun i' hi' => ?_, d⟩
          have : i = i' := by rw [hi] at hi'; simpa using hi'
          subst this
          exact ⟨b, c⟩
        · exact h.elim
      · exact h.elim
    · exact h.elim
  · exact h.elim

theorem sliceT_K {T : TypeId} {x : Value} {lo hi mx : Option Value} {k : Value → Prop} (h : sliceT P T x lo hi mx k) : sliceK P T x lo hi mx k := by
  unfold sliceT at h
  split at h
  · rename_i e hT
    cases hk : known P e <;> simp only [hk, cond_true, cond_false] at h
    unfold sliceS at h
    unfold sliceK
    split at h
    · simp only [hT]; exact ⟨hk, h⟩
    · exact h.elim
  · exact h.elim

theorem makeSliceT_K {T : TypeId} {n c : Value} {k : Value → World → Prop} (h : makeSliceT P T n c w k) : makeSliceK P T n c w k := by
  unfold makeSliceT at h
  split at h
  · rename_i e hT
    cases hk : known P e <;> simp only [hk, cond_true, cond_false] at h
    split at h
    · rename_i i hi
      split at h
      · rename_i z hz
        unfold makeS at h
        unfold makeSliceK
        split at h
        · simp only [hT, hi, hz]
          obtain ⟨h1, h2, h3, h4, h5⟩ := h
          exact ⟨hk, h1, h2, h3, h4, h5⟩
        · exact h.elim
      · exact h.elim
    · exact h.elim
  · exact h.elim

theorem buildT_K {T : TypeId} {parts : List (Nat × Value)} {k : Value → Prop} (h : buildT P T parts k) : buildK P T parts k := by
  unfold buildT at h
  unfold buildK
  split at h
  · rename_i fs z hT hz
    cases hk : fs.toList.all (fun f => known P f.type) <;> simp only [hk, cond_true, cond_false] at h
    simp only [hT, hz]
    refine ⟨by first | exact hk | trivial, ?_⟩
    unfold buildS at h
    simpa using h
  · rename_i n e z hT hz
    cases hk : known P e <;> simp only [hk, cond_true, cond_false] at h
    simp only [hT, hz]
    exact ⟨by first | exact hk | trivial, h⟩
  · exact h.elim

theorem buildSliceT_K {T : TypeId} {n : Nat} {parts : List (Nat × Value)} {k : Value → World → Prop} (h : buildSliceT P T n parts w k) : buildSliceK P T n parts w k := by
  unfold buildSliceT at h
  unfold buildSliceK
  split at h
  · rename_i e hT
    split at h
    · rename_i z hz
      cases hk : known P e <;> simp only [hk, cond_true, cond_false] at h
      simp only [hT, hz]
      exact ⟨by first | exact hk | trivial, h⟩
    · exact h.elim
  · exact h.elim

theorem opK_upon {ρ : Operand → Value} {k : Value → World → Prop} (o : Oper) (h : opK P ρ o.op w k) : Upon P k ((execOp ρ o).run P w) := by
  unfold opK at h
  cases hop : o.op <;> simp only [hop] at h <;> simp only [execOp, hop] <;> first | exact h.elim | skip
  case move x => exact h
  case assign x => exact h
  case pick c a b =>
    unfold pickK at h
    split at h
    · rename_i t hc
      simp only [hc, asBool, Sem.run_bind, Sem.run_pure, Result.andThen_ok]
      exact h
    · exact h.elim
  case alloc T =>
    have h := allocT_K h
    unfold allocK at h
    split at h
    · rename_i z hz
      exact upon_value ⟨_, _, by simp [Instr.alloc, zeroOf_run hz, newVar, newRow], h⟩
    · exact h.elim
  case box T x => exact upon_value ⟨_, _, by simp [Instr.box, newVar, newRow], h⟩
  case build T ps =>
    have := buildK_run (w := w) (buildT_K h)
    rw [map_toList] at this
    exact upon_value' this fun _ h => h
  case buildSlice T n ps =>
    have := buildSliceK_run (buildSliceT_K h)
    rw [map_toList] at this
    exact upon_value this
  case load T a => exact upon_value' (loadK_run (loadT_K h)) fun _ h => h
  case store T a x => exact upon_skip (storeK_run (storeT_K h)) fun _ h => h
  case nilCheck x =>
    unfold nilK at h
    split at h
    · rename_i a hx
      simp only [hx]
      exact h
    · rename_i f a b hx
      simp only [hx]
      exact h
    · exact h.elim
  case binOp op T x y T' => exact upon_value' (binK_run (binT_K h)) fun _ h => h
  case unOp op T x =>
    unfold unK at h
    split at h
    · rename_i b hx
      exact upon_value ⟨_, _, by simp [Op.unary, hx], h⟩
    · exact h.elim
  case convert s d x => exact upon_value' (convK_run (convT_K h)) fun _ h => h
  case makeFunc fn a b =>
    rw [map_toList, map_toList] at h
    exact upon_value ⟨_, _, by simp [Instr.makeFunc], h⟩
  case makeMap T r =>
    obtain ⟨h1, h⟩ := h
    cases r with
    | none => exact upon_value ⟨_, _, by simp [Instr.makeMap], h⟩
    | some c =>
      obtain ⟨hT, hc⟩ := h1
      obtain ⟨⟨a, b⟩, hT⟩ := Option.isSome_iff_exists.1 hT
      cases hv : ρ c <;> simp only [hv] at hc
      exact upon_value ⟨_, _, by simp [Instr.makeMap, run_under (mapTypes_spec hT), hv, asInt, asIntOf], h⟩
  case makeSlice T n c => exact upon_value (makeSliceK_run (makeSliceT_K h))
  case slice T x lo hi mx => exact upon_value' (sliceK_run (sliceT_K h)) fun _ h => h
  case fieldAddr s x f => exact upon_value' (fieldK_run (fieldT_K h)) fun _ h => h
  case field s x f => exact upon_value' (fieldVK_run (fieldVT_K h)) fun _ h => h
  case indexAddr T x i => exact upon_value' (indexK_run (indexT_K h)) fun _ h => h
  case index T x i => exact upon_value' (indexVK_run (indexVT_K h)) fun _ h => h
  case lookup T x i ok => exact upon_value' (lookupK_run (lookupT_K h)) fun _ h => h
  case mapUpdate T m i x => exact upon_skip (mapUpdateK_run (mapUpdateT_K h)) fun _ h => h
  case insert T m i x => exact upon_skip (mapUpdateK_run (mapUpdateT_K h)) fun _ h => h
  case range T x => exact upon_value (rangeK_run (rangeT_K h))
  case next it s =>
    cases s with
    | true => exact h.elim
    | false => exact upon_value (nextK_run h)
  case entry it => exact upon_value' (entryK_run h) fun _ h => h
  case extract t i =>
    unfold extractK at h
    split at h
    · rename_i vs ht
      split at h
      · rename_i v hv
        exact upon_value ⟨_, _, by simp [Instr.extract, ht, hv], h⟩
      · exact h.elim
    · exact h.elim
  case call c =>
    obtain ⟨callee, args, ts⟩ := c
    cases callee with
    | value f => exact callK_upon (callT_K h)
    | invoke r m => exact h.elim
    | builtin b =>
      simp only [] at h
      have hres : (do let d ← resolve ρ { callee := .builtin b, args, argTypes := ts } o.type; invoke d.target d.args : Sem Next).run P w =
          (builtin b ts o.type (args.map fun | .const _ => true | _ => false) (args.map ρ)).run P w := by
        simp only [resolve, Sem.run_bind, Sem.run_pure, Result.andThen_ok, invoke]
        rfl
      rw [hres]
      unfold builtinK at h
      split at h
      · rename_i T ts' x as ht ha
        have ht' : ts[0]? = some T := by rw [← Array.getElem?_toList, ht]; rfl
        have ha' : (args.map ρ)[0]? = some x := by rw [← Array.getElem?_toList, Array.toList_map, ha]; rfl
        exact upon_value' (lenK_run ht' ha' (lenT_K h)) fun _ h => h
      · rename_i T X s x ht ha
        have ht' := toList_pair ht
        have ha' : args.map ρ = #[s, x] := toList_pair (by rw [Array.toList_map, ha])
        subst ht'
        rw [ha']
        exact upon_value (appendK_run (appendT_K h))
      · rename_i T ts' m key ht ha
        have ht' : ts[0]? = some T := by rw [← Array.getElem?_toList, ht]; rfl
        have ha' : args.map ρ = #[m, key] := toList_pair (by rw [Array.toList_map, ha])
        rw [ha']
        obtain ⟨w', hr, hk⟩ := deleteK_run (ty := o.type) ht' (deleteT_K h)
        exact upon_value ⟨_, _, hr, hk⟩
      · exact upon_value' (minK_run (by rwa [Array.toList_map])) fun _ h => h
      · exact upon_value' (maxK_run (by rwa [Array.toList_map])) fun _ h => h
      · exact h.elim
end
end Go.X
