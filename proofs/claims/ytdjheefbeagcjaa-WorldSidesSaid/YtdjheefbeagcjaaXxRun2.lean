/- The rest of the operations: maps, slices, aggregates; then all operations in one theorem. -/
import Derived.Test.YtdjheefbeagcjaaXxRun
set_option linter.unusedSimpArgs false
namespace Go.X
open Go

section
variable {P : Program} {w : World}

theorem zeroOf_run {E : TypeId} {z : Value} (h : zeroOf P E = some z) : (zeroValue E).run P w = .ok z w := by
  obtain ⟨i, hi, hz⟩ := Option.bind_eq_some_iff.1 h
  simp [zeroValue, run_info hi, hz]

theorem foundK_run {K E : TypeId} {ok : Bool} {key : Value} {es : List MapEntry} {k : Value → Prop} (hk : keyOk P K key = true) (h : foundK P E ok (findK key es 0) k) :
    ∃ v, (do
      let (v, okk) ← match ← Instr.findKey K key es with
        | some (_, v) => pure (v, true)
        | none => pure (← zeroValue E, false)
      pure (if ok then .tuple #[v, .bool okk] else v) : Sem Value).run P w = .ok v w ∧ k v := by
  unfold foundK at h
  split at h
  · rename_i i v hf
    refine ⟨_, ?_, h⟩
    simp [findKey_run hk hf]
  · rename_i hf
    split at h
    · rename_i z hz
      refine ⟨_, ?_, h⟩
      simp [findKey_run hk hf, zeroOf_run hz]
    · exact h.elim
  · exact h.elim

theorem lookupK_run {T : TypeId} {x i : Value} {ok : Bool} {k : Value → Prop} (h : lookupK P T x i ok w k) :
    ∃ v, (Instr.lookup T x i ok).run P w = .ok v w ∧ k v := by
  unfold lookupK at h
  split at h
  · rename_i K E hT
    have hu := mapTypes_spec hT
    obtain ⟨v, hv, hkv⟩ := foundK_run (w := w) (es := []) h.1 (by simpa [findK] using h.2)
    refine ⟨v, ?_, hkv⟩
    rw [← hv]
    simp only [Instr.lookup, Sem.run_bind, run_under hu, Result.andThen_ok, Sem.run_pure, checkKey_run h.1]
    rfl
  · rename_i K E r hT
    have hu := mapTypes_spec hT
    split at h
    · rename_i es c hm
      obtain ⟨v, hv, hkv⟩ := foundK_run (w := w) h.1 h.2
      refine ⟨v, ?_, hkv⟩
      rw [← hv]
      simp only [Instr.lookup, Sem.run_bind, run_under hu, Result.andThen_ok, Sem.run_pure, run_getObj_map hm, checkKey_run h.1]
      rfl
    · exact h.elim
  · exact h.elim

theorem keyEq_true_bits {x y : Value} (h : keyEq x y = some true) : Instr.sameBits 10000 y x = true := by
  cases x with
  | int q a =>
    cases y with
    | int q' b =>
      obtain ⟨rfl, hab⟩ := keyEq_int h
      have : a = b := by simpa using hab
      subst this
      simp [Instr.sameBits]
    | _ => simp [keyEq] at h
  | agg c =>
    cases y with
    | agg d =>
      simp only [keyEq] at h
      split at h
      · rename_i q1 a1 p1 b1 q2 a2 p2 b2 hx hy
        split at h
        · rename_i hq
          obtain ⟨rfl, rfl⟩ := hq
          simp at h
          obtain ⟨rfl, rfl⟩ := h
          rw [toList_pair hx, toList_pair hy, show (10000 : Nat) = 9998 + 1 + 1 from rfl]
          simp [Instr.sameBits]
        · simp at h
      · simp at h
    | _ => simp [keyEq] at h
  | _ => simp [keyEq] at h

theorem findK_some {key : Value} : ∀ {es : List MapEntry} {i j : Nat} {v : Value}, findK key es i = some (some (j, v)) →
    ∃ e, i ≤ j ∧ es[j - i]? = some e ∧ keyEq key e.key = some true ∧ e.val = v
  | [], i, j, v, h => by simp [findK] at h
  | e :: es, i, j, v, h => by
    simp only [findK] at h
    cases ht : keyEq key e.key with
    | none => simp [ht] at h
    | some t =>
      cases t with
      | true =>
        simp [ht] at h
        obtain ⟨rfl, rfl⟩ := h
        exact ⟨e, Nat.le_refl _, by simp, ht, rfl⟩
      | false =>
        simp [ht] at h
        obtain ⟨e', h1, h2, h3, h4⟩ := findK_some h
        refine ⟨e', by omega, ?_, h3, h4⟩
        rw [show j - i = (j - (i + 1)) + 1 by omega]
        simpa using h2

theorem run_setObj_map {r : Nat} {es : List MapEntry} {c : Nat} (h : mapOf w r = some (es, c)) (es' : List MapEntry) (c' : Nat) :
    (setObj r (.map es'.toArray c')).run P w = .ok () (setMap w r es' c') := by
  simp [setObj, Sem.run, mapOf_spec h, setMap]

theorem keyStays_run {old new : Value} (h : keyEq new old = some true) : (Instr.keyThatStays old new).run P w = .ok new w := by
  simp [Instr.keyThatStays, keyEq_true_bits h]

theorem mapUpdateK_run {T : TypeId} {m key x : Value} {k : World → Prop} (h : mapUpdateK P T m key x w k) :
    ∃ w', (Instr.mapUpdate T m key x).run P w = .ok () w' ∧ k w' := by
  unfold mapUpdateK at h
  split at h
  · rename_i K E r hT
    have hu := mapTypes_spec hT
    split at h
    · rename_i es c hm
      obtain ⟨hk, h⟩ := h
      split at h
      · rename_i i v hf
        obtain ⟨e, _, he, heq, _⟩ := findK_some hf
        simp only [Nat.sub_zero] at he
        refine ⟨_, ?_, h⟩
        have h1 : ((es.toArray[i]?).map (·.key)).getD key = e.key := by simp [he]
        have h2 : (es.toArray.modify i fun e => { e with key, val := x }) = (es.modify i fun e => { e with key, val := x }).toArray := by simp
        simp only [Instr.mapUpdate, Sem.run_bind, run_under hu, Result.andThen_ok, run_getObj_map hm, checkKey_run hk, findKey_run hk hf, h1, keyStays_run heq, h2, run_setObj_map hm]
      · rename_i hf
        refine ⟨_, ?_, h⟩
        have h2 : es.toArray.push ({ key, val := x, born := c } : MapEntry) = (es ++ [({ key, val := x, born := c } : MapEntry)]).toArray := by simp
        simp only [Instr.mapUpdate, Sem.run_bind, run_under hu, Result.andThen_ok, run_getObj_map hm, checkKey_run hk, findKey_run hk hf, h2, run_setObj_map hm]
      · exact h.elim
    · exact h.elim
  · exact h.elim

theorem deleteK_run {T ty : TypeId} {ts : Array TypeId} {m key : Value} {k : World → Prop} (ht : ts[0]? = some T) (h : deleteK P T m key w k) :
    ∃ w', (Builtin.delete_ ts ty #[m, key]).run P w = .ok (.tuple #[]) w' ∧ k w' := by
  unfold deleteK at h
  split at h
  · rename_i K E r hT
    have hu := mapTypes_spec hT
    split at h
    · rename_i es c hm
      obtain ⟨hk, h⟩ := h
      split at h
      · rename_i i v hf
        refine ⟨_, ?_, h⟩
        have h2 : es.toArray.eraseIdxIfInBounds i = (es.eraseIdx i).toArray := by simp
        simp only [Builtin.delete_, ht, Sem.run_bind, run_under hu, Result.andThen_ok, run_getObj_map hm, checkKey_run hk, findKey_run hk hf, h2, run_setObj_map hm, List.getElem?_toArray, List.getElem?_cons_zero, List.getElem?_cons_succ, Sem.run_pure]
      · rename_i hf
        refine ⟨_, ?_, h⟩
        simp only [Builtin.delete_, ht, Sem.run_bind, run_under hu, Result.andThen_ok, run_getObj_map hm, checkKey_run hk, findKey_run hk hf, run_setObj_map hm, List.getElem?_toArray, List.getElem?_cons_zero, List.getElem?_cons_succ, Sem.run_pure]
      · exact h.elim
    · exact h.elim
  · exact h.elim

theorem lenK_run {T ty : TypeId} {ts : Array TypeId} {as : Array Value} {x : Value} {k : Value → Prop} (ht : ts[0]? = some T) (ha : as[0]? = some x) (h : lenK P T x w k) :
    ∃ v, (Builtin.len_ ts ty as).run P w = .ok v w ∧ k v := by
  unfold lenK at h
  split at h
  · rename_i s hT
    exact ⟨_, by simp [Builtin.len_, ht, ha, run_under hT, goInt], h⟩
  · rename_i e a n c hT
    exact ⟨_, by simp [Builtin.len_, ht, ha, run_under hT, goInt], h⟩
  · rename_i hT
    exact ⟨_, by simp [Builtin.len_, ht, ha, run_under hT, goInt], h⟩
  · rename_i r hT
    split at h
    · rename_i es c hm
      exact ⟨_, by simp [Builtin.len_, ht, ha, run_under hT, goInt, run_getObj_map hm], h⟩
    · exact h.elim
  · exact h.elim

theorem rangeK_run {T : TypeId} {x : Value} {k : Value → World → Prop} (h : rangeK P T x w k) :
    ∃ v w', (Instr.range T x).run P w = .ok v w' ∧ k v w' := by
  unfold rangeK at h
  split at h
  · rename_i K hT
    obtain ⟨a, b⟩ := K
    exact ⟨_, _, by simp [Instr.range, run_under (mapTypes_spec hT)], h⟩
  · rename_i K m hT
    obtain ⟨a, b⟩ := K
    split at h
    · rename_i es c hm
      exact ⟨_, _, by simp [Instr.range, run_under (mapTypes_spec hT), run_getObj_map hm], h⟩
    · exact h.elim
  · exact h.elim

theorem entryK_run {it : Value} {k : Value → Prop} (h : entryK it w k) : ∃ v, (Instr.entry it).run P w = .ok v w ∧ k v := by
  unfold entryK at h
  split at h
  · rename_i r s
    split at h
    · rename_i m since seen stepped hr
      split at h
      · rename_i es clock stamp hm hs
        obtain ⟨rfl, h⟩ := h
        split at h
        · rename_i e he
          refine ⟨_, ?_, h⟩
          have h1 : (getObj r).run P w = .ok (.mapIter (some m) since seen clock) w := by simp [getObj, Sem.run, hr]
          simp [Instr.entry, h1, hs, run_getObj_map hm, he]
        · exact h.elim
      · exact h.elim
    · exact h.elim
  · exact h.elim
end
end Go.X
