/- Texts of this family, put together. -/
import Derived.Test.YtdjheefbeagcjaaXxRun
/- The rest of the operations: maps, slices, aggregates; then all operations in one theorem. -/
set_option linter.unusedSimpArgs false
namespace Go.X
open Go

section
variable {P : Program} {w : World}

theorem zeroOf_run {E : TypeId} {z : Value} (h : zeroOf P E = some z) : (zeroValue E).run P w = .ok z w := by
  obtain ⟨i, hi, hz⟩ := Option.bind_eq_some_iff.1 h
  simp [zeroValue, run_info hi, hz]

theorem foundK_run {K E : TypeId} {ok : Bool} {key : Value} {es : List MapEntry} {k : Value → Prop} (hk : keyOk P K key = true) (h : foundK P E ok (findK key es 0) k) :
    ∃ v, (do
      let (v, okk) ← match ← Instr.findKey K key es with
        | some (_, v) => pure (v, true)
        | none => pure (← zeroValue E, false)
      pure (if ok then .tuple #[v, .bool okk] else v) : Sem Value).run P w = .ok v w ∧ k v := by
  unfold foundK at h
  split at h
  · rename_i i v hf
    refine ⟨_, ?_, h⟩
    simp [findKey_run hk hf]
  · rename_i hf
    split at h
    · rename_i z hz
      refine ⟨_, ?_, h⟩
      simp [findKey_run hk hf, zeroOf_run hz]
    · exact h.elim
  · exact h.elim

theorem lookupK_run {T : TypeId} {x i : Value} {ok : Bool} {k : Value → Prop} (h : lookupK P T x i ok w k) :
    ∃ v, (Instr.lookup T x i ok).run P w = .ok v w ∧ k v := by
  unfold lookupK at h
  split at h
  · rename_i K E hT
    have hu := mapTypes_spec hT
    obtain ⟨v, hv, hkv⟩ := foundK_run (w := w) (es := []) h.1 (by simpa [findK] using h.2)
    refine ⟨v, ?_, hkv⟩
    rw [← hv]
    simp only [Instr.lookup, Sem.run_bind, run_under hu, Result.andThen_ok, Sem.run_pure, checkKey_run h.1]
    rfl
  · rename_i K E r hT
    have hu := mapTypes_spec hT
    split at h
    · rename_i es c hm
      obtain ⟨v, hv, hkv⟩ := foundK_run (w := w) h.1 h.2
      refine ⟨v, ?_, hkv⟩
      rw [← hv]
      simp only [Instr.lookup, Sem.run_bind, run_under hu, Result.andThen_ok, Sem.run_pure, run_getObj_map hm, checkKey_run h.1]
      rfl
    · exact h.elim
  · exact h.elim

theorem keyEq_true_bits {x y : Value} (h : keyEq x y = some true) : Instr.sameBits 10000 y x = true := by
  cases x with
  | int q a =>
    cases y with
    | int q' b =>
      obtain ⟨rfl, hab⟩ := keyEq_int h
      have : a = b := by simpa using hab
      subst this
      simp [Instr.sameBits]
    | _ => simp [keyEq] at h
  | agg c =>
    cases y with
    | agg d =>
      simp only [keyEq] at h
      split at h
      · rename_i q1 a1 p1 b1 q2 a2 p2 b2 hx hy
        split at h
        · rename_i hq
          obtain ⟨rfl, rfl⟩ := hq
          simp at h
          obtain ⟨rfl, rfl⟩ := h
          rw [toList_pair hx, toList_pair hy, show (10000 : Nat) = 9998 + 1 + 1 from rfl]
          simp [Instr.sameBits]
        · simp at h
      · simp at h
    | _ => simp [keyEq] at h
  | _ => simp [keyEq] at h

theorem findK_some {key : Value} : ∀ {es : List MapEntry} {i j : Nat} {v : Value}, findK key es i = some (some (j, v)) →
    ∃ e, i ≤ j ∧ es[j - i]? = some e ∧ keyEq key e.key = some true ∧ e.val = v
  | [], i, j, v, h => by simp [findK] at h
  | e :: es, i, j, v, h => by
    simp only [findK] at h
    cases ht : keyEq key e.key with
    | none => simp [ht] at h
    | some t =>
      cases t with
      | true =>
        simp [ht] at h
        obtain ⟨rfl, rfl⟩ := h
        exact ⟨e, Nat.le_refl _, by simp, ht, rfl⟩
      | false =>
        simp [ht] at h
        obtain ⟨e', h1, h2, h3, h4⟩ := findK_some h
        refine ⟨e', by omega, ?_, h3, h4⟩
        rw [show j - i = (j - (i + 1)) + 1 by omega]
        simpa using h2

theorem run_setObj_map {r : Nat} {es : List MapEntry} {c : Nat} (h : mapOf w r = some (es, c)) (es' : List MapEntry) (c' : Nat) :
    (setObj r (.map es'.toArray c')).run P w = .ok () (setMap w r es' c') := by
  simp [setObj, Sem.run, mapOf_spec h, setMap]

theorem keyStays_run {old new : Value} (h : keyEq new old = some true) : (Instr.keyThatStays old new).run P w = .ok new w := by
  simp [Instr.keyThatStays, keyEq_true_bits h]

theorem mapUpdateK_run {T : TypeId} {m key x : Value} {k : World → Prop} (h : mapUpdateK P T m key x w k) :
    ∃ w', (Instr.mapUpdate T m key x).run P w = .ok () w' ∧ k w' := by
  unfold mapUpdateK at h
  split at h
  · rename_i K E r hT
    have hu := mapTypes_spec hT
    split at h
    · rename_i es c hm
      obtain ⟨hk, h⟩ := h
      split at h
      · rename_i i v hf
        obtain ⟨e, _, he, heq, _⟩ := findK_some hf
        simp only [Nat.sub_zero] at he
        refine ⟨_, ?_, h⟩
        have h1 : ((es.toArray[i]?).map (·.key)).getD key = e.key := by simp [he]
        have h2 : (es.toArray.modify i fun e => { e with key, val := x }) = (es.modify i fun e => { e with key, val := x }).toArray := by simp
        simp only [Instr.mapUpdate, Sem.run_bind, run_under hu, Result.andThen_ok, run_getObj_map hm, checkKey_run hk, findKey_run hk hf, h1, keyStays_run heq, h2, run_setObj_map hm]
      · rename_i hf
        refine ⟨_, ?_, h⟩
        have h2 : es.toArray.push ({ key, val := x, born := c } : MapEntry) = (es ++ [({ key, val := x, born := c } : MapEntry)]).toArray := by simp
        simp only [Instr.mapUpdate, Sem.run_bind, run_under hu, Result.andThen_ok, run_getObj_map hm, checkKey_run hk, findKey_run hk hf, h2, run_setObj_map hm]
      · exact h.elim
    · exact h.elim
  · exact h.elim

theorem deleteK_run {T ty : TypeId} {ts : Array TypeId} {m key : Value} {k : World → Prop} (ht : ts[0]? = some T) (h : deleteK P T m key w k) :
    ∃ w', (Builtin.delete_ ts ty #[m, key]).run P w = .ok (.tuple #[]) w' ∧ k w' := by
  unfold deleteK at h
  split at h
  · rename_i K E r hT
    have hu := mapTypes_spec hT
    split at h
    · rename_i es c hm
      obtain ⟨hk, h⟩ := h
      split at h
      · rename_i i v hf
        refine ⟨_, ?_, h⟩
        have h2 : es.toArray.eraseIdxIfInBounds i = (es.eraseIdx i).toArray := by simp
        simp only [Builtin.delete_, ht, Sem.run_bind, run_under hu, Result.andThen_ok, run_getObj_map hm, checkKey_run hk, findKey_run hk hf, h2, run_setObj_map hm, List.getElem?_toArray, List.getElem?_cons_zero, List.getElem?_cons_succ, Sem.run_pure]
      · rename_i hf
        refine ⟨_, ?_, h⟩
        simp only [Builtin.delete_, ht, Sem.run_bind, run_under hu, Result.andThen_ok, run_getObj_map hm, checkKey_run hk, findKey_run hk hf, run_setObj_map hm, List.getElem?_toArray, List.getElem?_cons_zero, List.getElem?_cons_succ, Sem.run_pure]
      · exact h.elim
    · exact h.elim
  · exact h.elim

theorem lenK_run {T ty : TypeId} {ts : Array TypeId} {as : Array Value} {x : Value} {k : Value → Prop} (ht : ts[0]? = some T) (ha : as[0]? = some x) (h : lenK P T x w k) :
    ∃ v, (Builtin.len_ ts ty as).run P w = .ok v w ∧ k v := by
  unfold lenK at h
  split at h
  · rename_i s hT
    exact ⟨_, by simp [Builtin.len_, ht, ha, run_under hT, goInt], h⟩
  · rename_i e a n c hT
    exact ⟨_, by simp [Builtin.len_, ht, ha, run_under hT, goInt], h⟩
  · rename_i hT
    exact ⟨_, by simp [Builtin.len_, ht, ha, run_under hT, goInt], h⟩
  · rename_i r hT
    split at h
    · rename_i es c hm
      exact ⟨_, by simp [Builtin.len_, ht, ha, run_under hT, goInt, run_getObj_map hm], h⟩
    · exact h.elim
  · exact h.elim

theorem rangeK_run {T : TypeId} {x : Value} {k : Value → World → Prop} (h : rangeK P T x w k) :
    ∃ v w', (Instr.range T x).run P w = .ok v w' ∧ k v w' := by
  unfold rangeK at h
  split at h
  · rename_i K hT
    obtain ⟨a, b⟩ := K
    exact ⟨_, _, by simp [Instr.range, run_under (mapTypes_spec hT)], h⟩
  · rename_i K m hT
    obtain ⟨a, b⟩ := K
    split at h
    · rename_i es c hm
      exact ⟨_, _, by simp [Instr.range, run_under (mapTypes_spec hT), run_getObj_map hm], h⟩
    · exact h.elim
  · exact h.elim

theorem entryK_run {it : Value} {k : Value → Prop} (h : entryK it w k) : ∃ v, (Instr.entry it).run P w = .ok v w ∧ k v := by
  unfold entryK at h
  split at h
  · rename_i r s
    split at h
    · rename_i m since seen stepped hr
      split at h
      · rename_i es clock stamp hm hs
        obtain ⟨rfl, h⟩ := h
        split at h
        · rename_i e he
          refine ⟨_, ?_, h⟩
          have h1 : (getObj r).run P w = .ok (.mapIter (some m) since seen clock) w := by simp [getObj, Sem.run, hr]
          simp [Instr.entry, h1, hs, run_getObj_map hm, he]
        · exact h.elim
      · exact h.elim
    · exact h.elim
  · exact h.elim
end
end Go.X
/- Slices, aggregates, calls, the iterator's step; then all operations in one theorem. -/
set_option linter.unusedSimpArgs false
namespace Go.X
open Go

section
variable {P : Program} {w : World}

theorem run_setObj_iter {r : Nat} {a : Option Nat} {b : Nat} {s : Array Nat} {d : Nat} (h : w.heap[r]? = some (.mapIter a b s d)) (o : Obj) :
    (setObj r o).run P w = .ok () (setObjW w r o) := by
  simp [setObj, Sem.run, h, setObjW]

theorem nextK_run {it : Value} {T : TypeId} {k : Value → World → Prop} (h : nextK it w k) :
    ∃ v w', (Instr.next it false T).run P w = .ok v w' ∧ k v w' := by
  unfold nextK at h
  split at h
  · rename_i r s
    split at h
    · rename_i x1 x2 x3 hr
      have h1 : (getObj r).run P w = .ok (.mapIter none x1 x2 x3) w := by simp [getObj, Sem.run, hr]
      exact ⟨_, _, by simp [Instr.next, h1], h⟩
    · rename_i m since seen last hr
      split at h
      · rename_i es clock hm
        obtain ⟨hs, hall⟩ := h
        have h1 : (getObj r).run P w = .ok (.mapIter (some m) since seen last) w := by simp [getObj, Sem.run, hr]
        have h2 := run_getObj_map (P := P) hm
        have h3 : (!seen.isEmpty && !es.toArray.isEmpty && es.toArray.all (·.born ≥ last)) = false := by
          rcases hs with rfl | ⟨e, he, hlt⟩
          · simp
          · simp only [Bool.and_eq_false_imp]
            intro _
            simp only [Array.all_eq_false']
            exact ⟨e, by simpa using he, by simp; omega⟩
        -- the candidates
        let left := es.toArray.filter fun e => !seen.contains e.born
        let old := left.filter (·.born < since)
        let new := left.filter (·.born ≥ since)
        let cands : Array (Option MapEntry) := (if old.isEmpty then #[none] else #[]) ++ (old ++ new).map some
        have hmem : ∀ e, some e ∈ cands → e ∈ es ∧ seen.contains e.born = false := by
          intro e he
          have : e ∈ old ++ new := by
            rcases Array.mem_append.1 he with h' | h'
            · split at h' <;> simp at h'
            · simpa using h'
          have hl : e ∈ left := by
            rcases Array.mem_append.1 this with h' | h'
            · exact (Array.mem_filter.1 h').1
            · exact (Array.mem_filter.1 h').1
          have := Array.mem_filter.1 hl
          exact ⟨by simpa using this.1, by simpa using this.2⟩
        have hnone : none ∈ cands → ∀ e, e ∈ es → seen.contains e.born = false → since ≤ e.born := by
          intro hn e he hse
          have : old.isEmpty = true := by
            rcases Array.mem_append.1 hn with h' | h'
            · split at h'
              · assumption
              · simp at h'
            · simp at h'
          apply Nat.le_of_not_lt
          intro hlt
          have hin : e ∈ old := Array.mem_filter.2 ⟨Array.mem_filter.2 ⟨by simpa using he, by simpa using hse⟩, by simpa using hlt⟩
          rw [Array.isEmpty_iff] at this
          rw [this] at hin
          simp at hin
        have hpos : 0 < cands.size := by
          apply Nat.pos_of_ne_zero
          intro h0
          have : cands = #[] := Array.eq_empty_of_size_eq_zero h0
          have ho : old.isEmpty = false := by
            cases hoe : old.isEmpty with
            | false => rfl
            | true => simp [cands, hoe] at this
          have : old = #[] := by
            simp [cands, ho] at this
            exact this.1
          simp [this] at ho
        have hch : ∃ n w1, (w1 = w ∨ w1 = w.drew) ∧ n < cands.size ∧ (choose (.mapNext cands.size)).run P w = .ok n w1 := by
          rw [run_choose]
          split
          · exact ⟨0, w, .inl rfl, hpos, rfl⟩
          · exact ⟨_, w.drew, .inr rfl, Nat.mod_lt _ hpos, rfl⟩
        obtain ⟨n, w1, hw1, hn, hrun⟩ := hch
        obtain ⟨ha, hb⟩ := hall w1 hw1
        have hr1 : w1.heap[r]? = some (.mapIter (some m) since seen last) := by rcases hw1 with rfl | rfl <;> exact hr
        have hrun' : (choose (.mapNext (Array.size ((if (Array.filter (fun x => decide (x.born < since)) (Array.filter (fun e => !seen.contains e.born) es.toArray)).isEmpty then #[none] else #[]) ++ Array.map some (Array.filter (fun x => decide (x.born < since)) (Array.filter (fun e => !seen.contains e.born) es.toArray) ++ Array.filter (fun x => decide (x.born ≥ since)) (Array.filter (fun e => !seen.contains e.born) es.toArray)))))).run P w = .ok n w1 := hrun
        have hget : cands[n]? = some cands[n] := Array.getElem?_eq_getElem hn
        cases hc : cands[n] with
        | none =>
          refine ⟨_, _, ?_, hb (hnone (hc ▸ Array.getElem_mem hn))⟩
          rw [hc] at hget
          simp only [Instr.next, Sem.run_bind, h1, h2, h3, Result.andThen_ok, Sem.run_pure, Bool.false_eq_true, if_false]
          rw [hrun']
          simp only [Result.andThen_ok]
          change (match cands[n]? with | some (some e) => _ | some none => _ | none => _ : Sem Value).run P w1 = _
          rw [hget]
          rfl
        | some e =>
          have hme := hmem e (hc ▸ Array.getElem_mem hn)
          refine ⟨_, _, ?_, ha e hme.1 hme.2⟩
          rw [hc] at hget
          simp only [Instr.next, Sem.run_bind, h1, h2, h3, Result.andThen_ok, Sem.run_pure, Bool.false_eq_true, if_false]
          rw [hrun']
          simp only [Result.andThen_ok]
          change (match cands[n]? with | some (some e) => _ | some none => _ | none => _ : Sem Value).run P w1 = _
          rw [hget]
          simp only [Sem.run_bind, run_setObj_iter hr1, Result.andThen_ok, Sem.run_pure]
      · exact h.elim
    · exact h.elim
  · exact h.elim
theorem firstK_run {size n : Nat} {x : Value} {l : List Value} (h : firstK size n x w = some l) : (Builtin.firstCells size n x).run P w = .ok l.toArray w := by
  unfold firstK at h
  split at h
  · simp at h; subst h; simp [Builtin.firstCells]
  · rename_i a _ _
    split at h
    · rename_i h0
      simp at h
      subst h
      simp only [Builtin.firstCells, h0]
      exact run_loadCells_list (P := P) w a [] (fun j v hj => by simp at hj)
    · split at h
      · rename_i b i
        obtain ⟨c, hc, h⟩ := Option.bind_eq_some_iff.1 h
        split at h
        · rename_i hle
          simp at h
          subst h
          simp only [Builtin.firstCells]
          exact run_loadCells_of (rd_of hc) hle
        · simp at h
      · simp at h
  · simp at h

theorem cut_le {need old : Nat} {e : TypeId} {t : Nat} : need ≤ (Question.appendCap need old e).cut t := by
  simp [Question.cut]

theorem appendK_run {T X ty : TypeId} {s x : Value} {k : Value → World → Prop} (h : appendK P T X s x w k) :
    ∃ v w', (Builtin.append_ #[T, X] ty #[s, x]).run P w = .ok v w' ∧ k v w' := by
  unfold appendK at h
  split at h
  · rename_i e e' base n cap xb m xc hT hX
    obtain ⟨hk, z, new, hz, hnew, hone, hin, hout⟩ := h
    have hf := firstK_run (P := P) hnew
    have hsz := run_sizeOf (w := w) hk
    obtain ⟨⟨i, hi⟩, _⟩ := known_spec hk
    by_cases hc : n + m ≤ cap
    · have h := hin hc
      cases base with
      | none =>
        refine ⟨_, _, ?_, h⟩
        simp [Builtin.append_, run_under hT, run_under hX, hsz, Builtin.lenOf, hc, hf]
      | some a =>
        obtain ⟨b, o, sp⟩ := a
        cases sp with
        | some _ => exact h.elim
        | none =>
          simp only [] at h
          obtain ⟨⟨l, hl, hle⟩, h⟩ := h
          refine ⟨_, _, ?_, h⟩
          have hst := run_storeCells_of (P := P) (i := o + n * sizeT P e) new w 0 l hl hone (by omega)
          simp [Builtin.append_, run_under hT, run_under hX, hsz, Builtin.lenOf, hc, hf, add_off, hst]
    · obtain ⟨old, hold, hroom, h⟩ := hout hc
      obtain ⟨hb, hmax⟩ := hroom i hi
      have hfo := firstK_run (P := P) (w := w.drew) (size := sizeT P e) (n := n) (x := .slice base n cap) (l := old) hold
      have hfn := firstK_run (P := P) (w := w.drew) (size := sizeT P e) (n := m) (x := .slice xb m xc) (l := new) hnew
      have hszd := run_sizeOf (P := P) (w := w.drew) hk
      have hzd := zeroOf_run (P := P) (w := w.drew) hz
      have hfit : ¬ Builtin.nextslicecap (n + m) cap * i.bytes > 2 ^ 48 := by
        have := growslice_fits (need := n + m) (old := cap) (bytes := i.bytes) (by omega) hb
        omega
      refine ⟨_, _, ?_, h ((Question.appendCap (n + m) cap e).cut (w.tape w.drawn (.appendCap (n + m) cap e))) cut_le⟩
      have hforced : (Question.appendCap (n + m) cap e).forced = false := rfl
      have hid : (typeInfo e).run P w.drew = .ok i w.drew := run_info hi
      have hgt : ¬ ((n + m : Nat) : Int) > IntKind.i64.max := by omega
      simp only [Builtin.append_, List.getElem?_toArray, List.getElem?_cons_zero, List.getElem?_cons_succ, Sem.run_bind, run_under hT, run_under hX, Result.andThen_ok, Sem.run_pure, hsz, Builtin.lenOf, hc, if_false, run_info hi, Bool.false_eq_true, false_or, hgt, false_and, hfit, run_choose, hforced, World.drew_eq, hid, run_askRoom, hfo, hfn, hzd, Bool.not_false, if_true, newRow, run_newObj, World.alloc_eq]
      simp only [List.append_toArray]
      rfl
  · exact h.elim

theorem minK_run {ts : Array TypeId} {ty : TypeId} {as : Array Value} {k : Value → Prop} (h : minK as.toList k) : ∃ v, (Builtin.min_ ts ty as).run P w = .ok v w ∧ k v := by
  unfold minK at h
  split at h
  · rename_i q x q' y ha
    exact ⟨_, by simp [Builtin.min_, ha, Builtin.min2], h⟩
  · exact h.elim

theorem maxK_run {ts : Array TypeId} {ty : TypeId} {as : Array Value} {k : Value → Prop} (h : maxK as.toList k) : ∃ v, (Builtin.max_ ts ty as).run P w = .ok v w ∧ k v := by
  unfold maxK at h
  split at h
  · rename_i q x q' y ha
    exact ⟨_, by simp [Builtin.max_, ha, Builtin.max2], h⟩
  · exact h.elim

theorem bound_none {d hi l : Nat} (h : boundK none d hi = some l) : d = l := by simpa [boundK] using h

theorem bound_some {v : Value} {d hi l : Nat} (h : boundK (some v) d hi = some l) (code : BoundsCode) : (Instr.sliceBound v hi code).run P w = .ok l w := by
  unfold boundK at h
  split at h
  · rename_i h'; simp at h'
  · rename_i q i hv
    simp at hv
    subst hv
    split at h
    · rename_i hc
      simp at h
      simp [Instr.sliceBound, asIntOf, hc, h]
    · simp at h
  · simp at h

theorem sliceK_run {T : TypeId} {x : Value} {lo hi mx : Option Value} {k : Value → Prop} (h : sliceK P T x lo hi mx k) :
    ∃ v, (Instr.sliceAt T x lo hi mx).run P w = .ok v w ∧ k v := by
  unfold sliceK at h
  split at h
  · rename_i e a n cap hT
    obtain ⟨hk, h⟩ := h
    split at h
    · rename_i m hm
      split at h
      · rename_i hh hhi
        split at h
        · rename_i l hl
          obtain ⟨himp, h⟩ := h
          refine ⟨_, ?_, h⟩
          have hs := run_sizeOf (w := w) hk
          simp only [Instr.sliceAt, Sem.run_bind, run_under hT, Result.andThen_ok, Instr.slice, Instr.sliceBounds, if_true]
          cases mx with
          | none =>
            have e1 := bound_none hm
            subst e1
            cases hi with
            | none =>
              have e2 := bound_none hhi
              subst e2
              cases lo with
              | none => have e3 := bound_none hl; subst e3; simp [hs]
              | some v => simp [bound_some hl, hs]
            | some u =>
              cases lo with
              | none => have e3 := bound_none hl; subst e3; simp [bound_some hhi, hs]
              | some v => simp [bound_some hl, bound_some hhi, hs]
          | some t =>
            cases hi with
            | none => simp at himp
            | some u =>
              cases lo with
              | none => have e3 := bound_none hl; subst e3; simp [bound_some hm, bound_some hhi, hs]
              | some v => simp [bound_some hl, bound_some hm, bound_some hhi, hs]
        · exact h.elim
      · exact h.elim
    · exact h.elim
  · exact h.elim

theorem wrap_id {m : Int} (h0 : 0 ≤ m) (h : m ≤ IntKind.i64.max) : IntKind.i64.wrap m = m := by
  have : IntKind.i64.max = 9223372036854775807 := by decide
  rw [this] at h
  simp [IntKind.wrap, IntKind.signed, IntKind.bits]
  omega

theorem makeSliceK_run {T : TypeId} {n c : Value} {k : Value → World → Prop} (h : makeSliceK P T n c w k) :
    ∃ v w', (Instr.makeSlice T n c).run P w = .ok v w' ∧ k v w' := by
  unfold makeSliceK at h
  split at h
  · rename_i e q l q' m hT
    split at h
    · rename_i i hi
      obtain ⟨hk, h0, h1, h2, h3, h⟩ := h
      split at h
      · rename_i z hz
        refine ⟨_, _, ?_, h⟩
        have hwl := wrap_id h0 (by omega)
        have hwm := wrap_id (m := m) (by omega) h2
        have hze : zeroOf P e = some z := by simp [zeroOf, hi, hz]
        have hsz : sizeT P e = i.size := by simp [sizeT, hi]
        have hs := run_sizeOf (w := w) hk
        rw [hsz] at hs
        simp only [Instr.makeSlice, Sem.run_bind, run_under hT, Result.andThen_ok, asInt, asIntOf, Sem.run_pure, run_info hi, hwl, hwm, hs, run_askRoom]
        have hb : (decide (m < 0) || decide ((i.bytes : Int) * m > 2 ^ 48)) = false := by
          have a1 : ¬ m < 0 := by omega
          have a2 : ¬ (i.bytes : Int) * m > 2 ^ 48 := by
            have : (2 : Int) ^ 48 = 281474976710656 := by decide
            rw [this]; omega
          simp [a1]
          exact h3
        have hl0 : ¬ l < 0 := by omega
        have hlm : ¬ l > m := by omega
        simp only [hb, Bool.false_eq_true, false_or, hl0, hlm, or_self, if_false, Sem.run_bind, Result.andThen_ok, run_askRoom, hs]
        by_cases hz0 : m.toNat * i.size = 0
        · simp [hs, hz0, newRow, zerosOf]
        · simp [hs, hz0, newRow, zerosOf, zeroOf_run hze]
      · exact h.elim
    · exact h.elim
  · exact h.elim
theorem foldlM_run {α β : Type} {g : α → Sem β} {h : α → β} : ∀ {fs : List α}, (∀ f ∈ fs, (g f).run P w = .ok (h f) w) →
    ∀ acc : Array β, (fs.foldlM (fun bs a => bs.push <$> g a) acc).run P w = .ok (acc ++ (fs.map h).toArray) w
  | [], _, acc => by simp
  | f :: fs, hf, acc => by
    have ih := foldlM_run (fs := fs) (fun f' hm => hf f' (by simp [hm])) (acc.push (h f))
    have h1 := hf f (by simp)
    simp only [List.foldlM_cons, Sem.run_bind, Sem.run_map, h1, Result.andThen_ok, ih, List.map_cons]
    congr 1
    simp

theorem mapM_run {α β : Type} {g : α → Sem β} {h : α → β} {fs : Array α} (hf : ∀ f ∈ fs.toList, (g f).run P w = .ok (h f) w) :
    (fs.mapM g).run P w = .ok (fs.toList.map h).toArray w := by
  have := foldlM_run (P := P) (w := w) hf #[]
  rw [Array.mapM_eq_foldlM, ← Array.foldlM_toList]
  simpa using this

theorem buildK_run {T : TypeId} {parts : List (Nat × Value)} {k : Value → Prop} (h : buildK P T parts k) :
    ∃ v, (Instr.build T parts.toArray).run P w = .ok v w ∧ k v := by
  unfold buildK at h
  split at h
  · rename_i fs z hT hz
    obtain ⟨hk, h⟩ := h
    split at h
    · rename_i c hc
      refine ⟨_, ?_, h⟩
      have hm : (fs.mapM fun (f : Field) => (do pure (f.offset, ← sizeOf f.type) : Sem (Nat × Nat))).run P w = .ok (fs.toList.map fun (f : Field) => (f.offset, sizeT P f.type)).toArray w :=
        mapM_run fun f hf => by
          have hkf := List.all_eq_true.1 hk f hf
          simp [run_sizeOf hkf]
      have hp : (fun j => ((fs.toList.map fun (f : Field) => (f.offset, sizeT P f.type)).toArray)[j]?) = fun (j : Nat) => (fs.toList[j]?).map fun (f : Field) => (f.offset, sizeT P f.type) := by
        funext j; simp
      simp only [Instr.build, Sem.run_bind, zeroOf_run hz, run_under hT, Result.andThen_ok]
      rw [hm]
      simp only [Result.andThen_ok, hp, hc, Sem.run_pure]
    · exact h.elim
  · rename_i n e z hT hz
    obtain ⟨hk, h⟩ := h
    split at h
    · rename_i c hc
      refine ⟨_, ?_, h⟩
      simp only [Instr.build, Sem.run_bind, zeroOf_run hz, run_under hT, Result.andThen_ok, run_sizeOf hk, hc, Sem.run_pure]
    · exact h.elim
  · exact h.elim

theorem buildSliceK_run {T : TypeId} {n : Nat} {parts : List (Nat × Value)} {k : Value → World → Prop} (h : buildSliceK P T n parts w k) :
    ∃ v w', (Instr.buildSlice T n parts.toArray).run P w = .ok v w' ∧ k v w' := by
  unfold buildSliceK at h
  split at h
  · rename_i e hT
    split at h
    · rename_i z hz
      obtain ⟨hk, hn, h⟩ := h
      split at h
      · rename_i c hc
        refine ⟨_, _, ?_, h⟩
        have hng : ¬ n * sizeT P e > 2 ^ 24 := by omega
        unfold zerosOf at hc
        by_cases h0 : n * sizeT P e = 0
        · simp only [h0, if_true] at hc
          simp [Instr.buildSlice, run_under hT, run_sizeOf hk, h0]
          simp at hc
          simp [hc, newRow]
        · simp only [h0, if_false] at hc
          simp only [Instr.buildSlice, Sem.run_bind, run_under hT, Result.andThen_ok, run_sizeOf hk, hng, if_false, Sem.run_pure, h0, zeroOf_run hz, hc, newRow, run_newObj, World.alloc_eq]
      · exact h.elim
    · exact h.elim
  · exact h.elim

def Upon (P : Program) (k : Value → World → Prop) : Result Next → Prop
  | .ok (.value v) w => k v w
  | .ok .skip w => k undef w
  | .ok (.enter f args) w => callOn P f args w k
  | _ => False

theorem callK_upon {ρ : Operand → Value} {f : Operand} {args : Array Operand} {ts : Array TypeId} {ty : TypeId} {k : Value → World → Prop}
    (h : callK P (ρ f) (args.toList.map ρ) w k) :
    Upon P k ((do let d ← resolve ρ { callee := .value f, args, argTypes := ts } ty; invoke d.target d.args : Sem Next).run P w) := by
  unfold callK at h
  split at h
  · rename_i g first captured hf
    obtain ⟨he, h⟩ := h
    unfold enters at he
    split at he
    · rename_i fn hfn
      simp only [Bool.and_eq_true, bne_iff_ne, ne_eq] at he
      have hb : fn.body.isNone = false := by
        cases hb : fn.body with
        | none => simp [hb] at he
        | some _ => rfl
      have hn : (fn.name == "runtime.NumGoroutine") = false := by simpa using he.1
      have hr : (args.toList.map ρ).toArray = args.map ρ := by cases args; simp
      rw [hr] at h
      simp only [resolve, hf, Deferred.ofValue, Sem.run_bind, Sem.run_pure, Result.andThen_ok, invoke, callFunc, run_program, hfn, hn, hb, Bool.false_eq_true, if_false]
      exact h
    · simp at he
  · exact h.elim
end
end Go.X
