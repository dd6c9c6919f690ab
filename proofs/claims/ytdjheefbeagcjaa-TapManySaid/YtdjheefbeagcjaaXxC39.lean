/- Small steps: the library's sort, a new entry of a map, objects that change. -/
import Derived.Test.YtdjheefbeagcjaaXxSt
import Derived.Test.YtdjheefbeagcjaaXxSo
import Derived.Test.YtdjheefbeagcjaaXxX
set_option linter.unusedSimpArgs false
set_option linter.unusedVariables false
namespace Go.X
open Go Go.AW

section
variable {S : Nat → Prop} {w0 w : World} {R R' : List Res} {K : Value → World → Prop} {k : Value → Prop}

theorem sorted_heap {w : World} {b i n : Nat} {os : Array Obj} {c : Array Value} {e : TypeId} (d : Array Int) (hb : w.heap[b]? = some (.cells c e (0, 0))) :
    (Sort.grow (Sort.putRow (Value.int .i64) (Sort.ahead w n) b i d) os).heap[b]? = some (.cells (Sort.putCells (Value.int .i64) i d c) e (0, 0)) := by
  have hg : b < w.heap.size := (Array.getElem?_eq_some_iff.1 hb).1
  rw [Sort.heap_grow_old _ _ (by simpa using hg)]
  simp [Sort.putRow, Sort.mapBlock, Sort.ahead, Array.getElem?_modify, hb, Sort.onCells]

theorem sorted_keeps {w : World} {b i n : Nat} {os : Array Obj} (d : Array Int) : Keeps (· = b) w (Sort.grow (Sort.putRow (Value.int .i64) (Sort.ahead w n) b i d) os) := by
  refine ⟨by simp, fun k hk hne => ?_, rfl, rfl, rfl⟩
  rw [Sort.heap_grow_old _ _ (by simpa using hk)]
  have : ¬ b = k := fun e => hne e.symm
  simp [Sort.putRow, Sort.mapBlock, Sort.ahead, Array.getElem?_modify, this]

theorem State.sort {v : Value} {zs : List Int} (st : State S w0 w R) (hs : Sub (.slice v (zs.map vi)) (.slice v ((zs.mergeSort fun x y => decide (x ≤ y)).map vi)) R R') (hsz : zs.length < 4611686018427387904)
    (h : ∀ w, State S w0 w R' → K (.tuple #[]) w) : callOn prog fn_slices_Sort_Ref #[v] w K := by
  have hv := st.sl hs.mem
  have hv0 := hv
  unfold SliceOf at hv
  split at hv
  · rename_i n cap
    obtain ⟨rfl, rfl, hz⟩ := hv
    have hz : zs = [] := by simpa using hz
    subst hz
    refine Calls.mono (Go.Proofs.AnyM.slices_Sort_int_none Go.Proofs.mSort none 0 w) fun e w' ⟨he, hw⟩ => ?_
    subst he; subst hw
    refine ⟨_, rfl, h _ (st.change hs .refl ?_ ?_ ?_)⟩
    · exact ⟨rfl, rfl, by simp⟩
    · simp [Res.blks, sliceBlk]
    · simp [Res.blks, sliceBlk]
  · rename_i b i n cap
    obtain ⟨hn, c, hc, hl, ht, hle⟩ := hv
    obtain ⟨cs, e, hb, rfl⟩ := cellsOf_spec hc
    have hl : n = zs.length := by simpa using hl
    subst hl
    have hsize : i + cap ≤ cs.size := by simpa using hle
    have hcell : ∀ j (hj : j < zs.length), cs[i + j]? = some (vi zs[j]) := fun j hj => by
      have h1 : ((cs.toList.drop i).take zs.length)[j]? = (zs.map vi)[j]? := by rw [ht]
      rw [List.getElem?_take_of_lt hj, List.getElem?_drop, Array.getElem?_toList] at h1
      rw [h1]; simp [hj]
    have hH : Sort.Holds (Value.int .i64) w b i zs.toArray := by
      intro j hj
      have hj' : j < zs.length := by simpa using hj
      refine ⟨?_, by simp [World.frozen?, hb]⟩
      simp only [World.cell?, hb, Option.isSome_none, Bool.false_eq_true, if_false]
      rw [hcell j hj']
      simp [hj']
    have hlt : b < w.heap.size := lt_of_get hb
    refine Calls.mono (Go.Proofs.AnyM.slices_Sort_int Go.Proofs.mSort b i cap zs w hH hlt hsz) fun x w' ⟨he, m, os, hw⟩ => ?_
    subst he; subst hw
    generalize hd : (zs.mergeSort fun x y => decide (x ≤ y)) = ds
    have hdl : ds.length = zs.length := by rw [← hd]; exact List.length_mergeSort ..
    refine ⟨_, rfl, h _ ?_⟩
    rw [hd] at hs
    have hnew := sorted_heap (n := m) (os := os) (i := i) ds.toArray hb
    refine st.change hs ((sorted_keeps ds.toArray).mono fun y _ hy => by simp [Res.blks, sliceBlk, hy]) ?_ (by simp [Res.blks, sliceBlk]) (by simp [Res.blks, sliceBlk])
    refine ⟨hn, (Sort.putCells (Value.int .i64) i ds.toArray cs).toList, by simp only [cellsOf, hnew], by simp [hdl], ?_, by simpa [Sort.putCells] using hsize⟩
    apply List.ext_getElem?
    intro j
    by_cases hj : j < zs.length
    · rw [List.getElem?_take_of_lt hj, List.getElem?_drop, Array.getElem?_toList]
      simp [Sort.putCells, hdl, hj, show i + j < cs.size by omega, show j < ds.length by omega]
    · rw [List.getElem?_take_eq_none (by omega), List.getElem?_eq_none (by simp; omega)]
  · exact hv.elim

theorem callY_mono {P : Program} {f : Value} {args : List Value} {k k' : Value → World → Prop} (h : callY P f args w k) (hk : ∀ v w, k v w → k' v w) : callY P f args w k' := by
  unfold callY at *
  split at h
  · obtain ⟨fn, tmps, assign, body, hy, hR⟩ := h
    exact ⟨fn, tmps, assign, body, hy, hR.mono fun e w' ⟨v, he, hv⟩ => ⟨v, he, hk v w' hv⟩⟩
  · rename_i g first captured
    cases he : enters P g with
    | true =>
      rw [he, cond_true] at h
      rw [cond_true]
      exact Calls.mono h fun e w' ⟨v, he, hv⟩ => ⟨v, he, hk v w' hv⟩
    | false => rw [he, cond_false] at h; exact h.elim
  · exact h.elim

theorem sliceBlk_nodup (v : Value) : (sliceBlk v).Nodup := by
  unfold sliceBlk
  split <;> simp

theorem State.perm0 (st : State S w0 w R) (h : R.Perm R') : State S w0 w R' := by
  have hb : (blksOf R).Perm (blksOf R') := h.flatMap_right _
  exact ⟨st.keeps, fun r hr => st.holds r (h.mem_iff.2 hr), hb.nodup_iff.1 st.apart, fun b hb' => st.own b (hb.mem_iff.2 hb')⟩

/-- append to a slice of one's own -/
theorem State.append {e bytes : Nat} {z s v : Value} {l ys : List Value} (R' : Value → List Res) (st : State S w0 w R) (hs : ∀ s', Sub (.slice s l) (.slice s' (l ++ ys)) R (R' s')) (hv : ReadsOf w v ys) (ho : ∀ y ∈ ys, y.oneCell' = true)
    (hz : z.cells.size = 1) (hroom : (l.length + ys.length) * bytes ≤ 140737488355328) (hmax : l.length + ys.length ≤ 140737488355328) (h : ∀ s' w, State S w0 w (R' s') → K s' w) : appendS e 1 bytes z s v w K :=
  append_rd (st.sl (hs undef).mem) hv ho hz hroom hmax fun s' w' hk hs' hb => h s' w' (st.change (hs s') (hk.mono fun y _ hy => hy) hs' (sliceBlk_nodup s') hb)

/-- a slice that is none -/
theorem State.pushNone (st : State S w0 w R) : State S w0 w (.slice noList [] :: R) := st.push .refl (r := .slice noList []) ⟨rfl, rfl, rfl⟩ (by simp [Res.blks, sliceBlk]) (by simp [Res.blks, sliceBlk])

theorem makeCap {e bytes m : Nat} {z : Value} (hz : z.cells = #[z]) (hn : (bytes : Int) * m ≤ 281474976710656) (hm : m ≤ 281474976710656) (h : ∀ v w', Ext w w' → SliceOf w' v [] → (∀ b ∈ sliceBlk v, w.heap.size ≤ b) → K v w') : makeS e 1 bytes z (vi 0) (vi m) w K := by
  unfold makeS
  refine ⟨by omega, by omega, ?_, hn, ?_⟩
  · have : IntKind.i64.max = 9223372036854775807 := by decide
    rw [this]; omega
  · have h1 : (if (m : Int).toNat * 1 = 0 then #[] else z.cells) = if m = 0 then #[] else #[z] := by simp [hz]
    rw [h1]
    have h2 : ∀ m, (zerosOf (if m = 0 then #[] else #[z]) m).toList.length = m := by intro m; simp [zerosOf]
    have h3 := cellsOf_new w (zerosOf (if m = 0 then #[] else #[z]) m) e
    simp only [Int.toNat_natCast, Nat.mul_one, Int.toNat_zero]
    exact h _ _ (Ext.alloc _ _) ⟨Nat.zero_le _, _, h3, rfl, by simp, by rw [h2]; omega⟩ (by simp [sliceBlk])

theorem lenM_at {L : Lay} {a : AW} (h : WRep w L a) (hk : k (vi a.things.length)) : lenM (.map (some L.bm)) w k := by
  simp only [lenM, h.things]
  have : L.es.length = a.things.length := by simpa using h.ents.length_eq
  rw [this]; exact hk

/-- a new entry of a map -/
theorem State.entryNew {p : Bool} {b c : Nat} {es : List MapEntry} {key x : Value} {f : World → Prop} (st : State S w0 w R) (hs : Sub (.map b es c) (.map b (es ++ [{ key, val := x, born := c }]) (c + 1)) R R')
    (hsh : keyShape p key = true) (hf : findK key es 0 = some none) (h : ∀ w, State S w0 w R' → f w) : updM p (.map (some b)) key x w f := by
  have hmap : mapOf w b = some (es, c) := st.holds _ hs.mem
  simp only [updM, hmap, hf]
  exact ⟨hsh, h _ (st.change hs ((Keeps.setMap w b _ _).mono fun y _ hy => by simp [Res.blks, hy]) (mapOf_setMap hmap _ _) (by simp [Res.blks]) (by simp [Res.blks]))⟩

theorem Keeps.putObj (w : World) (b : Nat) (o : Obj) : Keeps (· = b) w (w.putObj b o) :=
  ⟨by simp, fun k _ hk => World.putObj_heap_other hk, rfl, rfl, rfl⟩

/-- an object is written over -/
theorem State.putObj {b : Nat} {o o' : Obj} (st : State S w0 w R) (hs : Sub (.obj b o) (.obj b o') R R') : State S w0 (w.putObj b o') R' := by
  have hb : w.heap[b]? = some o := st.holds _ hs.mem
  exact st.change hs ((Keeps.putObj w b o').mono fun y _ hy => by simp [Res.blks, hy]) (World.putObj_heap_same (lt_of_get hb)) (by simp [Res.blks]) (by simp [Res.blks])

/-- what a statement 'for .. := range f' asks, where f is at hand -/
theorem State.rangeX {f : FuncId} {captured : Array Value} {nps : Nat} {B : Nat → Obj → Obj → (Code → Obj) → (Value → World → Prop) → List Value → World → Prop} {KN KR : Kont} {KE : List (Nat × Kont)} {ds : List Deferred} (st : State S w0 w R) (hen : enters prog f = true)
    (h : ∀ l D oR oB oE oD w, State S w0 w (.obj l oR :: .obj D (.deferred (some [])) :: R) → (allV nps fun vs => ∀ w1 k, w1.heap[l]? = some oR → B l oR oB oD k vs w1 → yieldOn prog l vs w1 k) →
      callOn prog f (.func (.yield l) #[] #[] :: captured.toList).toArray w fun _ w2 => endK l oR oE oD KN KR KE (mark D :: ds) w2) :
    Go.X.rangeX prog (.func (.func f) #[] captured) nps B KN KR KE ds w := by
  refine ⟨hen, fun l D oR oB oE oD W1 W he hD hWD he2 hl hWl hy => ?_⟩
  have st1 := st.push (r := .obj D (.deferred (some []))) he hWD (by simp [Res.blks]) (by simp [Res.blks]; omega)
  have st2 := st1.push (r := .obj l oR) he2 hWl (by simp [Res.blks]) (by simp [Res.blks]; omega)
  exact h l D oR oB oE oD W st2 hy

/-- a function leaves, one mark among its deferred calls -/
theorem State.leave1 {D : Nat} {f : World → Prop} (st : State S w0 w R) (hs : Sub (.obj D (.deferred (some []))) (.obj D (.deferred none)) R R') (h : ∀ w, State S w0 w R' → f w) : leaveK prog [mark D] f w :=
  ⟨st.holds _ hs.mem, h _ (st.putObj hs)⟩
end
end Go.X
