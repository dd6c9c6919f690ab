/- Texts of this family, put together. -/
import Derived.Test.YtdjheefbeagcjaaXxCt
import Derived.Test.YtdjheefbeagcjaaXxAW
import Derived.Test.YtdjheefbeagcjaaXxSound
/- How a world of plain data lies in memory, and what is found there. -/
set_option linter.unusedSimpArgs false
set_option linter.unusedVariables false
namespace Go.X
open Go Go.AW

abbrev noText : Value := .string { data := #[] }
abbrev noList : Value := .slice none 0 0

def whCells (x : Wh) : List Value :=
  [vb x.kind, vi x.home, vb x.vk, vi x.vn, noText, noList, vi x.vr, noList, vi x.n, vi x.lost, vi x.of, vi x.by_, vb x.set, .bool x.full, noList, noList]

abbrev whV (x : Wh) : Value := .agg (whCells x).toArray

structure Lay where
  p : Nat
  bm : Nat
  bf : Nat
  par : Value
  cut : Value
  made : Value
  es : List MapEntry
  fs : List MapEntry
  cm : Nat
  cf : Nat
  bk : Int → Nat

def foot (L : Lay) (a : AW) : List Nat :=
  L.p :: L.bm :: L.bf :: (sliceBlk L.par ++ (sliceBlk L.cut ++ (sliceBlk L.made ++ a.things.map fun t => L.bk t.1)))

def fkey (of set : Int) : Value := .agg #[vi of, vb set]

def kv (e : MapEntry) : Value × Value := (e.key, e.val)

structure WRep (w : World) (L : Lay) (a : AW) : Prop where
  top : cellsOf w L.p = some [L.par, L.cut, .map (some L.bm), .map (some L.bf), vi a.last, L.made]
  par : SliceOf w L.par (a.parents.map vi)
  cut : SliceOf w L.cut (a.cut.map .bool)
  made : SliceOf w L.made (a.made.map vi)
  things : mapOf w L.bm = some (L.es, L.cm)
  facets : mapOf w L.bf = some (L.fs, L.cf)
  ents : (L.es.map kv).Perm (a.things.map fun t => (vi t.1, ptr (L.bk t.1)))
  facs : (L.fs.map kv).Perm ((a.things.filter fun t => t.2.kind == 14).map fun t => (fkey t.2.of t.2.set, vi t.1))
  cells : ∀ t ∈ a.things, cellsOf w (L.bk t.1) = some (whCells t.2)
  born : (L.es.map (·.born)).Nodup ∧ ∀ e ∈ L.es, e.born < L.cm
  apart : (foot L a).Nodup
  sorted : a.things.Pairwise fun s t => s.1 < t.1
  len1 : a.cut.length = a.made.length
  len2 : a.parents.length + 1 = a.made.length
  len3 : a.made.length ≤ 16
  nums : ∀ t ∈ a.things, 1 ≤ t.1 ∧ t.1 ≤ a.last
  low : 0 ≤ a.last
  high : a.last < 4611686018427387904

theorem lookup_mem {l : List (Int × Wh)} {r : Int} {x : Wh} (h : lookup l r = some x) : (r, x) ∈ l := by
  induction l with
  | nil => simp [lookup] at h
  | cons t l ih =>
    simp only [lookup] at h
    split at h
    · rename_i ht; simp at h; subst h; subst ht; simp
    · exact List.mem_cons_of_mem _ (ih h)

theorem lookup_none {l : List (Int × Wh)} {r : Int} (h : lookup l r = none) : ∀ t ∈ l, t.1 ≠ r := by
  induction l with
  | nil => simp
  | cons t l ih =>
    simp only [lookup] at h
    split at h
    · simp at h
    · rename_i ht
      intro s hs
      rcases List.mem_cons.1 hs with rfl | hs
      · exact ht
      · exact ih h s hs

theorem lookup_some_of_mem {l : List (Int × Wh)} (hs : l.Pairwise fun s t => s.1 < t.1) {t : Int × Wh} (h : t ∈ l) : lookup l t.1 = some t.2 := by
  induction l with
  | nil => simp at h
  | cons s l ih =>
    simp only [lookup]
    rcases List.mem_cons.1 h with rfl | h
    · simp
    · have := List.rel_of_pairwise_cons hs h
      rw [if_neg (by omega)]
      exact ih hs.of_cons h

section
variable {w w' : World} {L : Lay} {a : AW}

theorem WRep.at_mem (h : WRep w L a) {t : Int × Wh} (ht : t ∈ a.things) : a.at t.1 = some t.2 := lookup_some_of_mem h.sorted ht

theorem WRep.cell (h : WRep w L a) {r : Int} {x : Wh} (hr : a.at r = some x) : cellsOf w (L.bk r) = some (whCells x) := h.cells _ (lookup_mem hr)

theorem findK_miss {key : Value} : ∀ {es : List MapEntry} {i : Nat}, (∀ e ∈ es, keyEq key e.key = some false) → findK key es i = some none
  | [], _, _ => rfl
  | e :: es, i, h => by
    have h1 := h e (by simp)
    simp only [findK, h1]
    exact findK_miss fun e he => h e (by simp [he])

theorem findK_hit {key : Value} : ∀ {es : List MapEntry} {i : Nat}, (∀ e ∈ es, (keyEq key e.key).isSome = true) → (∃ e ∈ es, keyEq key e.key = some true) →
    ∃ j e, findK key es i = some (some (j, e.val)) ∧ i ≤ j ∧ es[j - i]? = some e ∧ keyEq key e.key = some true
  | [], i, _, h => by obtain ⟨e, he, _⟩ := h; simp at he
  | e :: es, i, hs, h => by
    cases ht : keyEq key e.key with
    | none => have := hs e (by simp); simp [ht] at this
    | some t =>
      cases t with
      | true => exact ⟨i, e, by simp [findK, ht], Nat.le_refl _, by simp, ht⟩
      | false =>
        obtain ⟨e', he', hk'⟩ := h
        have he2 : e' ∈ es := by
          rcases List.mem_cons.1 he' with rfl | h2
          · rw [ht] at hk'; simp at hk'
          · exact h2
        obtain ⟨j, e2, h1, h2, h3, h4⟩ := findK_hit (i := i + 1) (fun e he => hs e (by simp [he])) ⟨e', he2, hk'⟩
        refine ⟨j, e2, by simp [findK, ht, h1], by omega, ?_, h4⟩
        rw [show j - i = (j - (i + 1)) + 1 by omega]
        simpa using h3

theorem WRep.ent (h : WRep w L a) {e : MapEntry} (he : e ∈ L.es) : ∃ t ∈ a.things, e.key = vi t.1 ∧ e.val = ptr (L.bk t.1) := by
  have : kv e ∈ a.things.map fun t => (vi t.1, ptr (L.bk t.1)) := h.ents.subset (List.mem_map_of_mem he)
  obtain ⟨t, ht, hkv⟩ := List.mem_map.1 this
  simp only [kv, Prod.mk.injEq] at hkv
  exact ⟨t, ht, hkv.1.symm, hkv.2.symm⟩

theorem WRep.ent_of (h : WRep w L a) {t : Int × Wh} (ht : t ∈ a.things) : ∃ e ∈ L.es, e.key = vi t.1 ∧ e.val = ptr (L.bk t.1) := by
  have : (vi t.1, ptr (L.bk t.1)) ∈ L.es.map kv := h.ents.symm.subset (List.mem_map_of_mem (f := fun t => (vi t.1, ptr (L.bk t.1))) ht)
  obtain ⟨e, he, hkv⟩ := List.mem_map.1 this
  simp only [kv, Prod.mk.injEq] at hkv
  exact ⟨e, he, hkv.1, hkv.2⟩

theorem keyEq_vi (m n : Int) : keyEq (vi m) (vi n) = some (m == n) := by simp [keyEq]

theorem WRep.find_none (h : WRep w L a) {r : Int} (hr : a.at r = none) : findK (vi r) L.es 0 = some none :=
  findK_miss fun e he => by
    obtain ⟨t, ht, hk, _⟩ := h.ent he
    have := lookup_none hr t ht
    rw [hk, keyEq_vi]
    simp only [Option.some.injEq, beq_eq_false_iff_ne]
    exact fun e => this e.symm

theorem WRep.find_some (h : WRep w L a) {r : Int} {x : Wh} (hr : a.at r = some x) :
    ∃ j e, findK (vi r) L.es 0 = some (some (j, ptr (L.bk r))) ∧ L.es[j]? = some e ∧ e.key = vi r ∧ e.val = ptr (L.bk r) := by
  obtain ⟨e, he, hk, hv⟩ := h.ent_of (lookup_mem hr)
  obtain ⟨j, e2, h1, h2, h3, h4⟩ := findK_hit (key := vi r) (es := L.es) (i := 0) (fun e he => by
    obtain ⟨t, ht, hk, _⟩ := h.ent he
    rw [hk, keyEq_vi]; rfl) ⟨e, he, by rw [hk, keyEq_vi]; simp⟩
  obtain ⟨t, ht, hk2, hv2⟩ := h.ent (List.mem_of_getElem? h3)
  rw [hk2, keyEq_vi] at h4
  have : r = t.1 := by simpa using h4
  subst this
  exact ⟨j, e2, by rw [h1, hv2], by simpa using h3, hk2, hv2⟩

theorem WRep.look_none (h : WRep w L a) {r : Int} (hr : a.at r = none) (z : Value) (ok : Bool) (k : Value → Prop) :
    lookM false z (.map (some L.bm)) (vi r) ok w k = k (if ok then .tuple #[z, .bool false] else z) := by
  simp [lookM, h.things, h.find_none hr, foundM, keyShape]

theorem WRep.look_some (h : WRep w L a) {r : Int} {x : Wh} (hr : a.at r = some x) (z : Value) (ok : Bool) (k : Value → Prop) :
    lookM false z (.map (some L.bm)) (vi r) ok w k = k (if ok then .tuple #[ptr (L.bk r), .bool true] else ptr (L.bk r)) := by
  obtain ⟨j, e, hf, _⟩ := h.find_some hr
  simp [lookM, h.things, hf, foundM, keyShape]

theorem WRep.lt (h : WRep w L a) : ∀ b ∈ foot L a, b < w.heap.size := by
  have hsl : ∀ {v : Value} {l : List Value}, SliceOf w v l → ∀ b ∈ sliceBlk v, b < w.heap.size := by
    intro v l hs b hb
    unfold SliceOf at hs
    split at hs
    · simp [sliceBlk] at hb
    · obtain ⟨_, c, hc, _⟩ := hs
      simp [sliceBlk] at hb
      subst hb
      exact lt_of_cells hc
    · exact hs.elim
  intro b hb
  simp only [foot, List.mem_cons, List.mem_append, List.mem_map] at hb
  rcases hb with rfl | rfl | rfl | hb | hb | hb | ⟨t, ht, rfl⟩
  · exact lt_of_cells h.top
  · exact lt_of_map h.things
  · exact lt_of_map h.facets
  · exact hsl h.par b hb
  · exact hsl h.cut b hb
  · exact hsl h.made b hb
  · exact lt_of_cells (h.cells t ht)

/-- What keeps the world's own blocks keeps the world. -/
theorem WRep.keeps {S : Nat → Prop} (h : WRep w L a) (hk : Keeps S w w') (hs : ∀ b ∈ foot L a, ¬ S b) : WRep w' L a := by
  have m : ∀ {b}, b ∈ foot L a → ¬ S b := fun hb => hs _ hb
  refine { h with
    top := hk.cells h.top (m (by simp [foot])), par := h.par.keeps hk fun b hb => m (by simp [foot, hb]), cut := h.cut.keeps hk fun b hb => m (by simp [foot, hb]),
    made := h.made.keeps hk fun b hb => m (by simp [foot, hb]), things := hk.map h.things (m (by simp [foot])), facets := hk.map h.facets (m (by simp [foot])),
    cells := fun t ht => hk.cells (h.cells t ht) (m ?_) }
  simp only [foot, List.mem_cons, List.mem_append, List.mem_map]
  exact .inr (.inr (.inr (.inr (.inr (.inr ⟨t, ht, rfl⟩)))))

theorem WRep.ext (h : WRep w L a) (hk : Ext w w') : WRep w' L a := h.keeps hk fun _ _ => id
end
end Go.X
/- Regions in every order: a word that can be read out, and a proof by facts that nothing later undoes. -/
set_option linter.unusedSimpArgs false
set_option linter.unusedVariables false
namespace Go.X
open Go

def dstN (ops : Array Oper) (j : Nat) : Nat := match ops[j]? with | some o => o.dst.getD (1000000 + j) | none => 1000000 + j

/-- Is each operation behind those of the table, all that bind it ahead of it, and does each have a place of its own? -/
def factsOk (ops : Array Oper) (pre : List (List Nat)) : Bool :=
  (List.range ops.size).all fun i => match ops[i]? with
    | none => false
    | some o => (o.after.all fun e => !Region.binds .any e || Nat.blt e.on i) && (pre.getD i []).all fun j => o.after.any fun e => Region.binds .any e && Nat.beq e.on j

def apartOk (ops : Array Oper) : Bool := (List.range ops.size).all fun i => (List.range ops.size).all fun j => Nat.beq i j || !Nat.beq (dstN ops i) (dstN ops j)

theorem count_false_pos {l : List Bool} {i : Nat} (h : l[i]? = some false) : 0 < l.count false := List.count_pos_iff.2 (List.mem_of_getElem? h)

theorem count_set {l : List Bool} : ∀ {i : Nat}, l[i]? = some false → (l.set i true).count false + 1 = l.count false := by
  induction l with
  | nil => intro i h; simp at h
  | cons b l ih =>
    intro i h
    cases i with
    | zero => simp at h; subst h; simp
    | succ i =>
      simp at h
      have := ih h
      simp only [List.set_cons_succ, List.count_cons]
      omega

theorem anyK_facts {P : Program} {ops : Array Oper} {k : Env → World → Prop} {e0 : Env} {w0 : World} (pre : List (List Nat)) (G : Nat → Value → World → Prop) (B : World → Prop)
    (hpre : factsOk ops pre = true) (hap : apartOk ops = true) (h0 : B w0)
    (hstep : ∀ i o, ops[i]? = some o → ∀ e w, B w → (∀ t, (∀ j, j < ops.size → t ≠ dstN ops j) → e t = e0 t) → (∀ j ∈ pre.getD i [], G j (e (dstN ops j)) w) →
      ∀ K : Env → World → Prop, (∀ e' w', B w' → (∀ t, t ≠ dstN ops i → e' t = e t) → G i (e' (dstN ops i)) w' → (∀ j v, j ≠ i → G j v w → G j v w') → K e' w') → opsK P ops.toList [o] e w K)
    (hk : ∀ e w, B w → (∀ t, (∀ j, j < ops.size → t ≠ dstN ops j) → e t = e0 t) → (∀ j, j < ops.size → G j (e (dstN ops j)) w) → k e w) :
    anyK P ops k ops.size (Array.replicate ops.size false) e0 w0 := by
  suffices H : ∀ (fuel : Nat) (listed : Array Bool) (e : Env) (w : World), listed.size = ops.size → listed.toList.count false = fuel → B w → (∀ t, (∀ j, j < ops.size → t ≠ dstN ops j) → e t = e0 t) →
      (∀ j, listed.getD j false = true → G j (e (dstN ops j)) w) → anyK P ops k fuel listed e w by
    refine H _ _ _ _ (by simp) (by simp) h0 (fun _ _ => rfl) fun j hj => ?_
    simp [Array.getElem?_replicate] at hj
    split at hj <;> simp at hj
  have hok : ∀ i o, ops[i]? = some o → (∀ e ∈ o.after, Region.binds .any e = true → e.on < i) ∧ ∀ j ∈ pre.getD i [], ∃ e ∈ o.after, Region.binds .any e = true ∧ e.on = j := by
    intro i o ho
    have hlt : i < ops.size := (Array.getElem?_eq_some_iff.1 ho).1
    have := List.all_eq_true.1 hpre i (List.mem_range.2 hlt)
    simp only [ho, Bool.and_eq_true] at this
    obtain ⟨h1, h2⟩ := this
    refine ⟨fun e he hb => ?_, fun j hj => ?_⟩
    · have := (Array.all_eq_true_iff_forall_mem.1 h1) e he
      simp only [hb, Bool.not_true, Bool.false_or] at this
      exact Nat.lt_of_lt_of_le (Nat.lt_succ_self _) (Nat.le_of_ble_eq_true this)
    · have := List.all_eq_true.1 h2 j hj
      simp only [Array.any_eq_true'] at this
      obtain ⟨e, he, hb⟩ := this
      simp only [Bool.and_eq_true] at hb
      exact ⟨e, he, hb.1, Nat.eq_of_beq_eq_true hb.2⟩
  have hdone : ∀ listed : Array Bool, listed.size = ops.size → Region.ready .any ops listed = [] → ∀ j, j < ops.size → listed.getD j false = true := by
    intro listed hs hr j
    induction j using Nat.strongRecOn with
    | ind j ih =>
      intro hj
      cases hl : listed.getD j false with
      | true => rfl
      | false =>
        exfalso
        have hjl : j < listed.size := by omega
        have ho : ops[j]? = some ops[j] := Array.getElem?_eq_getElem hj
        have : j ∈ Region.ready .any ops listed := mem_ready.2 ⟨by
          simp [Array.getD, hjl] at hl ⊢; exact hl, ops[j], ho, fun e he hb => by
            have hlt := (hok j _ ho).1 e he hb
            exact ih e.on hlt (by omega)⟩
        rw [hr] at this; simp at this
  intro fuel
  induction fuel with
  | zero =>
    intro listed e w hs hc hB he hG
    have hall : ∀ j, j < ops.size → listed.getD j false = true := by
      intro j hj
      have hjl : j < listed.size := by omega
      cases hl : listed[j] with
      | true => simp [Array.getD, hjl, hl]
      | false =>
        have : listed.toList[j]? = some false := by simp [hjl, hl]
        have := count_false_pos this
        omega
    simp only [anyK]
    split
    · exact hk e w hB he fun j hj => hG j (hall j hj)
    · rename_i i l hr
      exfalso
      have hm := (mem_ready (md := .any) (ops := ops) (listed := listed) (j := i)).1 (by rw [hr]; simp)
      obtain ⟨h1, o, ho, _⟩ := hm
      have hlt : i < ops.size := (Array.getElem?_eq_some_iff.1 ho).1
      have := hall i hlt
      have hil : i < listed.size := by omega
      simp [Array.getD, hil] at h1 this
      rw [h1] at this; simp at this
  | succ fuel ih =>
    intro listed e w hs hc hB he hG
    simp only [anyK]
    split
    · rename_i hr; exact hk e w hB he fun j hj => hG j (hdone listed hs hr j hj)
    rename_i i0 l0 hr
    refine allL_of fun i hi => ?_
    rw [← hr] at hi
    split
    case h_2 => trivial
    rename_i o ho
    obtain ⟨h1, o', ho', hpr⟩ := (mem_ready (md := .any) (ops := ops) (listed := listed) (j := i)).1 hi
    rw [ho] at ho'; obtain rfl := Option.some.inj ho'
    have hlt : i < ops.size := (Array.getElem?_eq_some_iff.1 ho).1
    have hil : i < listed.size := by omega
    have hli : listed[i] = false := by simpa [Array.getD, hil] using h1
    refine hstep i o ho e w hB he (fun j hj => ?_) _ fun e' w' hB' he' hGi hst => ?_
    rotate_left
    · refine ih _ e' w' (by simpa using hs) ?_ hB' ?_ ?_
      · have := count_set (l := listed.toList) (i := i) (by simp [hil, hli])
        rw [Array.toList_setIfInBounds]
        omega
      · intro t ht
        rw [he' t (ht i hlt)]
        exact he t ht
      · intro j hj
        by_cases hji : j = i
        · subst hji; exact hGi
        · have hjl : listed.getD j false = true := by
            simp only [Array.getD_eq_getD_getElem?, Array.getElem?_setIfInBounds_ne (Ne.symm hji)] at hj ⊢
            exact hj
          have hjs : j < ops.size := by
            by_cases h : j < listed.size
            · omega
            · simp [Array.getD, h] at hjl
          have hne : dstN ops j ≠ dstN ops i := by
            have := List.all_eq_true.1 (List.all_eq_true.1 hap j (List.mem_range.2 hjs)) i (List.mem_range.2 hlt)
            intro heq
            rw [heq] at this
            simp only [Bool.or_eq_true] at this
            rcases this with h | h
            · exact hji (Nat.eq_of_beq_eq_true h)
            · simp at h
          rw [he' _ hne]
          exact hst j _ hji (hG j hjl)
    · obtain ⟨ed, hed, hb, rfl⟩ := (hok i o ho).2 j hj
      exact hG _ (hpr ed hed hb)
end Go.X
