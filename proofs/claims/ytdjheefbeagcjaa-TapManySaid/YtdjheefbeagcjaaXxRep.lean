/- Texts of this family, put together. -/
import Derived.Test.YtdjheefbeagcjaaXxRow3
import Derived.Test.YtdjheefbeagcjaaXxCt
/- A law's arguments: a whole number. No program in it. -/
set_option linter.unusedSimpArgs false
set_option linter.unusedVariables false
namespace Go.X
open Go Go.RowKit Go.ChangeShapes Go.WideShapes

section
variable {P : Program} {W : World}

theorem arg_int {t : TypeId} {k : IntKind} {v : Value} (ht : P.underlying t = some (.int k)) {base : Nat} (hok : Value.okWide P W .any base t v) : ∃ n, v = .int k n ∧ k.min ≤ n ∧ n ≤ k.max := by
  simp only [Value.okWide, ht, Cell.okWide] at hok
  cases v <;> simp_all [Cell.ok, IntKind.has]

theorem range_i64 {n : Int} (h : IntKind.i64.min ≤ n ∧ n ≤ IntKind.i64.max) : -9223372036854775808 ≤ n ∧ n ≤ 9223372036854775807 := by
  have e1 : IntKind.i64.min = -9223372036854775808 := by decide
  have e2 : IntKind.i64.max = 9223372036854775807 := by decide
  rwa [e1, e2] at h
theorem range_u16 {n : Int} (h : IntKind.u16.min ≤ n ∧ n ≤ IntKind.u16.max) : 0 ≤ n ∧ n < 65536 := by
  have e1 : IntKind.u16.min = 0 := by decide
  have e2 : IntKind.u16.max = 65535 := by decide
  rw [e1, e2] at h
  omega
theorem range_u8 {n : Int} (h : IntKind.u8.min ≤ n ∧ n ≤ IntKind.u8.max) : 0 ≤ n ∧ n < 256 := by
  have e1 : IntKind.u8.min = 0 := by decide
  have e2 : IntKind.u8.max = 255 := by decide
  rw [e1, e2] at h
  omega
end
end Go.X
/- The world that the package 'world' keeps, as plain data: things without lists in them. No program in it. -/
namespace Go.AW

/-- what a thing has, where it has no list: text and lists are empty -/
structure Wh where
  kind : Int
  home : Int
  vk : Int
  vn : Int
  vr : Int
  n : Int
  lost : Int
  of : Int
  by_ : Int
  set : Int
  full : Bool
deriving DecidableEq

def Wh.zero : Wh := ⟨0, 0, 0, 0, 0, 0, 0, 0, 0, 0, false⟩

structure AW where
  parents : List Int
  cut : List Bool
  things : List (Int × Wh)
  last : Int
  made : List Int
deriving DecidableEq

def lookup (l : List (Int × Wh)) (r : Int) : Option Wh :=
  match l with
  | [] => none
  | t :: l => if t.1 = r then some t.2 else lookup l r

def AW.at (a : AW) (r : Int) : Option Wh := lookup a.things r
def AW.is (a : AW) (r : Int) : Bool := (a.at r).isSome
def AW.kind (a : AW) (r : Int) : Int := match a.at r with | some x => x.kind | none => 0
def AW.sides (a : AW) : Int := a.made.length
def AW.side (a : AW) (s : Int) : Bool := decide (0 ≤ s) && decide (s < a.sides)

def AW.wraps (k : Int) : Bool := k == 14 || k == 15 || k == 16

def can (k : Int) : Int :=
  if k = 1 then 3 else if k = 2 ∨ k = 3 then 9 else if k = 4 then 12 else if k = 5 ∨ k = 6 ∨ k = 8 ∨ k = 12 then 16
  else if k = 9 then 13 else if k = 10 then 1 else if k = 11 then 8 else if k = 13 then 33 else 0

def meet (a b : Int) : Int := (a.toNat &&& b.toNat : Nat)
def without (a b : Int) : Int := (a.toNat &&& (255 - b.toNat) : Nat)

/-- the way from a thing to its base, at most n things long -/
def way (a : AW) : Nat → Int → List Int
  | 0, _ => []
  | n + 1, r =>
    match a.at r with
    | none => []
    | some x => if AW.wraps x.kind then r :: way a n x.of else [r]

def AW.way (a : AW) (r : Int) : List Int := Go.AW.way a (r.toNat + 1) r
def AW.base (a : AW) (r : Int) : Int := (a.way r).getLast?.getD 0

def able (a : AW) : Nat → Int → Int → Int
  | 0, _, _ => 0
  | n + 1, set, r =>
    match a.at r with
    | none => 0
    | some x =>
      if x.kind = 14 then able a n (meet set x.set) x.of
      else if x.kind = 15 ∨ x.kind = 16 then able a n set x.of
      else meet set (can x.kind)

def AW.able (a : AW) (r : Int) : Int := Go.AW.able a (r.toNat + 1) 63 r

/-- do two sides reach one another? the greater one goes up -/
def open_ (a : AW) : Nat → Int → Int → Bool
  | 0, _, _ => false
  | n + 1, x, y =>
    if x = y then true else
    let hi := max x y
    let lo := min x y
    if a.cut.getD hi.toNat false then false else open_ a n (a.parents.getD (hi.toNat - 1) 0) lo

def AW.open (a : AW) (x y : Int) : Bool := a.side x && a.side y && open_ a (x.toNat + y.toNat + 1) x y

/-- a gate whose switch is cut -/
def AW.shut (a : AW) (x : Wh) : Bool := decide (x.kind = 15) && (match a.at x.by_ with | some y => y.full | none => false)

def free (a : AW) : List Int → Int → Int
  | [], _ => 0
  | t :: l, from_ =>
    match a.at t with
    | none => 0
    | some x =>
      if x.kind = 14 then free a l from_
      else if (!a.open from_ x.home || a.shut x) = true then 7
      else free a l x.home

def AW.free (a : AW) (from_ r : Int) : Int :=
  if !a.side from_ then 2 else if !a.is r then 5 else Go.AW.free a (a.way r) from_

def AW.find (a : AW) (t s : Int) : Option Int := (a.things.find? fun x => x.2.kind == 14 && x.2.of == t && x.2.set == s).map (·.1)

def AW.add (a : AW) (x : Wh) : AW :=
  { a with last := a.last + 1, things := a.things ++ [(a.last + 1, x)], made := if x.kind = 14 then a.made else a.made.set x.home.toNat (a.made.getD x.home.toNat 0 + 1) }

def new (parents : List Int) : Option AW :=
  if parents.length ≥ 16 then none
  else if (parents.zipIdx.all fun (p, i) => decide (0 ≤ p) && decide (p ≤ i)) then
    some { parents, cut := List.replicate (parents.length + 1) false, things := [], last := 0, made := List.replicate (parents.length + 1) 0 }
  else none

/-- no two facets of one target and set -/
def OneFacet (a : AW) : Prop := ∀ s ∈ a.things, ∀ t ∈ a.things, s.2.kind = 14 → t.2.kind = 14 → s.2.of = t.2.of → s.2.set = t.2.set → s = t

/-- what is always so of a world that was made by the package -/
structure WF (a : AW) : Prop where
  bits : ∀ t ∈ a.things, 0 ≤ t.2.set ∧ t.2.set < 256 ∧ 0 ≤ t.2.kind ∧ t.2.kind < 256
  home : ∀ t ∈ a.things, t.2.kind ≠ 14 → a.side t.2.home = true
  down : ∀ t ∈ a.things, AW.wraps t.2.kind = true → a.is t.2.of = true ∧ t.2.of < t.1
  gate : ∀ t ∈ a.things, t.2.kind = 15 → a.is t.2.by_ = true
  one : OneFacet a
  tree : ∀ i, i < a.parents.length → 0 ≤ a.parents.getD i 0 ∧ a.parents.getD i 0 ≤ i

end Go.AW
/- How a world of plain data lies in memory, and what is found there. -/
set_option linter.unusedSimpArgs false
set_option linter.unusedVariables false
namespace Go.X
open Go Go.AW

abbrev noText : Value := .string { data := #[] }
abbrev noList : Value := .slice none 0 0

def whCells (x : Wh) : List Value :=
  [vb x.kind, vi x.home, vb x.vk, vi x.vn, noText, noList, vi x.vr, noList, vi x.n, vi x.lost, vi x.of, vi x.by_, vb x.set, .bool x.full, noList, noList]

abbrev whV (x : Wh) : Value := .agg (whCells x).toArray

structure Lay where
  p : Nat
  bm : Nat
  bf : Nat
  par : Value
  cut : Value
  made : Value
  es : List MapEntry
  fs : List MapEntry
  cm : Nat
  cf : Nat
  bk : Int → Nat

def foot (L : Lay) (a : AW) : List Nat :=
  L.p :: L.bm :: L.bf :: (sliceBlk L.par ++ (sliceBlk L.cut ++ (sliceBlk L.made ++ a.things.map fun t => L.bk t.1)))

def fkey (of set : Int) : Value := .agg #[vi of, vb set]

def kv (e : MapEntry) : Value × Value := (e.key, e.val)

structure WRep (w : World) (L : Lay) (a : AW) : Prop where
  top : cellsOf w L.p = some [L.par, L.cut, .map (some L.bm), .map (some L.bf), vi a.last, L.made]
  par : SliceOf w L.par (a.parents.map vi)
  cut : SliceOf w L.cut (a.cut.map .bool)
  made : SliceOf w L.made (a.made.map vi)
  things : mapOf w L.bm = some (L.es, L.cm)
  facets : mapOf w L.bf = some (L.fs, L.cf)
  ents : (L.es.map kv).Perm (a.things.map fun t => (vi t.1, ptr (L.bk t.1)))
  facs : (L.fs.map kv).Perm ((a.things.filter fun t => t.2.kind == 14).map fun t => (fkey t.2.of t.2.set, vi t.1))
  cells : ∀ t ∈ a.things, cellsOf w (L.bk t.1) = some (whCells t.2)
  born : (L.es.map (·.born)).Nodup ∧ ∀ e ∈ L.es, e.born < L.cm
  apart : (foot L a).Nodup
  sorted : a.things.Pairwise fun s t => s.1 < t.1
  len1 : a.cut.length = a.made.length
  len2 : a.parents.length + 1 = a.made.length
  len3 : a.made.length ≤ 16
  nums : ∀ t ∈ a.things, 1 ≤ t.1 ∧ t.1 ≤ a.last
  low : 0 ≤ a.last
  high : a.last < 4611686018427387904

theorem lookup_mem {l : List (Int × Wh)} {r : Int} {x : Wh} (h : lookup l r = some x) : (r, x) ∈ l := by
  induction l with
  | nil => simp [lookup] at h
  | cons t l ih =>
    simp only [lookup] at h
    split at h
    · rename_i ht; simp at h; subst h; subst ht; simp
    · exact List.mem_cons_of_mem _ (ih h)

theorem lookup_none {l : List (Int × Wh)} {r : Int} (h : lookup l r = none) : ∀ t ∈ l, t.1 ≠ r := by
  induction l with
  | nil => simp
  | cons t l ih =>
    simp only [lookup] at h
    split at h
    · simp at h
    · rename_i ht
      intro s hs
      rcases List.mem_cons.1 hs with rfl | hs
      · exact ht
      · exact ih h s hs

theorem lookup_some_of_mem {l : List (Int × Wh)} (hs : l.Pairwise fun s t => s.1 < t.1) {t : Int × Wh} (h : t ∈ l) : lookup l t.1 = some t.2 := by
  induction l with
  | nil => simp at h
  | cons s l ih =>
    simp only [lookup]
    rcases List.mem_cons.1 h with rfl | h
    · simp
    · have := List.rel_of_pairwise_cons hs h
      rw [if_neg (by omega)]
      exact ih hs.of_cons h

section
variable {w w' : World} {L : Lay} {a : AW}

theorem WRep.at_mem (h : WRep w L a) {t : Int × Wh} (ht : t ∈ a.things) : a.at t.1 = some t.2 := lookup_some_of_mem h.sorted ht

theorem WRep.cell (h : WRep w L a) {r : Int} {x : Wh} (hr : a.at r = some x) : cellsOf w (L.bk r) = some (whCells x) := h.cells _ (lookup_mem hr)

theorem findK_miss {key : Value} : ∀ {es : List MapEntry} {i : Nat}, (∀ e ∈ es, keyEq key e.key = some false) → findK key es i = some none
  | [], _, _ => rfl
  | e :: es, i, h => by
    have h1 := h e (by simp)
    simp only [findK, h1]
    exact findK_miss fun e he => h e (by simp [he])

theorem findK_hit {key : Value} : ∀ {es : List MapEntry} {i : Nat}, (∀ e ∈ es, (keyEq key e.key).isSome = true) → (∃ e ∈ es, keyEq key e.key = some true) →
    ∃ j e, findK key es i = some (some (j, e.val)) ∧ i ≤ j ∧ es[j - i]? = some e ∧ keyEq key e.key = some true
  | [], i, _, h => by obtain ⟨e, he, _⟩ := h; simp at he
  | e :: es, i, hs, h => by
    cases ht : keyEq key e.key with
    | none => have := hs e (by simp); simp [ht] at this
    | some t =>
      cases t with
      | true => exact ⟨i, e, by simp [findK, ht], Nat.le_refl _, by simp, ht⟩
      | false =>
        obtain ⟨e', he', hk'⟩ := h
        have he2 : e' ∈ es := by
          rcases List.mem_cons.1 he' with rfl | h2
          · rw [ht] at hk'; simp at hk'
          · exact h2
        obtain ⟨j, e2, h1, h2, h3, h4⟩ := findK_hit (i := i + 1) (fun e he => hs e (by simp [he])) ⟨e', he2, hk'⟩
        refine ⟨j, e2, by simp [findK, ht, h1], by omega, ?_, h4⟩
        rw [show j - i = (j - (i + 1)) + 1 by omega]
        simpa using h3

theorem WRep.ent (h : WRep w L a) {e : MapEntry} (he : e ∈ L.es) : ∃ t ∈ a.things, e.key = vi t.1 ∧ e.val = ptr (L.bk t.1) := by
  have : kv e ∈ a.things.map fun t => (vi t.1, ptr (L.bk t.1)) := h.ents.subset (List.mem_map_of_mem he)
  obtain ⟨t, ht, hkv⟩ := List.mem_map.1 this
  simp only [kv, Prod.mk.injEq] at hkv
  exact ⟨t, ht, hkv.1.symm, hkv.2.symm⟩

theorem WRep.ent_of (h : WRep w L a) {t : Int × Wh} (ht : t ∈ a.things) : ∃ e ∈ L.es, e.key = vi t.1 ∧ e.val = ptr (L.bk t.1) := by
  have : (vi t.1, ptr (L.bk t.1)) ∈ L.es.map kv := h.ents.symm.subset (List.mem_map_of_mem (f := fun t => (vi t.1, ptr (L.bk t.1))) ht)
  obtain ⟨e, he, hkv⟩ := List.mem_map.1 this
  simp only [kv, Prod.mk.injEq] at hkv
  exact ⟨e, he, hkv.1, hkv.2⟩

theorem keyEq_vi (m n : Int) : keyEq (vi m) (vi n) = some (m == n) := by simp [keyEq]

theorem WRep.find_none (h : WRep w L a) {r : Int} (hr : a.at r = none) : findK (vi r) L.es 0 = some none :=
  findK_miss fun e he => by
    obtain ⟨t, ht, hk, _⟩ := h.ent he
    have := lookup_none hr t ht
    rw [hk, keyEq_vi]
    simp only [Option.some.injEq, beq_eq_false_iff_ne]
    exact fun e => this e.symm

theorem WRep.find_some (h : WRep w L a) {r : Int} {x : Wh} (hr : a.at r = some x) :
    ∃ j e, findK (vi r) L.es 0 = some (some (j, ptr (L.bk r))) ∧ L.es[j]? = some e ∧ e.key = vi r ∧ e.val = ptr (L.bk r) := by
  obtain ⟨e, he, hk, hv⟩ := h.ent_of (lookup_mem hr)
  obtain ⟨j, e2, h1, h2, h3, h4⟩ := findK_hit (key := vi r) (es := L.es) (i := 0) (fun e he => by
    obtain ⟨t, ht, hk, _⟩ := h.ent he
    rw [hk, keyEq_vi]; rfl) ⟨e, he, by rw [hk, keyEq_vi]; simp⟩
  obtain ⟨t, ht, hk2, hv2⟩ := h.ent (List.mem_of_getElem? h3)
  rw [hk2, keyEq_vi] at h4
  have : r = t.1 := by simpa using h4
  subst this
  exact ⟨j, e2, by rw [h1, hv2], by simpa using h3, hk2, hv2⟩

theorem WRep.look_none (h : WRep w L a) {r : Int} (hr : a.at r = none) (z : Value) (ok : Bool) (k : Value → Prop) :
    lookM false z (.map (some L.bm)) (vi r) ok w k = k (if ok then .tuple #[z, .bool false] else z) := by
  simp [lookM, h.things, h.find_none hr, foundM, keyShape]

theorem WRep.look_some (h : WRep w L a) {r : Int} {x : Wh} (hr : a.at r = some x) (z : Value) (ok : Bool) (k : Value → Prop) :
    lookM false z (.map (some L.bm)) (vi r) ok w k = k (if ok then .tuple #[ptr (L.bk r), .bool true] else ptr (L.bk r)) := by
  obtain ⟨j, e, hf, _⟩ := h.find_some hr
  simp [lookM, h.things, hf, foundM, keyShape]

theorem WRep.lt (h : WRep w L a) : ∀ b ∈ foot L a, b < w.heap.size := by
  have hsl : ∀ {v : Value} {l : List Value}, SliceOf w v l → ∀ b ∈ sliceBlk v, b < w.heap.size := by
    intro v l hs b hb
    unfold SliceOf at hs
    split at hs
    · simp [sliceBlk] at hb
    · obtain ⟨_, c, hc, _⟩ := hs
      simp [sliceBlk] at hb
      subst hb
      exact lt_of_cells hc
    · exact hs.elim
  intro b hb
  simp only [foot, List.mem_cons, List.mem_append, List.mem_map] at hb
  rcases hb with rfl | rfl | rfl | hb | hb | hb | ⟨t, ht, rfl⟩
  · exact lt_of_cells h.top
  · exact lt_of_map h.things
  · exact lt_of_map h.facets
  · exact hsl h.par b hb
  · exact hsl h.cut b hb
  · exact hsl h.made b hb
  · exact lt_of_cells (h.cells t ht)

/-- What keeps the world's own blocks keeps the world. -/
theorem WRep.keeps {S : Nat → Prop} (h : WRep w L a) (hk : Keeps S w w') (hs : ∀ b ∈ foot L a, ¬ S b) : WRep w' L a := by
  have m : ∀ {b}, b ∈ foot L a → ¬ S b := fun hb => hs _ hb
  refine { h with
    top := hk.cells h.top (m (by simp [foot])), par := h.par.keeps hk fun b hb => m (by simp [foot, hb]), cut := h.cut.keeps hk fun b hb => m (by simp [foot, hb]),
    made := h.made.keeps hk fun b hb => m (by simp [foot, hb]), things := hk.map h.things (m (by simp [foot])), facets := hk.map h.facets (m (by simp [foot])),
    cells := fun t ht => hk.cells (h.cells t ht) (m ?_) }
  simp only [foot, List.mem_cons, List.mem_append, List.mem_map]
  exact .inr (.inr (.inr (.inr (.inr (.inr ⟨t, ht, rfl⟩)))))

theorem WRep.ext (h : WRep w L a) (hk : Ext w w') : WRep w' L a := h.keeps hk fun _ _ => id
end
end Go.X
