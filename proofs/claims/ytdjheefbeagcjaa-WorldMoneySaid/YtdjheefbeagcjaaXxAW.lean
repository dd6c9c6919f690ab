/- Texts of this family, put together. -/
import Derived.Test.YtdjheefbeagcjaaXxRow2
import Derived.Deep.Grids
/- A law's arguments: slices of bools. No program in it. -/
set_option linter.unusedSimpArgs false
set_option linter.unusedVariables false
namespace Go.X
open Go Go.RowKit Go.ChangeShapes Go.WideShapes

section
variable {H : Type} {enc : TypeId × Value → H} {P : Program} {W : World}

theorem arg_bools {t e : TypeId} {v : Value} {d : DataW H} {p : List MemPlace} (ht : P.underlying t = some (.slice e)) (he : P.underlying e = some .bool) (hc : P.cellsOf e = 1) {base : Nat}
    (hok : Value.okWide P W .any base t v) (h : DataW.Trod enc P W 0 (fun _ => true) true t v d p) : ∃ l : List Bool, ReadsOf W v (l.map .bool) ∧ l.length ≤ maxLen := by
  obtain ⟨a0, len, cap, rfl⟩ := okWide_slice ht hok
  obtain ⟨fuel, hf⟩ := h
  rcases Deep.open_bools ht he hc hf with ⟨hcs, hx⟩ | ⟨a, len', cap', B, hcs, _, hl, hm, hx, hcell⟩
  · simp [Value.cells] at hcs
    obtain ⟨rfl, rfl, rfl⟩ := hcs
    exact ⟨[], ⟨rfl, rfl, rfl⟩, by simp⟩
  · simp [Value.cells] at hcs
    obtain ⟨rfl, rfl, rfl⟩ := hcs
    refine ⟨(List.range len).map B, reads_cells (by simp) hl fun i hi => ⟨_, hcell i hi, fun u hu => ?_⟩, by simp; omega⟩
    simp only [List.map_map, List.getElem?_map, Option.map_eq_some_iff] at hu
    obtain ⟨z, hz', rfl⟩ := hu
    rw [List.getElem?_range] at hz'
    · simp at hz'; subst hz'; rfl
    · have := (List.getElem?_eq_some_iff.1 hz').1
      simpa using this
end
end Go.X
/- The world that the package 'world' keeps, as plain data: things without lists in them. No program in it. -/
namespace Go.AW

/-- what a thing has, where it has no list: text and lists are empty -/
structure Wh where
  kind : Int
  home : Int
  vk : Int
  vn : Int
  vr : Int
  n : Int
  lost : Int
  of : Int
  by_ : Int
  set : Int
  full : Bool
deriving DecidableEq

def Wh.zero : Wh := ⟨0, 0, 0, 0, 0, 0, 0, 0, 0, 0, false⟩

structure AW where
  parents : List Int
  cut : List Bool
  things : List (Int × Wh)
  last : Int
  made : List Int
deriving DecidableEq

def lookup (l : List (Int × Wh)) (r : Int) : Option Wh :=
  match l with
  | [] => none
  | t :: l => if t.1 = r then some t.2 else lookup l r

def AW.at (a : AW) (r : Int) : Option Wh := lookup a.things r
def AW.is (a : AW) (r : Int) : Bool := (a.at r).isSome
def AW.kind (a : AW) (r : Int) : Int := match a.at r with | some x => x.kind | none => 0
def AW.sides (a : AW) : Int := a.made.length
def AW.side (a : AW) (s : Int) : Bool := decide (0 ≤ s) && decide (s < a.sides)

def AW.wraps (k : Int) : Bool := k == 14 || k == 15 || k == 16

def can (k : Int) : Int :=
  if k = 1 then 3 else if k = 2 ∨ k = 3 then 9 else if k = 4 then 12 else if k = 5 ∨ k = 6 ∨ k = 8 ∨ k = 12 then 16
  else if k = 9 then 13 else if k = 10 then 1 else if k = 11 then 8 else if k = 13 then 33 else 0

def meet (a b : Int) : Int := (a.toNat &&& b.toNat : Nat)
def without (a b : Int) : Int := (a.toNat &&& (255 - b.toNat) : Nat)

/-- the way from a thing to its base, at most n things long -/
def way (a : AW) : Nat → Int → List Int
  | 0, _ => []
  | n + 1, r =>
    match a.at r with
    | none => []
    | some x => if AW.wraps x.kind then r :: way a n x.of else [r]

def AW.way (a : AW) (r : Int) : List Int := Go.AW.way a (r.toNat + 1) r
def AW.base (a : AW) (r : Int) : Int := (a.way r).getLast?.getD 0

def able (a : AW) : Nat → Int → Int → Int
  | 0, _, _ => 0
  | n + 1, set, r =>
    match a.at r with
    | none => 0
    | some x =>
      if x.kind = 14 then able a n (meet set x.set) x.of
      else if x.kind = 15 ∨ x.kind = 16 then able a n set x.of
      else meet set (can x.kind)

def AW.able (a : AW) (r : Int) : Int := Go.AW.able a (r.toNat + 1) 63 r

/-- do two sides reach one another? the greater one goes up -/
def open_ (a : AW) : Nat → Int → Int → Bool
  | 0, _, _ => false
  | n + 1, x, y =>
    if x = y then true else
    let hi := max x y
    let lo := min x y
    if a.cut.getD hi.toNat false then false else open_ a n (a.parents.getD (hi.toNat - 1) 0) lo

def AW.open (a : AW) (x y : Int) : Bool := a.side x && a.side y && open_ a (x.toNat + y.toNat + 1) x y

/-- a gate whose switch is cut -/
def AW.shut (a : AW) (x : Wh) : Bool := decide (x.kind = 15) && (match a.at x.by_ with | some y => y.full | none => false)

def free (a : AW) : List Int → Int → Int
  | [], _ => 0
  | t :: l, from_ =>
    match a.at t with
    | none => 0
    | some x =>
      if x.kind = 14 then free a l from_
      else if (!a.open from_ x.home || a.shut x) = true then 7
      else free a l x.home

def AW.free (a : AW) (from_ r : Int) : Int :=
  if !a.side from_ then 2 else if !a.is r then 5 else Go.AW.free a (a.way r) from_

def AW.find (a : AW) (t s : Int) : Option Int := (a.things.find? fun x => x.2.kind == 14 && x.2.of == t && x.2.set == s).map (·.1)

def AW.add (a : AW) (x : Wh) : AW :=
  { a with last := a.last + 1, things := a.things ++ [(a.last + 1, x)], made := if x.kind = 14 then a.made else a.made.set x.home.toNat (a.made.getD x.home.toNat 0 + 1) }

def new (parents : List Int) : Option AW :=
  if parents.length ≥ 16 then none
  else if (parents.zipIdx.all fun (p, i) => decide (0 ≤ p) && decide (p ≤ i)) then
    some { parents, cut := List.replicate (parents.length + 1) false, things := [], last := 0, made := List.replicate (parents.length + 1) 0 }
  else none

/-- no two facets of one target and set -/
def OneFacet (a : AW) : Prop := ∀ s ∈ a.things, ∀ t ∈ a.things, s.2.kind = 14 → t.2.kind = 14 → s.2.of = t.2.of → s.2.set = t.2.set → s = t

/-- what is always so of a world that was made by the package -/
structure WF (a : AW) : Prop where
  bits : ∀ t ∈ a.things, 0 ≤ t.2.set ∧ t.2.set < 256 ∧ 0 ≤ t.2.kind ∧ t.2.kind < 256
  home : ∀ t ∈ a.things, t.2.kind ≠ 14 → a.side t.2.home = true
  down : ∀ t ∈ a.things, AW.wraps t.2.kind = true → a.is t.2.of = true ∧ t.2.of < t.1
  gate : ∀ t ∈ a.things, t.2.kind = 15 → a.is t.2.by_ = true
  one : OneFacet a
  tree : ∀ i, i < a.parents.length → 0 ≤ a.parents.getD i 0 ∧ a.parents.getD i 0 ≤ i

end Go.AW
