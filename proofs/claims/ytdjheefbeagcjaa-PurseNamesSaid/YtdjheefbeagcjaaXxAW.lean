/- Texts of this family, put together. -/
import Derived.ProofKit
import Derived.Test.YtdjheefbeagcjaaXxCt
/- A law's row out of its call: the call returns true, and nothing that was there has turned. No program in it. -/
set_option linter.unusedSimpArgs false
set_option linter.unusedVariables false
namespace Go.X
open Go Go.RowKit Go.ChangeShapes

theorem Keeps.below {w w' : World} (h : Ext w w') : Below w.heap.size w w' := ⟨h.io.1, h.io.2.1, h.io.2.2, h.size, fun k hk => h.same k hk id⟩

section
variable {H : Type} {enc : TypeId × Value → H} {P : Program}

theorem trodAll_below (hl : laidOutB P = true) {W W' : World} (hb : Below W.heap.size W W') : ∀ (ts : List TypeId) {vs : List Value} {ds : List (DataW H)} {ps : List MemPlace}, (∀ t ∈ ts, P.readableRec t = true ∧ t < P.types.size) →
    DataW.TrodAll enc P W 0 (fun _ => true) true ts vs ds ps → (∀ x ∈ ps, x.block < W.heap.size) → DataW.TrodAll enc P W' 0 (fun b => decide (b < W.heap.size)) true ts vs ds ps
  | [], _, _, _, _, h, _ => by
    obtain ⟨rfl, rfl, rfl⟩ := trodAll_nil h
    exact h
  | t :: ts, _, _, _, hr, h, hlt => by
    obtain ⟨v, vs1, d, ds1, a, b, rfl, rfl, rfl, h1, h2⟩ := trodAll_cons h
    have h1' := Below.trod hl (hr t (by simp)).1 (hr t (by simp)).2 h1 hb fun x hx => hlt x (by simp [hx])
    have h2' := trodAll_below hl hb ts (fun t ht => hr t (by simp [ht])) h2 fun x hx => hlt x (by simp [hx])
    exact ⟨a, b, h1', h2', rfl⟩

/-- the law's word: true, and each argument reads as it read -/
theorem post_law {f : Func} {s : ChangeSpec} {W W' : World} {args : Array Value} {ds gs : List (DataW H)} {before : List MemPlace} {t : TypeId} (hl : laidOutB P = true)
    (hW : DataW.Whole enc P f.params.toList s.vars false W args.toList ds gs before) (hv : s.vars = []) (hs : s.fn H (ds ++ gs) = { results := [.lit (.bool true)], args := ds })
    (hp : ∀ t ∈ f.params.toList, P.readableRec t = true ∧ t < P.types.size) (hr : f.resultTypes = #[t]) (ht : P.underlying t = some .bool) (hb : Below W.heap.size W W') :
    s.post enc P f false true false false W args (.bool true) W' := by
  have hlt := hW.lt
  have hW0 := hW
  obtain ⟨p, q, hA, hV, rfl, hfz, hnd⟩ := hW0
  have hV' : DataW.TrodVars enc P W (fun _ => true) [] gs q := by rw [hv] at hV; exact hV
  obtain ⟨hg, hq⟩ := trodVars_none hV'
  subst hg; subst hq
  refine ⟨ds, [], p ++ [], [], p, [], hW, ?_, ?_, ?_, hb.frame _, fun h => by simp at h⟩
  · rw [hr, hs]
    exact trodAll_mk1 (shut_bool ht true)
  · rw [hs]
    exact trodAll_below hl hb _ hp hA fun x hx => hlt x (by simp [hx])
  · rw [hv, hs]
    exact hV'
end
end Go.X
/- The world that the package 'world' keeps, as plain data: things without lists in them. No program in it. -/
namespace Go.AW

/-- what a thing has, where it has no list: text and lists are empty -/
structure Wh where
  kind : Int
  home : Int
  vk : Int
  vn : Int
  vr : Int
  n : Int
  lost : Int
  of : Int
  by_ : Int
  set : Int
  full : Bool
deriving DecidableEq

def Wh.zero : Wh := ⟨0, 0, 0, 0, 0, 0, 0, 0, 0, 0, false⟩

structure AW where
  parents : List Int
  cut : List Bool
  things : List (Int × Wh)
  last : Int
  made : List Int
deriving DecidableEq

def lookup (l : List (Int × Wh)) (r : Int) : Option Wh :=
  match l with
  | [] => none
  | t :: l => if t.1 = r then some t.2 else lookup l r

def AW.at (a : AW) (r : Int) : Option Wh := lookup a.things r
def AW.is (a : AW) (r : Int) : Bool := (a.at r).isSome
def AW.kind (a : AW) (r : Int) : Int := match a.at r with | some x => x.kind | none => 0
def AW.sides (a : AW) : Int := a.made.length
def AW.side (a : AW) (s : Int) : Bool := decide (0 ≤ s) && decide (s < a.sides)

def AW.wraps (k : Int) : Bool := k == 14 || k == 15 || k == 16

def can (k : Int) : Int :=
  if k = 1 then 3 else if k = 2 ∨ k = 3 then 9 else if k = 4 then 12 else if k = 5 ∨ k = 6 ∨ k = 8 ∨ k = 12 then 16
  else if k = 9 then 13 else if k = 10 then 1 else if k = 11 then 8 else if k = 13 then 33 else 0

def meet (a b : Int) : Int := (a.toNat &&& b.toNat : Nat)
def without (a b : Int) : Int := (a.toNat &&& (255 - b.toNat) : Nat)

/-- the way from a thing to its base, at most n things long -/
def way (a : AW) : Nat → Int → List Int
  | 0, _ => []
  | n + 1, r =>
    match a.at r with
    | none => []
    | some x => if AW.wraps x.kind then r :: way a n x.of else [r]

def AW.way (a : AW) (r : Int) : List Int := Go.AW.way a (r.toNat + 1) r
def AW.base (a : AW) (r : Int) : Int := (a.way r).getLast?.getD 0

def able (a : AW) : Nat → Int → Int → Int
  | 0, _, _ => 0
  | n + 1, set, r =>
    match a.at r with
    | none => 0
    | some x =>
      if x.kind = 14 then able a n (meet set x.set) x.of
      else if x.kind = 15 ∨ x.kind = 16 then able a n set x.of
      else meet set (can x.kind)

def AW.able (a : AW) (r : Int) : Int := Go.AW.able a (r.toNat + 1) 63 r

/-- do two sides reach one another? the greater one goes up -/
def open_ (a : AW) : Nat → Int → Int → Bool
  | 0, _, _ => false
  | n + 1, x, y =>
    if x = y then true else
    let hi := max x y
    let lo := min x y
    if a.cut.getD hi.toNat false then false else open_ a n (a.parents.getD (hi.toNat - 1) 0) lo

def AW.open (a : AW) (x y : Int) : Bool := a.side x && a.side y && open_ a (x.toNat + y.toNat + 1) x y

/-- a gate whose switch is cut -/
def AW.shut (a : AW) (x : Wh) : Bool := decide (x.kind = 15) && (match a.at x.by_ with | some y => y.full | none => false)

def free (a : AW) : List Int → Int → Int
  | [], _ => 0
  | t :: l, from_ =>
    match a.at t with
    | none => 0
    | some x =>
      if x.kind = 14 then free a l from_
      else if (!a.open from_ x.home || a.shut x) = true then 7
      else free a l x.home

def AW.free (a : AW) (from_ r : Int) : Int :=
  if !a.side from_ then 2 else if !a.is r then 5 else Go.AW.free a (a.way r) from_

def AW.find (a : AW) (t s : Int) : Option Int := (a.things.find? fun x => x.2.kind == 14 && x.2.of == t && x.2.set == s).map (·.1)

def AW.add (a : AW) (x : Wh) : AW :=
  { a with last := a.last + 1, things := a.things ++ [(a.last + 1, x)], made := if x.kind = 14 then a.made else a.made.set x.home.toNat (a.made.getD x.home.toNat 0 + 1) }

def new (parents : List Int) : Option AW :=
  if parents.length ≥ 16 then none
  else if (parents.zipIdx.all fun (p, i) => decide (0 ≤ p) && decide (p ≤ i)) then
    some { parents, cut := List.replicate (parents.length + 1) false, things := [], last := 0, made := List.replicate (parents.length + 1) 0 }
  else none

/-- no two facets of one target and set -/
def OneFacet (a : AW) : Prop := ∀ s ∈ a.things, ∀ t ∈ a.things, s.2.kind = 14 → t.2.kind = 14 → s.2.of = t.2.of → s.2.set = t.2.set → s = t

/-- what is always so of a world that was made by the package -/
structure WF (a : AW) : Prop where
  bits : ∀ t ∈ a.things, 0 ≤ t.2.set ∧ t.2.set < 256 ∧ 0 ≤ t.2.kind ∧ t.2.kind < 256
  home : ∀ t ∈ a.things, t.2.kind ≠ 14 → a.side t.2.home = true
  down : ∀ t ∈ a.things, AW.wraps t.2.kind = true → a.is t.2.of = true ∧ t.2.of < t.1
  gate : ∀ t ∈ a.things, t.2.kind = 15 → a.is t.2.by_ = true
  one : OneFacet a
  tree : ∀ i, i < a.parents.length → 0 ≤ a.parents.getD i 0 ∧ a.parents.getD i 0 ≤ i

end Go.AW
