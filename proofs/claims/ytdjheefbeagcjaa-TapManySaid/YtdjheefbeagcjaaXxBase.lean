/- A calculator for weakest preconditions of Go code over the model: plain conditions that suffice for each operation, for regions and for code. Written for this claim's family; no program in it. -/
import Derived.Tactics
import Derived.Still
import Derived.StillTail
import Derived.Deep.Quiet
namespace Go.X

abbrev Env := Nat → Value

def upd (e : Env) (d : Nat) (v : Value) : Env := fun i => bif Nat.beq i d then v else e i

def updO (e : Env) (d : Option Nat) (v : Value) : Env := match d with | some d => upd e d v | none => e

def ev (e : Env) : Operand → Value
  | .tmp t => e t
  | .const v => v
  | .global g => .pointer (some ⟨g, 0, none⟩)
  | .func f => .func (.func f) #[] #[]

/-- The cells of a block that nothing froze. -/
def cellsOf (w : World) (b : Nat) : Option (List Value) :=
  match w.heap[b]? with
  | some (.cells c _ (0, 0)) => some c.toList
  | _ => none

def mapOf (w : World) (b : Nat) : Option (List MapEntry × Nat) :=
  match w.heap[b]? with
  | some (.map es c) => some (es.toList, c)
  | _ => none

def isAggT (P : Program) (T : TypeId) : Bool :=
  match P.underlying T with
  | some (.struct _) | some (.array _ _) => true
  | _ => false

def known (P : Program) (T : TypeId) : Bool := (P.info? T).isSome && (P.underlying T).isSome

def sizeT (P : Program) (T : TypeId) : Nat := match P.info? T with | some i => i.size | none => 0

/-- The cells of a block, whatever is frozen: what may be read. -/
def cellsRd (w : World) (b : Nat) : Option (List Value) :=
  match w.heap[b]? with
  | some (.cells c _ _) => some c.toList
  | _ => none

def orRd (a r : Option (List Value)) : Option (List Value) := match a with | some l => some l | none => r

/-- what an address holds: one cell -/
def load1 (a : Value) (w : World) (k : Value → Prop) : Prop :=
  match a with
  | .pointer (some ⟨b, i, none⟩) =>
    match (orRd (cellsOf w b) (cellsRd w b)).bind (·[i]?) with
    | some v => k v
    | none => False
  | _ => False

def loadN (n : Nat) (a : Value) (w : World) (k : Value → Prop) : Prop :=
  match a with
  | .pointer (some ⟨b, i, none⟩) =>
    match orRd (cellsOf w b) (cellsRd w b) with
    | some l => i + n ≤ l.length ∧ k (.agg ((l.drop i).take n).toArray)
    | none => False
  | _ => False

def loadK (P : Program) (T : TypeId) (a : Value) (w : World) (k : Value → Prop) : Prop :=
  known P T = true ∧ (if isAggT P T then loadN (sizeT P T) a w k else load1 a w k)

def setCells (w : World) (b i : Nat) : List Value → World
  | [] => w
  | v :: vs => setCells (w.setCell ⟨b, i, none⟩ v) b (i + 1) vs

def storeK (P : Program) (T : TypeId) (a x : Value) (w : World) (k : World → Prop) : Prop :=
  match a with
  | .pointer (some ⟨b, i, none⟩) =>
    match cellsOf w b with
    | some l => known P T = true ∧ x.cells.size = sizeT P T ∧ (∀ v ∈ x.cells.toList, v.oneCell' = true) ∧ i + x.cells.size ≤ l.length ∧ k (setCells w b i x.cells.toList)
    | none => False
  | _ => False

def nilK (x : Value) (k : Value → Prop) : Prop :=
  match x with
  | .pointer (some a) => k (.pointer (some a))
  | .func (.func f) a b => k (.func (.func f) a b)
  | _ => False

def pickK (c a b : Value) (k : Value → Prop) : Prop :=
  match c with
  | .bool t => k (if t then a else b)
  | _ => False

def unK (op : UnOp) (x : Value) (k : Value → Prop) : Prop :=
  match op, x with
  | .not, .bool b => k (.bool !b)
  | _, _ => False

def bitsOf (op : BinOp) (q : IntKind) (x y : Int) : Option Value :=
  let a := BitVec.ofInt q.bits x
  let b := BitVec.ofInt q.bits y
  match op with
  | .and => some (.int q (q.wrap (a &&& b).toNat))
  | .or => some (.int q (q.wrap (a ||| b).toNat))
  | .xor => some (.int q (q.wrap (a ^^^ b).toNat))
  | .andNot => some (.int q (q.wrap (a &&& ~~~b).toNat))
  | _ => none

def binInt (op : BinOp) (q : IntKind) (x y : Int) : Option Value :=
  match op with
  | .add => some (.int q (q.wrap (x + y)))
  | .sub => some (.int q (q.wrap (x - y)))
  | .mul => some (.int q (q.wrap (x * y)))
  | .quo => if y = 0 then none else some (.int q (q.wrap (x.tdiv y)))
  | .rem => if y = 0 then none else some (.int q (x.tmod y))
  | .eql => some (.bool (x == y))
  | .neq => some (.bool (x != y))
  | .lss => some (.bool (x < y))
  | .leq => some (.bool (x ≤ y))
  | .gtr => some (.bool (x > y))
  | .geq => some (.bool (x ≥ y))
  | .and | .or | .xor | .andNot => bitsOf op q x y
  | _ => none

def eqlB (x y : Value) : Option Bool := match x, y with | .bool a, .bool b => some (a == b) | _, _ => none
def eqlP (x y : Value) : Option Bool :=
  match x, y with
  | .pointer none, .pointer b => some b.isNone
  | .pointer a, .pointer none => some a.isNone
  | _, _ => none
def eqlM (x y : Value) : Option Bool :=
  match x, y with
  | .map none, .map b => some b.isNone
  | .map a, .map none => some a.isNone
  | _, _ => none
def eqlF (x y : Value) : Option Bool :=
  match x, y with
  | .nilFunc, .nilFunc => some true
  | .nilFunc, .func _ _ _ => some false
  | .func _ _ _, .nilFunc => some false
  | _, _ => none
def eqlL (x y : Value) : Option Bool :=
  match x, y with
  | .slice none _ _, .slice b _ _ => some b.isNone
  | .slice a _ _, .slice none _ _ => some a.isNone
  | _, _ => none

/-- two operands of '==' that need no memory -/
def eqlV (d : TypeDesc) (x y : Value) : Option Bool :=
  match d with
  | .bool => eqlB x y
  | .pointer _ => eqlP x y
  | .map _ _ => eqlM x y
  | .func _ _ _ => eqlF x y
  | .slice _ => eqlL x y
  | _ => none

def binK (P : Program) (op : BinOp) (T : TypeId) (x y : Value) (k : Value → Prop) : Prop :=
  match x, y with
  | .int q a, .int q' b => if q = q' then (match binInt op q a b with | some v => k v | none => False) else False
  | .string a, .string b =>
    (match op with
    | .eql => k (.bool (a.toList == b.toList))
    | .neq => k (.bool (a.toList != b.toList))
    | _ => False)
  | x, y =>
    match op, P.underlying T with
    | .eql, some d => (match eqlV d x y with | some b => k (.bool b) | none => False)
    | .neq, some d => (match eqlV d x y with | some b => k (.bool !b) | none => False)
    | _, _ => False

def convK (P : Program) (s d : TypeId) (x : Value) (k : Value → Prop) : Prop :=
  match P.underlying s, P.underlying d, x with
  | some _, some (.int q), .int _ n => k (.int q (q.wrap n))
  | _, _, _ => False

def fieldOff (P : Program) (s : TypeId) (f : Nat) : Option (Nat × TypeId) :=
  match P.underlying s with
  | some (.struct fs) => (fs[f]?).bind fun g => if known P g.type && sizeT P g.type != 0 then some (g.offset, g.type) else none
  | _ => none

def addA (a : Addr) (n : Nat) : Addr := if n = 0 then a else { a with off := a.off + n, spot := none }

def fieldK (P : Program) (s : TypeId) (x : Value) (f : Nat) (k : Value → Prop) : Prop :=
  match fieldOff P s f, x with
  | some (o, _), .pointer (some a) => k (.pointer (some (a.add o)))
  | _, _ => False

def partV (P : Program) (T : TypeId) (cs : Array Value) (o : Nat) : Option Value :=
  if isAggT P T then some (.agg (cs.extract o (o + sizeT P T))) else cs[o]?

def fieldVK (P : Program) (s : TypeId) (x : Value) (f : Nat) (k : Value → Prop) : Prop :=
  match fieldOff P s f, x with
  | some (o, T), .agg cs => (match partV P T cs o with | some v => k v | none => False)
  | _, _ => False

def elemT (P : Program) (T : TypeId) : Option TypeId :=
  match P.underlying T with
  | some (.slice e) => if known P e then some e else none
  | _ => none

def indexK (P : Program) (T : TypeId) (x i : Value) (k : Value → Prop) : Prop :=
  match P.underlying T, x, i with
  | some (.slice e), .slice (some a) n _, .int _ j => known P e = true ∧ 0 ≤ j ∧ j < n ∧ k (.pointer (some (a.add (j.toNat * sizeT P e))))
  | some (.array n e), .pointer (some a), .int _ j => known P e = true ∧ 0 ≤ j ∧ j < n ∧ k (.pointer (some (a.add (j.toNat * sizeT P e))))
  | _, _, _ => False

def indexVK (P : Program) (T : TypeId) (x i : Value) (k : Value → Prop) : Prop :=
  match P.underlying T, x, i with
  | some (.array n e), .agg cs, .int _ j =>
    known P e = true ∧ 0 ≤ j ∧ j < n ∧ (match partV P e cs (j.toNat * sizeT P e) with | some v => k v | none => False)
  | _, _, _ => False

def extractK (t : Value) (i : Nat) (k : Value → Prop) : Prop :=
  match t with
  | .tuple vs => (match vs[i]? with | some v => k v | none => False)
  | _ => False

def callOn (P : Program) (f : FuncId) (args : Array Value) (w : World) (k : Value → World → Prop) : Prop :=
  Calls P f args w fun e w' => ∃ v, e = .returned v ∧ k v w'

/-- May this function be entered? -/
def enters (P : Program) (f : FuncId) : Bool :=
  match P.funcs[f]? with
  | some fn => fn.name != "runtime.NumGoroutine" && fn.body.isSome
  | none => false

def callK (P : Program) (f : Value) (args : List Value) (w : World) (k : Value → World → Prop) : Prop :=
  match f with
  | .func (.func g) first captured => enters P g = true ∧ callOn P g ((first ++ args.toArray) ++ captured) w k
  | _ => False

def zeroOf (P : Program) (T : TypeId) : Option Value := (P.info? T).bind (·.zero)

def allocK (P : Program) (T : TypeId) (w : World) (k : Value → World → Prop) : Prop :=
  match zeroOf P T with
  | some z => k (.pointer (some ⟨w.heap.size, 0, none⟩)) (w.alloc (.cells z.cells T))
  | none => False

def boxK (T : TypeId) (x : Value) (w : World) (k : Value → World → Prop) : Prop :=
  k (.pointer (some ⟨w.heap.size, 0, none⟩)) (w.alloc (.cells x.cells T))

def mapTypes (P : Program) (T : TypeId) : Option (TypeId × TypeId) :=
  match P.underlying T with
  | some (.map a b) => some (a, b)
  | _ => none

def lenK (P : Program) (T : TypeId) (x : Value) (w : World) (k : Value → Prop) : Prop :=
  match P.underlying T, x with
  | some .string, .string s => k (.int .i64 s.size)
  | some (.slice _), .slice _ n _ => k (.int .i64 n)
  | some (.map _ _), .map none => k (.int .i64 0)
  | some (.map _ _), .map (some r) => (match mapOf w r with | some (es, _) => k (.int .i64 es.length) | none => False)
  | _, _ => False

/-- Are two keys the same? Whole numbers, and pairs of them. -/
def keyEq (x y : Value) : Option Bool :=
  match x, y with
  | .int q a, .int q' b => if q = q' then some (a == b) else none
  | .agg c, .agg d =>
    match c.toList, d.toList with
    | [.int q a, .int p b], [.int q' a', .int p' b'] => if q = q' ∧ p = p' then some (a == a' && b == b') else none
    | _, _ => none
  | _, _ => none

def findK (key : Value) : List MapEntry → Nat → Option (Option (Nat × Value))
  | [], _ => some none
  | e :: es, i =>
    match keyEq key e.key with
    | some true => some (some (i, e.val))
    | some false => findK key es (i + 1)
    | none => none

def intT (P : Program) (T : TypeId) : Bool := match P.underlying T with | some (.int _) => known P T | _ => false

def keyOk (P : Program) (K : TypeId) (key : Value) : Bool :=
  match P.underlying K, key with
  | some (.int _), .int _ _ => true
  | some (.struct fs), .agg c =>
    match fs.toList, c.toList with
    | [f, g], [.int _ _, .int _ _] => f.name != "_" && g.name != "_" && f.offset == 0 && g.offset == 1 && intT P f.type && intT P g.type && !P.stoodInHeld K
    | _, _ => false
  | _, _ => false

def foundK (P : Program) (E : TypeId) (ok : Bool) (r : Option (Option (Nat × Value))) (k : Value → Prop) : Prop :=
  match r with
  | some (some (_, v)) => k (if ok then .tuple #[v, .bool true] else v)
  | some none => (match zeroOf P E with | some z => k (if ok then .tuple #[z, .bool false] else z) | none => False)
  | none => False

def lookupK (P : Program) (T : TypeId) (x i : Value) (ok : Bool) (w : World) (k : Value → Prop) : Prop :=
  match mapTypes P T, x with
  | some (K, E), .map none => keyOk P K i = true ∧ foundK P E ok (some none) k
  | some (K, E), .map (some r) =>
    (match mapOf w r with
    | some (es, _) => keyOk P K i = true ∧ foundK P E ok (findK i es 0) k
    | none => False)
  | _, _ => False

def setMap (w : World) (r : Nat) (es : List MapEntry) (c : Nat) : World := { w with heap := w.heap.setIfInBounds r (.map es.toArray c) }

def mapUpdateK (P : Program) (T : TypeId) (m key x : Value) (w : World) (k : World → Prop) : Prop :=
  match mapTypes P T, m with
  | some (K, _), .map (some r) =>
    (match mapOf w r with
    | some (es, c) => keyOk P K key = true ∧
      (match findK key es 0 with
      | some (some (i, _)) => k (setMap w r (es.modify i fun e => { e with key, val := x }) c)
      | some none => k (setMap w r (es ++ [{ key, val := x, born := c }]) (c + 1))
      | none => False)
    | none => False)
  | _, _ => False

def deleteK (P : Program) (T : TypeId) (m key : Value) (w : World) (k : World → Prop) : Prop :=
  match mapTypes P T, m with
  | some (K, _), .map (some r) =>
    (match mapOf w r with
    | some (es, c) => keyOk P K key = true ∧
      (match findK key es 0 with
      | some (some (i, _)) => k (setMap w r (es.eraseIdx i) c)
      | some none => k (setMap w r es c)
      | none => False)
    | none => False)
  | _, _ => False

def rangeK (P : Program) (T : TypeId) (x : Value) (w : World) (k : Value → World → Prop) : Prop :=
  match mapTypes P T, x with
  | some _, .map none => k (.pointer (some ⟨w.heap.size, 0, none⟩)) (w.alloc (.mapIter none 0 #[] 0))
  | some _, .map (some m) =>
    (match mapOf w m with
    | some (_, c) => k (.pointer (some ⟨w.heap.size, 0, none⟩)) (w.alloc (.mapIter (some m) c #[] c))
    | none => False)
  | _, _ => False

def setObjW (w : World) (r : Nat) (o : Obj) : World := { w with heap := w.heap.setIfInBounds r o }

def nextK (it : Value) (w : World) (k : Value → World → Prop) : Prop :=
  match it with
  | .pointer (some ⟨r, 0, _⟩) =>
    (match w.heap[r]? with
    | some (.mapIter none _ _ _) => k (.tuple #[.bool false]) w
    | some (.mapIter (some m) since seen last) =>
      (match mapOf w m with
      | some (es, clock) =>
        (seen = #[] ∨ ∃ e, e ∈ es ∧ e.born < last) ∧
        ∀ w1, (w1 = w ∨ w1 = w.drew) →
          (∀ e, e ∈ es → seen.contains e.born = false → k (.tuple #[.bool true, e.key, e.val]) (setObjW w1 r (.mapIter (some m) since (seen.push e.born) clock))) ∧
          ((∀ e, e ∈ es → seen.contains e.born = false → since ≤ e.born) → k (.tuple #[.bool false]) w1)
      | none => False)
    | _ => False)
  | _ => False

def entryK (it : Value) (w : World) (k : Value → Prop) : Prop :=
  match it with
  | .pointer (some ⟨r, 0, _⟩) =>
    (match w.heap[r]? with
    | some (.mapIter (some m) _ seen stepped) =>
      (match mapOf w m, seen.back? with
      | some (es, clock), some stamp => clock = stepped ∧ (match es.find? (·.born == stamp) with | some e => k (.tuple #[e.key, e.val]) | none => False)
      | _, _ => False)
    | _ => False)
  | _ => False

/-- the first cells of a slice -/
def firstK (size n : Nat) (x : Value) (w : World) : Option (List Value) :=
  match x with
  | .slice none _ _ => some []
  | .slice (some a) _ _ =>
    if n * size = 0 then some [] else
    (match a with
    | ⟨b, i, none⟩ => (orRd (cellsOf w b) (cellsRd w b)).bind fun l => if i + n * size ≤ l.length then some ((l.drop i).take (n * size)) else none
    | _ => none)
  | _ => none

def appendK (P : Program) (T X : TypeId) (s x : Value) (w : World) (k : Value → World → Prop) : Prop :=
  match P.underlying T, P.underlying X, s, x with
  | some (.slice e), some (.slice _), .slice base n cap, .slice xb m xc =>
    known P e = true ∧
    ∃ z new, zeroOf P e = some z ∧ firstK (sizeT P e) m (.slice xb m xc) w = some new ∧ (∀ v ∈ new, v.oneCell' = true) ∧
    (n + m ≤ cap →
      match base with
      | none => k (.slice none (n + m) cap) w
      | some ⟨b, i, none⟩ => (∃ l, cellsOf w b = some l ∧ i + n * sizeT P e + new.length ≤ l.length) ∧ k (.slice base (n + m) cap) (setCells w b (i + n * sizeT P e) new)
      | _ => False) ∧
    (¬ n + m ≤ cap → ∃ old, firstK (sizeT P e) n s w = some old ∧
      (∀ i, P.info? e = some i → (n + m) * i.bytes ≤ 140737488355328 ∧ ((n + m : Nat) : Int) ≤ IntKind.i64.max) ∧
      ∀ c, n + m ≤ c → k (.slice (some ⟨w.heap.size, 0, none⟩) (n + m) c) (w.drew.alloc (.cells ((old ++ new).toArray ++ Builtin.zeroCells z.cells (c - (n + m))) e)))
  | _, _, _, _ => False

def minK (args : List Value) (k : Value → Prop) : Prop :=
  match args with
  | [.int q x, .int _ y] => k (.int q (if y < x then y else x))
  | _ => False

def maxK (args : List Value) (k : Value → Prop) : Prop :=
  match args with
  | [.int q x, .int _ y] => k (.int q (if y > x then y else x))
  | _ => False

def boundK (x : Option Value) (d hi : Nat) : Option Nat :=
  match x with
  | none => some d
  | some (.int _ i) => if 0 ≤ i ∧ i ≤ hi then some i.toNat else none
  | _ => none

def sliceK (P : Program) (T : TypeId) (x : Value) (lo hi mx : Option Value) (k : Value → Prop) : Prop :=
  match P.underlying T, x with
  | some (.slice e), .slice a n cap =>
    known P e = true ∧
    (match boundK mx cap cap with
    | some m => (match boundK hi n m with
      | some h => (match boundK lo 0 h with
        | some l => (mx.isSome → hi.isSome) ∧ k (.slice (if m = l then a else a.map (·.add (l * sizeT P e))) (h - l) (m - l))
        | none => False)
      | none => False)
    | none => False)
  | _, _ => False

def zerosOf (z : Array Value) (n : Nat) : Array Value := (Array.range n).map (z[· % z.size]!)

def makeSliceK (P : Program) (T : TypeId) (n c : Value) (w : World) (k : Value → World → Prop) : Prop :=
  match P.underlying T, n, c with
  | some (.slice e), .int _ l, .int _ m =>
    (match P.info? e with
    | some i => known P e = true ∧ 0 ≤ l ∧ l ≤ m ∧ m ≤ IntKind.i64.max ∧ (i.bytes : Int) * m ≤ 281474976710656 ∧
      (match i.zero with
      | some z => k (.slice (some ⟨w.heap.size, 0, none⟩) l.toNat m.toNat) (w.alloc (.cells (zerosOf (if m.toNat * i.size = 0 then #[] else z.cells) (m.toNat * i.size)) e))
      | none => False)
    | none => False)
  | _, _, _ => False

def buildK (P : Program) (T : TypeId) (parts : List (Nat × Value)) (k : Value → Prop) : Prop :=
  match P.underlying T, zeroOf P T with
  | some (.struct fs), some z =>
    fs.toList.all (fun f => known P f.type) = true ∧
    (match Instr.fill (fun j => (fs.toList[j]?).map fun f => (f.offset, sizeT P f.type)) z.cells parts with
    | some c => k (.agg c)
    | none => False)
  | some (.array _ e), some z =>
    known P e = true ∧
    (match Instr.fill (fun j => some (j * sizeT P e, sizeT P e)) z.cells parts with
    | some c => k (.agg c)
    | none => False)
  | _, _ => False

def buildSliceK (P : Program) (T : TypeId) (n : Nat) (parts : List (Nat × Value)) (w : World) (k : Value → World → Prop) : Prop :=
  match P.underlying T with
  | some (.slice e) =>
    (match zeroOf P e with
    | some z => known P e = true ∧ n * sizeT P e ≤ 16777216 ∧
      (match Instr.fill (fun j => some (j * sizeT P e, sizeT P e)) (zerosOf (if n * sizeT P e = 0 then #[] else z.cells) (n * sizeT P e)) parts with
      | some c => k (.slice (some ⟨w.heap.size, 0, none⟩) n n) (w.alloc (.cells c e))
      | none => False)
    | none => False)
  | _ => False

/- The same conditions with all that the type says reckoned away: what is left names no type. -/

def storeN (n : Nat) (a x : Value) (w : World) (k : World → Prop) : Prop :=
  match a with
  | .pointer (some ⟨b, i, none⟩) =>
    match cellsOf w b with
    | some l => x.cells.size = n ∧ (∀ v ∈ x.cells.toList, v.oneCell' = true) ∧ i + x.cells.size ≤ l.length ∧ k (setCells w b i x.cells.toList)
    | none => False
  | _ => False

def loadT (P : Program) (T : TypeId) (a : Value) (w : World) (k : Value → Prop) : Prop :=
  bif known P T then (bif isAggT P T then loadN (sizeT P T) a w k else load1 a w k) else False

def storeT (P : Program) (T : TypeId) (a x : Value) (w : World) (k : World → Prop) : Prop :=
  bif known P T then storeN (sizeT P T) a x w k else False

def fieldA (o : Nat) (x : Value) (k : Value → Prop) : Prop :=
  match x with
  | .pointer (some a) => k (.pointer (some (a.add o)))
  | _ => False

def fieldT (P : Program) (s : TypeId) (x : Value) (f : Nat) (k : Value → Prop) : Prop :=
  match fieldOff P s f with
  | some (o, _) => fieldA o x k
  | none => False

def part1 (o : Nat) (x : Value) (k : Value → Prop) : Prop :=
  match x with
  | .agg cs => (match cs[o]? with | some v => k v | none => False)
  | _ => False

def partN (o n : Nat) (x : Value) (k : Value → Prop) : Prop :=
  match x with
  | .agg cs => k (.agg (cs.extract o (o + n)))
  | _ => False

def fieldVT (P : Program) (s : TypeId) (x : Value) (f : Nat) (k : Value → Prop) : Prop :=
  match fieldOff P s f with
  | some (o, T) => bif isAggT P T then partN o (sizeT P T) x k else part1 o x k
  | none => False

def indexS (size : Nat) (x i : Value) (k : Value → Prop) : Prop :=
  match x, i with
  | .slice (some a) n _, .int _ j => 0 ≤ j ∧ j < n ∧ k (.pointer (some (a.add (j.toNat * size))))
  | _, _ => False

def indexA (len size : Nat) (x i : Value) (k : Value → Prop) : Prop :=
  match x, i with
  | .pointer (some a), .int _ j => 0 ≤ j ∧ j < len ∧ k (.pointer (some (a.add (j.toNat * size))))
  | _, _ => False

def indexT (P : Program) (T : TypeId) (x i : Value) (k : Value → Prop) : Prop :=
  match P.underlying T with
  | some (.slice e) => bif known P e then indexS (sizeT P e) x i k else False
  | some (.array n e) => bif known P e then indexA n (sizeT P e) x i k else False
  | _ => False

def indexV1 (len size : Nat) (x i : Value) (k : Value → Prop) : Prop :=
  match x, i with
  | .agg cs, .int _ j => 0 ≤ j ∧ j < len ∧ (match cs[j.toNat * size]? with | some v => k v | none => False)
  | _, _ => False

def indexVN (len size : Nat) (x i : Value) (k : Value → Prop) : Prop :=
  match x, i with
  | .agg cs, .int _ j => 0 ≤ j ∧ j < len ∧ k (.agg (cs.extract (j.toNat * size) (j.toNat * size + size)))
  | _, _ => False

def indexVT (P : Program) (T : TypeId) (x i : Value) (k : Value → Prop) : Prop :=
  match P.underlying T with
  | some (.array n e) => bif known P e then (bif isAggT P e then indexVN n (sizeT P e) x i k else indexV1 n (sizeT P e) x i k) else False
  | _ => False

def lenS (x : Value) (k : Value → Prop) : Prop := match x with | .string s => k (.int .i64 s.size) | _ => False
def lenL (x : Value) (k : Value → Prop) : Prop := match x with | .slice _ n _ => k (.int .i64 n) | _ => False
def lenM (x : Value) (w : World) (k : Value → Prop) : Prop :=
  match x with
  | .map none => k (.int .i64 0)
  | .map (some r) => (match mapOf w r with | some (es, _) => k (.int .i64 es.length) | none => False)
  | _ => False

def lenT (P : Program) (T : TypeId) (x : Value) (w : World) (k : Value → Prop) : Prop :=
  match P.underlying T with
  | some .string => lenS x k
  | some (.slice _) => lenL x k
  | some (.map _ _) => lenM x w k
  | _ => False

def convI (q : IntKind) (x : Value) (k : Value → Prop) : Prop := match x with | .int _ n => k (.int q (q.wrap n)) | _ => False

def convT (P : Program) (s d : TypeId) (x : Value) (k : Value → Prop) : Prop :=
  match P.underlying s, P.underlying d with
  | some _, some (.int q) => convI q x k
  | _, _ => False

def binI (op : BinOp) (x y : Value) (k : Value → Prop) : Prop :=
  match x, y with
  | .int q a, .int q' b => if q = q' then (match binInt op q a b with | some v => k v | none => False) else False
  | _, _ => False

def binS (op : BinOp) (x y : Value) (k : Value → Prop) : Prop :=
  match op, x, y with
  | .eql, .string a, .string b => k (.bool (a.toList == b.toList))
  | .neq, .string a, .string b => k (.bool (a.toList != b.toList))
  | _, _, _ => False

def eqTo (op : BinOp) (r : Option Bool) (k : Value → Prop) : Prop :=
  match op, r with
  | .eql, some b => k (.bool b)
  | .neq, some b => k (.bool !b)
  | _, _ => False

def binB (op : BinOp) (x y : Value) (k : Value → Prop) : Prop := eqTo op (eqlB x y) k
def binP (op : BinOp) (x y : Value) (k : Value → Prop) : Prop := eqTo op (eqlP x y) k
def binM (op : BinOp) (x y : Value) (k : Value → Prop) : Prop := eqTo op (eqlM x y) k
def binL (op : BinOp) (x y : Value) (k : Value → Prop) : Prop := eqTo op (eqlL x y) k
def binF (op : BinOp) (x y : Value) (k : Value → Prop) : Prop := eqTo op (eqlF x y) k

def binT (P : Program) (op : BinOp) (T : TypeId) (x y : Value) (k : Value → Prop) : Prop :=
  match P.underlying T with
  | some (.int _) => binI op x y k
  | some .string => binS op x y k
  | some .bool => binB op x y k
  | some (.pointer _) => binP op x y k
  | some (.map _ _) => binM op x y k
  | some (.slice _) => binL op x y k
  | some (.func _ _ _) => binF op x y k
  | _ => False

def callT (P : Program) (f : Value) (args : List Value) (w : World) (k : Value → World → Prop) : Prop :=
  match f with
  | .func (.func g) first captured => bif enters P g then callOn P g ((first.toList ++ args) ++ captured.toList).toArray w k else False
  | _ => False

def allocZ (z : Value) (T : TypeId) (w : World) (k : Value → World → Prop) : Prop :=
  k (.pointer (some ⟨w.heap.size, 0, none⟩)) (w.alloc (.cells z.cells T))

def allocT (P : Program) (T : TypeId) (w : World) (k : Value → World → Prop) : Prop :=
  match zeroOf P T with
  | some z => allocZ z T w k
  | none => False

def intKey (P : Program) (K : TypeId) : Bool := match P.underlying K with | some (.int _) => true | _ => false

def pairKey (P : Program) (K : TypeId) : Bool :=
  match P.underlying K with
  | some (.struct fs) =>
    (match fs.toList with
    | [f, g] => f.name != "_" && g.name != "_" && f.offset == 0 && g.offset == 1 && intT P f.type && intT P g.type && !P.stoodInHeld K
    | _ => false)
  | _ => false

/-- the shape of a key: a whole number, or a pair of them -/
def keyShape (pair : Bool) (key : Value) : Bool :=
  match pair, key with
  | false, .int _ _ => true
  | true, .agg c => (match c.toList with | [.int _ _, .int _ _] => true | _ => false)
  | _, _ => false

def foundM (z : Value) (ok : Bool) (r : Option (Option (Nat × Value))) (k : Value → Prop) : Prop :=
  match r with
  | some (some (_, v)) => k (if ok then .tuple #[v, .bool true] else v)
  | some none => k (if ok then .tuple #[z, .bool false] else z)
  | none => False

def lookM (pair : Bool) (z x i : Value) (ok : Bool) (w : World) (k : Value → Prop) : Prop :=
  match x with
  | .map none => keyShape pair i = true ∧ foundM z ok (some none) k
  | .map (some r) =>
    (match mapOf w r with
    | some (es, _) => keyShape pair i = true ∧ foundM z ok (findK i es 0) k
    | none => False)
  | _ => False

/-- none: not a key that is taken here -/
def keyKind (P : Program) (K : TypeId) : Option Bool := bif intKey P K then some false else bif pairKey P K then some true else none

def lookupT (P : Program) (T : TypeId) (x i : Value) (ok : Bool) (w : World) (k : Value → Prop) : Prop :=
  match mapTypes P T with
  | some (K, E) =>
    (match zeroOf P E, keyKind P K with
    | some z, some p => lookM p z x i ok w k
    | _, _ => False)
  | none => False

def updM (pair : Bool) (m key x : Value) (w : World) (k : World → Prop) : Prop :=
  match m with
  | .map (some r) =>
    (match mapOf w r with
    | some (es, c) => keyShape pair key = true ∧
      (match findK key es 0 with
      | some (some (i, _)) => k (setMap w r (es.modify i fun e => { e with key, val := x }) c)
      | some none => k (setMap w r (es ++ [{ key, val := x, born := c }]) (c + 1))
      | none => False)
    | none => False)
  | _ => False

def mapUpdateT (P : Program) (T : TypeId) (m key x : Value) (w : World) (k : World → Prop) : Prop :=
  match mapTypes P T with
  | some (K, _) => (match keyKind P K with | some p => updM p m key x w k | none => False)
  | none => False

def delM (pair : Bool) (m key : Value) (w : World) (k : World → Prop) : Prop :=
  match m with
  | .map (some r) =>
    (match mapOf w r with
    | some (es, c) => keyShape pair key = true ∧
      (match findK key es 0 with
      | some (some (i, _)) => k (setMap w r (es.eraseIdx i) c)
      | some none => k (setMap w r es c)
      | none => False)
    | none => False)
  | _ => False

def deleteT (P : Program) (T : TypeId) (m key : Value) (w : World) (k : World → Prop) : Prop :=
  match mapTypes P T with
  | some (K, _) => (match keyKind P K with | some p => delM p m key w k | none => False)
  | none => False

def rangeM (x : Value) (w : World) (k : Value → World → Prop) : Prop :=
  match x with
  | .map none => k (.pointer (some ⟨w.heap.size, 0, none⟩)) (w.alloc (.mapIter none 0 #[] 0))
  | .map (some m) =>
    (match mapOf w m with
    | some (_, c) => k (.pointer (some ⟨w.heap.size, 0, none⟩)) (w.alloc (.mapIter (some m) c #[] c))
    | none => False)
  | _ => False

def rangeT (P : Program) (T : TypeId) (x : Value) (w : World) (k : Value → World → Prop) : Prop :=
  match mapTypes P T with
  | some _ => rangeM x w k
  | none => False

def appendS (e size bytes : Nat) (z s x : Value) (w : World) (k : Value → World → Prop) : Prop :=
  match s, x with
  | .slice base n cap, .slice xb m xc =>
    ∃ new, firstK size m (.slice xb m xc) w = some new ∧ (∀ v ∈ new, v.oneCell' = true) ∧
    (n + m ≤ cap →
      match base with
      | none => k (.slice none (n + m) cap) w
      | some ⟨b, i, none⟩ => (∃ l, cellsOf w b = some l ∧ i + n * size + new.length ≤ l.length) ∧ k (.slice base (n + m) cap) (setCells w b (i + n * size) new)
      | _ => False) ∧
    (¬ n + m ≤ cap → ∃ old, firstK size n s w = some old ∧ (n + m) * bytes ≤ 140737488355328 ∧ ((n + m : Nat) : Int) ≤ IntKind.i64.max ∧
      ∀ c, n + m ≤ c → k (.slice (some ⟨w.heap.size, 0, none⟩) (n + m) c) (w.drew.alloc (.cells ((old ++ new).toArray ++ Builtin.zeroCells z.cells (c - (n + m))) e)))
  | _, _ => False

def appendT (P : Program) (T X : TypeId) (s x : Value) (w : World) (k : Value → World → Prop) : Prop :=
  match P.underlying T, P.underlying X with
  | some (.slice e), some (.slice _) =>
    bif known P e then
      (match P.info? e with
      | some i => (match i.zero with | some z => appendS e i.size i.bytes z s x w k | none => False)
      | none => False)
    else False
  | _, _ => False

def sliceS (size : Nat) (x : Value) (lo hi mx : Option Value) (k : Value → Prop) : Prop :=
  match x with
  | .slice a n cap =>
    (match boundK mx cap cap with
    | some m => (match boundK hi n m with
      | some h => (match boundK lo 0 h with
        | some l => (mx.isSome → hi.isSome) ∧ k (.slice (if m = l then a else a.map (·.add (l * size))) (h - l) (m - l))
        | none => False)
      | none => False)
    | none => False)
  | _ => False

def sliceT (P : Program) (T : TypeId) (x : Value) (lo hi mx : Option Value) (k : Value → Prop) : Prop :=
  match P.underlying T with
  | some (.slice e) => bif known P e then sliceS (sizeT P e) x lo hi mx k else False
  | _ => False

def makeS (e size bytes : Nat) (z n c : Value) (w : World) (k : Value → World → Prop) : Prop :=
  match n, c with
  | .int _ l, .int _ m =>
    0 ≤ l ∧ l ≤ m ∧ m ≤ IntKind.i64.max ∧ (bytes : Int) * m ≤ 281474976710656 ∧
      k (.slice (some ⟨w.heap.size, 0, none⟩) l.toNat m.toNat) (w.alloc (.cells (zerosOf (if m.toNat * size = 0 then #[] else z.cells) (m.toNat * size)) e))
  | _, _ => False

def makeSliceT (P : Program) (T : TypeId) (n c : Value) (w : World) (k : Value → World → Prop) : Prop :=
  match P.underlying T with
  | some (.slice e) =>
    bif known P e then
      (match P.info? e with
      | some i => (match i.zero with | some z => makeS e i.size i.bytes z n c w k | none => False)
      | none => False)
    else False
  | _ => False

def buildS (z : Value) (places : List (Nat × Nat)) (parts : List (Nat × Value)) (k : Value → Prop) : Prop :=
  match Instr.fill (fun j => places[j]?) z.cells parts with
  | some c => k (.agg c)
  | none => False

def buildA (z : Value) (size : Nat) (parts : List (Nat × Value)) (k : Value → Prop) : Prop :=
  match Instr.fill (fun j => some (j * size, size)) z.cells parts with
  | some c => k (.agg c)
  | none => False

def buildT (P : Program) (T : TypeId) (parts : List (Nat × Value)) (k : Value → Prop) : Prop :=
  match P.underlying T, zeroOf P T with
  | some (.struct fs), some z => bif fs.toList.all (fun f => known P f.type) then buildS z (fs.toList.map fun f => (f.offset, sizeT P f.type)) parts k else False
  | some (.array _ e), some z => bif known P e then buildA z (sizeT P e) parts k else False
  | _, _ => False

def buildL (e size : Nat) (z : Value) (n : Nat) (parts : List (Nat × Value)) (w : World) (k : Value → World → Prop) : Prop :=
  n * size ≤ 16777216 ∧
  (match Instr.fill (fun j => some (j * size, size)) (zerosOf (if n * size = 0 then #[] else z.cells) (n * size)) parts with
  | some c => k (.slice (some ⟨w.heap.size, 0, none⟩) n n) (w.alloc (.cells c e))
  | none => False)

def buildSliceT (P : Program) (T : TypeId) (n : Nat) (parts : List (Nat × Value)) (w : World) (k : Value → World → Prop) : Prop :=
  match P.underlying T with
  | some (.slice e) =>
    (match zeroOf P e with
    | some z => bif known P e then buildL e (sizeT P e) z n parts w k else False
    | none => False)
  | _ => False

def builtinK (P : Program) (b : Builtin) (ts : List TypeId) (args : List Value) (w : World) (k : Value → World → Prop) : Prop :=
  match b, ts, args with
  | .len, T :: _, x :: _ => lenT P T x w fun v => k v w
  | .append, [T, X], [s, x] => appendT P T X s x w k
  | .delete, T :: _, [m, key] => deleteT P T m key w fun w' => k (.tuple #[]) w'
  | .min, _, args => minK args fun v => k v w
  | .max, _, args => maxK args fun v => k v w
  | _, _, _ => False

/-- One operation. -/
def opK (P : Program) (ρ : Operand → Value) (o : Op) (w : World) (k : Value → World → Prop) : Prop :=
  match o with
  | .move x | .assign x => k (ρ x) w
  | .pick c a b => pickK (ρ c) (ρ a) (ρ b) fun v => k v w
  | .alloc T => allocT P T w k
  | .box T x => boxK T (ρ x) w k
  | .build T ps => buildT P T (ps.toList.map fun (i, x) => (i, ρ x)) fun v => k v w
  | .buildSlice T n ps => buildSliceT P T n (ps.toList.map fun (i, x) => (i, ρ x)) w k
  | .load T a => loadT P T (ρ a) w fun v => k v w
  | .store T a x => storeT P T (ρ a) (ρ x) w fun w' => k undef w'
  | .nilCheck x => nilK (ρ x) fun v => k v w
  | .binOp op T x y _ => binT P op T (ρ x) (ρ y) fun v => k v w
  | .unOp op _ x => unK op (ρ x) fun v => k v w
  | .convert s d x => convT P s d (ρ x) fun v => k v w
  | .makeFunc fn a b => k (.func fn (a.toList.map ρ).toArray (b.toList.map ρ).toArray) w
  | .makeMap T r => (match r with | none => True | some h => (mapTypes P T).isSome = true ∧ (match ρ h with | .int _ _ => True | _ => False)) ∧ k (.map (some w.heap.size)) (w.alloc (.map #[] 0))
  | .makeSlice T n c => makeSliceT P T (ρ n) (ρ c) w k
  | .slice T x lo hi mx => sliceT P T (ρ x) (lo.map ρ) (hi.map ρ) (mx.map ρ) fun v => k v w
  | .fieldAddr s x f => fieldT P s (ρ x) f fun v => k v w
  | .field s x f => fieldVT P s (ρ x) f fun v => k v w
  | .indexAddr T x i => indexT P T (ρ x) (ρ i) fun v => k v w
  | .index T x i => indexVT P T (ρ x) (ρ i) fun v => k v w
  | .lookup T x i ok => lookupT P T (ρ x) (ρ i) ok w fun v => k v w
  | .mapUpdate T m i x => mapUpdateT P T (ρ m) (ρ i) (ρ x) w fun w' => k undef w'
  | .insert T m i x => mapUpdateT P T (ρ m) (ρ i) (ρ x) w fun w' => k undef w'
  | .range T x => rangeT P T (ρ x) w k
  | .next it false => nextK (ρ it) w k
  | .entry it => entryK (ρ it) w fun v => k v w
  | .extract t i => extractK (ρ t) i fun v => k v w
  | .call c =>
    (match c.callee with
    | .value f => callT P (ρ f) (c.args.toList.map ρ) w k
    | .builtin b => builtinK P b c.argTypes.toList (c.args.toList.map ρ) w k
    | _ => False)
  | _ => False

end Go.X
