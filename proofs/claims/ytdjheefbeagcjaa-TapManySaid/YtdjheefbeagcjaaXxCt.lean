/- Words for contracts: what a call keeps, slices that read as lists, and how each condition of the calculator is met. -/
import Derived.Test.YtdjheefbeagcjaaXxSound
set_option linter.unusedSimpArgs false
set_option linter.unusedVariables false
namespace Go.X
open Go

abbrev ptr (b : Nat) : Value := .pointer (some ⟨b, 0, none⟩)
abbrev vi (n : Int) : Value := .int .i64 n
abbrev vb (n : Int) : Value := .int .u8 n

/-- w' is w, but for new blocks and the blocks in S. -/
structure Keeps (S : Nat → Prop) (w w' : World) : Prop where
  size : w.heap.size ≤ w'.heap.size
  same : ∀ b, b < w.heap.size → ¬ S b → w'.heap[b]? = w.heap[b]?
  io : w'.os = w.os ∧ w'.tape = w.tape ∧ w'.output = w.output

abbrev Ext (w w' : World) : Prop := Keeps (fun _ => False) w w'

section
variable {S S' : Nat → Prop} {w w' w'' : World}

theorem io_trans {w w' w'' : World} (h : w'.os = w.os ∧ w'.tape = w.tape ∧ w'.output = w.output) (h' : w''.os = w'.os ∧ w''.tape = w'.tape ∧ w''.output = w'.output) : w''.os = w.os ∧ w''.tape = w.tape ∧ w''.output = w.output :=
  ⟨h'.1.trans h.1, h'.2.1.trans h.2.1, h'.2.2.trans h.2.2⟩
theorem Keeps.refl : Keeps S w w := ⟨Nat.le_refl _, fun _ _ _ => rfl, rfl, rfl, rfl⟩
theorem Keeps.trans (h : Keeps S w w') (h' : Keeps S w' w'') : Keeps S w w'' :=
  ⟨Nat.le_trans h.size h'.size, fun b hb hs => by rw [h'.same b (Nat.lt_of_lt_of_le hb h.size) hs, h.same b hb hs], io_trans h.io h'.io⟩
theorem Keeps.mono (h : Keeps S w w') (hs : ∀ b, b < w.heap.size → S b → S' b) : Keeps S' w w' := ⟨h.size, fun b hb hn => h.same b hb fun hS => hn (hs b hb hS), h.io⟩
theorem Keeps.of_ext (h : Ext w w') : Keeps S w w' := ⟨h.size, fun b hb _ => h.same b hb id, h.io⟩
/-- changes of what was new count for nothing -/
theorem Keeps.trans' (h : Keeps S w w') (h' : Keeps S' w' w'') (hs : ∀ b, b < w.heap.size → S' b → S b) : Keeps S w w'' :=
  ⟨Nat.le_trans h.size h'.size, fun b hb hn => by rw [h'.same b (Nat.lt_of_lt_of_le hb h.size) fun hS => hn (hs b hb hS), h.same b hb hn], io_trans h.io h'.io⟩

theorem Ext.alloc (w : World) (o : Obj) : Ext w (w.alloc o) := ⟨by simp, fun b hb _ => by
  simp only [World.alloc]
  rw [Array.getElem?_push]
  have : b ≠ w.heap.size := by omega
  simp [this], rfl, rfl, rfl⟩
theorem Ext.drew (w : World) : Ext w w.drew := ⟨Nat.le_refl _, fun _ _ _ => rfl, rfl, rfl, rfl⟩

theorem lt_of_get {b : Nat} {o : Obj} (h : w.heap[b]? = some o) : b < w.heap.size := (Array.getElem?_eq_some_iff.1 h).1

theorem lt_of_cells {b : Nat} {l : List Value} (h : cellsOf w b = some l) : b < w.heap.size := by
  obtain ⟨c, e, hb, _⟩ := cellsOf_spec h
  exact lt_of_get hb

theorem lt_of_map {b : Nat} {x : List MapEntry × Nat} (h : mapOf w b = some x) : b < w.heap.size := lt_of_get (mapOf_spec (es := x.1) (c := x.2) h)

theorem Keeps.cells (h : Keeps S w w') {b : Nat} {l : List Value} (hb : cellsOf w b = some l) (hs : ¬ S b) : cellsOf w' b = some l := by
  have := h.same b (lt_of_cells hb) hs
  unfold cellsOf at *
  rw [this]; exact hb

theorem Keeps.map (h : Keeps S w w') {b : Nat} {x : List MapEntry × Nat} (hb : mapOf w b = some x) (hs : ¬ S b) : mapOf w' b = some x := by
  have := h.same b (lt_of_map hb) hs
  unfold mapOf at *
  rw [this]; exact hb

theorem cellsOf_new (w : World) (c : Array Value) (T : TypeId) : cellsOf (w.alloc (.cells c T)) w.heap.size = some c.toList := by
  have : (w.alloc (.cells c T)).heap[w.heap.size]? = some (.cells c T (0, 0)) := by unfold World.alloc; simp only [Array.getElem?_push_size]
  simp only [cellsOf, this]

theorem mapOf_new (w : World) (es : Array MapEntry) (c : Nat) : mapOf (w.alloc (.map es c)) w.heap.size = some (es.toList, c) := by
  have : (w.alloc (.map es c)).heap[w.heap.size]? = some (.map es c) := by unfold World.alloc; simp only [Array.getElem?_push_size]
  simp only [mapOf, this]

theorem Keeps.setCell (w : World) (b i : Nat) (v : Value) : Keeps (· = b) w (w.setCell ⟨b, i, none⟩ v) :=
  ⟨by simp, fun c _ hc => by
    simp only [World.setCell]
    rw [Array.getElem?_modify]
    simp [Ne.symm hc], rfl, rfl, rfl⟩

theorem Keeps.setCells (b : Nat) : ∀ (vs : List Value) (i : Nat) (w : World), Keeps (· = b) w (setCells w b i vs)
  | [], _, _ => .refl
  | v :: vs, i, w => (Keeps.setCell w b i v).trans (Keeps.setCells b vs (i + 1) _)

/-- l with vs written from i on -/
def over (l : List Value) (i : Nat) : List Value → List Value
  | [] => l
  | v :: vs => over (l.set i v) (i + 1) vs

theorem cellsOf_setCells {b : Nat} : ∀ (vs : List Value) (i : Nat) (w : World) (l : List Value), cellsOf w b = some l → cellsOf (Go.X.setCells w b i vs) b = some (over l i vs)
  | [], _, _w, _l, h => h
  | v :: vs, i, w, l, h => cellsOf_setCells vs (i + 1) _ _ (cellsOf_setCell h v)

theorem size_setCells {b : Nat} : ∀ (vs : List Value) (i : Nat) (w : World), (Go.X.setCells w b i vs).heap.size = w.heap.size
  | [], _, _ => rfl
  | v :: vs, i, w => by simp [Go.X.setCells, size_setCells vs]

theorem Keeps.setMap (w : World) (r : Nat) (es : List MapEntry) (c : Nat) : Keeps (· = r) w (setMap w r es c) :=
  ⟨by simp [Go.X.setMap], fun b _ hb => by
    simp only [Go.X.setMap]
    rw [Array.getElem?_setIfInBounds_ne (Ne.symm hb)], rfl, rfl, rfl⟩

theorem mapOf_setMap {r : Nat} {x : List MapEntry × Nat} (h : mapOf w r = some x) (es : List MapEntry) (c : Nat) : mapOf (setMap w r es c) r = some (es, c) := by
  have := lt_of_map h
  simp [mapOf, setMap, this]
end

/-- The slice v holds the cells l. -/
def SliceOf (w : World) (v : Value) (l : List Value) : Prop :=
  match v with
  | .slice none n cap => n = 0 ∧ cap = 0 ∧ l = []
  | .slice (some ⟨b, i, none⟩) n cap => n ≤ cap ∧ ∃ c, cellsOf w b = some c ∧ n = l.length ∧ (c.drop i).take n = l ∧ i + cap ≤ c.length
  | _ => False

def sliceBlk (v : Value) : List Nat :=
  match v with
  | .slice (some a) _ _ => [a.block]
  | _ => []

theorem SliceOf.keeps {S : Nat → Prop} {w w' : World} {v : Value} {l : List Value} (h : SliceOf w v l) (hk : Keeps S w w') (hs : ∀ b ∈ sliceBlk v, ¬ S b) : SliceOf w' v l := by
  unfold SliceOf at *
  split at h
  · exact h
  · rename_i b i n cap
    obtain ⟨h0, c, hc, h1, h2, h3⟩ := h
    exact ⟨h0, c, hk.cells hc (hs b (by simp [sliceBlk])), h1, h2, h3⟩
  · exact h.elim

/-- The slice v reads as l: its block may be frozen. -/
def ReadsOf (w : World) (v : Value) (l : List Value) : Prop :=
  match v with
  | .slice none n cap => n = 0 ∧ cap = 0 ∧ l = []
  | .slice (some a) n cap => (n = 0 ∧ cap = 0 ∧ l = []) ∨ ∃ b i c, a = ⟨b, i, none⟩ ∧ n ≤ cap ∧ cellsRd w b = some c ∧ n = l.length ∧ (c.drop i).take n = l ∧ i + cap ≤ c.length
  | _ => False

theorem Rd_of_cells {w : World} {b : Nat} {l : List Value} (h : cellsOf w b = some l) : cellsRd w b = some l := by
  obtain ⟨c, e, hb, rfl⟩ := cellsOf_spec h
  simp [cellsRd, hb]

theorem lt_of_rd {w : World} {b : Nat} {l : List Value} (h : cellsRd w b = some l) : b < w.heap.size := by
  unfold cellsRd at h
  split at h
  · rename_i hb; exact lt_of_get hb
  · simp at h

theorem Keeps.rd {S : Nat → Prop} {w w' : World} (h : Keeps S w w') {b : Nat} {l : List Value} (hb : cellsRd w b = some l) (hs : ¬ S b) : cellsRd w' b = some l := by
  have := h.same b (lt_of_rd hb) hs
  unfold cellsRd at *
  rw [this]; exact hb

theorem SliceOf.reads {w : World} {v : Value} {l : List Value} (h : SliceOf w v l) : ReadsOf w v l := by
  unfold SliceOf at h
  split at h
  · exact h
  · obtain ⟨h0, c, hc, h1⟩ := h
    exact .inr ⟨_, _, c, rfl, h0, Rd_of_cells hc, h1⟩
  · exact h.elim

theorem ReadsOf.keeps {S : Nat → Prop} {w w' : World} {v : Value} {l : List Value} (h : ReadsOf w v l) (hk : Keeps S w w') (hs : ∀ b ∈ sliceBlk v, ¬ S b) : ReadsOf w' v l := by
  unfold ReadsOf at *
  split at h
  · exact h
  · rename_i a n cap
    rcases h with h | ⟨b, i, c, rfl, h0, hc, h1⟩
    · exact .inl h
    · exact .inr ⟨b, i, c, rfl, h0, hk.rd hc (hs b (by simp [sliceBlk])), h1⟩
  · exact h.elim

theorem ReadsOf.ext {w w' : World} {v : Value} {l : List Value} (h : ReadsOf w v l) (hk : Ext w w') : ReadsOf w' v l := h.keeps hk fun _ _ => id

theorem SliceOf.ext {w w' : World} {v : Value} {l : List Value} (h : SliceOf w v l) (hk : Ext w w') : SliceOf w' v l := h.keeps hk fun _ _ => id

/- Steps. -/
section
variable {w : World} {k : Value → Prop} {K : Value → World → Prop}

theorem upd_get (e : Env) (d i : Nat) (v : Value) : upd e d v i = if i = d then v else e i := by
  unfold upd
  by_cases h : i = d
  · subst h; simp
  · have : Nat.beq i d = false := by
      cases hb : Nat.beq i d with
      | false => rfl
      | true => exact absurd (Nat.eq_of_beq_eq_true hb) h
    simp [this, h]
theorem start_get (args : List Value) (i : Nat) : start args i = args.getD i undef := rfl

/-- an equation that is not to be met by unfolding -/
theorem opq {a b : Prop} (h : a = b) : a = b := h

def optK (o : Option Value) (k : Value → Prop) : Prop := match o with | some v => k v | none => False

theorem optK_some (v : Value) : optK (some v) k = k v := opq rfl
theorem nilK_ptr (a : Addr) : nilK (.pointer (some a)) k = k (.pointer (some a)) := opq rfl
theorem nilK_fn (f : FuncId) (a b : Array Value) : nilK (.func (.func f) a b) k = k (.func (.func f) a b) := opq rfl
theorem fieldA_at (o b i : Nat) : fieldA o (.pointer (some ⟨b, i, none⟩)) k = k (.pointer (some ⟨b, i + o, none⟩)) := by simp [fieldA, add_off]
theorem load1_at (b i : Nat) : load1 (.pointer (some ⟨b, i, none⟩)) w k = optK ((orRd (cellsOf w b) (cellsRd w b)).bind fun l => l[i]?) k := opq rfl
theorem orRd_some (l : List Value) (r : Option (List Value)) : orRd (some l) r = some l := rfl
theorem pickK_true (a b : Value) : pickK (.bool true) a b k = k a := opq rfl
theorem pickK_false (a b : Value) : pickK (.bool false) a b k = k b := opq rfl
theorem gopK_tt (X : (Value → World → Prop) → Prop) : gopK (.bool true) true X w K = X K := opq rfl
theorem gopK_ff (X : (Value → World → Prop) → Prop) : gopK (.bool false) false X w K = X K := opq rfl
theorem gopK_tf (X : (Value → World → Prop) → Prop) : gopK (.bool true) false X w K = K undef w := by simp [gopK]
theorem gopK_ft (X : (Value → World → Prop) → Prop) : gopK (.bool false) true X w K = K undef w := by simp [gopK]
theorem gopK_undef (b : Bool) (X : (Value → World → Prop) → Prop) : gopK undef b X w K = K undef w := opq rfl
theorem condK_true (A B : Prop) : condK (.bool true) A B = A := by simp [condK]
theorem condK_false (A B : Prop) : condK (.bool false) A B = B := by simp [condK]
theorem unK_not (b : Bool) : unK .not (.bool b) k = k (.bool !b) := opq rfl
theorem binI_eql (q : IntKind) (a b : Int) : binI .eql (.int q a) (.int q b) k = k (.bool (a == b)) := by simp [binI, binInt]
theorem binI_neq (q : IntKind) (a b : Int) : binI .neq (.int q a) (.int q b) k = k (.bool (a != b)) := by simp [binI, binInt]
theorem binI_lss (q : IntKind) (a b : Int) : binI .lss (.int q a) (.int q b) k = k (.bool (decide (a < b))) := by simp [binI, binInt]
theorem binI_leq (q : IntKind) (a b : Int) : binI .leq (.int q a) (.int q b) k = k (.bool (decide (a ≤ b))) := by simp [binI, binInt]
theorem binI_gtr (q : IntKind) (a b : Int) : binI .gtr (.int q a) (.int q b) k = k (.bool (decide (a > b))) := by simp [binI, binInt]
theorem binI_geq (q : IntKind) (a b : Int) : binI .geq (.int q a) (.int q b) k = k (.bool (decide (a ≥ b))) := by simp [binI, binInt]
theorem binI_add (q : IntKind) (a b : Int) : binI .add (.int q a) (.int q b) k = k (.int q (q.wrap (a + b))) := by simp [binI, binInt]
theorem binI_sub (q : IntKind) (a b : Int) : binI .sub (.int q a) (.int q b) k = k (.int q (q.wrap (a - b))) := by simp [binI, binInt]
theorem binI_mul (q : IntKind) (a b : Int) : binI .mul (.int q a) (.int q b) k = k (.int q (q.wrap (a * b))) := by simp [binI, binInt]
theorem binP_eql_none (a : Option Addr) : binP .eql (.pointer a) (.pointer none) k = k (.bool a.isNone) := by cases a <;> rfl
theorem binP_neq_none (a : Option Addr) : binP .neq (.pointer a) (.pointer none) k = k (.bool !a.isNone) := by cases a <;> rfl
theorem binM_eql_none (a : Option Nat) : binM .eql (.map a) (.map none) k = k (.bool a.isNone) := by cases a <;> rfl
theorem binM_neq_none (a : Option Nat) : binM .neq (.map a) (.map none) k = k (.bool !a.isNone) := by cases a <;> rfl
theorem binL_eql_none (a : Option Addr) (n c m d : Nat) : binL .eql (.slice a n c) (.slice none m d) k = k (.bool a.isNone) := by cases a <;> rfl
theorem lenL_at (a : Option Addr) (n c : Nat) : lenL (.slice a n c) k = k (.int .i64 n) := opq rfl
theorem convI_at (q r : IntKind) (n : Int) : convI q (.int r n) k = k (.int q (q.wrap n)) := opq rfl
theorem extractK_at (vs : List Value) (i : Nat) : extractK (.tuple vs.toArray) i k = optK vs[i]? k := by
  have : (vs.toArray)[i]? = vs[i]? := List.getElem?_toArray ..
  show (match (vs.toArray)[i]? with | some v => k v | none => False) = _
  rw [this]
  rfl

theorem qop_intro {C : World → Prop} {X : World → (Value → World → Prop) → Prop} (v : Value) (h : ∀ w, C w → X w fun v' w' => v' = v ∧ C w') (hk : k v) : qopK true C X k := ⟨rfl, v, h, hk⟩
theorem gqK_tt (X : (Value → Prop) → Prop) : gqK (.bool true) true X k = X k := opq rfl
theorem gqK_ff (X : (Value → Prop) → Prop) : gqK (.bool false) false X k = X k := opq rfl
theorem gqK_tf (X : (Value → Prop) → Prop) : gqK (.bool true) false X k = k undef := by simp [gqK]
theorem gqK_ft (X : (Value → Prop) → Prop) : gqK (.bool false) true X k = k undef := by simp [gqK]
theorem gqK_undef (b : Bool) (X : (Value → Prop) → Prop) : gqK undef b X k = k undef := opq rfl

theorem box_intro {T : TypeId} {x : Value} (h : ∀ b w', Ext w w' → w.heap.size ≤ b → b < w'.heap.size → cellsOf w' b = some x.cells.toList → K (ptr b) w') : boxK T x w K :=
  h _ _ (.alloc _ _) (Nat.le_refl _) (by simp) (cellsOf_new _ _ _)

theorem alloc_intro {T : TypeId} {z : Value} (h : ∀ b w', Ext w w' → w.heap.size ≤ b → b < w'.heap.size → cellsOf w' b = some z.cells.toList → K (ptr b) w') : allocZ z T w K :=
  h _ _ (.alloc _ _) (Nat.le_refl _) (by simp) (cellsOf_new _ _ _)

theorem store1_intro {b i : Nat} {v : Value} {l : List Value} {k : World → Prop} (hl : cellsOf w b = some l) (hi : i < l.length) (hv : v.oneCell' = true)
    (h : ∀ w', Keeps (· = b) w w' → cellsOf w' b = some (l.set i v) → w'.heap.size = w.heap.size → k w') : storeN 1 (.pointer (some ⟨b, i, none⟩)) v w k := by
  have hc : v.cells = #[v] := by cases v <;> first | rfl | simp [Value.oneCell'] at hv
  unfold storeN
  simp only [hl, hc]
  refine ⟨rfl, by simpa using hv, by simp; omega, ?_⟩
  exact h _ (Keeps.setCells b _ i w) (cellsOf_setCells _ i w l hl) (size_setCells _ _ _)

theorem storeN_intro {n b i : Nat} {cs : List Value} {l : List Value} {k : World → Prop} (hl : cellsOf w b = some l) (hn : cs.length = n) (hi : i + n ≤ l.length) (hv : ∀ v ∈ cs, v.oneCell' = true)
    (h : ∀ w', Keeps (· = b) w w' → cellsOf w' b = some (over l i cs) → w'.heap.size = w.heap.size → k w') : storeN n (.pointer (some ⟨b, i, none⟩)) (.agg cs.toArray) w k := by
  unfold storeN
  simp only [hl, Value.cells]
  exact ⟨by simpa using hn, by simpa using hv, by simpa [hn] using hi, h _ (Keeps.setCells b _ i w) (cellsOf_setCells _ i w l hl) (size_setCells _ _ _)⟩

theorem loadN_intro {n b i : Nat} {l : List Value} (hl : cellsOf w b = some l) (hi : i + n ≤ l.length) (h : k (.agg ((l.drop i).take n).toArray)) : loadN n (.pointer (some ⟨b, i, none⟩)) w k := by
  unfold loadN
  simp only [hl, orRd_some]
  exact ⟨hi, h⟩
end
theorem over_eq : ∀ (vs l : List Value) (i : Nat), i + vs.length ≤ l.length → over l i vs = l.take i ++ vs ++ l.drop (i + vs.length)
  | [], l, i, h => by simp [over]
  | v :: vs, l, i, h => by
    have hi : i < l.length := by simp at h; omega
    have ih := over_eq vs (l.set i v) (i + 1) (by simp at h ⊢; omega)
    simp only [over, ih]
    have h1 : (l.set i v).take (i + 1) = l.take i ++ [v] := by
      rw [List.take_succ_eq_append_getElem (by simpa using hi)]
      rw [List.take_set, List.set_eq_of_length_le (by simp; omega)]
      simp
    have h2 : (l.set i v).drop (i + 1 + vs.length) = l.drop (i + (vs.length + 1)) := by
      rw [List.drop_set_of_lt (by omega)]
      congr 1
      omega
    rw [h1, h2]
    simp

theorem over_length (vs l : List Value) (i : Nat) : (over l i vs).length = l.length := by
  induction vs generalizing l i with
  | nil => rfl
  | cons v vs ih => simp [over, ih]

theorem SliceOf.first {w : World} {v : Value} {l : List Value} (h : SliceOf w v l) : ∃ a n c, v = .slice a n c ∧ n = l.length ∧ firstK 1 n v w = some l := by
  unfold SliceOf at h
  split at h
  · obtain ⟨rfl, rfl, rfl⟩ := h; exact ⟨_, _, _, rfl, rfl, rfl⟩
  · rename_i b i n cap
    obtain ⟨hn, c, hc, hl, ht, hle⟩ := h
    refine ⟨_, _, _, rfl, hl, ?_⟩
    simp only [firstK, hc, orRd_some, Option.bind_some, Nat.mul_one]
    by_cases h0 : n = 0
    · rw [if_pos h0]
      have : l = [] := by rw [← List.length_eq_zero_iff, ← hl, h0]
      rw [this]
    · rw [if_neg h0, if_pos (by omega), ht]
  · exact h.elim

theorem ReadsOf.first {w : World} {v : Value} {l : List Value} (h : ReadsOf w v l) : ∃ a n c, v = .slice a n c ∧ n = l.length ∧ firstK 1 n v w = some l := by
  unfold ReadsOf at h
  split at h
  · obtain ⟨rfl, rfl, rfl⟩ := h; exact ⟨_, _, _, rfl, rfl, rfl⟩
  · rename_i a n cap
    rcases h with ⟨rfl, rfl, rfl⟩ | ⟨b, i, c, rfl, hn, hc, hl, ht, hle⟩
    · exact ⟨_, _, _, rfl, rfl, by simp [firstK]⟩
    refine ⟨_, _, _, rfl, hl, ?_⟩
    have ho : orRd (cellsOf w b) (cellsRd w b) = some c := by
      unfold orRd
      split
      · rename_i l' hl'
        have := Rd_of_cells hl'
        rw [hc] at this
        exact this.symm
      · exact hc
    simp only [firstK, ho, Option.bind_some, Nat.mul_one]
    by_cases h0 : n = 0
    · rw [if_pos h0]
      have : l = [] := by rw [← List.length_eq_zero_iff, ← hl, h0]
      rw [this]
    · rw [if_neg h0, if_pos (by omega), ht]
  · exact h.elim

/-- append: what the slice held and what comes; only its own block, or a new one, is written -/
theorem append_rd {e bytes : Nat} {z s v : Value} {l ys : List Value} {w : World} {K : Value → World → Prop} (hs : SliceOf w s l) (hv : ReadsOf w v ys) (ho : ∀ y ∈ ys, y.oneCell' = true)
    (hz : z.cells.size = 1) (hroom : (l.length + ys.length) * bytes ≤ 140737488355328) (hmax : l.length + ys.length ≤ 140737488355328)
    (h : ∀ s' w', Keeps (fun b => b ∈ sliceBlk s) w w' → SliceOf w' s' (l ++ ys) → (∀ b ∈ sliceBlk s', b ∈ sliceBlk s ∨ w.heap.size ≤ b) → K s' w') : appendS e 1 bytes z s v w K := by
  obtain ⟨xa, m, xc, rfl, rfl, hfx⟩ := hv.first
  obtain ⟨sa, n, sc, rfl, rfl, hfs⟩ := hs.first
  unfold appendS
  refine ⟨ys, hfx, ho, fun hc => ?_, fun hc => ⟨l, hfs, hroom, ?_, fun c hle => ?_⟩⟩
  · unfold SliceOf at hs
    split at hs
    · rename_i n cap heq
      obtain ⟨h1, h2, h3⟩ := hs
      simp only [Value.slice.injEq] at heq
      obtain ⟨rfl, h4, rfl⟩ := heq
      subst h2 h3
      have : ys = [] := by simpa using hc
      subst this
      simp only []
      exact h _ w .refl ⟨by simp, rfl, by simp⟩ (by simp [sliceBlk])
    · rename_i b i n cap heq
      obtain ⟨hn, cs, hcs, hl, ht, hle⟩ := hs
      simp only [Value.slice.injEq] at heq
      obtain ⟨rfl, h4, rfl⟩ := heq
      simp only [Nat.mul_one]
      have hlt : i + l.length + ys.length ≤ cs.length := by omega
      refine ⟨⟨cs, hcs, hlt⟩, ?_⟩
      refine h _ _ ((Keeps.setCells b ys _ w).mono fun x _ hx => by subst hx; simp [sliceBlk]) ?_ (by simp [sliceBlk])
      refine ⟨hc, _, cellsOf_setCells ys _ w cs hcs, by simp, ?_, by rw [over_length]; exact hle⟩
      rw [over_eq ys cs _ hlt]
      have h1 : cs.take (i + l.length) = cs.take i ++ l := by
        have ht' : (cs.drop i).take l.length = l := by rw [h4]; exact ht
        rw [List.take_add, ht']
      have hti : (cs.take i).length = i := by simp; omega
      rw [h1, List.append_assoc, List.append_assoc, List.drop_append_of_le_length (by omega), List.drop_eq_nil_of_le (by omega), List.nil_append, ← List.append_assoc]
      rw [List.take_append_of_le_length (by simp), List.take_of_length_le (by simp)]
    · exact hs.elim
  · have : IntKind.i64.max = 9223372036854775807 := by decide
    rw [this]; omega
  · have hnew := cellsOf_new w.drew ((l ++ ys).toArray ++ Builtin.zeroCells z.cells (c - (l.length + ys.length))) e
    refine h _ _ (Keeps.of_ext ((Ext.drew w).trans (Ext.alloc _ _))) ?_ (by simp [sliceBlk])
    refine ⟨hle, _, hnew, by simp, ?_, ?_⟩
    · simp only [Array.toList_append, List.drop_zero]
      rw [List.take_append_of_le_length (by simp), List.take_of_length_le (by simp)]
    · simp [Builtin.zeroCells, hz]
      omega

theorem append_intro {e bytes : Nat} {z s v : Value} {l ys : List Value} {w : World} {K : Value → World → Prop} (hs : SliceOf w s l) (hv : SliceOf w v ys) (ho : ∀ y ∈ ys, y.oneCell' = true)
    (hz : z.cells.size = 1) (hroom : (l.length + ys.length) * bytes ≤ 140737488355328) (hmax : l.length + ys.length ≤ 140737488355328)
    (h : ∀ s' w', Keeps (fun b => b ∈ sliceBlk s) w w' → SliceOf w' s' (l ++ ys) → (∀ b ∈ sliceBlk s', b ∈ sliceBlk s ∨ w.heap.size ≤ b) → K s' w') : appendS e 1 bytes z s v w K :=
  append_rd hs hv.reads ho hz hroom hmax h

end Go.X
