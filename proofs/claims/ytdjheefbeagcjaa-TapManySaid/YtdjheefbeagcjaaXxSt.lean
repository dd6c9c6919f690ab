/- What a walk knows of memory, as one list of resources that lie apart; each step of the calculator by one lemma. -/
import Derived.Test.YtdjheefbeagcjaaXxRep
import Derived.Test.YtdjheefbeagcjaaXxAny2
set_option linter.unusedSimpArgs false
set_option linter.unusedVariables false
namespace Go.X
open Go Go.AW

/-- a piece of memory -/
inductive Res where
  | cells (b : Nat) (l : List Value)
  | map (b : Nat) (es : List MapEntry) (c : Nat)
  | slice (v : Value) (l : List Value)
  | world (L : Lay) (a : AW)
  | obj (b : Nat) (o : Obj)

def Res.blks : Res → List Nat
  | .cells b _ => [b]
  | .map b _ _ => [b]
  | .slice v _ => sliceBlk v
  | .world L a => foot L a
  | .obj b _ => [b]

def Res.holds (w : World) : Res → Prop
  | .cells b l => cellsOf w b = some l
  | .map b es c => mapOf w b = some (es, c)
  | .slice v l => SliceOf w v l
  | .world L a => WRep w L a
  | .obj b o => w.heap[b]? = some o

theorem Res.keeps {S : Nat → Prop} {w w' : World} {r : Res} (h : r.holds w) (hk : Keeps S w w') (hs : ∀ b ∈ r.blks, ¬ S b) : r.holds w' := by
  cases r with
  | cells b l => exact hk.cells h (hs b (by simp [Res.blks]))
  | map b es c => exact hk.map h (hs b (by simp [Res.blks]))
  | slice v l => exact SliceOf.keeps h hk hs
  | world L a => exact WRep.keeps h hk hs
  | obj b o => exact (hk.same b (lt_of_get h) (hs b (by simp [Res.blks]))).trans h

theorem SliceOf.lt {w : World} {v : Value} {l : List Value} (hs : SliceOf w v l) : ∀ b ∈ sliceBlk v, b < w.heap.size := by
  intro b hb
  unfold SliceOf at hs
  split at hs
  · simp [sliceBlk] at hb
  · obtain ⟨_, c, hc, _⟩ := hs
    simp [sliceBlk] at hb
    subst hb
    exact lt_of_cells hc
  · exact hs.elim

theorem Res.lt {w : World} {r : Res} (h : r.holds w) : ∀ b ∈ r.blks, b < w.heap.size := by
  cases r with
  | cells b l => intro c hc; simp [Res.blks] at hc; subst hc; exact lt_of_cells h
  | map b es c => intro c hc; simp [Res.blks] at hc; subst hc; exact lt_of_map h
  | slice v l => exact SliceOf.lt h
  | world L a => exact WRep.lt h
  | obj b o => intro c hc; simp [Res.blks] at hc; subst hc; exact lt_of_get h

def blksOf (R : List Res) : List Nat := R.flatMap Res.blks

theorem blksOf_mem {R : List Res} {r : Res} (h : r ∈ R) {b : Nat} (hb : b ∈ r.blks) : b ∈ blksOf R := List.mem_flatMap.2 ⟨r, h, hb⟩

/-- The memory w: what w0 was but for S and what is new; the pieces R lie in it, apart, all of them new or within S. -/
structure State (S : Nat → Prop) (w0 w : World) (R : List Res) : Prop where
  keeps : Keeps S w0 w
  holds : ∀ r ∈ R, r.holds w
  apart : (blksOf R).Nodup
  own : ∀ b ∈ blksOf R, S b ∨ w0.heap.size ≤ b

/-- R' is R with r' in r's place -/
inductive Sub : Res → Res → List Res → List Res → Prop
  | head {r r' : Res} {R : List Res} : Sub r r' (r :: R) (r' :: R)
  | tail {r r' q : Res} {R R' : List Res} : Sub r r' R R' → Sub r r' (q :: R) (q :: R')

theorem Sub.split {r r' : Res} {R R' : List Res} (h : Sub r r' R R') : ∃ A B, R = A ++ r :: B ∧ R' = A ++ r' :: B := by
  induction h with
  | head => exact ⟨[], _, rfl, rfl⟩
  | tail _ ih => obtain ⟨A, B, rfl, rfl⟩ := ih; exact ⟨_ :: A, B, rfl, rfl⟩

theorem Sub.mem {r r' : Res} {R R' : List Res} (h : Sub r r' R R') : r ∈ R := by
  obtain ⟨A, B, rfl, _⟩ := h.split; simp

section
variable {S : Nat → Prop} {w0 w w' : World} {R R' : List Res}

theorem State.start (w : World) : State S w w [] := ⟨.refl, by simp, by simp [blksOf], by simp [blksOf]⟩

theorem State.lt (st : State S w0 w R) {b : Nat} (hb : b ∈ blksOf R) : b < w.heap.size := by
  obtain ⟨r, hr, hb⟩ := List.mem_flatMap.1 hb
  exact Res.lt (st.holds r hr) b hb

theorem State.ext (st : State S w0 w R) (h : Ext w w') : State S w0 w' R :=
  ⟨st.keeps.trans (.of_ext h), fun r hr => Res.keeps (st.holds r hr) h fun _ _ => id, st.apart, st.own⟩

theorem State.drew (st : State S w0 w R) : State S w0 w.drew R := st.ext (.drew w)

theorem State.atDrew {f : World → Prop} (st : State S w0 w R) (h : ∀ w, State S w0 w R → f w) : Go.X.atDrew w f := h _ st.drew

theorem State.push (st : State S w0 w R) (h : Ext w w') {r : Res} (hr : r.holds w') (hn : r.blks.Nodup) (hb : ∀ b ∈ r.blks, w.heap.size ≤ b) : State S w0 w' (r :: R) := by
  have st' := st.ext h
  refine ⟨st'.keeps, fun q hq => ?_, ?_, fun b hbb => ?_⟩
  · rcases List.mem_cons.1 hq with rfl | hq
    · exact hr
    · exact st'.holds q hq
  · simp only [blksOf, List.flatMap_cons]
    refine List.nodup_append.2 ⟨hn, st.apart, fun a ha b hb' e => ?_⟩
    subst e
    have := hb a ha
    have := st.lt hb'
    omega
  · simp only [blksOf, List.flatMap_cons, List.mem_append] at hbb
    rcases hbb with hbb | hbb
    · have := hb b hbb
      have := st.keeps.size
      exact .inr (by omega)
    · exact st.own b hbb

/-- one piece changes; its new blocks are its old ones, and new ones -/
theorem State.change (st : State S w0 w R) {r r' : Res} (hs : Sub r r' R R') (hk : Keeps (fun b => b ∈ r.blks) w w') (hr : r'.holds w') (hn : r'.blks.Nodup)
    (hb : ∀ b ∈ r'.blks, b ∈ r.blks ∨ w.heap.size ≤ b) : State S w0 w' R' := by
  obtain ⟨A, B, rfl, rfl⟩ := hs.split
  have hap := st.apart
  have hlt : ∀ b ∈ blksOf (A ++ r :: B), b < w.heap.size := fun b hb => st.lt hb
  have hown := st.own
  simp only [blksOf, List.flatMap_append, List.flatMap_cons, List.nodup_append, List.mem_append] at hap hlt hown
  obtain ⟨hA, ⟨hr0, hB, hrB⟩, hAr⟩ := hap
  refine ⟨st.keeps.trans' hk fun b hb hbr => ?_, fun q hq => ?_, ?_, fun b hbb => ?_⟩
  · rcases hown b (.inr (.inl hbr)) with h | h
    · exact h
    · omega
  · simp only [List.mem_append, List.mem_cons] at hq
    rcases hq with hq | rfl | hq
    · refine Res.keeps (st.holds q (by simp [hq])) hk fun b hb hbr => ?_
      exact hAr b (List.mem_flatMap.2 ⟨q, hq, hb⟩) b (.inl hbr) rfl
    · exact hr
    · refine Res.keeps (st.holds q (by simp [hq])) hk fun b hb hbr => ?_
      exact hrB b hbr b (List.mem_flatMap.2 ⟨q, hq, hb⟩) rfl
  · simp only [blksOf, List.flatMap_append, List.flatMap_cons, List.nodup_append, List.mem_append]
    refine ⟨hA, ⟨hn, hB, fun a ha b hb' e => ?_⟩, fun a ha b hb' e => ?_⟩
    · subst e
      rcases hb a ha with h | h
      · exact hrB a h a hb' rfl
      · have := hlt a (.inr (.inr hb')); omega
    · subst e
      rcases hb' with hb' | hb'
      · rcases hb a hb' with h | h
        · exact hAr a ha a (.inl h) rfl
        · have := hlt a (.inl ha); omega
      · exact hAr a ha a (.inr hb') rfl
  · simp only [blksOf, List.flatMap_append, List.flatMap_cons, List.mem_append] at hbb
    rcases hbb with h | h | h
    · exact hown b (.inl h)
    · rcases hb b h with h | h
      · exact hown b (.inr (.inl h))
      · have := st.keeps.size
        exact .inr (by omega)
    · exact hown b (.inr (.inr h))

theorem State.get (st : State S w0 w R) {r : Res} (h : r ∈ R) : r.holds w := st.holds r h
theorem State.cell (st : State S w0 w R) {b : Nat} {l : List Value} (h : .cells b l ∈ R) : cellsOf w b = some l := st.holds _ h
theorem State.rep (st : State S w0 w R) {L : Lay} {a : AW} (h : .world L a ∈ R) : WRep w L a := st.holds _ h
theorem State.sl (st : State S w0 w R) {v : Value} {l : List Value} (h : .slice v l ∈ R) : SliceOf w v l := st.holds _ h

theorem State.drop1 {r : Res} (st : State S w0 w (r :: R)) : State S w0 w R := by
  have h1 := st.apart
  have h2 := st.own
  simp only [blksOf, List.flatMap_cons, List.nodup_append, List.mem_append] at h1 h2
  exact ⟨st.keeps, fun q hq => st.holds q (by simp [hq]), h1.2.1, fun b hb => h2 b (.inr hb)⟩

theorem blksOf_sub {R R' : List Res} (h : R'.Sublist R) : (blksOf R').Sublist (blksOf R) := by
  unfold blksOf
  induction h with
  | slnil => exact .refl _
  | cons a _ ih => rw [List.flatMap_cons]; exact ih.trans (List.sublist_append_right _ _)
  | cons_cons a _ ih => rw [List.flatMap_cons, List.flatMap_cons]; exact (List.Sublist.refl _).append ih

/-- fewer pieces, in the order they stood -/
theorem State.sub (st : State S w0 w R) (h : R'.Sublist R) : State S w0 w R' := by
  refine ⟨st.keeps, fun q hq => st.holds q (h.subset hq), ?_, fun b hb => ?_⟩
  · exact (blksOf_sub h).nodup st.apart
  · obtain ⟨r, hr, hb⟩ := List.mem_flatMap.1 hb
    exact st.own b (blksOf_mem (h.subset hr) hb)

theorem State.ptr_lt (st : State S w0 w R) {b : Nat} {l : List Value} (h : .cells b l ∈ R) : b < w.heap.size := lt_of_cells (st.cell h)

variable {k : Value → Prop} {K : Value → World → Prop}

theorem State.box {T : TypeId} {x : Value} (st : State S w0 w R) (h : ∀ b w, State S w0 w (.cells b x.cells.toList :: R) → K (ptr b) w) : boxK T x w K :=
  h _ _ (st.push (.alloc _ _) (cellsOf_new _ _ _) (by simp [Res.blks]) (by simp [Res.blks]))

theorem State.alloc {T : TypeId} {z : Value} (st : State S w0 w R) (h : ∀ b w, State S w0 w (.cells b z.cells.toList :: R) → K (ptr b) w) : allocZ z T w K :=
  h _ _ (st.push (.alloc _ _) (cellsOf_new _ _ _) (by simp [Res.blks]) (by simp [Res.blks]))

theorem State.boxAgg {T : TypeId} {l : List Value} (st : State S w0 w R) (h : ∀ b w, State S w0 w (.cells b l :: R) → K (ptr b) w) : boxK T (.agg l.toArray) w K :=
  h _ _ (st.push (.alloc _ _) (cellsOf_new _ _ _) (by simp [Res.blks]) (by simp [Res.blks]))

theorem State.allocAgg {T : TypeId} {l : List Value} (st : State S w0 w R) (h : ∀ b w, State S w0 w (.cells b l :: R) → K (ptr b) w) : allocZ (.agg l.toArray) T w K :=
  h _ _ (st.push (.alloc _ _) (cellsOf_new _ _ _) (by simp [Res.blks]) (by simp [Res.blks]))

/-- a whole block is read -/
theorem State.loadAll {n b : Nat} {l : List Value} (st : State S w0 w R) (hm : .cells b l ∈ R) (hl : l.length = n) (h : k (.agg l.toArray)) : Go.X.loadN n (ptr b) w k := by
  refine loadN_intro (st.cell hm) (by omega) ?_
  rw [List.drop_zero, ← hl, List.take_length]
  exact h

theorem State.load1 {b i : Nat} {l : List Value} {v : Value} (st : State S w0 w R) (hm : .cells b l ∈ R) (hv : l[i]? = some v) (h : k v) : load1 (.pointer (some ⟨b, i, none⟩)) w k := by
  simp only [load1_at, st.cell hm, orRd_some, Option.bind_some, hv, optK_some]
  exact h

theorem State.loadN {n b i : Nat} {l c : List Value} (st : State S w0 w R) (hm : .cells b l ∈ R) (hi : i + n ≤ l.length) (hc : (l.drop i).take n = c) (h : k (.agg c.toArray)) : loadN n (.pointer (some ⟨b, i, none⟩)) w k := by
  subst hc
  exact loadN_intro (st.cell hm) hi h

theorem State.store1 {b i : Nat} {l : List Value} {v : Value} {q : World → Prop} (st : State S w0 w R) (hs : Sub (.cells b l) (.cells b (l.set i v)) R R') (hi : i < l.length) (hv : v.oneCell' = true)
    (h : ∀ w, State S w0 w R' → q w) : storeN 1 (.pointer (some ⟨b, i, none⟩)) v w q :=
  store1_intro (st.cell hs.mem) hi hv fun w' hk hc _ => h w' (st.change hs (hk.mono fun x _ hx => by simp [Res.blks, hx]) hc (by simp [Res.blks]) (by simp [Res.blks]))

theorem State.storeN {n b i : Nat} {l cs : List Value} {q : World → Prop} (st : State S w0 w R) (hs : Sub (.cells b l) (.cells b (over l i cs)) R R') (hn : cs.length = n) (hi : i + n ≤ l.length) (hv : ∀ v ∈ cs, v.oneCell' = true)
    (h : ∀ w, State S w0 w R' → q w) : Go.X.storeN n (.pointer (some ⟨b, i, none⟩)) (.agg cs.toArray) w q :=
  storeN_intro (st.cell hs.mem) hn hi hv fun w' hk hc _ => h w' (st.change hs (hk.mono fun x _ hx => by simp [Res.blks, hx]) hc (by simp [Res.blks]) (by simp [Res.blks]))

/-- the whole block is written -/
theorem State.storeAll {n b : Nat} {l cs : List Value} {q : World → Prop} (st : State S w0 w R) (hs : Sub (.cells b l) (.cells b cs) R R') (hn : cs.length = n) (hl : l.length = n) (hv : ∀ v ∈ cs, v.oneCell' = true)
    (h : ∀ w, State S w0 w R' → q w) : Go.X.storeN n (ptr b) (.agg cs.toArray) w q := by
  have ho : over l 0 cs = cs := by
    rw [over_eq cs l 0 (by omega)]
    simp [hn, ← hl]
  refine st.storeN (i := 0) (l := l) (cs := cs) ?_ hn (by omega) hv h
  rw [ho]
  exact hs

abbrev valL (c n r : Int) : List Value := [vb c, vi n, noText, noList, vi r]
abbrev valV (c n r : Int) : Value := .agg (valL c n r).toArray

theorem State.loadVal {b : Nat} {y : Wh} (st : State S w0 w R) (hm : .cells b (whCells y) ∈ R) (h : k (valV y.vk y.vn y.vr)) :
    Go.X.loadN 5 (.pointer (some ⟨b, 2, none⟩)) w k := st.loadN hm (by simp [whCells]) rfl h

/- conditions -/
theorem cond_t {c : Bool} {A B : Prop} (hc : c = true) (h : A) : condK (.bool c) A B := by subst hc; rw [condK_true]; exact h
theorem cond_f {c : Bool} {A B : Prop} (hc : c = false) (h : B) : condK (.bool c) A B := by subst hc; rw [condK_false]; exact h
theorem cond_split {c : Bool} {A B : Prop} (h1 : c = true → A) (h2 : c = false → B) : condK (.bool c) A B := by
  cases c
  · rw [condK_false]; exact h2 rfl
  · rw [condK_true]; exact h1 rfl
theorem gop_run {b c : Bool} {X : (Value → World → Prop) → Prop} (hc : c = b) (h : X K) : gopK (.bool c) b X w K := by
  subst hc; cases c <;> exact h
theorem gop_skip {b c : Bool} {X : (Value → World → Prop) → Prop} (hc : c = !b) (h : K undef w) : gopK (.bool c) b X w K := by
  subst hc; cases b <;> simpa [gopK] using h
theorem gop_undef {b : Bool} {X : (Value → World → Prop) → Prop} (h : K undef w) : gopK undef b X w K := h
theorem gop_split {b c : Bool} {X : (Value → World → Prop) → Prop} (h1 : c = b → X K) (h2 : c = !b → K undef w) : gopK (.bool c) b X w K := by
  by_cases h : c = b
  · exact gop_run h (h1 h)
  · have : c = !b := by cases c <;> cases b <;> simp at h ⊢
    exact gop_skip this (h2 this)
theorem load_top {L : Lay} {a : AW} {i : Nat} {v : Value} (h : WRep w L a) (hv : [L.par, L.cut, .map (some L.bm), .map (some L.bf), vi a.last, L.made][i]? = some v) (hk : k v) : load1 (.pointer (some ⟨L.p, i, none⟩)) w k := by
  simp only [load1_at, h.top, orRd_some, Option.bind_some, hv, optK_some]; exact hk
theorem look_at {L : Lay} {a : AW} {r : Int} {x : Wh} {z : Value} (h : WRep w L a) (hr : a.at r = some x) (hk : k (ptr (L.bk r))) : lookM false z (.map (some L.bm)) (vi r) false w k := by
  rw [h.look_some hr]; exact hk
theorem look_no {L : Lay} {a : AW} {r : Int} {z : Value} (h : WRep w L a) (hr : a.at r = none) (hk : k z) : lookM false z (.map (some L.bm)) (vi r) false w k := by
  rw [h.look_none hr]; exact hk
theorem load_thing {L : Lay} {a : AW} {i : Nat} {r : Int} {x : Wh} {v : Value} (h : WRep w L a) (hr : a.at r = some x) (hv : (whCells x)[i]? = some v) (hk : k v) : load1 (.pointer (some ⟨L.bk r, i, none⟩)) w k := by
  simp only [load1_at, h.cell hr, orRd_some, Option.bind_some, hv, optK_some]; exact hk
/-- a cell's value -/
def Reads (w : World) (b i : Nat) (v : Value) : Prop := ∃ c, cellsRd w b = some c ∧ c[i]? = some v
theorem load_reads {b i : Nat} {v : Value} (h : Reads w b i v) (hk : k v) : load1 (.pointer (some ⟨b, i, none⟩)) w k := by
  obtain ⟨c, hc, hv⟩ := h
  have ho : orRd (cellsOf w b) (cellsRd w b) = some c := by
    unfold orRd
    split
    · rename_i l' hl'
      have := Rd_of_cells hl'
      rw [hc] at this
      exact this.symm
    · exact hc
  simp only [load1_at, ho, Option.bind_some, hv, optK_some]; exact hk
theorem gq_run {b c : Bool} {X : (Value → Prop) → Prop} (hc : c = b) (h : X k) : gqK (.bool c) b X k := by
  subst hc; cases c <;> exact h
theorem gq_skip {b c : Bool} {X : (Value → Prop) → Prop} (hc : c = !b) (h : k undef) : gqK (.bool c) b X k := by
  subst hc; cases b <;> simpa [gqK] using h
theorem gq_undef {b : Bool} {X : (Value → Prop) → Prop} (h : k undef) : gqK undef b X k := h
theorem gq_split {b c : Bool} {X : (Value → Prop) → Prop} (h1 : c = b → X k) (h2 : c = !b → k undef) : gqK (.bool c) b X k := by
  by_cases h : c = b
  · exact gq_run h (h1 h)
  · have : c = !b := by cases c <;> cases b <;> simp at h ⊢
    exact gq_skip this (h2 this)
/-- an operation with one value in all worlds that hold R -/
theorem qop_at {X : World → (Value → World → Prop) → Prop} (v : Value) (h : ∀ w, State S w0 w R → X w fun v' w' => v' = v ∧ State S w0 w' R) (hk : k v) : qopK true (fun w => State S w0 w R) X k := ⟨rfl, v, h, hk⟩
theorem loop_none {body : (Env → World → Prop) → Env → World → Prop} {e : Env} (h : ∀ k, body k e w) : loopK body e w :=
  ⟨fun _ e' w' => e' = e ∧ w' = w, 0, ⟨rfl, rfl⟩, fun m e' w' he => by obtain ⟨rfl, rfl⟩ := he; exact h _⟩
theorem pick_t {c : Bool} {a b : Value} (hc : c = true) (h : k a) : pickK (.bool c) a b k := by subst hc; exact h
theorem pick_f {c : Bool} {a b : Value} (hc : c = false) (h : k b) : pickK (.bool c) a b k := by subst hc; exact h
theorem nil_ptr {a : Addr} (h : k (.pointer (some a))) : nilK (.pointer (some a)) k := h
theorem nil_fn {f : FuncId} {a b : Array Value} (h : k (.func (.func f) a b)) : nilK (.func (.func f) a b) k := h
theorem field_at {o b i : Nat} (h : k (.pointer (some ⟨b, i + o, none⟩))) : fieldA o (.pointer (some ⟨b, i, none⟩)) k := by rw [fieldA_at]; exact h
theorem field_0 {b i : Nat} (h : k (.pointer (some ⟨b, i, none⟩))) : fieldA 0 (.pointer (some ⟨b, i, none⟩)) k := by rw [fieldA_at]; exact h
theorem not_at {b : Bool} (h : k (.bool !b)) : unK .not (.bool b) k := h
theorem eql_at {q : IntKind} {a b : Int} (h : k (.bool (a == b))) : binI .eql (.int q a) (.int q b) k := by rw [binI_eql]; exact h
theorem neq_at {q : IntKind} {a b : Int} (h : k (.bool (a != b))) : binI .neq (.int q a) (.int q b) k := by rw [binI_neq]; exact h
theorem lss_at {q : IntKind} {a b : Int} (h : k (.bool (decide (a < b)))) : binI .lss (.int q a) (.int q b) k := by rw [binI_lss]; exact h
theorem leq_at {q : IntKind} {a b : Int} (h : k (.bool (decide (a ≤ b)))) : binI .leq (.int q a) (.int q b) k := by rw [binI_leq]; exact h
theorem gtr_at {q : IntKind} {a b : Int} (h : k (.bool (decide (a > b)))) : binI .gtr (.int q a) (.int q b) k := by rw [binI_gtr]; exact h
theorem geq_at {q : IntKind} {a b : Int} (h : k (.bool (decide (a ≥ b)))) : binI .geq (.int q a) (.int q b) k := by rw [binI_geq]; exact h
theorem wrap64_in {n : Int} (h0 : -9223372036854775808 ≤ n) (h : n ≤ 9223372036854775807) : IntKind.i64.wrap n = n := by
  simp [IntKind.wrap, IntKind.signed, IntKind.bits]
  omega
theorem add_at {a b : Int} (h0 : -9223372036854775808 ≤ a + b) (h1 : a + b ≤ 9223372036854775807) (h : k (vi (a + b))) : binI .add (vi a) (vi b) k := by rw [binI_add, wrap64_in h0 h1]; exact h
theorem sub_at {a b : Int} (h0 : -9223372036854775808 ≤ a - b) (h1 : a - b ≤ 9223372036854775807) (h : k (vi (a - b))) : binI .sub (vi a) (vi b) k := by rw [binI_sub, wrap64_in h0 h1]; exact h
theorem conv_64 {q : IntKind} {a : Int} (h0 : -9223372036854775808 ≤ a) (h1 : a ≤ 9223372036854775807) (h : k (vi a)) : convI .i64 (.int q a) k := by rw [convI_at, wrap64_in h0 h1]; exact h
theorem ptr_eql {a : Option Addr} (h : k (.bool a.isNone)) : binP .eql (.pointer a) (.pointer none) k := by rw [binP_eql_none]; exact h
theorem ptr_neq {a : Option Addr} (h : k (.bool !a.isNone)) : binP .neq (.pointer a) (.pointer none) k := by rw [binP_neq_none]; exact h
theorem map_eql {a : Option Nat} (h : k (.bool a.isNone)) : binM .eql (.map a) (.map none) k := by rw [binM_eql_none]; exact h
theorem map_neq {a : Option Nat} (h : k (.bool !a.isNone)) : binM .neq (.map a) (.map none) k := by rw [binM_neq_none]; exact h
theorem slice_eql {a : Option Addr} {n c m d : Nat} (h : k (.bool a.isNone)) : binL .eql (.slice a n c) (.slice none m d) k := by rw [binL_eql_none]; exact h
theorem bool_eql {a b : Bool} (h : k (.bool (a == b))) : binB .eql (.bool a) (.bool b) k := h
theorem bool_neq {a b : Bool} (h : k (.bool !(a == b))) : binB .neq (.bool a) (.bool b) k := h
theorem str_eql {a b : ByteArray} (h : k (.bool (a.toList == b.toList))) : binS .eql (.string a) (.string b) k := h
theorem str_neq {a b : ByteArray} (h : k (.bool (a.toList != b.toList))) : binS .neq (.string a) (.string b) k := h
theorem len_slice {a : Option Addr} {n c : Nat} (h : k (vi n)) : lenL (.slice a n c) k := h
theorem len_none (h : k (vi 0)) : lenL noList k := h
theorem ext_0 {v : Value} {vs : List Value} (h : k v) : extractK (.tuple (v :: vs).toArray) 0 k := by rw [extractK_at]; exact h
theorem ext_1 {u v : Value} {vs : List Value} (h : k v) : extractK (.tuple (u :: v :: vs).toArray) 1 k := by rw [extractK_at]; exact h
theorem ext_2 {t u v : Value} {vs : List Value} (h : k v) : extractK (.tuple (t :: u :: v :: vs).toArray) 2 k := by rw [extractK_at]; exact h
theorem ext_3 {s t u v : Value} {vs : List Value} (h : k v) : extractK (.tuple (s :: t :: u :: v :: vs).toArray) 3 k := by rw [extractK_at]; exact h
theorem ext_i {v : Value} {vs : Array Value} {i : Nat} (hv : vs[i]? = some v) (h : k v) : extractK (.tuple vs) i k := by
  unfold extractK; simp only [hv]; exact h
theorem part1_at {o : Nat} {cs : Array Value} {v : Value} (hv : cs[o]? = some v) (h : k v) : part1 o (.agg cs) k := by
  unfold part1; simp only [hv]; exact h
theorem partN_at {o n : Nat} {cs : Array Value} {c : List Value} (hv : (cs.extract o (o + n)).toList = c) (h : k (.agg c.toArray)) : partN o n (.agg cs) k := by
  subst hv; unfold partN; simpa only [Array.toArray_toList] using h
theorem buildS_at {z : Value} {p : List (Nat × Nat)} {q : List (Nat × Value)} {c : Array Value} (hf : Instr.fill (fun j => p[j]?) z.cells q = some c) (h : k (.agg c)) : buildS z p q k := by
  unfold buildS; simp only [hf]; exact h
theorem callT_go {f : FuncId} {first captured : Array Value} {args : List Value} {K : Value → World → Prop} {P : Program} (hf : enters P f = true) (h : callOn P f ((first.toList ++ args) ++ captured.toList).toArray w K) : callT P (.func (.func f) first captured) args w K := by
  simp only [callT, hf, cond_true]
  exact h
theorem callT_0 {f : FuncId} {C : List Value} {K : Value → World → Prop} {P : Program} (hf : enters P f = true) (h : callOn P f (C).toArray w K) : callT P (.func (.func f) #[] C.toArray) [] w K := callT_go hf (by simpa using h)
theorem callT_1 {f : FuncId} {C : List Value} {a0 : Value} {K : Value → World → Prop} {P : Program} (hf : enters P f = true) (h : callOn P f (a0 :: C).toArray w K) : callT P (.func (.func f) #[] C.toArray) [a0] w K := callT_go hf (by simpa using h)
theorem callT_2 {f : FuncId} {C : List Value} {a0 a1 : Value} {K : Value → World → Prop} {P : Program} (hf : enters P f = true) (h : callOn P f (a0 :: a1 :: C).toArray w K) : callT P (.func (.func f) #[] C.toArray) [a0, a1] w K := callT_go hf (by simpa using h)
theorem callT_3 {f : FuncId} {C : List Value} {a0 a1 a2 : Value} {K : Value → World → Prop} {P : Program} (hf : enters P f = true) (h : callOn P f (a0 :: a1 :: a2 :: C).toArray w K) : callT P (.func (.func f) #[] C.toArray) [a0, a1, a2] w K := callT_go hf (by simpa using h)
theorem callT_4 {f : FuncId} {C : List Value} {a0 a1 a2 a3 : Value} {K : Value → World → Prop} {P : Program} (hf : enters P f = true) (h : callOn P f (a0 :: a1 :: a2 :: a3 :: C).toArray w K) : callT P (.func (.func f) #[] C.toArray) [a0, a1, a2, a3] w K := callT_go hf (by simpa using h)
theorem makeMap_at {n : Nat} {f : Value → World → Prop} (st : State S w0 w R) (h : ∀ b w, State S w0 w (.map b [] 0 :: R) → f (.map (some b)) w) : True ∧ f (.map (some w.heap.size)) (w.alloc (.map #[] 0)) :=
  ⟨trivial, h _ _ (st.push (.alloc _ _) (mapOf_new _ _ _) (by simp [Res.blks]) (by simp [Res.blks]))⟩
end
end Go.X
