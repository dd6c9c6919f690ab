/- Each plain condition of XxBase suffices: the operation runs and hands on what the condition says. -/
import Derived.Test.YtdjheefbeagcjaaXxBase
import Derived.Laws.Cells
import Derived.Laws.Append
set_option linter.unusedSimpArgs false
namespace Go.X
open Go

section
variable {P : Program} {w : World}

theorem run_under {T : TypeId} {d : TypeDesc} (h : P.underlying T = some d) : (underlying T).run P w = .ok d w := by
  simp [underlying, h]

theorem run_info {T : TypeId} {i : TypeInfo} (h : P.info? T = some i) : (typeInfo T).run P w = .ok i w := by
  simp [typeInfo, h]

theorem known_spec {T : TypeId} (h : known P T = true) : (∃ i, P.info? T = some i) ∧ ∃ d, P.underlying T = some d := by
  simp only [known, Bool.and_eq_true, Option.isSome_iff_exists] at h
  exact h

theorem run_sizeOf {T : TypeId} (h : known P T = true) : (sizeOf T).run P w = .ok (sizeT P T) w := by
  obtain ⟨⟨i, hi⟩, _⟩ := known_spec h
  simp [sizeOf, run_info hi, sizeT, hi]

theorem run_isAgg {T : TypeId} (h : known P T = true) : (isAgg T).run P w = .ok (isAggT P T) w := by
  obtain ⟨_, d, hd⟩ := known_spec h
  simp only [isAgg, Sem.run_bind, run_under hd, Result.andThen_ok, isAggT, hd]
  cases d <;> rfl

theorem cellsOf_spec {b : Nat} {l : List Value} (h : cellsOf w b = some l) : ∃ c e, w.heap[b]? = some (.cells c e (0, 0)) ∧ l = c.toList := by
  unfold cellsOf at h
  split at h
  · rename_i c e hb
    exact ⟨c, e, hb, by simpa using h.symm⟩
  · simp at h

theorem cellsOf_cell {b : Nat} {l : List Value} (h : cellsOf w b = some l) (i : Nat) : w.cell? ⟨b, i, none⟩ = l[i]? := by
  obtain ⟨c, e, hb, rfl⟩ := cellsOf_spec h
  simp [World.cell?, hb]

theorem rd_of {b : Nat} {l : List Value} (h : orRd (cellsOf w b) (cellsRd w b) = some l) : cellsRd w b = some l := by
  unfold orRd at h
  split at h
  · rename_i l' hl
    obtain ⟨c, e, hb, rfl⟩ := cellsOf_spec hl
    simp only [cellsRd, hb]
    exact h
  · exact h

theorem cellsRd_cell {b : Nat} {l : List Value} (h : cellsRd w b = some l) (i : Nat) : w.cell? ⟨b, i, none⟩ = l[i]? := by
  unfold cellsRd at h
  split at h
  · rename_i c e fr hb
    obtain rfl := Option.some.inj h
    simp [World.cell?, hb]
  · simp at h

theorem cellsOf_free {b : Nat} {l : List Value} (h : cellsOf w b = some l) (i : Nat) : w.frozen? ⟨b, i, none⟩ = false := by
  obtain ⟨c, e, hb, rfl⟩ := cellsOf_spec h
  simp [World.frozen?, hb]

theorem add_off (b i j : Nat) : (Addr.add ⟨b, i, none⟩ j) = ⟨b, i + j, none⟩ := by
  unfold Addr.add
  split
  · rename_i h; simp [h]
  · rfl

theorem run_loadCells_of {b i n : Nat} {l : List Value} (h : cellsRd w b = some l) (hn : i + n ≤ l.length) :
    (loadCells ⟨b, i, none⟩ n).run P w = .ok ((l.drop i).take n).toArray w := by
  have hlen : ((l.drop i).take n).length = n := by simp; omega
  have := run_loadCells_list (P := P) w ⟨b, i, none⟩ ((l.drop i).take n) (fun j v hj => by
    rw [add_off, cellsRd_cell h, ← hj]
    have hjn : j < n := by
      have := (List.getElem?_eq_some_iff.1 hj).1
      omega
    simp [List.getElem?_take, hjn])
  rwa [hlen] at this

theorem loadK_run {T : TypeId} {a : Value} {k : Value → Prop} (h : loadK P T a w k) :
    ∃ v, (Instr.loadAt T a).run P w = .ok v w ∧ k v := by
  obtain ⟨hk, h⟩ := h
  have hag := run_isAgg (w := w) hk
  have hsz := run_sizeOf (w := w) hk
  cases ht : isAggT P T with
  | true =>
    simp only [ht, if_true] at h hag
    unfold loadN at h
    split at h
    · rename_i b i
      split at h
      · rename_i l hl
        refine ⟨_, ?_, h.2⟩
        simp [Instr.loadAt, Instr.sureAddr, loadVar, hag, hsz, run_loadCells_of (rd_of hl) h.1]
      · exact h.elim
    · exact h.elim
  | false =>
    simp only [ht] at h hag
    simp only [Bool.false_eq_true, if_false] at h
    unfold load1 at h
    split at h
    · rename_i b i
      split at h
      · rename_i v hv
        refine ⟨v, ?_, h⟩
        obtain ⟨l, hl, hli⟩ := Option.bind_eq_some_iff.1 hv
        have hc := cellsRd_cell (rd_of hl) i
        simp [Instr.loadAt, Instr.sureAddr, loadVar, hag, run_load, hc, hli]
      · exact h.elim
    · exact h.elim

theorem cellsOf_setCell {b i : Nat} {l : List Value} (h : cellsOf w b = some l) (v : Value) :
    cellsOf (w.setCell ⟨b, i, none⟩ v) b = some (l.set i v) := by
  obtain ⟨c, e, hb, rfl⟩ := cellsOf_spec h
  have : (w.setCell ⟨b, i, none⟩ v).heap[b]? = some (.cells (c.setIfInBounds i v) e (0, 0)) := by
    simp only [World.setCell, Array.getElem?_modify, if_true, hb, Option.map_some]
    rfl
  simp [cellsOf, this]

theorem run_storeCells_of {b i : Nat} : ∀ (vs : List Value) (w : World) (j : Nat) (l : List Value), cellsOf w b = some l → (∀ v ∈ vs, v.oneCell' = true) →
    i + j + vs.length ≤ l.length → (storeCells ⟨b, i, none⟩ vs j).run P w = .ok () (setCells w b (i + j) vs)
  | [], w, j, l, _, _, _ => by simp [storeCells, setCells]
  | v :: vs, w, j, l, hl, hv, hn => by
    have hc := cellsOf_cell hl (i + j)
    have hf := cellsOf_free hl (i + j)
    have hlt : i + j < l.length := by simp at hn; omega
    have h1 : (store ⟨b, i + j, none⟩ v).run P w = .ok () (w.setCell ⟨b, i + j, none⟩ v) := by
      rw [run_store P w _ v .plain (hv v (by simp)), hc, List.getElem?_eq_getElem hlt]
      simp [hf]
    have ih := run_storeCells_of (i := i) vs (w.setCell ⟨b, i + j, none⟩ v) (j + 1) _ (cellsOf_setCell hl v) (fun u hu => hv u (by simp [hu])) (by simp at hn ⊢; omega)
    simp only [storeCells, Sem.run_bind, add_off, h1, Result.andThen_ok, ih, setCells]
    rw [show i + (j + 1) = i + j + 1 by omega]

theorem storeK_run {T : TypeId} {a x : Value} {k : World → Prop} (h : storeK P T a x w k) :
    ∃ w', (Instr.storeAt T a x).run P w = .ok () w' ∧ k w' := by
  unfold storeK at h
  split at h
  · rename_i b i
    split at h
    · rename_i l hl
      obtain ⟨hk, hs, hv, hn, h⟩ := h
      refine ⟨_, ?_, h⟩
      have := run_storeCells_of (P := P) (i := i) x.cells.toList w 0 l hl hv (by simpa using hn)
      simp [Instr.storeAt, Instr.sureAddr, storeVar, run_sizeOf hk, hs, this]
    · exact h.elim
  · exact h.elim

theorem bitsOf_run {op : BinOp} {q : IntKind} {x y : Int} {v : Value} (h : bitsOf op q x y = some v) : (Op.intBits op q x y).run P w = .ok v w := by
  cases op <;> simp [bitsOf] at h <;> subst h <;> simp [Op.intBits]

theorem binInt_run {op : BinOp} {q : IntKind} {x y : Int} {v : Value} {T : TypeId} (h : binInt op q x y = some v) :
    (binOp op T (.int q x) (.int q y)).run P w = .ok v w := by
  cases op <;> simp [binInt] at h <;> first
    | (subst h; simp [binOp, Op.intArith, Op.intCmp, Op.intBits]; done)
    | (obtain ⟨h0, rfl⟩ := h; simp [binOp, Op.intDiv, h0]; done)
    | (have := bitsOf_run (P := P) (w := w) h; simpa [binOp] using this)

theorem eqlV_run {d : TypeDesc} {x y : Value} {b : Bool} {T : TypeId} (hT : P.underlying T = some d) (h : eqlV d x y = some b) :
    (Op.equal T x y).run P w = .ok b w := by
  unfold Op.equal Op.maxDepth
  rw [show (10000 : Nat) = 9999 + 1 from rfl, Op.equalIn]
  simp only [Sem.run_bind, run_under hT, Result.andThen_ok]
  unfold eqlV at h
  split at h
  · unfold eqlB at h; split at h <;> simp at h; subst h; simp
  · unfold eqlP at h; split at h <;> simp at h <;> subst h
    · simp
    · rename_i a hne; cases a with
      | none => exact absurd rfl hne
      | some _ => simp
  · unfold eqlM at h; split at h <;> simp at h <;> subst h
    · simp
    · rename_i a hne; cases a with
      | none => exact absurd rfl hne
      | some _ => simp
  · unfold eqlF at h; split at h <;> simp at h <;> subst h <;> simp
  · unfold eqlL at h; split at h <;> simp at h <;> subst h
    · simp
    · rename_i a _ _ _ _ hne; cases a with
      | none => exact absurd rfl hne
      | some _ => simp
  · simp at h

def isNilI : Value → Bool | .nilIface => true | _ => false
def isAggV : Value → Bool | .agg _ => true | _ => false

theorem eqGuard_run {op : BinOp} {T : TypeId} {x y : Operand} {a b : Value} (hn : isNilI a = false ∨ isNilI b = false) (hg : isAggV a = false ∨ isAggV b = false) :
    (eqGuard op T x y a b).run P w = .ok () w := by
  unfold eqGuard
  cases a <;> cases b <;> simp [isNilI, isAggV] at hn hg <;> (split <;> simp)

theorem eqlV_plain {d : TypeDesc} {x y : Value} {b : Bool} (h : eqlV d x y = some b) :
    (isNilI x = false ∨ isNilI y = false) ∧ (isAggV x = false ∨ isAggV y = false) := by
  unfold eqlV at h
  split at h
  · unfold eqlB at h; split at h <;> simp [isNilI, isAggV] at h ⊢
  · unfold eqlP at h; split at h <;> simp [isNilI, isAggV] at h ⊢
  · unfold eqlM at h; split at h <;> simp [isNilI, isAggV] at h ⊢
  · unfold eqlF at h; split at h <;> simp [isNilI, isAggV] at h ⊢
  · unfold eqlL at h; split at h <;> simp [isNilI, isAggV] at h ⊢
  · simp at h

theorem binOp_eql {T : TypeId} {d : TypeDesc} {x y : Value} {b : Bool} (hT : P.underlying T = some d) (h : eqlV d x y = some b) :
    (binOp .eql T x y).run P w = .ok (.bool b) w ∧ (binOp .neq T x y).run P w = .ok (.bool !b) w := by
  have he := eqlV_run (w := w) hT h
  unfold eqlV at h
  split at h
  · unfold eqlB at h; split at h <;> simp at h <;> subst h <;> simp only [binOp, Sem.run_bind, he, Result.andThen_ok, Sem.run_pure, and_self]
  · unfold eqlP at h; split at h <;> simp at h <;> subst h <;> simp only [binOp, Sem.run_bind, he, Result.andThen_ok, Sem.run_pure, and_self]
  · unfold eqlM at h; split at h <;> simp at h <;> subst h <;> simp only [binOp, Sem.run_bind, he, Result.andThen_ok, Sem.run_pure, and_self]
  · unfold eqlF at h; split at h <;> simp at h <;> subst h <;> simp only [binOp, Sem.run_bind, he, Result.andThen_ok, Sem.run_pure, and_self]
  · unfold eqlL at h; split at h <;> simp at h <;> subst h <;> simp only [binOp, Sem.run_bind, he, Result.andThen_ok, Sem.run_pure, and_self]
  · simp at h

theorem binK_run {op : BinOp} {T : TypeId} {ox oy : Operand} {x y : Value} {k : Value → Prop} (h : binK P op T x y k) :
    ∃ v, (do eqGuard op T ox oy x y; binOp op T x y : Sem Value).run P w = .ok v w ∧ k v := by
  unfold binK at h
  split at h
  · rename_i q a q' b
    split at h
    · rename_i hq; subst hq
      split at h
      · rename_i v hv
        refine ⟨v, ?_, h⟩
        simp only [Sem.run_bind]
        rw [eqGuard_run (by simp [isNilI]) (by simp [isAggV]), Result.andThen_ok, binInt_run hv]
      · exact h.elim
    · exact h.elim
  · rename_i a b
    split at h
    · refine ⟨_, ?_, h⟩
      simp only [Sem.run_bind]
      rw [eqGuard_run (by simp [isNilI]) (by simp [isAggV]), Result.andThen_ok]
      simp [binOp, Op.stringOp]
    · refine ⟨_, ?_, h⟩
      simp only [Sem.run_bind]
      rw [eqGuard_run (by simp [isNilI]) (by simp [isAggV]), Result.andThen_ok]
      simp only [binOp, Op.stringOp, Sem.run_pure]
      rfl
    · exact h.elim
  · split at h
    · rename_i d hd
      split at h
      · rename_i b hb
        refine ⟨_, ?_, h⟩
        simp only [Sem.run_bind]
        rw [eqGuard_run (eqlV_plain hb).1 (eqlV_plain hb).2, Result.andThen_ok, (binOp_eql hd hb).1]
      · exact h.elim
    · rename_i d hd
      split at h
      · rename_i b hb
        refine ⟨_, ?_, h⟩
        simp only [Sem.run_bind]
        rw [eqGuard_run (eqlV_plain hb).1 (eqlV_plain hb).2, Result.andThen_ok, (binOp_eql hd hb).2]
      · exact h.elim
    · exact h.elim

theorem convK_run {s d : TypeId} {x : Value} {k : Value → Prop} (h : convK P s d x k) : ∃ v, (convert s d x).run P w = .ok v w ∧ k v := by
  unfold convK at h
  split at h
  · rename_i q n hs hd
    exact ⟨_, by simp [convert, run_under hs, run_under hd, Conv.intToInt], h⟩
  · exact h.elim

theorem fieldOff_spec {s f o T : Nat} (h : fieldOff P s f = some (o, T)) :
    ∃ fs g, P.underlying s = some (.struct fs) ∧ fs[f]? = some g ∧ g.offset = o ∧ g.type = T ∧ known P T = true ∧ sizeT P T ≠ 0 := by
  unfold fieldOff at h
  split at h
  · rename_i fs hs
    obtain ⟨g, hg, h⟩ := Option.bind_eq_some_iff.1 h
    split at h
    · rename_i hc
      simp at h hc
      obtain ⟨rfl, rfl⟩ := h
      exact ⟨fs, g, hs, hg, rfl, rfl, hc.1, by simpa using hc.2⟩
    · simp at h
  · simp at h

theorem fieldK_run {s : TypeId} {x : Value} {f : Nat} {k : Value → Prop} (h : fieldK P s x f k) :
    ∃ v, (Instr.fieldAt s x f).run P w = .ok v w ∧ k v := by
  unfold fieldK at h
  split at h
  · rename_i o T a ho
    obtain ⟨fs, g, hs, hg, rfl, rfl, hk, h0⟩ := fieldOff_spec ho
    refine ⟨_, ?_, h⟩
    simp [Instr.fieldAt, run_under hs, hg, Instr.sureAddr, fieldPlace, run_sizeOf hk, h0]
  · exact h.elim

theorem partV_run {T : TypeId} {cs : Array Value} {o : Nat} {v : Value} (hk : known P T = true) (h : partV P T cs o = some v) :
    (part T cs o).run P w = .ok v w := by
  unfold partV at h
  have hag := run_isAgg (w := w) hk
  split at h
  · rename_i ht
    simp at h
    simp [part, hag, ht, run_sizeOf hk, h]
  · rename_i ht
    simp at ht
    simp [part, hag, ht, h]

theorem fieldVK_run {s : TypeId} {x : Value} {f : Nat} {k : Value → Prop} (h : fieldVK P s x f k) :
    ∃ v, (Instr.field s x f).run P w = .ok v w ∧ k v := by
  unfold fieldVK at h
  split at h
  · rename_i o T cs ho
    obtain ⟨fs, g, hs, hg, rfl, rfl, hk, h0⟩ := fieldOff_spec ho
    split at h
    · rename_i v hv
      exact ⟨v, by simp [Instr.field, run_under hs, hg, asAgg, partV_run hk hv], h⟩
    · exact h.elim
  · exact h.elim

theorem indexK_run {T : TypeId} {x i : Value} {k : Value → Prop} (h : indexK P T x i k) :
    ∃ v, (Instr.indexAt T x i).run P w = .ok v w ∧ k v := by
  unfold indexK at h
  split at h
  · rename_i e a n _ q j hT
    obtain ⟨hk, h0, h1, h⟩ := h
    refine ⟨_, ?_, h⟩
    simp [Instr.indexAt, asIntOf, run_under hT, h0, h1, run_sizeOf hk]
  · rename_i n e a q j hT
    obtain ⟨hk, h0, h1, h⟩ := h
    refine ⟨_, ?_, h⟩
    simp [Instr.indexAt, asIntOf, run_under hT, h0, h1, run_sizeOf hk, Instr.sureAddr]
  · exact h.elim

theorem indexVK_run {T : TypeId} {x i : Value} {k : Value → Prop} (h : indexVK P T x i k) :
    ∃ v, (Instr.index T x i).run P w = .ok v w ∧ k v := by
  unfold indexVK at h
  split at h
  · rename_i n e cs q j hT
    obtain ⟨hk, h0, h1, h⟩ := h
    split at h
    · rename_i v hv
      exact ⟨v, by simp [Instr.index, asIntOf, run_under hT, h0, h1, run_sizeOf hk, partV_run hk hv], h⟩
    · exact h.elim
  · exact h.elim

theorem mapTypes_spec {T K E : TypeId} (h : mapTypes P T = some (K, E)) : P.underlying T = some (.map K E) := by
  unfold mapTypes at h
  split at h
  · rename_i a b hT; simp at h; obtain ⟨rfl, rfl⟩ := h; exact hT
  · simp at h

theorem mapOf_spec {r : Nat} {es : List MapEntry} {c : Nat} (h : mapOf w r = some (es, c)) : w.heap[r]? = some (.map es.toArray c) := by
  unfold mapOf at h
  split at h
  · rename_i a b hb; simp at h; obtain ⟨rfl, rfl⟩ := h; simpa using hb
  · simp at h

theorem run_getObj_map {r : Nat} {es : List MapEntry} {c : Nat} (h : mapOf w r = some (es, c)) : (getObj r).run P w = .ok (.map es.toArray c) w := by
  simp [getObj, Sem.run, mapOf_spec h]

theorem keyEq_int {q q' : IntKind} {a b : Int} {t : Bool} (h : keyEq (.int q a) (.int q' b) = some t) : q = q' ∧ (a == b) = t := by
  simp only [keyEq] at h
  split at h
  · rename_i hq; exact ⟨hq, by simpa using h⟩
  · simp at h

theorem findNow_int {k : IntKind} {q : IntKind} {n : Int} {r : Option (Nat × Value)} : ∀ (es : List MapEntry) (i : Nat), findK (.int q n) es i = some r →
    Instr.findNow (.int k) (.int q n) es i = some r
  | [], i, h => by simpa [findK, Instr.findNow] using h
  | e :: es, i, h => by
    simp only [findK] at h
    cases hk : e.key with
    | int q' b =>
      rw [hk] at h
      cases ht : keyEq (.int q n) (.int q' b) with
      | none => simp [ht] at h
      | some t =>
        obtain ⟨rfl, htb⟩ := keyEq_int ht
        simp only [Instr.findNow, hk, Instr.sameNow, if_true]
        cases t with
        | true => simp [ht] at h; simp [htb, h]
        | false => simp [ht] at h; simp only [htb]; exact findNow_int es (i + 1) h
    | _ => rw [hk] at h; simp [keyEq] at h

theorem keyOk_int {K : TypeId} {k : IntKind} {key : Value} (hK : P.underlying K = some (.int k)) (h : keyOk P K key = true) : ∃ q n, key = .int q n := by
  simp only [keyOk, hK] at h
  cases key <;> simp at h
  exact ⟨_, _, rfl⟩

theorem intT_spec {T : TypeId} (h : intT P T = true) : known P T = true ∧ isAggT P T = false ∧ ∃ q, P.underlying T = some (.int q) := by
  unfold intT at h
  split at h
  · rename_i q hq; exact ⟨h, by simp [isAggT, hq], q, hq⟩
  · simp at h

structure PairKey (P : Program) (K : TypeId) (key : Value) : Prop where
  ex : ∃ f g q p a b, P.underlying K = some (.struct #[f, g]) ∧ key = .agg #[.int q a, .int p b] ∧ f.name ≠ "_" ∧ g.name ≠ "_" ∧ f.offset = 0 ∧ g.offset = 1 ∧
    intT P f.type = true ∧ intT P g.type = true ∧ P.stoodInHeld K = false

theorem toList_pair {α : Type} {c : Array α} {a b : α} (h : c.toList = [a, b]) : c = #[a, b] := by
  cases c; simp at h; simp [h]

theorem keyOk_pair {K : TypeId} {fs : Array Field} {key : Value} (hK : P.underlying K = some (.struct fs)) (h : keyOk P K key = true) : PairKey P K key := by
  simp only [keyOk, hK] at h
  cases key <;> simp only [] at h <;> first | (simp at h; done) | skip
  rename_i c
  split at h
  · rename_i f g q a p b hf hc
    simp only [Bool.and_eq_true, bne_iff_ne, beq_iff_eq, Bool.not_eq_true'] at h
    obtain ⟨⟨⟨⟨⟨⟨h1, h2⟩, h3⟩, h4⟩, h5⟩, h6⟩, h7⟩ := h
    refine ⟨f, g, q, p, a, b, ?_, ?_, h1, h2, h3, h4, h5, h6, h7⟩
    · rw [hK, toList_pair hf]
    · rw [toList_pair hc]
  · simp at h

theorem keyOk_cases {K : TypeId} {key : Value} (h : keyOk P K key = true) :
    (∃ k q n, P.underlying K = some (.int k) ∧ key = .int q n) ∨ PairKey P K key := by
  cases hK : P.underlying K with
  | none => simp [keyOk, hK] at h
  | some d =>
    cases d with
    | int k => obtain ⟨q, n, rfl⟩ := keyOk_int hK h; exact .inl ⟨k, q, n, rfl, rfl⟩
    | struct fs => exact .inr (keyOk_pair hK h)
    | _ => simp [keyOk, hK] at h

theorem checkInt_run {n : Nat} {T : TypeId} {q : IntKind} {v : Value} {b : Bool} (hT : P.underlying T = some (.int q)) : (Instr.checkKey b (n + 1) T v).run P w = .ok () w := by
  simp only [Instr.checkKey, Sem.run_bind, run_under hT, Result.andThen_ok, Sem.run_pure]

theorem checkKey_run {K : TypeId} {key : Value} {b : Bool} (h : keyOk P K key = true) : (Instr.checkKey b 10000 K key).run P w = .ok () w := by
  rcases keyOk_cases h with ⟨k, q, n, hK, rfl⟩ | ⟨f, g, q, p, a, c, hK, rfl, h1, h2, h3, h4, h5, h6, h7⟩
  · exact checkInt_run (n := 9999) hK
  · obtain ⟨k1, g1, q1, u1⟩ := intT_spec h5
    obtain ⟨k2, g2, q2, u2⟩ := intT_spec h6
    rw [show (10000 : Nat) = 9998 + 1 + 1 from rfl, Instr.checkKey]
    have p1 : (part f.type #[.int q a, .int p c] 0).run P w = .ok (.int q a) w := partV_run k1 (by simp [partV, g1])
    have p2 : (part g.type #[.int q a, .int p c] 1).run P w = .ok (.int p c) w := partV_run k2 (by simp [partV, g2])
    have c1 : (Instr.checkKey b (9998 + 1) f.type (.int q a)).run P w = .ok () w := checkInt_run u1
    have c2 : (Instr.checkKey b (9998 + 1) g.type (.int p c)).run P w = .ok () w := checkInt_run u2
    simp only [Sem.run_bind, run_under hK, Result.andThen_ok, List.forIn_toArray, List.forIn_cons, List.forIn_nil, ne_eq, h1, h2, h3, h4, not_false_eq_true, if_true, p1, p2, c1, c2, Sem.run_pure]

theorem equalInt_run {n : Nat} {T : TypeId} {k : IntKind} {q : IntKind} {a b : Int} (hT : P.underlying T = some (.int k)) :
    (Op.equalIn (n + 1) T (.int q a) (.int q b)).run P w = .ok (a == b) w := by
  simp [Op.equalIn, run_under hT]

theorem equalPair_run {K : TypeId} {x y : Value} {t : Bool} (h : PairKey P K x) (he : keyEq x y = some t) : (Op.equal K x y).run P w = .ok t w := by
  obtain ⟨f, g, q, p, a, c, hK, rfl, h1, h2, h3, h4, h5, h6, h7⟩ := h
  cases y with
  | agg d =>
    simp only [keyEq] at he
    split at he
    · rename_i q1 a1 p1 b1 q2 a2 p2 b2 hx hy
      simp only [List.cons.injEq, Value.int.injEq, and_true] at hx
      obtain ⟨⟨rfl, rfl⟩, rfl, rfl⟩ := hx
      split at he
      · rename_i hq
        obtain ⟨rfl, rfl⟩ := hq
        have hd := toList_pair hy
        subst hd
        obtain ⟨k1, g1, q1, u1⟩ := intT_spec h5
        obtain ⟨k2, g2, q2, u2⟩ := intT_spec h6
        have pa : (part f.type #[.int q a, .int p c] 0).run P w = .ok (.int q a) w := partV_run k1 (by simp [partV, g1])
        have pb : (part g.type #[.int q a, .int p c] 1).run P w = .ok (.int p c) w := partV_run k2 (by simp [partV, g2])
        have pc : (part f.type #[.int q a2, .int p b2] 0).run P w = .ok (.int q a2) w := partV_run k1 (by simp [partV, g1])
        have pd : (part g.type #[.int q a2, .int p b2] 1).run P w = .ok (.int p b2) w := partV_run k2 (by simp [partV, g2])
        have e1 : (Op.equalIn (9998 + 1) f.type (.int q a) (.int q a2)).run P w = .ok (a == a2) w := equalInt_run u1
        have e2 : (Op.equalIn (9998 + 1) g.type (.int p c) (.int p b2)).run P w = .ok (c == b2) w := equalInt_run u2
        simp only [Option.some.injEq] at he
        subst he
        unfold Op.equal Op.maxDepth
        rw [show (10000 : Nat) = 9998 + 1 + 1 from rfl, Op.equalIn]
        cases hab : (a == a2) <;> cases hcd : (c == b2) <;>
        simp only [Sem.run_bind, run_under hK, Result.andThen_ok, run_program, h7, Bool.false_eq_true, if_false, List.forIn_toArray, List.forIn_cons, List.forIn_nil, ne_eq, h1, h2, h3, h4, not_false_eq_true, if_true, pa, pb, pc, pd, e1, e2, Sem.run_pure, hab, hcd, Bool.not_true, Bool.not_false, Bool.and_true, Bool.and_false]
      · simp at he
    · simp at he
  | _ => simp [keyEq] at he

theorem findAsking_run {K : TypeId} {key : Value} {r : Option (Nat × Value)} (h : PairKey P K key) : ∀ (es : List MapEntry) (i : Nat), findK key es i = some r →
    (Instr.findAsking K key es i).run P w = .ok r w
  | [], i, hf => by simp [findK] at hf; subst hf; simp [Instr.findAsking]
  | e :: es, i, hf => by
    simp only [findK] at hf
    cases ht : keyEq key e.key with
    | none => simp [ht] at hf
    | some t =>
      have hq := equalPair_run (w := w) h ht
      simp only [Instr.findAsking, Sem.run_bind, hq, Result.andThen_ok]
      cases t with
      | true => simp [ht] at hf; simp [hf]
      | false => simp [ht] at hf; simpa using findAsking_run h es (i + 1) hf

theorem findKey_run {K : TypeId} {key : Value} {es : List MapEntry} {r : Option (Nat × Value)} (h : keyOk P K key = true) (hf : findK key es 0 = some r) :
    (Instr.findKey K key es).run P w = .ok r w := by
  rcases keyOk_cases h with ⟨k, q, n, hK, rfl⟩ | hp
  · simp only [Instr.findKey, Sem.run_bind, run_under hK, Result.andThen_ok, findNow_int (k := k) es 0 hf, Sem.run_pure]
  · have ha := findAsking_run (w := w) hp es 0 hf
    obtain ⟨f, g, q, p, a, c, hK, rfl, _⟩ := hp
    cases es with
    | nil => simp [findK] at hf; subst hf; simp [Instr.findKey, run_under hK, Instr.findNow]
    | cons e es => simpa [Instr.findKey, run_under hK, Instr.findNow, Instr.sameNow] using ha
end
end Go.X
