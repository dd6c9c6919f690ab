/- Regions and code: the calculator, and that it suffices. -/
import Derived.Test.YtdjheefbeagcjaaXxOp
import Derived.ScopeJumps
set_option linter.unusedSimpArgs false
namespace Go.X
open Go

def gopK (v : Value) (b : Bool) (X : (Value → World → Prop) → Prop) (w : World) (k : Value → World → Prop) : Prop :=
  match v with
  | .bool c => if c = b then X k else k undef w
  | _ => k undef w

def opsK (P : Program) (all : List Oper) : List Oper → Env → World → (Env → World → Prop) → Prop
  | [], e, w, k => k e w
  | o :: rest, e, w, k =>
    match o.guard with
    | none => opK P (ev e) o.op w fun v w' => opsK P all rest (updO e o.dst v) w' k
    | some (j, b) =>
      match (all[j]?).bind (·.dst) with
      | some d => gopK (e d) b (fun k' => opK P (ev e) o.op w k') w fun v w' => opsK P all rest (updO e o.dst v) w' k
      | none => False

def stillOp : Op → Bool
  | .move _ | .assign _ | .pick .. | .nilCheck _ | .binOp .. | .unOp .. | .convert .. | .fieldAddr .. | .field .. | .indexAddr .. | .index .. | .load .. | .lookup .. | .extract ..
  | .slice .. | .build .. | .makeFunc .. | .entry _ => true
  | .call { callee := .builtin .len, .. } | .call { callee := .builtin .min, .. } | .call { callee := .builtin .max, .. } => true
  | _ => false

def headLen (ops : Array Oper) : Nat := (ops.toList.takeWhile fun o => stillOp o.op).length

/-- A region whose order does not matter: all is read; or all that is read stands ahead of what is written, and that goes in one order. -/
def okDraw (ops : Array Oper) : Bool :=
  bif Nat.beq (headLen ops) ops.size then Region.lexB .any ops else Region.lexTailB .any ops (headLen ops)

def allL (f : Nat → Prop) : List Nat → Prop
  | [] => True
  | [a] => f a
  | a :: b :: l => f a ∧ allL f (b :: l)

/-- A region in every order that the model may take. -/
def anyK (P : Program) (ops : Array Oper) (k : Env → World → Prop) : Nat → Array Bool → Env → World → Prop
  | 0, listed, e, w => match Region.ready .any ops listed with | [] => k e w | _ :: _ => False
  | fuel + 1, listed, e, w =>
    match Region.ready .any ops listed with
    | [] => k e w
    | i :: l => allL (fun i => match ops[i]? with | some o => opsK P ops.toList [o] e w (anyK P ops k fuel (listed.setIfInBounds i true)) | none => True) (i :: l)

def plainCall : Op → Bool
  | .call { callee := .value _, .. } => true
  | _ => false

/-- one value in all worlds of a class -/
def qopK (b : Bool) (C : World → Prop) (X : World → (Value → World → Prop) → Prop) (k : Value → Prop) : Prop :=
  b = true ∧ ∃ v, (∀ w, C w → X w fun v' w' => v' = v ∧ C w') ∧ k v

def gqK (v : Value) (b : Bool) (X : (Value → Prop) → Prop) (k : Value → Prop) : Prop :=
  match v with
  | .bool c => if c = b then X k else k undef
  | _ => k undef

/-- In the text's order, each operation with one value in all worlds of a class. -/
def quietK (P : Program) (all : List Oper) (C : World → Prop) : List Oper → Env → (Env → Prop) → Prop
  | [], e, Q => Q e
  | o :: rest, e, Q =>
    match o.guard with
    | none => qopK (stillOp o.op || plainCall o.op) C (fun w q => opK P (ev e) o.op w q) fun v => quietK P all C rest (updO e o.dst v) Q
    | some (j, b) =>
      match (all[j]?).bind (·.dst) with
      | some d => gqK (e d) b (fun k => qopK (stillOp o.op || plainCall o.op) C (fun w q => opK P (ev e) o.op w q) k) fun v => quietK P all C rest (updO e o.dst v) Q
      | none => False

def drawK (P : Program) (ops : Array Oper) (e : Env) (w : World) (k : Env → World → Prop) : Prop :=
  (∃ (C : World → Prop) (Q : Env → Prop), C w ∧ Region.lexB .any ops = true ∧ quietK P ops.toList C ops.toList e Q ∧ ∀ e' w', C w' → Q e' → k e' w') ∨
  anyK P ops k ops.size (Array.replicate ops.size false) e w

def condK (v : Value) (A B : Prop) : Prop :=
  match v with
  | .bool c => (c = true → A) ∧ (c = false → B)
  | _ => False

def loopK (body : (Env → World → Prop) → Env → World → Prop) (e : Env) (w : World) : Prop :=
  ∃ (I : Nat → Env → World → Prop) (m : Nat), I m e w ∧ ∀ m e w, I m e w → body (fun e' w' => ∃ m', m' < m ∧ I m' e' w') e w

def cK (P : Program) : Code → (Exit → Env → World → Prop) → Env → World → Prop
  | .skip, K, e, w => K .normal e w
  | .label _, K, e, w => K .normal e w
  | .region _ ops draw, K, e, w =>
    bif draw then (bif okDraw ops then opsK P ops.toList ops.toList e w.drew (K .normal) else drawK P ops e w.drew (K .normal))
    else opsK P ops.toList ops.toList e w (K .normal)
  | .seq a b, K, e, w => cK P a (fun x e w => match x with | .normal => cK P b K e w | x => K x e w) e w
  | .cond c a b, K, e, w => condK (ev e c) (cK P a K e w) (cK P b K e w)
  | .block id c, K, e, w => cK P c (fun x e w => match x with | .exit i => bif Nat.beq i id then K .normal e w else K (.exit i) e w | x => K x e w) e w
  | .loop c, K, e, w => loopK (fun k e w => cK P c (fun x e w => match x with | .normal => k e w | x => K x e w) e w) e w
  | .exit i, K, e, w => K (.exit i) e w
  | .ret, K, e, w => K .ret e w
  | .scope c, K, e, w => cK P c (fun x e w => match x with | .goto _ => False | x => K x e w) e w
  | _, _, _, _ => False

/-- all slots that an operation names lie below n -/
def operandOk (n : Nat) : Operand → Bool
  | .tmp t => Nat.blt t n
  | _ => true

def operOk (n : Nat) (all : List Oper) (o : Oper) : Bool :=
  o.op.operands.toList.all (operandOk n) && (match o.dst with | some d => Nat.blt d n | none => true) &&
    (match o.guard with | some (j, _) => (match (all[j]?).bind (·.dst) with | some d => Nat.blt d n | none => true) | none => true)

def noSel (o : Oper) : Bool := match o.op with | .select .. => false | _ => true

def codeOk (n : Nat) : Code → Bool
  | .region _ ops _ => ops.toList.all (fun o => operOk n ops.toList o && noSel o)
  | .seq a b => codeOk n a && codeOk n b
  | .cond c a b => operandOk n c && codeOk n a && codeOk n b
  | .block _ c => codeOk n c
  | .loop c => codeOk n c
  | .scope c => codeOk n c
  | _ => true

structure Agree (n : Nat) (ds : List Deferred) (e : Env) (a : Act) : Prop where
  size : a.tmps.size = n
  vals : ∀ i, i < n → a.tmps.getD i undef = e i
  defers : a.defers = ds

theorem Agree.eval {n : Nat} {ds : List Deferred} {e : Env} {a : Act} (h : Agree n ds e a) {x : Operand} (hx : operandOk n x = true) : a.eval x = ev e x := by
  cases x with
  | tmp t => exact h.vals t (by simpa [operandOk] using hx)
  | const v => rfl
  | global g => rfl
  | func f => rfl

theorem Agree.put {n : Nat} {ds : List Deferred} {e : Env} {a : Act} (h : Agree n ds e a) {d : Option Nat} (hd : (match d with | some d => Nat.blt d n | none => true) = true) (v : Value) :
    Agree n ds (updO e d v) (a.put d v) := by
  cases d with
  | none => exact h
  | some d =>
    simp only [Nat.blt_eq] at hd
    refine ⟨by simp [Act.put, h.size], fun i hi => ?_, h.defers⟩
    have hv := h.vals i hi
    have hs := h.size
    by_cases hid : i = d
    · subst hid
      simp [Act.put, updO, upd, hs, hi, Array.getD_eq_getD_getElem?]
    · have hb : Nat.beq i d = false := by
        cases hb : Nat.beq i d with
        | false => rfl
        | true => exact absurd (Nat.eq_of_beq_eq_true hb) hid
      simp only [Act.put, updO, upd, hb, cond_false, ← hv]
      rw [Array.getD_eq_getD_getElem?, Array.getD_eq_getD_getElem?, Array.getElem?_setIfInBounds_ne (by omega)]

section
variable {P : Program} {w : World} {n : Nat} {ds : List Deferred}

theorem upon_mono {k k' : Value → World → Prop} {r : Result Next} (h : Upon P k r) (hk : ∀ v w, k v w → k' v w) : Upon P k' r := by
  unfold Upon at *
  split at h
  · exact hk _ _ h
  · exact hk _ _ h
  · exact Calls.mono h fun e w' ⟨v, he, hv⟩ => ⟨v, he, hk _ _ hv⟩
  · exact h.elim

theorem upon_of {o : Oper} {a : Act} {next : Act → World → Prop} {Q : Exit → Act → World → Prop} {r : Result Next} (h : Upon P (fun v w' => next (a.put o.dst v) w') r) :
    o.upon P a next Q r := by
  unfold Upon at h
  split at h
  · exact h
  · exact h
  · exact Calls.mono h fun e w' ⟨v, he, hv⟩ => by subst he; exact hv
  · exact h.elim

theorem noSel_spec {o : Oper} (h : noSel o = true) : ∀ cs b, o.op ≠ .select cs b := by
  intro cs b hc
  simp [noSel, hc] at h

theorem operOk_spec {all : List Oper} {o : Oper} (h : operOk n all o = true) :
    (∀ x ∈ o.op.operands, operandOk n x = true) ∧ (match o.dst with | some d => Nat.blt d n | none => true) = true ∧
    (∀ j b d, o.guard = some (j, b) → (all[j]?).bind (·.dst) = some d → d < n) := by
  simp only [operOk, Bool.and_eq_true] at h
  refine ⟨fun x hx => List.all_eq_true.1 h.1.1 x (by simpa using hx), h.1.2, fun j b d hg hd => ?_⟩
  have := h.2
  rw [hg] at this
  simp only [hd] at this
  simpa using this

theorem exec_eq {e : Env} {a : Act} (ha : Agree n ds e a) {all : List Oper} {o : Oper} (h : operOk n all o = true) (hs : noSel o = true) : execOp a.eval o = execOp (ev e) o :=
  execOp_congr o (noSel_spec hs) fun x hx => ha.eval ((operOk_spec h).1 x hx)

/-- One operation, guarded or not, over the frame. -/
theorem opsK_one {all : Array Oper} {o : Oper} {rest : List Oper} {e : Env} {a : Act} {k : Env → World → Prop} {next : Act → World → Prop} {Q : Exit → Act → World → Prop}
    (ha : Agree n ds e a) (h : operOk n all.toList o = true) (hs : noSel o = true) (hk : opsK P all.toList (o :: rest) e w k)
    (hn : ∀ e' a' w', Agree n ds e' a' → opsK P all.toList rest e' w' k → next a' w') :
    if Region.wanted o (yielded all a.tmps) then o.wp P a w next Q else next (a.put o.dst undef) w := by
  obtain ⟨h1, h2, h3⟩ := operOk_spec h
  simp only [opsK] at hk
  cases hg : o.guard with
  | none =>
    simp only [hg] at hk
    simp only [Region.wanted, hg, if_true]
    unfold Oper.wp
    rw [exec_eq ha h hs]
    exact upon_of (upon_mono (opK_upon o hk) fun v w' hv => hn _ _ _ (ha.put h2 v) hv)
  | some g =>
    obtain ⟨j, b⟩ := g
    simp only [hg] at hk
    cases hd : (all.toList[j]?).bind (·.dst) with
    | none => simp only [hd] at hk
    | some d =>
      simp only [hd] at hk
      have hdn := h3 j b d hg hd
      have hy : yielded all a.tmps j = match e d with | .bool c => some c | _ => none := by
        have hsz := ha.size
        have hv := ha.vals d hdn
        have hd' : (all[j]?).bind (·.dst) = some d := by simpa using hd
        unfold yielded
        rw [hd']
        have hlt : d < a.tmps.size := by rw [hsz]; exact hdn
        have : a.tmps[d]? = some (e d) := by
          rw [← hv, Array.getD_eq_getD_getElem?, Array.getElem?_eq_getElem hlt]
          rfl
        simp only [Option.bind_some, this]
        cases e d <;> rfl
      simp only [Region.wanted, hg, hy]
      unfold gopK at hk
      split at hk
      · rename_i c hc
        split at hk
        · rename_i hcb
          subst hcb
          simp only [hc, beq_self_eq_true, if_true]
          unfold Oper.wp
          rw [exec_eq ha h hs]
          exact upon_of (upon_mono (opK_upon o hk) fun v w' hv => hn _ _ _ (ha.put h2 v) hv)
        · rename_i hcb
          have : (some c == some b) = false := by simpa using hcb
          simp only [hc, this]
          exact hn _ _ _ (ha.put h2 _) hk
      · rename_i hne
        cases hed : e d with
        | bool c => exact absurd hed (hne c)
        | _ => exact hn _ _ _ (ha.put h2 _) hk

theorem opsK_wpList {all : Array Oper} {k : Env → World → Prop} {Q : Exit → Act → World → Prop} (hQ : ∀ e a w, Agree n ds e a → k e w → Q .normal a w) :
    ∀ (l : List Oper) (e : Env) (a : Act) (w : World), (l.all fun o => operOk n all.toList o && noSel o) = true → Agree n ds e a → opsK P all.toList l e w k → wpList P all Q l a w
  | [], e, a, w, _, ha, hk => hQ e a w ha hk
  | o :: rest, e, a, w, hl, ha, hk => by
    simp only [List.all_cons, Bool.and_eq_true] at hl
    have := opsK_one (Q := Q) (next := wpList P all Q rest) ha hl.1.1 hl.1.2 hk fun e' a' w' ha' hk' => opsK_wpList hQ rest e' a' w' (by simpa using hl.2) ha' hk'
    simp only [wpList]
    split
    · rename_i hw; rw [if_pos hw] at this; exact .inl this
    · rename_i hw; rw [if_neg hw] at this; exact this

theorem opK_still {ρ : Operand → Value} {k : Value → World → Prop} (o : Oper) (hs : stillOp o.op = true) (h : opK P ρ o.op w k) :
    ∃ v, (execOp ρ o).run P w = .ok (.value v) w ∧ k v w := by
  have one {s : Sem Value} {k : Value → Prop} (h : ∃ v, s.run P w = .ok v w ∧ k v) : ∃ v, (do pure (.value (← s)) : Sem Next).run P w = .ok (.value v) w ∧ k v := by
    obtain ⟨v, hr, hk⟩ := h
    exact ⟨v, by simp only [Sem.run_bind, hr, Result.andThen_ok, Sem.run_pure], hk⟩
  unfold opK at h
  cases hop : o.op <;> simp only [hop] at h hs <;> simp only [execOp, hop] <;> first | (simp [stillOp] at hs; done) | skip
  case move x => exact ⟨_, rfl, h⟩
  case assign x => exact ⟨_, rfl, h⟩
  case pick c a b =>
    unfold pickK at h
    split at h
    · rename_i t hc
      simp only [hc, asBool, Sem.run_bind, Sem.run_pure, Result.andThen_ok]
      exact ⟨_, rfl, h⟩
    · exact h.elim
  case build T ps =>
    have := buildK_run (w := w) (buildT_K h)
    rw [map_toList] at this
    exact one this
  case load T a => exact one (loadK_run (loadT_K h))
  case nilCheck x =>
    unfold nilK at h
    split at h
    · rename_i a hx
      simp only [hx]
      exact ⟨_, rfl, h⟩
    · rename_i f a b hx
      simp only [hx]
      exact ⟨_, rfl, h⟩
    · exact h.elim
  case binOp op T x y T' => exact one (binK_run (binT_K h))
  case unOp op T x =>
    unfold unK at h
    split at h
    · rename_i b hx
      exact one (k := fun v => k v w) ⟨_, by simp [Op.unary, hx], h⟩
    · exact h.elim
  case convert s d x => exact one (convK_run (convT_K h))
  case makeFunc fn a b =>
    rw [map_toList, map_toList] at h
    exact one (k := fun v => k v w) ⟨_, by simp [Instr.makeFunc], h⟩
  case slice T x lo hi mx => exact one (sliceK_run (sliceT_K h))
  case fieldAddr s x f => exact one (fieldK_run (fieldT_K h))
  case field s x f => exact one (fieldVK_run (fieldVT_K h))
  case indexAddr T x i => exact one (indexK_run (indexT_K h))
  case index T x i => exact one (indexVK_run (indexVT_K h))
  case lookup T x i ok => exact one (lookupK_run (lookupT_K h))
  case entry it => exact one (entryK_run h)
  case extract t i =>
    unfold extractK at h
    split at h
    · rename_i vs ht
      split at h
      · rename_i v hv
        exact one (k := fun v => k v w) ⟨_, by simp [Instr.extract, ht, hv], h⟩
      · exact h.elim
    · exact h.elim
  case call c =>
    obtain ⟨callee, args, ts⟩ := c
    cases callee with
    | value f => simp [stillOp] at hs
    | invoke r m => exact h.elim
    | builtin b =>
      simp only [] at h
      have hres : (do let d ← resolve ρ { callee := .builtin b, args, argTypes := ts } o.type; invoke d.target d.args : Sem Next).run P w =
          (builtin b ts o.type (args.map fun | .const _ => true | _ => false) (args.map ρ)).run P w := by
        simp only [resolve, Sem.run_bind, Sem.run_pure, Result.andThen_ok, invoke]
        rfl
      rw [hres]
      unfold builtinK at h
      split at h
      · rename_i T ts' x as ht ha
        have ht' : ts[0]? = some T := by rw [← Array.getElem?_toList, ht]; rfl
        have ha' : (args.map ρ)[0]? = some x := by rw [← Array.getElem?_toList, Array.toList_map, ha]; rfl
        exact one (lenK_run ht' ha' (lenT_K h))
      · simp [stillOp] at hs
      · simp [stillOp] at hs
      · exact one (minK_run (by rwa [Array.toList_map]))
      · exact one (maxK_run (by rwa [Array.toList_map]))
      · exact h.elim
end
end Go.X
