/- The calculator over ranges over functions and deferred calls: rounds, yield, marks. No program in it. -/
import Derived.Test.YtdjheefbeagcjaaXxSound
import Derived.Test.YtdjheefbeagcjaaXxCt
import Derived.OrdersIn
import Derived.Sort.LoopGhostIn
import Derived.RangeFuncRecord
set_option linter.unusedSimpArgs false
set_option linter.unusedVariables false
namespace Go.X
open Go

abbrev GF (r : Option Nat) : Fence := { Fence.wide with round := r }

section
variable {P : Program} {r : Option Nat} {m n : Nat} {w : World} {ops : Array Oper} {Q : Exit → Act → World → Prop}

theorem gf_calls {f : FuncId} {args : Array Value} {R : Ending → World → Prop} (h : Calls P f args w R) : CallsIn (GF r) m P f args w R := callsIn_wide.2 h
theorem gf_rows {row : String} {args : Array Value} {R : Value → World → Prop} (h : Rows P row args w R) : RowsIn (GF r) m P row args w R :=
  fun c cs _ => let ⟨v, w', hr, s⟩ := h c cs; ⟨v, w', hr, (stepsIn_wide.2 s : StepsIn (Machine.fenced P Fence.wide) P _ _)⟩

theorem op_in {o : Oper} {a : Act} {next : Act → World → Prop} (hd : ∀ c, o.op ≠ .defer c) (h : o.wp P a w next Q) : o.wpIn (GF r) m P a w next Q := by
  refine ⟨fun _ _ => trivial, ?_⟩
  rw [Oper.semAt_eq _ _ _ hd]
  unfold Oper.wp at h
  generalize (execOp a.eval o).run P w = x at h
  cases x with
  | ok y w' =>
    cases y <;> simp only [Oper.upon, Oper.uponIn] at h ⊢ <;> first
      | exact h
      | exact h.elim
      | exact ⟨fun h => by simp [Fence.wide] at h, gf_calls h⟩
      | exact ⟨fun h => by simp [Fence.wide] at h, gf_rows h⟩
  | halt y w' => cases y <;> simp only [Oper.upon, Oper.uponIn] at h ⊢ <;> exact h

def noDef (o : Oper) : Bool := match o.op with | .defer _ => false | _ => true
theorem noDef_spec {o : Oper} (h : noDef o = true) : ∀ c, o.op ≠ .defer c := by
  intro c hc
  simp [noDef, hc] at h

theorem wpOps_in (hd : ∀ (i : Nat) o, ops[i]? = some o → noDef o = true) (hq : ∀ a w, ¬ Q .outgrown a w) : ∀ (l : List Nat) (a : Act) (w : World), wpOps P ops Q l a w → wpOpsIn (GF r) m P ops Q l a w
  | [], _, _, h => h
  | i :: l, a, w, h => by
    simp only [wpOps, wpOpsIn] at h ⊢
    cases ho : ops[i]? with
    | none => simp only [ho] at h ⊢; exact wpOps_in hd hq l a w h
    | some o =>
      simp only [ho] at h ⊢
      have hn := noDef_spec (hd i o ho)
      split
      · rename_i hw
        rw [if_pos hw] at h
        rcases h with h | ⟨_, a', w', h⟩
        · exact Oper.wpIn_mono (fun a w => wpOps_in hd hq l a w) (op_in hn h)
        · exact (hq _ _ h).elim
      · rename_i hw
        rw [if_neg hw] at h
        exact ⟨fun _ _ => trivial, wpOps_in hd hq l _ w h⟩

theorem wpOp_in (hd : ∀ (i : Nat) o, ops[i]? = some o → noDef o = true) (hq : ∀ a w, ¬ Q .outgrown a w) {i : Nat} {a : Act} {w : World} {K K' : Act → World → Prop} (hk : ∀ a w, K a w → K' a w) (h : wpOp P ops Q i K a w) :
    wpOpIn (GF r) m P ops Q i K' a w := by
  unfold wpOp at h
  unfold wpOpIn
  cases ho : ops[i]? with
  | none => simp only [ho] at h ⊢; exact hk _ _ h
  | some o =>
    simp only [ho] at h ⊢
    have hn := noDef_spec (hd i o ho)
    split
    · rename_i hw
      rw [if_pos hw] at h
      rcases h with h | ⟨_, a', w', h⟩
      · exact Oper.wpIn_mono hk (op_in hn h)
      · exact (hq _ _ h).elim
    · rename_i hw
      rw [if_neg hw] at h
      exact ⟨fun _ _ => trivial, hk _ _ h⟩

theorem wpAny_in {md : Region.Mode} (hd : ∀ (i : Nat) o, ops[i]? = some o → noDef o = true) (hq : ∀ a w, ¬ Q .outgrown a w) : ∀ (fuel : Nat) (listed : Array Bool) (a : Act) (w : World), wpAny P md ops Q fuel listed a w → wpAnyIn (GF r) m P md ops Q fuel listed a w
  | 0, _, _, _, h => h
  | fuel + 1, listed, a, w, h => ⟨h.1, fun i hi => wpOp_in hd hq (fun a w => wpAny_in hd hq fuel _ a w) (h.2 i hi)⟩

theorem still_any {a : Act} (hB : Region.lexB .any ops = true) (h : wpStill P ops w (fun a' => Q .normal a' w) ops.toList a) : wpAny P .any ops Q ops.size (Array.replicate ops.size false) a w := by
  simp only [Region.lexB, Bool.and_eq_true] at hB
  refine wpAny_of_still (Q := fun a' => Q .normal a' w) (fun _ h => h) _ _ _ ?_
  have := wpAnyS_lex (md := .any) hB.1 ops.toList 0 (Array.replicate ops.size false) a (by simp) (by simpa using hB.2) h
  simpa using this

theorem quiet_any {a : Act} {C : World → Prop} (hB : Region.lexB .any ops = true) (hC : C w) (h : wpQuiet P ops C (fun a' => ∀ w', C w' → Q .normal a' w') ops.toList a) : wpAny P .any ops Q ops.size (Array.replicate ops.size false) a w := by
  simp only [Region.lexB, Bool.and_eq_true] at hB
  refine wpAny_of_quiet (Q := fun a' => ∀ w', C w' → Q .normal a' w') (fun _ w' hw' h => h w' hw') _ _ _ _ hC ?_
  have := wpAnyQ_lex (C := C) (md := .any) hB.1 ops.toList 0 (Array.replicate ops.size false) a (by simp) (by simpa using hB.2) h
  simpa using this

theorem tail_any {a : Act} (n : Nat) (hB : Region.lexTailB .any ops n = true) (h : wpStill P ops w (fun a' => wpList P ops Q (ops.toList.drop n) a' w) (ops.toList.take n) a) :
    wpAny P .any ops Q ops.size (Array.replicate ops.size false) a w := by
  obtain ⟨l⟩ := ops
  have e0 : (Array.mk l) = l.toArray := rfl
  simp only [e0] at *
  simp only [Region.lexTailB, Bool.and_eq_true, decide_eq_true_eq] at hB
  obtain ⟨⟨⟨⟨hsel, hn⟩, hs⟩, hc⟩, hlex⟩ := hB
  have hn' : n < l.length := by simpa using hn
  have htl : (l.take n).length = n := by simp; omega
  have hdl : (l.drop n).length = l.toArray.size - n := by simp
  have inv0 : HeadInv .any l.toArray n (Array.replicate l.toArray.size false) :=
    ⟨by simp, fun j oj _ hl => (by rw [getD_replicate_false] at hl; cases hl), fun t _ ht => getD_in (by simpa using ht) (getD_replicate_false _ _)⟩
  have H := wpAnyL_lex (md := .any) (g := l.toArray.size - n) hsel hs hc hn (l.take n) 0 _ a (fun j hj => by
    have hj' : j < n := by rw [htl] at hj; exact hj
    simp [hj']) (by simpa using htl) inv0 (by rw [htl]; exact hlex) h
  have := wpAny_of_head (Q' := Q) (g := l.toArray.size - n) (fun listed a' hL => by
    have := wpAny_of_seq (md := .any) (Q' := Q) (l.drop n) n listed a' w (fun j => by simp [List.getElem?_drop]) (by rw [hdl]; exact hL.1) hL.2
    rwa [hdl] at this) _ _ _ H
  rw [htl, show n + (l.toArray.size - n) = l.toArray.size by omega] at this
  exact this

variable {ds : List Deferred}

theorem wpStill_mono' : ∀ (l : List Oper) (q q' : Act → Prop), (∀ a, q a → q' a) → ∀ a, wpStill P ops w q l a → wpStill P ops w q' l a
  | [], q, q', hq, a, h => hq a h
  | o :: l, q, q', hq, a, h => by
    simp only [wpStill] at h ⊢
    split
    · rename_i hw; rw [if_pos hw] at h; exact Oper.still_mono (wpStill_mono' l q q' hq) h
    · rename_i hw; rw [if_neg hw] at h; exact wpStill_mono' l q q' hq _ h

/-- A region whose order does not matter, in the text's order. -/
theorem okDraw_any {e : Env} {a : Act} {k : Env → World → Prop} (hok : okDraw ops = true) (hops : (ops.toList.all fun o => operOk n ops.toList o && noSel o) = true) (ha : Agree n ds e a)
    (hQ : ∀ e a w, Agree n ds e a → k e w → Q .normal a w) (hk : opsK P ops.toList ops.toList e w k) : wpAny P .any ops Q ops.size (Array.replicate ops.size false) a w := by
  unfold okDraw at hok
  cases hb : Nat.beq (headLen ops) ops.size with
  | true =>
    simp only [hb, cond_true] at hok
    have hlen : (ops.toList.takeWhile fun o => stillOp o.op).length = ops.toList.length := by
      have := Nat.eq_of_beq_eq_true hb
      simpa [headLen] using this
    have hall : ops.toList.takeWhile (fun o => stillOp o.op) = ops.toList := by
      have h1 := take_takeWhile (fun o => stillOp o.op) ops.toList
      rw [hlen, List.take_length] at h1
      exact h1.symm
    have hst : ∀ o ∈ ops.toList, stillOp o.op = true := by
      intro o ho
      rw [← hall] at ho
      exact takeWhile_all _ _ o ho
    have := opsK_still (w := w) ops.toList e a hops hst ha hk
    exact still_any hok (wpStill_mono' _ _ _ (fun a' ⟨e', ha', hk'⟩ => hQ e' a' _ ha' hk') _ this)
  | false =>
    simp only [hb, cond_false] at hok
    have hk' : opsK P ops.toList (ops.toList.take (headLen ops) ++ ops.toList.drop (headLen ops)) e w k := by rw [List.take_append_drop]; exact hk
    rw [opsK_append] at hk'
    have htw : ops.toList.take (headLen ops) = ops.toList.takeWhile fun o => stillOp o.op := take_takeWhile _ _
    have h1 := opsK_still (w := w) (all := ops) (ops.toList.take (headLen ops)) e a (all_sub hops fun o ho => List.mem_of_mem_take ho)
      (by rw [htw]; exact takeWhile_all _ _) ha hk'
    refine tail_any (headLen ops) hok (wpStill_mono' _ _ _ (fun a' ⟨e', ha', hk'⟩ => ?_) _ h1)
    exact opsK_wpList (all := ops) hQ _ e' a' _ (all_sub hops fun o ho => List.mem_of_mem_drop ho) ha' hk'

def regK (P : Program) (ops : Array Oper) (draw : Bool) (K : Env → World → Prop) (e : Env) (w : World) : Prop :=
  bif draw then (bif okDraw ops then opsK P ops.toList ops.toList e w.drew K else drawK P ops e w.drew K) else opsK P ops.toList ops.toList e w K

theorem regionK_in (hm : P.follows .mixedOrders = true) {id : Nat} {draw : Bool} {K : Env → World → Prop} {e : Env} {a : Act} (hc : (ops.toList.all fun o => operOk n ops.toList o && noSel o) = true)
    (hd : ops.toList.all noDef = true) (hq : ∀ a w, ¬ Q .outgrown a w) (ha : Agree n ds e a) (hQ : ∀ e a w, Agree n ds e a → K e w → Q .normal a w) (h : regK P ops draw K e w) :
    (Code.region id ops draw).wpIn (GF r) m P Q a w := by
  have hd' : ∀ (i : Nat) o, ops[i]? = some o → noDef o = true := fun i o ho => List.all_eq_true.1 hd o (by simpa using Array.mem_of_getElem? ho)
  unfold regK at h
  cases draw with
  | false =>
    simp only [cond_false] at h
    have := opsK_wpList (all := ops) hQ _ e a w hc ha h
    refine wpIn_region (wpOps_in hd' hq _ _ _ ?_)
    rw [List.range_eq_range', ← Array.length_toList, wpOps_eq_wpList ops.toList 0 (by simp)]
    exact this
  | true =>
    simp only [cond_true] at h
    refine wpIn_region_any hm (wpAny_in hd' hq _ _ _ _ ?_)
    cases hok : okDraw ops with
    | true =>
      simp only [hok, cond_true] at h
      exact okDraw_any (w := w.drew) hok hc ha hQ h
    | false =>
      simp only [hok, cond_false] at h
      rcases h with ⟨C, Q', hC, hB, hqk, hfin⟩ | h
      · refine quiet_any (w := w.drew) hB hC (wpQuiet_mono _ _ _ ?_ _ (quietK_wp (all := ops) ops.toList e a hc ha hqk))
        rintro a' ⟨e', ha', hQ'⟩ w' hw'
        exact hQ e' a' w' ha' (hfin e' w' hw' hQ')
      · exact anyK_wp hc hQ _ _ e a w.drew ha h

/-- code without deferred calls, ranges over functions and scopes -/
def codeOkR (n : Nat) : Code → Bool
  | .region _ ops _ => ops.toList.all (fun o => operOk n ops.toList o && noSel o) && ops.toList.all noDef
  | .seq a b => codeOkR n a && codeOkR n b
  | .cond c a b => operandOk n c && codeOkR n a && codeOkR n b
  | .block _ c => codeOkR n c
  | .loop c => codeOkR n c
  | .scope _ => false
  | .rangeFunc .. => false
  | _ => true

theorem cK_soundG (hm : P.follows .mixedOrders = true) : ∀ (c : Code) (K : Exit → Env → World → Prop) (Q : Exit → Act → World → Prop) (e : Env) (a : Act) (w : World), codeOkR n c = true → Agree n ds e a → (∀ a w, ¬ Q .outgrown a w) →
    (∀ x e a w, Agree n ds e a → K x e w → Q x a w) → cK P c K e w → c.wpIn (GF r) m P Q a w
  | .skip, K, Q, e, a, w, _, ha, hq, hQ, h => wpIn_skip (hQ _ _ _ _ ha h)
  | .label _, K, Q, e, a, w, _, ha, hq, hQ, h => wpIn_label (hQ _ _ _ _ ha h)
  | .region id ops draw, K, Q, e, a, w, hc, ha, hq, hQ, h => by
    simp only [codeOkR, Bool.and_eq_true] at hc
    exact regionK_in hm hc.1 hc.2 hq ha (fun e a w ha hk => hQ .normal e a w ha hk) h
  | .seq x y, K, Q, e, a, w, hc, ha, hq, hQ, h => by
    simp only [codeOkR, Bool.and_eq_true] at hc
    refine wpIn_seq (cK_soundG hm x _ _ e a w hc.1 ha (fun a w h => hq a w h) ?_ h)
    intro x e a w ha hk
    cases x with
    | normal => exact cK_soundG hm y K Q e a w hc.2 ha hq hQ hk
    | _ => exact hQ _ _ _ _ ha hk
  | .cond c x y, K, Q, e, a, w, hc, ha, hq, hQ, h => by
    simp only [codeOkR, Bool.and_eq_true] at hc
    simp only [cK, condK] at h
    split at h
    · rename_i t ht
      refine wpIn_cond_split (t := t) (by rw [ha.eval hc.1.1, ht]) (fun htt => ?_) (fun htf => ?_)
      · exact cK_soundG hm x K Q e a w hc.1.2 ha hq hQ (h.1 htt)
      · exact cK_soundG hm y K Q e a w hc.2 ha hq hQ (h.2 htf)
    · exact h.elim
  | .block id c, K, Q, e, a, w, hc, ha, hq, hQ, h => by
    refine wpIn_block (cK_soundG hm c _ _ e a w hc ha (fun a w h => hq a w h) ?_ h)
    intro x e a w ha hk
    cases x with
    | exit i =>
      simp only [Exit.inBlock]
      cases hb : Nat.beq i id with
      | true =>
        simp only [hb, cond_true] at hk
        rw [if_pos (Nat.eq_of_beq_eq_true hb)]
        exact hQ _ _ _ _ ha hk
      | false =>
        simp only [hb, cond_false] at hk
        rw [if_neg (fun h => by subst h; simp at hb)]
        exact hQ _ _ _ _ ha hk
    | _ => exact hQ _ _ _ _ ha hk
  | .loop c, K, Q, e, a, w, hc, ha, hq, hQ, h => by
    obtain ⟨I, m0, h0, hr⟩ := h
    refine wpIn_loop_ghost (fun m a' w' => ∃ e', Agree n ds e' a' ∧ I m e' w') m0 ⟨e, ha, h0⟩ ?_
    rintro m a' w' ⟨e', ha', hI⟩
    refine cK_soundG hm c _ _ e' a' w' hc ha' (fun a w h => hq a w h) ?_ (hr m e' w' hI)
    intro x e2 a2 w2 ha2 hk
    cases x with
    | normal =>
      obtain ⟨m', hlt, hI'⟩ := hk
      exact ⟨m', hlt, e2, ha2, hI'⟩
    | _ => exact hQ _ _ _ _ ha2 hk
  | .exit i, K, Q, e, a, w, _, ha, hq, hQ, h => wpIn_exit (hQ _ _ _ _ ha h)
  | .ret, K, Q, e, a, w, _, ha, hq, hQ, h => wpIn_ret (hQ _ _ _ _ ha h)
  | .scope c, K, Q, e, a, w, hc, _, _, _, _ => by simp [codeOkR] at hc
  | .goto _, K, Q, e, a, w, _, _, _, _, h => h.elim
  | .refuse _, K, Q, e, a, w, _, _, _, _, h => h.elim
  | .rangeFunc .., K, Q, e, a, w, _, _, _, _, h => h.elim
end

/- The calculator's words. -/

/-- a call of yield -/
def yieldOn (P : Program) (l : Nat) (args : List Value) (w : World) (k : Value → World → Prop) : Prop :=
  ∃ fn tmps assign body, (Instr.yield l args.toArray).run P w = .ok (.round l fn tmps assign body) w ∧ RoundIn Fence.wide 0 P l fn tmps assign body w fun e w' => ∃ v, e = .returned v ∧ k v w'

def callY (P : Program) (f : Value) (args : List Value) (w : World) (k : Value → World → Prop) : Prop :=
  match f with
  | .func (.yield l) first _ => yieldOn P l (first.toList ++ args) w k
  | .func (.func g) first captured => bif enters P g then callOn P g ((first.toList ++ args) ++ captured.toList).toArray w k else False
  | _ => False

/-- a deferred call -/
def deferX (f : Value) (args : List Value) (k : Deferred → Prop) : Prop :=
  match f with
  | .func (.func g) first captured => k { target := .fn (.func g) captured, args := (first.toList ++ args).toArray }
  | _ => False

def opX (P : Program) (ρ : Operand → Value) (o : Op) (ds : List Deferred) (w : World) (k : Value → List Deferred → World → Prop) : Prop :=
  match o with
  | .defer c => (match c.callee with | .value f => deferX (ρ f) (c.args.toList.map ρ) fun d => k undef (d :: ds) w | _ => False)
  | .call c => (match c.callee with | .value f => callY P (ρ f) (c.args.toList.map ρ) w fun v w' => k v ds w' | _ => opK P ρ (.call c) w fun v w' => k v ds w')
  | o => opK P ρ o w fun v w' => k v ds w'

def opsX (P : Program) (all : List Oper) : List Oper → List Deferred → Env → World → (List Deferred → Env → World → Prop) → Prop
  | [], ds, e, w, k => k ds e w
  | o :: rest, ds, e, w, k =>
    match o.guard with
    | none => opX P (ev e) o.op ds w fun v ds' w' => opsX P all rest ds' (updO e o.dst v) w' k
    | some (j, b) =>
      match (all[j]?).bind (·.dst) with
      | some d => gopK (e d) b (fun k' => opK P (ev e) o.op w k') w fun v w' => opsX P all rest ds (updO e o.dst v) w' k
      | none => False

def allV : Nat → (List Value → Prop) → Prop
  | 0, f => f []
  | n + 1, f => ∀ v, allV n fun vs => f (v :: vs)

theorem allV_of : ∀ {n : Nat} {f : List Value → Prop}, (∀ vs, vs.length = n → f vs) → allV n f
  | 0, f, h => h [] rfl
  | n + 1, f, h => fun v => allV_of fun vs hv => h (v :: vs) (by simp [hv])

def updL (e : Env) : List Nat → List Value → Env
  | p :: ps, v :: vs => updL (upd e p v) ps vs
  | _, _ => e

def roundK (l : Nat) (oR oB : Obj) (oD : Code → Obj) (k : Value → World → Prop) : Exit → World → Prop
  | .normal, w => w.heap[l]? = some oB ∧ k (.bool true) (w.putObj l oR)
  | .ret, w => w.heap[l]? = some oB ∧ k (.bool false) (w.putObj l (oD .ret))
  | .exit i, w => w.heap[l]? = some oB ∧ k (.bool false) (w.putObj l (oD (.exit i)))
  | _, _ => False

def bodyK (P : Program) (assign body : Code) (l : Nat) (oR oB : Obj) (oD : Code → Obj) (k : Value → World → Prop) (e : Env) (w : World) : Prop :=
  cK P assign (fun x e w => match x with | .normal => w.heap[l]? = some oR ∧ cK P body (fun x _ w => roundK l oR oB oD k x w) e (w.putObj l oB) | _ => False) e w

abbrev mark (D : Nat) : Deferred := { target := .collected D, args := #[] }

abbrev Kont := List Deferred → World → Prop

/-- the exits that code may take -/
def exitsOf : Code → List Nat
  | .exit i => [i]
  | .seq a b => exitsOf a ++ exitsOf b
  | .cond _ a b => exitsOf a ++ exitsOf b
  | .block id c => (exitsOf c).filter fun i => !Nat.beq i id
  | .loop c => exitsOf c
  | .scope c => exitsOf c
  | _ => []

def orL (f : Nat → Kont → Prop) : List (Nat × Kont) → Prop
  | [] => False
  | x :: l => f x.1 x.2 ∨ orL f l

theorem orL_mem {f : Nat → Kont → Prop} : ∀ {l : List (Nat × Kont)}, orL f l → ∃ x ∈ l, f x.1 x.2
  | x :: l, h => by
    rcases h with h | h
    · exact ⟨x, by simp, h⟩
    · obtain ⟨y, hy, h⟩ := orL_mem h
      exact ⟨y, by simp [hy], h⟩

def endK (l : Nat) (oR : Obj) (oE : Option Code → Obj) (oD : Code → Obj) (KN KR : Kont) (KE : List (Nat × Kont)) (ds : List Deferred) (W : World) : Prop :=
  (W.heap[l]? = some oR ∧ KN ds (W.putObj l (oE none))) ∨ (W.heap[l]? = some (oD .ret) ∧ KR ds (W.putObj l (oE (some .ret)))) ∨
  orL (fun i K => W.heap[l]? = some (oD (.exit i)) ∧ K ds (W.putObj l (oE (some (.exit i))))) KE

def rangeX (P : Program) (fv : Value) (nps : Nat) (B : Nat → Obj → Obj → (Code → Obj) → (Value → World → Prop) → List Value → World → Prop) (KN KR : Kont) (KE : List (Nat × Kont)) (ds : List Deferred) (w : World) : Prop :=
  match fv with
  | .func (.func f) first captured => enters P f = true ∧
    ∀ (l D : Nat) (oR oB : Obj) (oE : Option Code → Obj) (oD : Code → Obj) (W1 W : World), Ext w W1 → w.heap.size ≤ D → W1.heap[D]? = some (.deferred (some [])) → Ext W1 W → W1.heap.size ≤ l → W.heap[l]? = some oR →
      (allV nps fun vs => ∀ w1 k, w1.heap[l]? = some oR → B l oR oB oD k vs w1 → yieldOn P l vs w1 k) →
      callOn P f ((first.toList ++ [Value.func (.yield l) #[] #[]]) ++ captured.toList).toArray W fun _ W2 => endK l oR oE oD KN KR KE (mark D :: ds) W2
  | _ => False

def loopX (body : (List Deferred → Env → World → Prop) → List Deferred → Env → World → Prop) (ds : List Deferred) (e : Env) (w : World) : Prop :=
  ∃ (I : Nat → List Deferred → Env → World → Prop) (m : Nat), I m ds e w ∧ ∀ m ds e w, I m ds e w → body (fun ds' e' w' => ∃ m', m' < m ∧ I m' ds' e' w') ds e w

def cX (P : Program) : Code → (Exit → List Deferred → Env → World → Prop) → List Deferred → Env → World → Prop
  | .skip, K, ds, e, w => K .normal ds e w
  | .label _, K, ds, e, w => K .normal ds e w
  | .region _ ops draw, K, ds, e, w => bif draw then regK P ops true (K .normal ds) e w else opsX P ops.toList ops.toList ds e w (K .normal)
  | .seq a b, K, ds, e, w => cX P a (fun x ds e w => match x with | .normal => cX P b K ds e w | x => K x ds e w) ds e w
  | .cond c a b, K, ds, e, w => condK (ev e c) (cX P a K ds e w) (cX P b K ds e w)
  | .block id c, K, ds, e, w => cX P c (fun x ds e w => match x with | .exit i => bif Nat.beq i id then K .normal ds e w else K (.exit i) ds e w | x => K x ds e w) ds e w
  | .loop c, K, ds, e, w => loopX (fun k ds e w => cX P c (fun x ds e w => match x with | .normal => k ds e w | x => K x ds e w) ds e w) ds e w
  | .exit i, K, ds, e, w => K (.exit i) ds e w
  | .ret, K, ds, e, w => K .ret ds e w
  | .rangeFunc g ps assign body, K, ds, e, w =>
    rangeX P (ev e g) ps.size (fun l oR oB oD k vs w1 => bodyK P assign body l oR oB oD k (updL e ps.toList vs) w1)
      (fun ds w => K .normal ds e w) (fun ds w => K .ret ds e w) ((exitsOf body).map fun i => (i, fun ds w => K (.exit i) ds e w)) ds w
  | _, _, _, _, _ => False

def codeOkX (n : Nat) : Code → Bool
  | .region _ ops draw => ops.toList.all (fun o => operOk n ops.toList o && noSel o) && (!draw || ops.toList.all noDef) && ops.toList.all (fun o => o.guard.isNone || noDef o)
  | .seq a b => codeOkX n a && codeOkX n b
  | .cond c a b => operandOk n c && codeOkX n a && codeOkX n b
  | .block _ c => codeOkX n c
  | .loop c => codeOkX n c
  | .scope _ => false
  | .rangeFunc g ps assign body => operandOk n g && ps.toList.all (fun p => Nat.blt p n) && codeOkR n assign && codeOkR n body
  | _ => true

section
variable {P : Program} {m n : Nat} {w : World} {Q : Exit → Act → World → Prop} {ds : List Deferred}

theorem enter_run {f : FuncId} {args : Array Value} (he : enters P f = true) : (callFunc f args).run P w = .ok (.enter f args) w := by
  unfold enters at he
  split at he
  · rename_i fn hfn
    simp only [Bool.and_eq_true, bne_iff_ne, ne_eq] at he
    have hb : fn.body.isNone = false := by
      cases hb : fn.body with
      | none => simp [hb] at he
      | some _ => rfl
    have hn : (fn.name == "runtime.NumGoroutine") = false := by simpa using he.1
    simp only [callFunc, Sem.run_bind, run_program, Result.andThen_ok, hfn, hn, hb, Bool.false_eq_true, if_false, Sem.run_pure]
  · simp at he

theorem upon_in {o : Oper} {a : Act} {next : Act → World → Prop} {k : Value → World → Prop} {x : Result Next} (h : Upon P k x) (hk : ∀ v w', k v w' → next (a.put o.dst v) w') : o.uponIn (GF none) m P a next Q x := by
  unfold Upon at h
  split at h
  · exact hk _ _ h
  · exact hk _ _ h
  · exact ⟨fun h => by simp [Fence.wide] at h, gf_calls (Calls.mono h fun e w' ⟨v, he, hv⟩ => by subst he; exact hk _ _ hv)⟩
  · exact h.elim

theorem opX_wp {o : Oper} {e : Env} {a : Act} {all : List Oper} {k : Value → List Deferred → World → Prop} {next : Act → World → Prop} (ha : Agree n ds e a) (hop : operOk n all o = true) (hs : noSel o = true)
    (h : opX P (ev e) o.op ds w k) (hn : ∀ v ds' w', k v ds' w' → next (({ a with defers := ds' } : Act).put o.dst v) w') : o.wpIn (GF none) m P a w next Q := by
  refine ⟨fun _ _ => trivial, ?_⟩
  show o.uponIn (GF none) m P a next Q ((execOp a.eval o).run P w)
  rw [exec_eq ha hop hs]
  have hds : ∀ v, (({ a with defers := ds } : Act).put o.dst v) = a.put o.dst v := fun v => by rw [← ha.defers]
  have dflt : opK P (ev e) o.op w (fun v w' => k v ds w') → o.uponIn (GF none) m P a next Q ((execOp (ev e) o).run P w) := fun h =>
    upon_in (opK_upon o h) fun v w' hv => by have := hn v ds w' hv; rwa [hds] at this
  unfold opX at h
  split at h
  · rename_i c hc
    split at h
    · rename_i f hf
      unfold deferX at h
      split at h
      · rename_i g first captured hfv
        have : (execOp (ev e) o).run P w = .ok (.defer { target := .fn (.func g) captured, args := first ++ c.args.map (ev e) }) w := by
          simp only [execOp, hc, resolve, hf, hfv, Deferred.ofValue, Sem.run_bind, Sem.run_pure, Result.andThen_ok]
        rw [this, Oper.uponIn_defer, ha.defers]
        have e1 : (first.toList ++ c.args.toList.map (ev e)).toArray = first ++ c.args.map (ev e) := by
          apply Array.toList_inj.1; simp
        rw [e1] at h
        exact hn _ _ _ h
      · exact h.elim
    · exact h.elim
  · rename_i c hc
    split at h
    · rename_i f hf
      unfold callY at h
      split at h
      · rename_i l first captured hfv
        obtain ⟨fn, tmps, assign, body, hy, hR⟩ := h
        have e1 : (first.toList ++ c.args.toList.map (ev e)).toArray = first ++ c.args.map (ev e) := by
          apply Array.toList_inj.1; simp
        rw [e1] at hy
        have : (execOp (ev e) o).run P w = .ok (.round l fn tmps assign body) w := by
          simp only [execOp, hc, resolve, hf, hfv, Deferred.ofValue, Sem.run_bind, Sem.run_pure, Result.andThen_ok, invoke]
          exact hy
        rw [this, Oper.uponIn_round]
        refine ⟨fun h => by simp [Fence.wide] at h, ?_⟩
        have hR' : RoundIn (GF none) (m - 1) P l fn tmps assign body w fun e w' => ∃ v, e = .returned v ∧ k v ds w' :=
          ⟨trivial, fun c cs _ => hR.2 c cs (room_wide _)⟩
        refine hR'.mono fun x w' ⟨v, hx, hv⟩ => ?_
        subst hx
        have := hn v ds w' hv
        rwa [hds] at this
      · rename_i g first captured hfv
        refine dflt ?_
        rw [hc]
        simp only [opK, hf, callT, hfv]
        exact h
      · exact h.elim
    · exact dflt (by rw [hc]; exact h)
  · exact dflt (by rename_i h1 h2; exact h)

theorem agree_defers {e : Env} {a : Act} (ha : Agree n ds e a) (ds' : List Deferred) : Agree n ds' e { a with defers := ds' } := ⟨ha.size, ha.vals, rfl⟩

theorem put_defers' (a : Act) (ds : List Deferred) (d : Option Tmp) (v : Value) : (({ a with defers := ds } : Act).put d v) = { a.put d v with defers := ds } := by
  cases d <;> rfl

theorem opsX_wp {ops : Array Oper} {k : List Deferred → Env → World → Prop} (hQ : ∀ ds e a w, Agree n ds e a → k ds e w → Q .normal a w) (hq : ∀ a w, ¬ Q .outgrown a w) :
    ∀ (l : List Oper) (i : Nat) (ds : List Deferred) (e : Env) (a : Act) (w : World), (∀ j, l[j]? = ops[i + j]?) → (l.all fun o => operOk n ops.toList o && noSel o) = true → (l.all fun o => o.guard.isNone || noDef o) = true →
      Agree n ds e a → opsX P ops.toList l ds e w k → wpOpsIn (GF none) m P ops Q (List.range' i l.length) a w
  | [], i, ds, e, a, w, _, _, _, ha, h => hQ ds e a w ha h
  | o :: l, i, ds, e, a, w, hl, hok, hg, ha, h => by
    have h0 : ops[i]? = some o := by simpa using (hl 0).symm
    have hl' : ∀ j, l[j]? = ops[i + 1 + j]? := fun j => by have := hl (j + 1); simpa [Nat.add_assoc, Nat.add_comm 1 j] using this
    simp only [List.all_cons, Bool.and_eq_true] at hok hg
    obtain ⟨⟨h1, h2⟩, hok'⟩ := hok
    have ih := fun ds' e' a' w' ha' hk' => opsX_wp hQ hq l (i + 1) ds' e' a' w' hl' (by simpa using hok') (by simpa using hg.2) ha' hk'
    simp only [List.length_cons, List.range'_succ, wpOpsIn, h0]
    simp only [opsX] at h
    cases hgd : o.guard with
    | none =>
      simp only [hgd] at h
      simp only [Region.wanted, hgd, if_true]
      refine opX_wp ha h1 h2 h fun v ds' w' hk => ih ds' _ _ w' ?_ hk
      rw [put_defers']
      exact agree_defers (ha.put (operOk_spec h1).2.1 v) ds'
    | some g =>
      obtain ⟨j, b⟩ := g
      simp only [hgd] at h
      cases hd : (ops.toList[j]?).bind (·.dst) with
      | none => simp only [hd] at h
      | some d =>
        simp only [hd] at h
        have hnd : noDef o = true := by
          have := hg.1
          simpa [hgd] using this
        have hk : opsK P ops.toList [o] e w (fun e w => opsX P ops.toList l ds e w k) := by
          simp only [opsK, hgd, hd]
          exact h
        have := opsK_one (Q := Q) (next := wpOpsIn (GF none) m P ops Q (List.range' (i + 1) l.length)) ha h1 h2 hk fun e' a' w' ha' hk' => ih ds e' a' w' ha' hk'
        split
        · rename_i hw
          rw [if_pos hw] at this
          exact op_in (noDef_spec hnd) this
        · rename_i hw
          rw [if_neg hw] at this
          exact ⟨fun _ _ => trivial, this⟩

theorem updL_agree : ∀ (ps : List Nat) (vs : List Value) (e : Env) (t : Array Value), ps.all (fun p => Nat.blt p n) = true → Agree n [] e { tmps := t, defers := [] } →
    Agree n [] (updL e ps vs) { tmps := (ps.zip vs).foldl (fun t (p, v) => t.setIfInBounds p v) t, defers := [] }
  | [], vs, e, t, _, ha => by cases vs <;> exact ha
  | p :: ps, [], e, t, _, ha => ha
  | p :: ps, v :: vs, e, t, hp, ha => by
    simp only [List.all_cons, Bool.and_eq_true] at hp
    have := ha.put (d := some p) hp.1 v
    exact updL_agree ps vs _ _ hp.2 this

theorem cX_sound (hm : P.follows .mixedOrders = true) : ∀ (c : Code) (K : Exit → List Deferred → Env → World → Prop) (Q : Exit → Act → World → Prop) (ds : List Deferred) (e : Env) (a : Act) (w : World), codeOkX n c = true → Agree n ds e a →
    (∀ a w, ¬ Q .outgrown a w) → (∀ x ds e a w, Agree n ds e a → K x ds e w → Q x a w) → cX P c K ds e w → c.wpIn (GF none) m P Q a w
  | .skip, K, Q, ds, e, a, w, _, ha, hq, hQ, h => wpIn_skip (hQ _ _ _ _ _ ha h)
  | .label _, K, Q, ds, e, a, w, _, ha, hq, hQ, h => wpIn_label (hQ _ _ _ _ _ ha h)
  | .region id ops draw, K, Q, ds, e, a, w, hc, ha, hq, hQ, h => by
    simp only [codeOkX, Bool.and_eq_true] at hc
    obtain ⟨⟨hc1, hc2⟩, hc3⟩ := hc
    simp only [cX] at h
    cases draw with
    | true =>
      simp only [cond_true] at h
      simp only [Bool.not_true, Bool.false_or] at hc2
      exact regionK_in hm hc1 hc2 hq ha (fun e a w ha hk => hQ .normal ds e a w ha hk) h
    | false =>
      simp only [cond_false] at h
      refine wpIn_region ?_
      rw [List.range_eq_range', ← Array.length_toList]
      exact opsX_wp (fun ds e a w ha hk => hQ .normal ds e a w ha hk) hq ops.toList 0 ds e a w (by simp) hc1 hc3 ha h
  | .seq x y, K, Q, ds, e, a, w, hc, ha, hq, hQ, h => by
    simp only [codeOkX, Bool.and_eq_true] at hc
    refine wpIn_seq (cX_sound hm x _ _ ds e a w hc.1 ha (fun a w h => hq a w h) ?_ h)
    intro x ds e a w ha hk
    cases x with
    | normal => exact cX_sound hm y K Q ds e a w hc.2 ha hq hQ hk
    | _ => exact hQ _ _ _ _ _ ha hk
  | .cond c x y, K, Q, ds, e, a, w, hc, ha, hq, hQ, h => by
    simp only [codeOkX, Bool.and_eq_true] at hc
    simp only [cX, condK] at h
    split at h
    · rename_i t ht
      refine wpIn_cond_split (t := t) (by rw [ha.eval hc.1.1, ht]) (fun htt => ?_) (fun htf => ?_)
      · exact cX_sound hm x K Q ds e a w hc.1.2 ha hq hQ (h.1 htt)
      · exact cX_sound hm y K Q ds e a w hc.2 ha hq hQ (h.2 htf)
    · exact h.elim
  | .block id c, K, Q, ds, e, a, w, hc, ha, hq, hQ, h => by
    refine wpIn_block (cX_sound hm c _ _ ds e a w hc ha (fun a w h => hq a w h) ?_ h)
    intro x ds e a w ha hk
    cases x with
    | exit i =>
      simp only [Exit.inBlock]
      cases hb : Nat.beq i id with
      | true =>
        simp only [hb, cond_true] at hk
        rw [if_pos (Nat.eq_of_beq_eq_true hb)]
        exact hQ _ _ _ _ _ ha hk
      | false =>
        simp only [hb, cond_false] at hk
        rw [if_neg (fun h => by subst h; simp at hb)]
        exact hQ _ _ _ _ _ ha hk
    | _ => exact hQ _ _ _ _ _ ha hk
  | .loop c, K, Q, ds, e, a, w, hc, ha, hq, hQ, h => by
    obtain ⟨I, m0, h0, hr⟩ := h
    refine wpIn_loop_ghost (fun m a' w' => ∃ ds' e', Agree n ds' e' a' ∧ I m ds' e' w') m0 ⟨ds, e, ha, h0⟩ ?_
    rintro m a' w' ⟨ds', e', ha', hI⟩
    refine cX_sound hm c _ _ ds' e' a' w' hc ha' (fun a w h => hq a w h) ?_ (hr m ds' e' w' hI)
    intro x ds2 e2 a2 w2 ha2 hk
    cases x with
    | normal =>
      obtain ⟨m', hlt, hI'⟩ := hk
      exact ⟨m', hlt, ds2, e2, ha2, hI'⟩
    | _ => exact hQ _ _ _ _ _ ha2 hk
  | .exit i, K, Q, ds, e, a, w, _, ha, hq, hQ, h => wpIn_exit (hQ _ _ _ _ _ ha h)
  | .ret, K, Q, ds, e, a, w, _, ha, hq, hQ, h => wpIn_ret (hQ _ _ _ _ _ ha h)
  | .scope c, K, Q, ds, e, a, w, hc, _, _, _, _ => by simp [codeOkX] at hc
  | .goto _, K, Q, ds, e, a, w, _, _, _, _, h => h.elim
  | .refuse _, K, Q, ds, e, a, w, _, _, _, _, h => h.elim
  | .rangeFunc g ps assign body, K, Q, ds, e, a, w, hc, ha, hq, hQ, h => by
    simp only [codeOkX, Bool.and_eq_true] at hc
    obtain ⟨⟨⟨hcg, hcp⟩, hca⟩, hcb⟩ := hc
    simp only [cX, rangeX] at h
    split at h
    case h_2 => exact h.elim
    rename_i f first captured hfv
    obtain ⟨hen, h⟩ := h
    have hg : a.eval g = .func (.func f) first captured := by rw [ha.eval hcg, hfv]
    refine wpIn_rangeFunc ?_
    intro fn _
    obtain ⟨rec, hrec⟩ : ∃ rec : LoopState → Option Code → Loop, rec = fun st pe => { state := st, pending := pe, fn, tmps := a.tmps, params := ps, assign, body, defers := w.heap.size } := ⟨_, rfl⟩
    have hL : ((w.alloc (.deferred (some []))).alloc (.loop (rec .ready none))).heap[w.heap.size + 1]? = some (.loop (rec .ready none)) := by
      have := World.alloc_heap_new (w.alloc (.deferred (some []))) (.loop (rec .ready none)); rwa [World.size_alloc] at this
    refine ⟨w.heap.size + 1, [mark w.heap.size], (w.alloc (.deferred (some []))).alloc (.loop (rec .ready none)), { target := .fn (.func f) captured, args := first ++ #[Value.func (.yield (w.heap.size + 1)) #[] #[]] }, (w.alloc (.deferred (some []))).alloc (.loop (rec .ready none)), f,
      (first ++ #[Value.func (.yield (w.heap.size + 1)) #[] #[]]) ++ captured, (w.alloc (.deferred (some []))).alloc (.loop (rec .ready none)), ?_, ?_, fun _ _ => trivial, ?_, fun h => by simp [Fence.wide] at h, ?_⟩
    · rw [hrec]; exact run_enterLoop_outer _ _ _ _ _
    · simp only [resolve, hg, Deferred.ofValue]
      simp [Act.eval]
    · simp only [invoke]
      exact enter_run hen
    · have key := h (w.heap.size + 1) w.heap.size (.loop (rec .ready none)) (.loop (rec .busy none)) (fun pe => .loop (rec .exhausted pe)) (fun c => .loop (rec .done (some c)))
        (w.alloc (.deferred (some []))) _ (.alloc _ _) (Nat.le_refl _) (World.alloc_heap_new _ _) (.alloc _ _) (by simp) hL ?_
      · have e1 : ((first.toList ++ [Value.func (.yield (w.heap.size + 1)) #[] #[]]) ++ captured.toList).toArray = (first ++ #[.func (.yield (w.heap.size + 1)) #[] #[]]) ++ captured := by
          apply Array.toList_inj.1; simp
        rw [e1] at key
        refine gf_calls (Calls.mono key fun x W2 ⟨v, hx, hend⟩ => ?_)
        subst hx
        have ha' : Agree n (mark w.heap.size :: ds) e { a with defers := [mark w.heap.size] ++ a.defers } := by
          rw [ha.defers]; exact agree_defers ha _
        rcases hend with ⟨hl, hk⟩ | ⟨hl, hk⟩ | hend
        · have hrun := run_endLoop (P := P) hl (by rw [hrec]; simp)
          rw [hrec] at hrun hk
          exact ⟨none, _, hrun, hQ _ _ _ _ _ ha' hk⟩
        · have hrun := run_endLoop (P := P) hl (by rw [hrec]; simp)
          rw [hrec] at hrun hk
          exact ⟨some .ret, _, hrun, wpIn_ret (hQ _ _ _ _ _ ha' hk)⟩
        · obtain ⟨⟨i, Ki⟩, hmem, hl, hk⟩ := orL_mem hend
          obtain ⟨i', _, he⟩ := List.mem_map.1 hmem
          simp only [Prod.mk.injEq] at he
          obtain ⟨rfl, rfl⟩ := he
          have hrun := run_endLoop (P := P) hl (by rw [hrec]; simp)
          rw [hrec] at hrun hk
          exact ⟨some (.exit i'), _, hrun, wpIn_exit (hQ _ _ _ _ _ ha' hk)⟩
      · refine allV_of fun vs hvs w1 k hl hB => ?_
        have hy := run_yield (P := P) (args := vs.toArray) hl (by rw [hrec]; simpa using hvs)
        refine ⟨_, _, _, _, hy, ?_⟩
        have e2 : (ps.zip vs.toArray).foldl (fun t (p, v) => t.setIfInBounds p v) a.tmps = (ps.toList.zip vs).foldl (fun t (p, v) => t.setIfInBounds p v) a.tmps := by
          rw [← Array.foldl_toList]; simp
        have ha0 : Agree n [] e { tmps := a.tmps, defers := [] } := ⟨ha.size, ha.vals, rfl⟩
        have hag := updL_agree ps.toList vs e a.tmps hcp ha0
        rw [← e2] at hag
        have hrec1 : ∀ st pe, (rec st pe).params = ps ∧ (rec st pe).tmps = a.tmps ∧ (rec st pe).assign = assign ∧ (rec st pe).body = body ∧ (rec st pe).state = st := fun st pe => by rw [hrec]; exact ⟨rfl, rfl, rfl, rfl, rfl⟩
        rw [(hrec1 .ready none).1, (hrec1 .ready none).2.1, (hrec1 .ready none).2.2.1, (hrec1 .ready none).2.2.2.1]
        refine roundIn_of_wpIn (F := Fence.wide) trivial ?_
        refine cK_soundG (r := some (w.heap.size + 1)) hm assign _ _ _ _ _ hca hag (fun _ _ h => h) ?_ hB
        intro x e1 a1 w1' ha1 hk
        cases x with
        | normal =>
          obtain ⟨hl1, hb⟩ := hk
          refine ⟨_, run_beginRound hl1 (hrec1 _ _).2.2.2.2, ?_⟩
          have e3 : ({ rec .ready none with state := .busy } : Loop) = rec .busy none := by rw [hrec]
          rw [e3]
          refine cK_soundG (r := some (w.heap.size + 1)) hm body _ _ _ _ _ hcb ha1 (fun _ _ h => h) ?_ hb
          intro x e2 a2 w2 ha2 hk2
          have fin : ∀ (jump : Option Code), w2.heap[w.heap.size + 1]? = some (.loop (rec .busy none)) →
              (Instr.endRound (w.heap.size + 1) jump).run P w2 = .ok (.bool jump.isNone) (w2.putObj (w.heap.size + 1) (.loop (rec (if jump.isNone then .ready else .done) jump))) := fun jump hl2 => by
            have := run_endRound (P := P) jump hl2
            rw [hrec] at this ⊢
            exact this
          cases x with
          | normal => exact ⟨_, _, fin none hk2.1, _, rfl, hk2.2⟩
          | ret => exact ⟨_, _, fin (some .ret) hk2.1, _, rfl, hk2.2⟩
          | exit i => exact ⟨_, _, fin (some (.exit i)) hk2.1, _, rfl, hk2.2⟩
          | _ => exact hk2.elim
        | _ => exact hk.elim

/-- a function entered as a deferred call -/
def dcallOn (P : Program) (f : FuncId) (args : Array Value) (w : World) (k : Value → World → Prop) : Prop :=
  enters P f = true ∧ ∀ u, CallsDIn Fence.wide 0 P f args u w fun x u' w' => u' = u ∧ ∃ v, x = .returned v ∧ k v w'

/-- how a function leaves: its deferred calls, then what follows -/
def leaveK (P : Program) : List Deferred → (World → Prop) → World → Prop
  | [], f, w => f w
  | d :: ds, f, w =>
    match d.target with
    | .collected D => w.heap[D]? = some (.deferred (some [])) ∧ leaveK P ds f (w.putObj D (.deferred none))
    | .fn (.func g) cap => dcallOn P g (d.args ++ cap) w fun _ w' => leaveK P ds f w'
    | _ => False

def resX (P : Program) (rs : List ResultVar) (k : Value → World → Prop) (x : Exit) (ds : List Deferred) (e : Env) (w : World) : Prop :=
  match x with
  | .normal | .ret => leaveK P ds (fun w => resultsK P rs e w fun vs => k (oneOr vs) w) w
  | _ => False

theorem leaveK_sound {fn : Func} {tmps : Array Value} {f : World → Prop} {k : Value → World → Prop} (hf : ∀ w, f w → ∃ v, (results fn tmps).run P w = .ok v w ∧ k v w) :
    ∀ (ds : List Deferred) (w : World), leaveK P ds f w → LeavesInM Fence.wide 0 P fn tmps (fun x w' => ∃ v, x = .returned v ∧ k v w') ds .returning w
  | [], w, h => by
    obtain ⟨v, hrun, hk⟩ := hf w h
    exact ⟨v, hrun, v, rfl, hk⟩
  | d :: ds, w, h => by
    simp only [leaveK] at h
    refine ⟨by simp, ?_⟩
    split at h
    · rename_i D hD
      exact .inl ⟨D, _, hD, run_takeDeferred h.1, leaveK_sound hf ds _ h.2⟩
    · rename_i g cap hg
      refine .inr ⟨fun h => by simp [Fence.wide] at h, .func g, cap, g, d.args ++ cap, hg, ?_, fun _ _ => trivial, ?_⟩
      · rw [hg]; simp only [invoke]; exact enter_run h.1
      · obtain ⟨_, hc⟩ := h.2 .returning
        refine ⟨trivial, fun c cs hu hroom => ?_⟩
        obtain ⟨x, u', w', fr, ⟨hu', v, hx, hk⟩, hrest⟩ := hc c cs hu (room_wide _)
        refine ⟨x, u', w', fr, ?_, hrest⟩
        subst hx; subst hu'
        exact leaveK_sound hf ds w' hk
    · exact h.elim

def funcOkX (fn : Func) (nargs : Nat) : Bool :=
  Nat.ble nargs fn.ntmps && fn.results.toList.all (resOk fn.ntmps) && (match fn.body with | some c => codeOkX fn.ntmps c | none => false)

theorem callsX_list {f : FuncId} {fn : Func} {args : List Value} {k : Value → World → Prop} (hm : P.follows .mixedOrders = true) (hf : P.funcs[f]? = some fn)
    (hb : fn.body = some (bodyOf fn)) (hok : funcOkX fn args.length = true) (h : cX P (bodyOf fn) (resX P fn.results.toList k) [] (start args) w) : callOn P f args.toArray w k := by
  simp only [funcOkX, Bool.and_eq_true, hb] at hok
  obtain ⟨⟨h1, h2⟩, h3⟩ := hok
  have hle : args.toArray.size ≤ fn.ntmps := by simpa using Nat.le_of_ble_eq_true h1
  refine callsIn_wide.1 (callsIn_of_wp_marks (F := Fence.wide) (n := 0) hf hb trivial (cX_sound hm _ _ _ [] _ _ _ h3 (agree_start hle) ?_ ?_ (by simpa using h)))
  · rintro a w ⟨v, hv, _⟩
    cases hv
  · intro x ds e a w ha hk
    cases x with
    | normal =>
      have := leaveK_sound (fun w h => results_run (R := k) (fun i hi => ha.vals i hi) h2 h) ds w hk
      rw [← ha.defers] at this
      exact this
    | ret =>
      have := leaveK_sound (fun w h => results_run (R := k) (fun i hi => ha.vals i hi) h2 h) ds w hk
      rw [← ha.defers] at this
      exact this
    | _ => exact hk.elim

theorem dcalls_list {f : FuncId} {fn : Func} {args : List Value} {k : Value → World → Prop} (hm : P.follows .mixedOrders = true) (hf : P.funcs[f]? = some fn)
    (hb : fn.body = some (bodyOf fn)) (hen : enters P f = true) (hok : funcOk fn args.length = true) (h : cK P (bodyOf fn) (resK P fn.results.toList k) (start args) w) : dcallOn P f args.toArray w k := by
  simp only [funcOk, Bool.and_eq_true, hb] at hok
  obtain ⟨⟨h1, h2⟩, h3⟩ := hok
  have hle : args.toArray.size ≤ fn.ntmps := by simpa using Nat.le_of_ble_eq_true h1
  refine ⟨hen, fun u => callsDIn_of_wp (F := Fence.wide) hf hb trivial (R := fun x w' => ∃ v, x = .returned v ∧ k v w') (wpIn_wide.2 (cK_sound hm _ _ _ _ _ _ h3 (agree_start hle) ?_ (by simpa using h)))⟩
  intro x e a w ha hk
  cases x with
  | normal =>
    obtain ⟨v, hr, hR⟩ := results_run (R := k) (fun i hi => ha.vals i hi) h2 hk
    exact ⟨ha.defers, v, hr, v, rfl, hR⟩
  | ret =>
    obtain ⟨v, hr, hR⟩ := results_run (R := k) (fun i hi => ha.vals i hi) h2 hk
    exact ⟨ha.defers, v, hr, v, rfl, hR⟩
  | _ => exact hk.elim
end
end Go.X
