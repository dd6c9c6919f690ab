/- That the calculator's word on code suffices for the model's. -/
import Derived.Test.YtdjheefbeagcjaaXxCode
import Derived.Deep.LoopGhost
import Derived.Scope
set_option linter.unusedSimpArgs false
namespace Go.X
open Go

section
variable {P : Program} {w : World} {n : Nat} {ds : List Deferred}

theorem opsK_append (all : List Oper) (l2 : List Oper) (k : Env → World → Prop) : ∀ (l1 : List Oper) (e : Env) (w : World),
    opsK P all (l1 ++ l2) e w k = opsK P all l1 e w fun e w => opsK P all l2 e w k
  | [], e, w => rfl
  | o :: l1, e, w => by
    have ih := opsK_append all l2 k l1
    simp only [List.cons_append, opsK, ih]

theorem still_of {o : Oper} {a : Act} {next : Act → Prop} {v : Value} (h : (execOp a.eval o).run P w = .ok (.value v) w) (hk : next (a.put o.dst v)) : o.still P a w next := by
  unfold Oper.still
  rw [h]
  exact ⟨rfl, hk⟩

theorem opsK_still {all : Array Oper} {k : Env → World → Prop} : ∀ (l : List Oper) (e : Env) (a : Act), (l.all fun o => operOk n all.toList o && noSel o) = true → (∀ o ∈ l, stillOp o.op = true) →
    Agree n ds e a → opsK P all.toList l e w k → wpStill P all w (fun a' => ∃ e', Agree n ds e' a' ∧ k e' w) l a
  | [], e, a, _, _, ha, hk => ⟨e, ha, hk⟩
  | o :: rest, e, a, hl, hst, ha, hk => by
    simp only [List.all_cons, Bool.and_eq_true] at hl
    obtain ⟨⟨h, hs⟩, hrest⟩ := hl
    obtain ⟨h1, h2, h3⟩ := operOk_spec h
    have hso := hst o (by simp)
    have ih := fun e' a' ha' hk' => opsK_still (k := k) rest e' a' (by simpa using hrest) (fun o ho => hst o (by simp [ho])) ha' hk'
    simp only [wpStill]
    simp only [opsK] at hk
    cases hg : o.guard with
    | none =>
      simp only [hg] at hk
      simp only [Region.wanted, hg, if_true]
      obtain ⟨v, hr, hv⟩ := opK_still o hso hk
      rw [← exec_eq ha h hs] at hr
      exact still_of hr (ih _ _ (ha.put h2 v) hv)
    | some g =>
      obtain ⟨j, b⟩ := g
      simp only [hg] at hk
      cases hd : (all.toList[j]?).bind (·.dst) with
      | none => simp only [hd] at hk
      | some d =>
        simp only [hd] at hk
        have hdn := h3 j b d hg hd
        have hy : yielded all a.tmps j = match e d with | .bool c => some c | _ => none := by
          have hsz := ha.size
          have hv := ha.vals d hdn
          have hd' : (all[j]?).bind (·.dst) = some d := by simpa using hd
          unfold yielded
          rw [hd']
          have hlt : d < a.tmps.size := by rw [hsz]; exact hdn
          have : a.tmps[d]? = some (e d) := by
            rw [← hv, Array.getD_eq_getD_getElem?, Array.getElem?_eq_getElem hlt]
            rfl
          simp only [Option.bind_some, this]
          cases e d <;> rfl
        simp only [Region.wanted, hg, hy]
        unfold gopK at hk
        split at hk
        · rename_i c hc
          split at hk
          · rename_i hcb
            subst hcb
            simp only [hc, beq_self_eq_true, if_true]
            obtain ⟨v, hr, hv⟩ := opK_still o hso hk
            rw [← exec_eq ha h hs] at hr
            exact still_of hr (ih _ _ (ha.put h2 v) hv)
          · rename_i hcb
            have : (some c == some b) = false := by simpa using hcb
            simp only [hc, this]
            exact ih _ _ (ha.put h2 _) hk
        · rename_i hne
          cases hed : e d with
          | bool c => exact absurd hed (hne c)
          | _ => exact ih _ _ (ha.put h2 _) hk

theorem takeWhile_all {α : Type} (p : α → Bool) : ∀ (l : List α), ∀ x ∈ l.takeWhile p, p x = true
  | [], x, h => by simp at h
  | y :: l, x, h => by
    simp only [List.takeWhile_cons] at h
    split at h
    · rename_i hy
      rcases List.mem_cons.1 h with rfl | h
      · exact hy
      · exact takeWhile_all p l x h
    · simp at h

theorem take_takeWhile {α : Type} (p : α → Bool) : ∀ (l : List α), l.take (l.takeWhile p).length = l.takeWhile p
  | [] => rfl
  | y :: l => by
    simp only [List.takeWhile_cons]
    split
    · simp [take_takeWhile p l]
    · simp

theorem all_sub {l l' : List Oper} {p : Oper → Bool} (h : l.all p = true) (hs : ∀ o ∈ l', o ∈ l) : l'.all p = true :=
  List.all_eq_true.2 fun o ho => List.all_eq_true.1 h o (hs o ho)

/-- A region whose order does not matter, in the text's order. -/
theorem okDraw_wp {id : Nat} {ops : Array Oper} {e : Env} {a : Act} {k : Env → World → Prop} {Q : Exit → Act → World → Prop} (hm : P.follows .mixedOrders = true)
    (hok : okDraw ops = true) (hops : (ops.toList.all fun o => operOk n ops.toList o && noSel o) = true) (ha : Agree n ds e a)
    (hQ : ∀ e a w, Agree n ds e a → k e w → Q .normal a w) (hk : opsK P ops.toList ops.toList e w.drew k) : (Code.region id ops true).wp P Q a w := by
  unfold okDraw at hok
  cases hb : Nat.beq (headLen ops) ops.size with
  | true =>
    simp only [hb, cond_true] at hok
    have hlen : (ops.toList.takeWhile fun o => stillOp o.op).length = ops.toList.length := by
      have := Nat.eq_of_beq_eq_true hb
      simpa [headLen] using this
    have hall : ops.toList.takeWhile (fun o => stillOp o.op) = ops.toList := by
      have h1 := take_takeWhile (fun o => stillOp o.op) ops.toList
      rw [hlen, List.take_length] at h1
      exact h1.symm
    have hst : ∀ o ∈ ops.toList, stillOp o.op = true := by
      intro o ho
      rw [← hall] at ho
      exact takeWhile_all _ _ o ho
    have := opsK_still (w := w.drew) ops.toList e a hops hst ha hk
    refine wp_region_still_lit (l := ops.toList) hm hok ?_
    have hmono : ∀ (l : List Oper) (q q' : Act → Prop), (∀ a, q a → q' a) → ∀ a, wpStill P ops w.drew q l a → wpStill P ops w.drew q' l a := by
      intro l
      induction l with
      | nil => intro q q' hq a h; exact hq a h
      | cons o l ih =>
        intro q q' hq a h
        simp only [wpStill] at h ⊢
        split
        · rename_i hw; rw [if_pos hw] at h; exact Oper.still_mono (ih q q' hq) h
        · rename_i hw; rw [if_neg hw] at h; exact ih q q' hq _ h
    exact hmono _ _ _ (fun a' ⟨e', ha', hk'⟩ => hQ e' a' _ ha' hk') _ this
  | false =>
    simp only [hb, cond_false] at hok
    have hsplit : ops.toList = ops.toList.take (headLen ops) ++ ops.toList.drop (headLen ops) := (List.take_append_drop _ _).symm
    have hk' : opsK P ops.toList (ops.toList.take (headLen ops) ++ ops.toList.drop (headLen ops)) e w.drew k := by rw [List.take_append_drop]; exact hk
    rw [opsK_append] at hk'
    have htw : ops.toList.take (headLen ops) = ops.toList.takeWhile fun o => stillOp o.op := take_takeWhile _ _
    have h1 := opsK_still (w := w.drew) (all := ops) (ops.toList.take (headLen ops)) e a (all_sub hops fun o ho => List.mem_of_mem_take ho)
      (by rw [htw]; exact takeWhile_all _ _) ha hk'
    refine wp_region_still_tail (l := ops.toList) (headLen ops) hm hok ?_
    have hmono : ∀ (l : List Oper) (q q' : Act → Prop), (∀ a, q a → q' a) → ∀ a, wpStill P ops w.drew q l a → wpStill P ops w.drew q' l a := by
      intro l
      induction l with
      | nil => intro q q' hq a h; exact hq a h
      | cons o l ih =>
        intro q q' hq a h
        simp only [wpStill] at h ⊢
        split
        · rename_i hw; rw [if_pos hw] at h; exact Oper.still_mono (ih q q' hq) h
        · rename_i hw; rw [if_neg hw] at h; exact ih q q' hq _ h
    refine hmono _ _ _ (fun a' ⟨e', ha', hk'⟩ => ?_) _ h1
    exact opsK_wpList (all := ops) hQ _ e' a' _ (all_sub hops fun o ho => List.mem_of_mem_drop ho) ha' hk'

theorem allL_mem {f : Nat → Prop} : ∀ {l : List Nat}, allL f l → ∀ i ∈ l, f i
  | [], _, i, hi => by simp at hi
  | [a], h, i, hi => by simp at hi; subst hi; exact h
  | a :: b :: l, h, i, hi => by
    rcases List.mem_cons.1 hi with rfl | hi
    · exact h.1
    · exact allL_mem h.2 i hi

theorem allL_of {f : Nat → Prop} : ∀ {l : List Nat}, (∀ i ∈ l, f i) → allL f l
  | [], _ => trivial
  | [a], h => h a (by simp)
  | a :: b :: l, h => ⟨h a (by simp), allL_of fun i hi => h i (by simp at hi ⊢; exact .inr hi)⟩

theorem anyK_wp {ops : Array Oper} {k : Env → World → Prop} {Q : Exit → Act → World → Prop} (hops : (ops.toList.all fun o => operOk n ops.toList o && noSel o) = true)
    (hQ : ∀ e a w, Agree n ds e a → k e w → Q .normal a w) : ∀ (fuel : Nat) (listed : Array Bool) (e : Env) (a : Act) (w : World), Agree n ds e a →
    anyK P ops k fuel listed e w → wpAny P .any ops Q fuel listed a w
  | 0, listed, e, a, w, ha, hk => by
    simp only [anyK] at hk
    split at hk
    · rename_i hr; exact ⟨hr, hQ e a w ha hk⟩
    · exact hk.elim
  | fuel + 1, listed, e, a, w, ha, hk => by
    simp only [anyK] at hk
    split at hk
    · rename_i hr; exact ⟨fun _ => hQ e a w ha hk, fun i hi => by rw [hr] at hi; simp at hi⟩
    rename_i i0 l0 hr
    refine ⟨fun h => by rw [h] at hr; simp at hr, fun i hi => ?_⟩
    have hki := allL_mem hk i (hr ▸ hi)
    unfold wpOp
    cases ho : ops[i]? with
    | none =>
      have := (mem_ready (md := .any) (ops := ops) (listed := listed) (j := i)).1 hi
      simp [ho] at this
    | some o =>
      simp only [ho] at hki
      have hmem : o ∈ ops.toList := by
        have := Array.mem_of_getElem? ho
        simpa using this
      have hoo := List.all_eq_true.1 hops o hmem
      simp only [Bool.and_eq_true] at hoo
      have := opsK_one (Q := Q) (next := wpAny P .any ops Q fuel (listed.setIfInBounds i true)) ha hoo.1 hoo.2 hki fun e' a' w' ha' hk' => anyK_wp hops hQ fuel _ e' a' w' ha' hk'
      simp only []
      split
      · rename_i hw; rw [if_pos hw] at this; exact .inl this
      · rename_i hw; rw [if_neg hw] at this; exact this

theorem callT_enter {ρ : Operand → Value} {k : Value → World → Prop} (o : Oper) (hp : plainCall o.op = true) (h : opK P ρ o.op w k) :
    ∃ g args, (execOp ρ o).run P w = .ok (.enter g args) w ∧ callOn P g args w k := by
  cases hop : o.op <;> rw [hop] at hp <;> first | (simp [plainCall] at hp; done) | skip
  rename_i c
  obtain ⟨callee, as, ts⟩ := c
  cases callee with
  | invoke r m => simp [plainCall] at hp
  | builtin b => simp [plainCall] at hp
  | value f =>
    rw [hop] at h
    have h := callT_K h
    unfold callK at h
    split at h
    · rename_i g first captured hf
      obtain ⟨he, h⟩ := h
      unfold enters at he
      split at he
      · rename_i fn hfn
        simp only [Bool.and_eq_true, bne_iff_ne, ne_eq] at he
        have hb : fn.body.isNone = false := by
          cases hb : fn.body with
          | none => simp [hb] at he
          | some _ => rfl
        have hn : (fn.name == "runtime.NumGoroutine") = false := by simpa using he.1
        have hr : (as.toList.map ρ).toArray = as.map ρ := by cases as; simp
        rw [hr] at h
        refine ⟨g, _, ?_, h⟩
        simp only [execOp, hop, resolve, hf, Deferred.ofValue, Sem.run_bind, Sem.run_pure, Result.andThen_ok, invoke, callFunc, run_program, hfn, hn, hb, Bool.false_eq_true, if_false]
      · simp at he
    · exact h.elim

theorem quiet_at {o : Oper} {e : Env} {a : Act} {C : World → Prop} {v : Value} (he : execOp a.eval o = execOp (ev e) o) (hsc : (stillOp o.op || plainCall o.op) = true)
    (h : ∀ w, C w → opK P (ev e) o.op w fun v' w' => v' = v ∧ C w') (w : World) (hw : C w) : o.quietAt P a C w v := by
  unfold Oper.quietAt
  rw [he]
  rcases Bool.or_eq_true .. ▸ hsc with hs | hs
  · obtain ⟨v', hr, hv, _⟩ := opK_still o hs (h w hw)
    rw [hr]
    exact ⟨rfl, hv⟩
  · obtain ⟨g, args, hr, hc⟩ := callT_enter o hs (h w hw)
    rw [hr]
    exact ⟨rfl, Calls.mono hc fun e w' ⟨v', he, hv, hC⟩ => ⟨by rw [he, hv], hC⟩⟩

theorem quietK_wp {all : Array Oper} {C : World → Prop} {Q : Env → Prop} : ∀ (l : List Oper) (e : Env) (a : Act), (l.all fun o => operOk n all.toList o && noSel o) = true → Agree n ds e a →
    quietK P all.toList C l e Q → wpQuiet P all C (fun a' => ∃ e', Agree n ds e' a' ∧ Q e') l a
  | [], e, a, _, ha, hk => ⟨e, ha, hk⟩
  | o :: rest, e, a, hl, ha, hk => by
    simp only [List.all_cons, Bool.and_eq_true] at hl
    obtain ⟨⟨h, hs⟩, hrest⟩ := hl
    obtain ⟨h1, h2, h3⟩ := operOk_spec h
    have ih := fun e' a' ha' hk' => quietK_wp (Q := Q) (C := C) rest e' a' (by simpa using hrest) ha' hk'
    have hex := exec_eq ha h hs
    simp only [wpQuiet]
    simp only [quietK] at hk
    cases hg : o.guard with
    | none =>
      simp only [hg] at hk
      simp only [Region.wanted, hg, if_true]
      obtain ⟨hsc, v, hv, hk⟩ := hk
      exact ⟨v, quiet_at hex hsc hv, ih _ _ (ha.put h2 v) hk⟩
    | some g =>
      obtain ⟨j, b⟩ := g
      simp only [hg] at hk
      cases hd : (all.toList[j]?).bind (·.dst) with
      | none => simp only [hd] at hk
      | some d =>
        simp only [hd] at hk
        have hdn := h3 j b d hg hd
        have hy : yielded all a.tmps j = match e d with | .bool c => some c | _ => none := by
          have hsz := ha.size
          have hv := ha.vals d hdn
          have hd' : (all[j]?).bind (·.dst) = some d := by simpa using hd
          unfold yielded
          rw [hd']
          have hlt : d < a.tmps.size := by rw [hsz]; exact hdn
          have : a.tmps[d]? = some (e d) := by
            rw [← hv, Array.getD_eq_getD_getElem?, Array.getElem?_eq_getElem hlt]
            rfl
          simp only [Option.bind_some, this]
          cases e d <;> rfl
        simp only [Region.wanted, hg, hy]
        unfold gqK at hk
        split at hk
        · rename_i c hc
          split at hk
          · rename_i hcb
            subst hcb
            simp only [hc, beq_self_eq_true, if_true]
            obtain ⟨hsc, v, hv, hk⟩ := hk
            exact ⟨v, quiet_at hex hsc hv, ih _ _ (ha.put h2 v) hk⟩
          · rename_i hcb
            have : (some c == some b) = false := by simpa using hcb
            simp only [hc, this]
            exact ih _ _ (ha.put h2 _) hk
        · rename_i hne
          cases hed : e d with
          | bool c => exact absurd hed (hne c)
          | _ => exact ih _ _ (ha.put h2 _) hk

theorem wpQuiet_mono {all : Array Oper} {C : World → Prop} : ∀ (l : List Oper) (q q' : Act → Prop), (∀ a, q a → q' a) → ∀ a, wpQuiet P all C q l a → wpQuiet P all C q' l a
  | [], q, q', hq, a, h => hq a h
  | o :: l, q, q', hq, a, h => by
    simp only [wpQuiet] at h ⊢
    split
    · rename_i hw; rw [if_pos hw] at h; exact Oper.quiet_mono (wpQuiet_mono l q q' hq) h
    · rename_i hw; rw [if_neg hw] at h; exact wpQuiet_mono l q q' hq _ h

theorem cK_sound (hm : P.follows .mixedOrders = true) : ∀ (c : Code) (K : Exit → Env → World → Prop) (Q : Exit → Act → World → Prop) (e : Env) (a : Act) (w : World), codeOk n c = true → Agree n ds e a →
    (∀ x e a w, Agree n ds e a → K x e w → Q x a w) → cK P c K e w → c.wp P Q a w
  | .skip, K, Q, e, a, w, _, ha, hQ, h => wp_skip (hQ _ _ _ _ ha h)
  | .label _, K, Q, e, a, w, _, ha, hQ, h => wp_label (hQ _ _ _ _ ha h)
  | .region id ops draw, K, Q, e, a, w, hc, ha, hQ, h => by
    simp only [codeOk] at hc
    simp only [cK] at h
    cases draw with
    | false =>
      simp only [cond_false] at h
      refine wp_region_list ?_
      exact opsK_wpList (all := ops) (fun e a w ha hk => hQ .normal e a w ha hk) _ e a w hc ha h
    | true =>
      simp only [cond_true] at h
      cases hok : okDraw ops with
      | true =>
        simp only [hok, cond_true] at h
        exact okDraw_wp hm hok hc ha (fun e a w ha hk => hQ .normal e a w ha hk) h
      | false =>
        simp only [hok, cond_false] at h
        rcases h with ⟨C, Q', hC, hB, hq, hfin⟩ | h
        · refine wp_region_quiet (C := C) hm hB hC (wpQuiet_mono _ _ _ ?_ _ (quietK_wp (all := ops) ops.toList e a hc ha hq))
          rintro a' ⟨e', ha', hQ'⟩ w' hw'
          exact hQ .normal e' a' w' ha' (hfin e' w' hw' hQ')
        · exact wp_region_any hm (anyK_wp hc (fun e a w ha hk => hQ .normal e a w ha hk) _ _ e a w.drew ha h)
  | .seq x y, K, Q, e, a, w, hc, ha, hQ, h => by
    simp only [codeOk, Bool.and_eq_true] at hc
    refine wp_seq (cK_sound hm x _ _ e a w hc.1 ha ?_ h)
    intro x e a w ha hk
    cases x with
    | normal => exact cK_sound hm y K Q e a w hc.2 ha hQ hk
    | _ => exact hQ _ _ _ _ ha hk
  | .cond c x y, K, Q, e, a, w, hc, ha, hQ, h => by
    simp only [codeOk, Bool.and_eq_true] at hc
    simp only [cK, condK] at h
    split at h
    · rename_i t ht
      refine wp_cond_split (t := t) (by rw [ha.eval hc.1.1, ht]) (fun htt => ?_) (fun htf => ?_)
      · exact cK_sound hm x K Q e a w hc.1.2 ha hQ (h.1 htt)
      · exact cK_sound hm y K Q e a w hc.2 ha hQ (h.2 htf)
    · exact h.elim
  | .block id c, K, Q, e, a, w, hc, ha, hQ, h => by
    refine wp_block (cK_sound hm c _ _ e a w hc ha ?_ h)
    intro x e a w ha hk
    cases x with
    | exit i =>
      simp only [Exit.inBlock]
      cases hb : Nat.beq i id with
      | true =>
        simp only [hb, cond_true] at hk
        rw [if_pos (Nat.eq_of_beq_eq_true hb)]
        exact hQ _ _ _ _ ha hk
      | false =>
        simp only [hb, cond_false] at hk
        rw [if_neg (fun h => by subst h; simp at hb)]
        exact hQ _ _ _ _ ha hk
    | _ => exact hQ _ _ _ _ ha hk
  | .loop c, K, Q, e, a, w, hc, ha, hQ, h => by
    obtain ⟨I, m0, h0, hr⟩ := h
    refine wp_loop_ghost (fun m a' w' => ∃ e', Agree n ds e' a' ∧ I m e' w') m0 ⟨e, ha, h0⟩ ?_
    rintro m a' w' ⟨e', ha', hI⟩
    refine cK_sound hm c _ _ e' a' w' hc ha' ?_ (hr m e' w' hI)
    intro x e2 a2 w2 ha2 hk
    cases x with
    | normal =>
      obtain ⟨m', hlt, hI'⟩ := hk
      exact ⟨m', hlt, e2, ha2, hI'⟩
    | _ => exact hQ _ _ _ _ ha2 hk
  | .exit i, K, Q, e, a, w, _, ha, hQ, h => wp_exit (hQ _ _ _ _ ha h)
  | .ret, K, Q, e, a, w, _, ha, hQ, h => wp_ret (hQ _ _ _ _ ha h)
  | .scope c, K, Q, e, a, w, hc, ha, hQ, h => by
    refine wp_scope_straight (cK_sound hm c _ _ e a w hc ha ?_ h)
    intro x e2 a2 w2 ha2 hk
    cases x with
    | goto l => exact hk.elim
    | _ => exact hQ _ _ _ _ ha2 hk
  | .goto _, K, Q, e, a, w, _, _, _, h => h.elim
  | .refuse _, K, Q, e, a, w, _, _, _, h => h.elim
  | .rangeFunc .., K, Q, e, a, w, _, _, _, h => h.elim

def start (args : List Value) : Env := fun i => args.getD i undef

theorem agree_start {args : Array Value} (h : args.size ≤ n) : Agree n [] (start args.toList) { tmps := args ++ Array.replicate (n - args.size) undef, defers := [] } := by
  refine ⟨by simp; omega, fun i hi => ?_, rfl⟩
  simp only [start, Array.getD_eq_getD_getElem?, List.getD_eq_getElem?_getD, Array.getElem?_append, Array.getElem?_toList]
  split
  · rfl
  · rename_i hge
    have : args[i]? = none := Array.getElem?_eq_none (by omega)
    rw [this, Array.getElem?_replicate]
    split <;> rfl

def resultsK (P : Program) : List ResultVar → Env → World → (List Value → Prop) → Prop
  | [], _, _, k => k []
  | .tmp t :: rs, e, w, k => resultsK P rs e w fun vs => k (e t :: vs)
  | .cell a T :: rs, e, w, k => loadT P T (e a) w fun v => resultsK P rs e w fun vs => k (v :: vs)

def oneOr (vs : List Value) : Value :=
  match vs with
  | [v] => v
  | vs => .tuple vs.toArray

/-- what a call hands back -/
def resK (P : Program) (rs : List ResultVar) (R : Value → World → Prop) (x : Exit) (e : Env) (w : World) : Prop :=
  match x with
  | .normal | .ret => resultsK P rs e w fun vs => R (oneOr vs) w
  | _ => False

def resOk (n : Nat) : ResultVar → Bool
  | .tmp t => Nat.blt t n
  | .cell a _ => Nat.blt a n

def funcOk (fn : Func) (nargs : Nat) : Bool :=
  Nat.ble nargs fn.ntmps && fn.results.toList.all (resOk fn.ntmps) && (match fn.body with | some c => codeOk fn.ntmps c | none => false)

def getRes (tmps : Array Value) : ResultVar → Sem Value
  | .tmp t => pure (tmps.getD t undef)
  | .cell a t => do loadVar t (← asAddr (tmps.getD a undef))

theorem loadVar_of {T : TypeId} {a : Value} {k : Value → Prop} (h : loadK P T a w k) : ∃ v, (do loadVar T (← asAddr a) : Sem Value).run P w = .ok v w ∧ k v := by
  have hp : ∃ x, a = .pointer (some x) := by
    obtain ⟨_, h⟩ := h
    split at h
    · unfold loadN at h; split at h
      · exact ⟨_, rfl⟩
      · exact h.elim
    · unfold load1 at h; split at h
      · exact ⟨_, rfl⟩
      · exact h.elim
  obtain ⟨x, rfl⟩ := hp
  obtain ⟨v, hr, hk⟩ := loadK_run h
  refine ⟨v, ?_, hk⟩
  simpa [Instr.loadAt, Instr.sureAddr, asAddr] using hr

theorem results_fold {e : Env} {tmps : Array Value} {m : Nat} (hv : ∀ i, i < m → tmps.getD i undef = e i) : ∀ (rs : List ResultVar) (k : List Value → Prop) (acc : Array Value),
    rs.all (resOk m) = true → resultsK P rs e w k → ∃ vs, (rs.foldlM (fun bs a => bs.push <$> getRes tmps a) acc).run P w = .ok (acc ++ vs.toArray) w ∧ k vs
  | [], k, acc, _, h => ⟨[], by simp, h⟩
  | r :: rs, k, acc, hr, h => by
    simp only [List.all_cons, Bool.and_eq_true] at hr
    cases r with
    | tmp t =>
      have ht : t < m := by simpa [resOk] using hr.1
      obtain ⟨vs, hrun, hk⟩ := results_fold hv rs _ (acc.push (e t)) hr.2 h
      refine ⟨e t :: vs, ?_, hk⟩
      have hg : (getRes tmps (.tmp t)).run P w = .ok (e t) w := by simp only [getRes, hv t ht, Sem.run_pure]
      simp only [List.foldlM_cons, Sem.run_bind, Sem.run_map, hg, Result.andThen_ok, hrun]
      congr 1
      simp
    | cell a T =>
      have ht : a < m := by simpa [resOk] using hr.1
      simp only [resultsK] at h
      obtain ⟨v, hload, h⟩ := loadVar_of (loadT_K h)
      obtain ⟨vs, hrun, hk⟩ := results_fold hv rs _ (acc.push v) hr.2 h
      refine ⟨v :: vs, ?_, hk⟩
      have hg : (getRes tmps (.cell a T)).run P w = .ok v w := by simp only [getRes, hv a ht]; exact hload
      simp only [List.foldlM_cons, Sem.run_bind, Sem.run_map, hg, Result.andThen_ok, hrun]
      congr 1
      simp

theorem results_run {fn : Func} {e : Env} {tmps : Array Value} {R : Value → World → Prop} (hv : ∀ i, i < fn.ntmps → tmps.getD i undef = e i) (hr : fn.results.toList.all (resOk fn.ntmps) = true)
    (h : resultsK P fn.results.toList e w fun vs => R (oneOr vs) w) : ∃ v, (results fn tmps).run P w = .ok v w ∧ R v w := by
  obtain ⟨vs, hrun, hk⟩ := results_fold hv fn.results.toList _ #[] hr h
  refine ⟨_, ?_, hk⟩
  have hm : (fn.results.mapM (getRes tmps)).run P w = .ok vs.toArray w := by
    rw [Array.mapM_eq_foldlM, ← Array.foldlM_toList]
    simpa using hrun
  have hres : results fn tmps = (do let vs ← fn.results.mapM (getRes tmps); pure (if h : vs.size = 1 then vs[0] else .tuple vs)) := by
    unfold results
    congr 1
  rw [hres]
  simp only [Sem.run_bind, hm, Result.andThen_ok, Sem.run_pure]
  unfold oneOr
  match vs with
  | [] => rfl
  | [v] => rfl
  | v :: u :: vs => simp

/-- A call does what the calculator says of the function's body. -/
theorem calls_sound {f : FuncId} {fn : Func} {c : Code} {args : Array Value} {R : Ending → World → Prop} (hm : P.follows .mixedOrders = true) (hf : P.funcs[f]? = some fn) (hb : fn.body = some c)
    (hok : funcOk fn args.size = true) (h : cK P c (resK P fn.results.toList fun v w => R (.returned v) w) (start args.toList) w) : Calls P f args w R := by
  simp only [funcOk, Bool.and_eq_true, hb] at hok
  obtain ⟨⟨h1, h2⟩, h3⟩ := hok
  have hle : args.size ≤ fn.ntmps := Nat.le_of_ble_eq_true h1
  refine calls_of_wp hf hb (cK_sound hm c _ _ _ _ _ h3 (agree_start hle) ?_ h)
  intro x e a w ha hk
  cases x with
  | normal =>
    have hk' : resultsK P fn.results.toList e w fun vs => R (.returned (oneOr vs)) w := hk
    obtain ⟨v, hr, hR⟩ := results_run (R := fun v w => R (.returned v) w) (fun i hi => ha.vals i hi) h2 hk'
    exact ⟨ha.defers, v, hr, hR⟩
  | ret =>
    have hk' : resultsK P fn.results.toList e w fun vs => R (.returned (oneOr vs)) w := hk
    obtain ⟨v, hr, hR⟩ := results_run (R := fun v w => R (.returned v) w) (fun i hi => ha.vals i hi) h2 hk'
    exact ⟨ha.defers, v, hr, hR⟩
  | _ => exact hk.elim
end
end Go.X

namespace Go.X
def bodyOf (fn : Func) : Code := match fn.body with | some c => c | none => .skip

theorem on_eq (k : Value → World → Prop) : (fun v w => ∃ v', Ending.returned v = .returned v' ∧ k v' w) = k := by
  funext v w
  apply propext
  constructor
  · rintro ⟨v', he, hk⟩
    cases he
    exact hk
  · exact fun h => ⟨v, rfl, h⟩

theorem calls_list {P : Program} {f : FuncId} {fn : Func} {args : List Value} {w : World} {R : Ending → World → Prop} (hm : P.follows .mixedOrders = true) (hf : P.funcs[f]? = some fn)
    (hb : fn.body = some (bodyOf fn)) (hok : funcOk fn args.length = true) (h : cK P (bodyOf fn) (resK P fn.results.toList fun v w => R (.returned v) w) (start args) w) :
    Calls P f args.toArray w R :=
  calls_sound hm hf hb (by simpa using hok) h

def regionIn (r : Nat) : Code → Option (Array Oper)
  | .region id ops _ => bif Nat.beq id r then some ops else none
  | .seq a b => match regionIn r a with | some x => some x | none => regionIn r b
  | .cond _ a b => match regionIn r a with | some x => some x | none => regionIn r b
  | .block _ c => regionIn r c
  | .loop c => regionIn r c
  | .scope c => regionIn r c
  | _ => none

def regionOf (c : Code) (r : Nat) : Array Oper := match regionIn r c with | some ops => ops | none => #[]
end Go.X
