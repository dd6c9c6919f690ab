/- Contract: Make. -/
import Derived.Test.YtdjheefbeagcjaaXxC15
import Derived.Test.YtdjheefbeagcjaaXxC16
import Derived.Test.YtdjheefbeagcjaaXxC25
set_option linter.unusedSimpArgs false
set_option linter.unusedVariables false
set_option maxRecDepth 20000
set_option maxHeartbeats 2000000
namespace Go.AW
/-- a thing more; a switch knows its gate -/
def AW.make (a : AW) (x : Wh) : AW :=
  if x.kind = 15 then (match a.at x.by_ with | some y => (a.add x).put x.by_ { y with of := a.last + 1 } | none => a.add x) else a.add x

end Go.AW
namespace Go.X
open Go Go.AW

/-- why none is made; 0: one is -/
def makeE (a : AW) (x : Wh) : Int :=
  if x.kind = 14 ∨ (x.kind = 13 ∧ x.of ≠ 0) ∨ formB a x = false then 70
  else if (asksOf x.kind = true ∧ a.is x.of = false) ∨ (asksBy x.kind = true ∧ a.is x.by_ = false) then 5
  else if fitsB a x = false then 70
  else if 512 ≤ a.made.getD x.home.toNat 0 then 8 else 0

section
variable {w : World} {L : Lay} {a : AW} {k : Value → World → Prop}

theorem index_made {s : Int} {K : Value → Prop} (h : WRep w L a) (hs : a.side s = true) (hk : ∀ b i, Reads w b i (vi (a.made.getD s.toNat 0)) → K (.pointer (some ⟨b, i, none⟩))) : indexS 1 L.made (vi s) K := by
  simp only [AW.side, Bool.and_eq_true, decide_eq_true_eq] at hs
  unfold AW.sides at hs
  have hlen : s < ((a.made.map vi).length : Int) := by simp; omega
  obtain ⟨b, i, c, hix, _, hc, _, hci, _⟩ := h.made.place (j := s) (by omega) hlen
  have hlt : s.toNat < a.made.length := by simp at hlen; omega
  have hv : c[i]? = some (vi (a.made.getD s.toNat 0)) := by
    rw [hci]
    simp [hlt, List.getD_eq_getElem?_getD]
  rw [hix]
  exact hk b i ⟨c, Rd_of_cells hc, hv⟩

theorem makeE_zero {x : Wh} (h : makeE a x = 0) : x.kind ≠ 14 ∧ (x.kind = 13 → x.of = 0) ∧ formB a x = true ∧ (asksOf x.kind = true → a.is x.of = true) ∧ (asksBy x.kind = true → a.is x.by_ = true) ∧ fitsB a x = true ∧ a.made.getD x.home.toNat 0 < 512 := by
  unfold makeE at h
  split at h
  · simp at h
  · rename_i h1
    split at h
    · simp at h
    · rename_i h2
      split at h
      · simp at h
      · rename_i h3
        split at h
        · simp at h
        · rename_i h4
          simp only [not_or, not_and, Bool.not_eq_false, Decidable.not_not] at h1 h2 h3
          exact ⟨h1.1, h1.2.1, h1.2.2, h2.1, h2.2, h3, by omega⟩

theorem formB_side {x : Wh} (h : formB a x = true) (hk : x.kind ≠ 14) : a.side x.home = true := by
  unfold formB at h
  simp only [Bool.and_eq_true, Bool.or_eq_true, decide_eq_true_eq] at h
  rcases h.1.2 with h | h
  · exact absurd h hk
  · exact h

theorem lookup_append (l l' : List (Int × Wh)) (r : Int) : lookup (l ++ l') r = match lookup l r with | some x => some x | none => lookup l' r := by
  induction l with
  | nil => rfl
  | cons t l ih =>
    simp only [List.cons_append, lookup]
    split
    · rfl
    · exact ih

theorem AW.at_add (a : AW) (x : Wh) (r : Int) : (a.add x).at r = match a.at r with | some y => some y | none => if r = a.last + 1 then some x else none := by
  have : (a.add x).at r = lookup (a.things ++ [(a.last + 1, x)]) r := rfl
  rw [this, lookup_append]
  have h2 : lookup [(a.last + 1, x)] r = if r = a.last + 1 then some x else none := by
    simp only [lookup]
    by_cases h : r = a.last + 1
    · simp [h]
    · have : ¬ a.last + 1 = r := fun e => h e.symm
      simp [h, this]
  rw [h2]
  rfl

theorem make_tail {w1 : World} {x : Wh} {b : Nat} {R : List Res} (Q : Value → Env) (h : WRep w L a) (hfew : Few a) (hmd : ∀ n ∈ a.made, 0 ≤ n) (st : State (fun _ => False) w w1 R) (hm : .cells b (whCells x) ∈ R) (hE : makeE a x = 0)
    (hok : ∀ w' L', Grown w w' L L' a (a.make x) → k (.tuple #[vi (a.last + 1), vi 0]) w') :
    callOn prog fn_World_lay #[ptr L.p, whV x] w1 (fun t w => F_World_Make_s2 (ptr L.p) (Q t) (ptr b) t w k) := by
  obtain ⟨h14, h13, hf, hof, hby, hfit, hmade⟩ := makeE_zero hE
  have hside := formB_side hf h14
  have hgd : 0 ≤ a.made.getD x.home.toNat 0 := by
    rw [List.getD_eq_getElem?_getD]
    cases hg : a.made[x.home.toNat]? with
    | none => simp
    | some n => exact hmd n (List.mem_of_getElem? hg)
  unfold Few at hfew
  refine lay_c (h.ext st.keeps) x (by omega) (fun _ => hside) (fun _ => ⟨hgd, by omega⟩) (fun e => absurd e h14) fun w L' g => ?_
  have st := (st.own_world h).grown g .head
  have gp := g.p
  rw [← gp]
  have hok := hok
  cases q15 : (x.kind == 15) with
  | false =>
    (repeat (first | ((with_reducible apply field_0)) | ((with_reducible apply eql_at)) | ((with_reducible apply State.load1 st); (focus ((repeat (first | exact List.Mem.head _ | assumption | refine List.Mem.tail _ ?_)); done)); (focus rfl)) | ((with_reducible apply cond_f); (focus (first | assumption | rfl | decide | (simp only [bne, Bool.not_eq_true', Bool.not_eq_false', Bool.not_true, Bool.not_false, Bool.not_not]; assumption)))) | (simp only [upd_get, start_get, List.getD_cons_zero, List.getD_cons_succ, Nat.reduceEqDiff, reduceIte, Nat.reduceAdd])))
    have n15 : x.kind ≠ 15 := by simpa using q15
    refine hok _ L' ?_
    rw [AW.make, if_neg n15]
    exact st.toGrown (.head _) gp
  | true =>
    have e15 : x.kind = 15 := by simpa using q15
    obtain ⟨y, hy⟩ := is_some (hby (by simp [asksBy, e15]))
    have hy' : (a.add x).at x.by_ = some y := by rw [AW.at_add, hy]
    have hy14 : y.kind ≠ 14 := by
      unfold fitsB at hfit
      simp [e15, thereB, hy] at hfit
      omega
    (repeat (first | ((with_reducible apply field_0)) | ((with_reducible apply field_at)) | ((with_reducible apply eql_at)) | ((with_reducible apply nil_ptr)) | ((with_reducible apply State.load1 st); (focus ((repeat (first | exact List.Mem.head _ | assumption | refine List.Mem.tail _ ?_)); done)); (focus rfl)) | ((with_reducible apply cond_t); (focus (first | assumption | rfl | decide | (simp only [bne, Bool.not_eq_true', Bool.not_eq_false', Bool.not_true, Bool.not_false, Bool.not_not]; assumption)))) | ((with_reducible apply load_top); (focus (first | exact st.rep (by ((repeat (first | exact List.Mem.head _ | assumption | refine List.Mem.tail _ ?_)); done)) | exact h.ext st.keeps)); (focus rfl)) | ((with_reducible apply look_at); (focus (first | exact st.rep (by ((repeat (first | exact List.Mem.head _ | assumption | refine List.Mem.tail _ ?_)); done)) | exact h.ext st.keeps)); (focus assumption)) | (simp only [upd_get, start_get, List.getD_cons_zero, List.getD_cons_succ, Nat.reduceEqDiff, reduceIte, Nat.reduceAdd]) | ((with_reducible apply State.atDrew st); intro w st)))
    refine st.put1 (y := { y with of := a.last + 1 }) .head hy' hy14 hy14 (by omega) rfl rfl fun w st => ?_
    refine hok _ L' ?_
    rw [AW.make, if_pos e15, hy]
    exact st.toGrown (.head _) gp

theorem make_c {x : Wh} (h : WRep w L a) (hv : Plain x) (hk0 : 0 ≤ x.kind) (hset : 0 ≤ x.set ∧ x.set < 256) (hop : x.kind = 6 ∨ x.kind = 11 → a.is x.of = false) (hfew : Few a) (hmd : ∀ n ∈ a.made, 0 ≤ n)
    (hno : ∀ w', Ext w w' → makeE a x ≠ 0 → k (.tuple #[vi 0, vi (makeE a x)]) w') (hok : ∀ w' L', makeE a x = 0 → Grown w w' L L' a (a.make x) → k (.tuple #[vi (a.last + 1), vi 0]) w') :
    callOn prog fn_World_Make #[ptr L.p, whV x] w k := by
  apply F_World_Make_on
  unfold F_World_Make
  have fin : ∀ {w' : World} (e : Int), Ext w w' → makeE a x = e → e ≠ 0 → k (.tuple #[vi 0, vi e]) w' := fun e he h1 h2 => by subst h1; exact hno _ he h2
  have st := State.start (S := fun _ => False) w
  have hp := hv
  cases q14 : (x.kind == 14)
  case true =>
    (repeat' (first | ((with_reducible apply field_0)) | ((with_reducible apply gop_undef)) | ((with_reducible apply eql_at)) | ((with_reducible apply State.load1 st); (focus ((repeat (first | exact List.Mem.head _ | assumption | refine List.Mem.tail _ ?_)); done)); (focus rfl)) | ((with_reducible apply cond_t); (focus (first | assumption | rfl | decide | (simp only [bne, Bool.not_eq_true', Bool.not_eq_false', Bool.not_true, Bool.not_false, Bool.not_not]; assumption)))) | ((with_reducible apply pick_t); (focus (first | assumption | rfl | decide | (simp only [bne, Bool.not_eq_true', Bool.not_eq_false', Bool.not_true, Bool.not_false, Bool.not_not]; assumption)))) | ((with_reducible apply cond_f); (focus (first | assumption | rfl | decide | (simp only [bne, Bool.not_eq_true', Bool.not_eq_false', Bool.not_true, Bool.not_false, Bool.not_not]; assumption)))) | ((with_reducible apply gop_skip); (focus (first | assumption | rfl | decide | (simp only [bne, Bool.not_eq_true', Bool.not_eq_false', Bool.not_true, Bool.not_false, Bool.not_not]; assumption)))) | ((with_reducible apply State.boxAgg st); intro b w st) | ((with_reducible apply none_c); (focus (first | exact st.rep (by ((repeat (first | exact List.Mem.head _ | assumption | refine List.Mem.tail _ ?_)); done)) | exact h.ext st.keeps)))))
    refine fin 70 st.keeps ?_ (by decide)
    have : x.kind = 14 := by simpa using q14
    simp [makeE, this]
  cases qs : a.side x.home
  case false =>
    have n14 : x.kind ≠ 14 := by simpa using q14
    have qf : formB a x = false := by simp [formB, qs, n14]
    (repeat' (first | ((with_reducible apply field_0)) | ((with_reducible apply field_at)) | ((with_reducible apply eql_at)) | ((with_reducible apply neq_at)) | ((with_reducible apply not_at)) | ((with_reducible apply State.load1 st); (focus ((repeat (first | exact List.Mem.head _ | assumption | refine List.Mem.tail _ ?_)); done)); (focus rfl)) | ((with_reducible apply cond_t); (focus (first | assumption | rfl | decide | (simp only [bne, Bool.not_eq_true', Bool.not_eq_false', Bool.not_true, Bool.not_false, Bool.not_not]; assumption)))) | ((with_reducible apply gop_run); (focus (first | assumption | rfl | decide | (simp only [bne, Bool.not_eq_true', Bool.not_eq_false', Bool.not_true, Bool.not_false, Bool.not_not]; assumption)))) | ((with_reducible apply pick_t); (focus (first | assumption | rfl | decide | (simp only [bne, Bool.not_eq_true', Bool.not_eq_false', Bool.not_true, Bool.not_false, Bool.not_not]; assumption)))) | ((with_reducible apply cond_f); (focus (first | assumption | rfl | decide | (simp only [bne, Bool.not_eq_true', Bool.not_eq_false', Bool.not_true, Bool.not_false, Bool.not_not]; assumption)))) | ((with_reducible apply gop_skip); (focus (first | assumption | rfl | decide | (simp only [bne, Bool.not_eq_true', Bool.not_eq_false', Bool.not_true, Bool.not_false, Bool.not_not]; assumption)))) | ((with_reducible apply pick_f); (focus (first | assumption | rfl | decide | (simp only [bne, Bool.not_eq_true', Bool.not_eq_false', Bool.not_true, Bool.not_false, Bool.not_not]; assumption)))) | ((with_reducible apply State.loadAll st); (focus ((repeat (first | exact List.Mem.head _ | assumption | refine List.Mem.tail _ ?_)); done)); (focus (first | (simp [whCells, valL, over_length, Value.cells]; done) | omega))) | ((with_reducible apply State.boxAgg st); intro b w st) | ((with_reducible apply none_c); (focus (first | exact st.rep (by ((repeat (first | exact List.Mem.head _ | assumption | refine List.Mem.tail _ ?_)); done)) | exact h.ext st.keeps))) | ((with_reducible apply form_c); (focus (first | exact st.rep (by ((repeat (first | exact List.Mem.head _ | assumption | refine List.Mem.tail _ ?_)); done)) | exact h.ext st.keeps)); (focus assumption); (focus assumption); (focus assumption); intro w he; have st := st.ext he) | (simp only [upd_get, start_get, List.getD_cons_zero, List.getD_cons_succ, Nat.reduceEqDiff, reduceIte, Nat.reduceAdd]) | ((with_reducible apply gop_split) <;> intro q <;> (try simp only [Bool.not_true, Bool.not_false] at q))))
    all_goals
      refine fin 70 st.keeps ?_ (by decide)
      simp [makeE, qf]
  by_cases h13 : x.kind = 13 → x.of = 0
  case neg =>
    have q13 : (x.kind == 13) = true := by simp at h13 ⊢; exact h13.1
    have q0 : (x.of != 0) = true := by simp at h13 ⊢; exact h13.2
    (repeat' (first | ((with_reducible apply field_0)) | ((with_reducible apply field_at)) | ((with_reducible apply eql_at)) | ((with_reducible apply neq_at)) | ((with_reducible apply State.load1 st); (focus ((repeat (first | exact List.Mem.head _ | assumption | refine List.Mem.tail _ ?_)); done)); (focus rfl)) | ((with_reducible apply cond_t); (focus (first | assumption | rfl | decide | (simp only [bne, Bool.not_eq_true', Bool.not_eq_false', Bool.not_true, Bool.not_false, Bool.not_not]; assumption)))) | ((with_reducible apply gop_run); (focus (first | assumption | rfl | decide | (simp only [bne, Bool.not_eq_true', Bool.not_eq_false', Bool.not_true, Bool.not_false, Bool.not_not]; assumption)))) | ((with_reducible apply pick_t); (focus (first | assumption | rfl | decide | (simp only [bne, Bool.not_eq_true', Bool.not_eq_false', Bool.not_true, Bool.not_false, Bool.not_not]; assumption)))) | ((with_reducible apply cond_f); (focus (first | assumption | rfl | decide | (simp only [bne, Bool.not_eq_true', Bool.not_eq_false', Bool.not_true, Bool.not_false, Bool.not_not]; assumption)))) | ((with_reducible apply gop_skip); (focus (first | assumption | rfl | decide | (simp only [bne, Bool.not_eq_true', Bool.not_eq_false', Bool.not_true, Bool.not_false, Bool.not_not]; assumption)))) | ((with_reducible apply pick_f); (focus (first | assumption | rfl | decide | (simp only [bne, Bool.not_eq_true', Bool.not_eq_false', Bool.not_true, Bool.not_false, Bool.not_not]; assumption)))) | ((with_reducible apply State.boxAgg st); intro b w st) | ((with_reducible apply none_c); (focus (first | exact st.rep (by ((repeat (first | exact List.Mem.head _ | assumption | refine List.Mem.tail _ ?_)); done)) | exact h.ext st.keeps)))))
    refine fin 70 st.keeps ?_ (by decide)
    have : x.kind = 13 ∧ x.of ≠ 0 := by simpa using h13
    simp [makeE, this]
  by_cases h6 : x.kind = 6 ∨ x.kind = 11
  case pos =>
    have qi := hop h6
    have qa : asksOf x.kind = true := by rcases h6 with h6 | h6 <;> simp [asksOf, h6]
    have q13 : (x.kind == 13) = false := by simp; omega
    (repeat' (first | ((with_reducible apply field_0)) | ((with_reducible apply field_at)) | ((with_reducible apply gop_undef)) | ((with_reducible apply eql_at)) | ((with_reducible apply not_at)) | ((with_reducible apply State.load1 st); (focus ((repeat (first | exact List.Mem.head _ | assumption | refine List.Mem.tail _ ?_)); done)); (focus rfl)) | ((with_reducible apply cond_t); (focus (first | assumption | rfl | decide | (simp only [bne, Bool.not_eq_true', Bool.not_eq_false', Bool.not_true, Bool.not_false, Bool.not_not]; assumption)))) | ((with_reducible apply gop_run); (focus (first | assumption | rfl | decide | (simp only [bne, Bool.not_eq_true', Bool.not_eq_false', Bool.not_true, Bool.not_false, Bool.not_not]; assumption)))) | ((with_reducible apply pick_t); (focus (first | assumption | rfl | decide | (simp only [bne, Bool.not_eq_true', Bool.not_eq_false', Bool.not_true, Bool.not_false, Bool.not_not]; assumption)))) | ((with_reducible apply cond_f); (focus (first | assumption | rfl | decide | (simp only [bne, Bool.not_eq_true', Bool.not_eq_false', Bool.not_true, Bool.not_false, Bool.not_not]; assumption)))) | ((with_reducible apply gop_skip); (focus (first | assumption | rfl | decide | (simp only [bne, Bool.not_eq_true', Bool.not_eq_false', Bool.not_true, Bool.not_false, Bool.not_not]; assumption)))) | ((with_reducible apply pick_f); (focus (first | assumption | rfl | decide | (simp only [bne, Bool.not_eq_true', Bool.not_eq_false', Bool.not_true, Bool.not_false, Bool.not_not]; assumption)))) | ((with_reducible apply State.loadAll st); (focus ((repeat (first | exact List.Mem.head _ | assumption | refine List.Mem.tail _ ?_)); done)); (focus (first | (simp [whCells, valL, over_length, Value.cells]; done) | omega))) | ((with_reducible apply State.boxAgg st); intro b w st) | ((with_reducible apply none_c); (focus (first | exact st.rep (by ((repeat (first | exact List.Mem.head _ | assumption | refine List.Mem.tail _ ?_)); done)) | exact h.ext st.keeps))) | ((with_reducible apply form_c); (focus (first | exact st.rep (by ((repeat (first | exact List.Mem.head _ | assumption | refine List.Mem.tail _ ?_)); done)) | exact h.ext st.keeps)); (focus assumption); (focus assumption); (focus assumption); intro w he; have st := st.ext he) | ((with_reducible apply names_c); (focus assumption); intro w he; have st := st.ext he) | ((with_reducible apply asksOf_c)) | ((with_reducible apply is_c); (focus (first | exact st.rep (by ((repeat (first | exact List.Mem.head _ | assumption | refine List.Mem.tail _ ?_)); done)) | exact h.ext st.keeps))) | ((with_reducible apply cond_split) <;> intro q)))
    all_goals
      refine fin _ st.keeps ?_ (by decide)
      simp_all [makeE]
  have q6 : (x.kind == 6) = false := by simp; omega
  have q11 : (x.kind == 11) = false := by simp; omega
  (repeat' (first | ((with_reducible apply field_0)) | ((with_reducible apply field_at)) | ((with_reducible apply gop_undef)) | ((with_reducible apply eql_at)) | ((with_reducible apply neq_at)) | ((with_reducible apply geq_at)) | ((with_reducible apply not_at)) | ((with_reducible apply nil_ptr)) | ((with_reducible apply State.load1 st); (focus ((repeat (first | exact List.Mem.head _ | assumption | refine List.Mem.tail _ ?_)); done)); (focus rfl)) | ((with_reducible apply cond_t); (focus (first | assumption | rfl | decide | (simp only [bne, Bool.not_eq_true', Bool.not_eq_false', Bool.not_true, Bool.not_false, Bool.not_not]; assumption)))) | ((with_reducible apply gop_run); (focus (first | assumption | rfl | decide | (simp only [bne, Bool.not_eq_true', Bool.not_eq_false', Bool.not_true, Bool.not_false, Bool.not_not]; assumption)))) | ((with_reducible apply pick_t); (focus (first | assumption | rfl | decide | (simp only [bne, Bool.not_eq_true', Bool.not_eq_false', Bool.not_true, Bool.not_false, Bool.not_not]; assumption)))) | ((with_reducible apply cond_f); (focus (first | assumption | rfl | decide | (simp only [bne, Bool.not_eq_true', Bool.not_eq_false', Bool.not_true, Bool.not_false, Bool.not_not]; assumption)))) | ((with_reducible apply gop_skip); (focus (first | assumption | rfl | decide | (simp only [bne, Bool.not_eq_true', Bool.not_eq_false', Bool.not_true, Bool.not_false, Bool.not_not]; assumption)))) | ((with_reducible apply pick_f); (focus (first | assumption | rfl | decide | (simp only [bne, Bool.not_eq_true', Bool.not_eq_false', Bool.not_true, Bool.not_false, Bool.not_not]; assumption)))) | ((with_reducible apply State.loadAll st); (focus ((repeat (first | exact List.Mem.head _ | assumption | refine List.Mem.tail _ ?_)); done)); (focus (first | (simp [whCells, valL, over_length, Value.cells]; done) | omega))) | ((with_reducible apply State.boxAgg st); intro b w st) | ((with_reducible apply load_top); (focus (first | exact st.rep (by ((repeat (first | exact List.Mem.head _ | assumption | refine List.Mem.tail _ ?_)); done)) | exact h.ext st.keeps)); (focus rfl)) | ((with_reducible apply load_reads); (focus assumption)) | ((with_reducible apply none_c); (focus (first | exact st.rep (by ((repeat (first | exact List.Mem.head _ | assumption | refine List.Mem.tail _ ?_)); done)) | exact h.ext st.keeps))) | ((with_reducible apply form_c); (focus (first | exact st.rep (by ((repeat (first | exact List.Mem.head _ | assumption | refine List.Mem.tail _ ?_)); done)) | exact h.ext st.keeps)); (focus assumption); (focus assumption); (focus assumption); intro w he; have st := st.ext he) | ((with_reducible apply names_c); (focus assumption); intro w he; have st := st.ext he) | ((with_reducible apply asksOf_c)) | ((with_reducible apply asksBy_c)) | ((with_reducible apply is_c); (focus (first | exact st.rep (by ((repeat (first | exact List.Mem.head _ | assumption | refine List.Mem.tail _ ?_)); done)) | exact h.ext st.keeps))) | ((with_reducible apply fits_c); (focus (first | exact st.rep (by ((repeat (first | exact List.Mem.head _ | assumption | refine List.Mem.tail _ ?_)); done)) | exact h.ext st.keeps)); (focus assumption); (focus assumption); (focus assumption); (focus assumption); intro w he; have st := st.ext he) | ((with_reducible apply ownWhat_c); (focus assumption); intro w he; have st := st.ext he) | ((with_reducible apply index_made); (focus (first | exact st.rep (by ((repeat (first | exact List.Mem.head _ | assumption | refine List.Mem.tail _ ?_)); done)) | exact h.ext st.keeps)); (focus assumption); intro b i hrd) | (simp only [upd_get, start_get, List.getD_cons_zero, List.getD_cons_succ, Nat.reduceEqDiff, reduceIte, Nat.reduceAdd]) | ((with_reducible apply State.atDrew st); intro w st) | ((with_reducible apply gop_split) <;> intro q <;> (try simp only [Bool.not_true, Bool.not_false] at q)) | ((with_reducible apply cond_split) <;> intro q)))
  all_goals
    first
      | (refine fin _ st.keeps ?_ (by decide)
         simp_all [makeE]
         done)
      | (suffices hE : makeE a x = 0 from make_tail _ h hfew hmd st (by ((repeat (first | exact List.Mem.head _ | assumption | refine List.Mem.tail _ ?_)); done)) hE fun w' L' => hok w' L' hE
         clear fin hno hok st
         simp_all [makeE]
         done)
end
end Go.X
