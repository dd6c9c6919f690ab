/- Contracts: what a new thing asks of others. -/
import Derived.Test.YtdjheefbeagcjaaXxC9
import Derived.Test.YtdjheefbeagcjaaXxS2
import Derived.Test.YtdjheefbeagcjaaXxSt
set_option linter.unusedSimpArgs false
set_option linter.unusedVariables false
set_option maxRecDepth 20000
set_option maxHeartbeats 1000000
namespace Go.X
open Go Go.AW

/-- is there a thing of that kind, at home there? -/
def thereB (a : AW) (q kd home : Int) : Bool := match a.at q with | some y => y.kind == kd && y.home == home | none => false

section
variable {w0 w : World} {L : Lay} {a : AW} {k : Value → World → Prop}

theorem there_c {R : List Res} {b3 b5 : Nat} {x : Wh} {q kd : Int} (h : WRep w0 L a) (st : State (fun _ => False) w0 w R) (h3 : .cells b3 [ptr L.p] ∈ R) (h5 : .cells b5 (whCells x) ∈ R) (hkd : kd ≠ 0)
    (hk : ∀ w, State (fun _ => False) w0 w R → k (.bool (thereB a q kd x.home)) w) : callOn prog fn_World_fits_1 #[vi q, vb kd, ptr b3, ptr b5] w k := by
  apply F_World_fits_1_on
  unfold F_World_fits_1
  refine Q_World_fits_1_R1_on (C := fun w => State (fun _ => False) w0 w R) (Q := fun e => e 6 = .bool (thereB a q kd x.home)) st.drew ?_ fun e w st he => by rw [he]; exact hk w st
  unfold Q_World_fits_1_R1
  have hd : (a.at q = none ∧ a.kind q = 0) ∨ ∃ y, a.at q = some y ∧ a.kind q = y.kind := by
    unfold AW.kind
    cases a.at q with
    | none => exact .inl ⟨rfl, rfl⟩
    | some y => exact .inr ⟨y, rfl, rfl⟩
  rcases hd with ⟨hq, hkq⟩ | ⟨y, hq, hkq⟩
  · have q1 : (a.kind q == kd) = false := by rw [hkq]; simp; omega
    (repeat (first | ((with_reducible apply qop_at); (focus (intro w st; (repeat (first | ((with_reducible apply eql_at)) | ((with_reducible apply State.load1 st); (focus ((repeat (first | exact List.Mem.head _ | assumption | refine List.Mem.tail _ ?_)); done)); (focus rfl)) | ((with_reducible apply pick_f); (focus (first | assumption | rfl | decide | (simp only [bne, Bool.not_eq_true', Bool.not_eq_false', Bool.not_true, Bool.not_false, Bool.not_not]; assumption)))) | ((with_reducible apply kind_c); (focus (first | exact st.rep (by ((repeat (first | exact List.Mem.head _ | assumption | refine List.Mem.tail _ ?_)); done)) | exact h.ext st.keeps))) | (simp only [upd_get, start_get, List.getD_cons_zero, List.getD_cons_succ, Nat.reduceEqDiff, reduceIte, Nat.reduceAdd]))); exact ⟨rfl, st⟩))) | ((with_reducible apply gq_skip); (focus (first | assumption | rfl | decide | (simp only [bne, Bool.not_eq_true', Bool.not_eq_false', Bool.not_true, Bool.not_false, Bool.not_not]; assumption)))) | (simp only [upd_get, start_get, List.getD_cons_zero, List.getD_cons_succ, Nat.reduceEqDiff, reduceIte, Nat.reduceAdd])))
    rw [thereB, hq]
  · cases q1 : (a.kind q == kd) with
    | false =>
      (repeat (first | ((with_reducible apply qop_at); (focus (intro w st; (repeat (first | ((with_reducible apply eql_at)) | ((with_reducible apply State.load1 st); (focus ((repeat (first | exact List.Mem.head _ | assumption | refine List.Mem.tail _ ?_)); done)); (focus rfl)) | ((with_reducible apply pick_f); (focus (first | assumption | rfl | decide | (simp only [bne, Bool.not_eq_true', Bool.not_eq_false', Bool.not_true, Bool.not_false, Bool.not_not]; assumption)))) | ((with_reducible apply kind_c); (focus (first | exact st.rep (by ((repeat (first | exact List.Mem.head _ | assumption | refine List.Mem.tail _ ?_)); done)) | exact h.ext st.keeps))) | (simp only [upd_get, start_get, List.getD_cons_zero, List.getD_cons_succ, Nat.reduceEqDiff, reduceIte, Nat.reduceAdd]))); exact ⟨rfl, st⟩))) | ((with_reducible apply gq_skip); (focus (first | assumption | rfl | decide | (simp only [bne, Bool.not_eq_true', Bool.not_eq_false', Bool.not_true, Bool.not_false, Bool.not_not]; assumption)))) | (simp only [upd_get, start_get, List.getD_cons_zero, List.getD_cons_succ, Nat.reduceEqDiff, reduceIte, Nat.reduceAdd])))
      rw [hkq] at q1
      simp [thereB, hq, q1]
    | true =>
      (repeat (first | ((with_reducible apply qop_at); (focus (intro w st; (repeat (first | ((with_reducible apply field_at)) | ((with_reducible apply eql_at)) | ((with_reducible apply nil_ptr)) | ((with_reducible apply State.load1 st); (focus ((repeat (first | exact List.Mem.head _ | assumption | refine List.Mem.tail _ ?_)); done)); (focus rfl)) | ((with_reducible apply pick_t); (focus (first | assumption | rfl | decide | (simp only [bne, Bool.not_eq_true', Bool.not_eq_false', Bool.not_true, Bool.not_false, Bool.not_not]; assumption)))) | ((with_reducible apply load_top); (focus (first | exact st.rep (by ((repeat (first | exact List.Mem.head _ | assumption | refine List.Mem.tail _ ?_)); done)) | exact h.ext st.keeps)); (focus rfl)) | ((with_reducible apply look_at); (focus (first | exact st.rep (by ((repeat (first | exact List.Mem.head _ | assumption | refine List.Mem.tail _ ?_)); done)) | exact h.ext st.keeps)); (focus assumption)) | ((with_reducible apply load_thing); (focus (first | exact st.rep (by ((repeat (first | exact List.Mem.head _ | assumption | refine List.Mem.tail _ ?_)); done)) | exact h.ext st.keeps)); (focus assumption); (focus rfl)) | ((with_reducible apply kind_c); (focus (first | exact st.rep (by ((repeat (first | exact List.Mem.head _ | assumption | refine List.Mem.tail _ ?_)); done)) | exact h.ext st.keeps))) | (simp only [upd_get, start_get, List.getD_cons_zero, List.getD_cons_succ, Nat.reduceEqDiff, reduceIte, Nat.reduceAdd]))); exact ⟨rfl, st⟩))) | ((with_reducible apply gq_run); (focus (first | assumption | rfl | decide | (simp only [bne, Bool.not_eq_true', Bool.not_eq_false', Bool.not_true, Bool.not_false, Bool.not_not]; assumption)))) | (simp only [upd_get, start_get, List.getD_cons_zero, List.getD_cons_succ, Nat.reduceEqDiff, reduceIte, Nat.reduceAdd])))
      rw [hkq] at q1
      simp [thereB, hq, q1]

/-- What a new thing asks of others, but for the kinds that ask that there is no other such (Opener, Keeper) -/
def fitsB (a : AW) (x : Wh) : Bool :=
  if x.kind = 7 then thereB a x.of 5 x.home
  else if x.kind = 9 then thereB a x.of 8 x.home
  else if x.kind = 15 then thereB a x.by_ 13 x.home && a.is x.of && (match a.at x.by_ with | some y => y.of == 0 | none => false)
  else if x.kind = 16 then thereB a x.by_ 3 x.home && a.is x.of
  else true

theorem fits_c {x : Wh} (h : WRep w L a) (q6 : (x.kind == 6) = false) (q11 : (x.kind == 11) = false) (q14 : (x.kind == 14) = false) (h13 : x.kind = 13 → x.of = 0) (hk : ∀ w', Ext w w' → k (.bool (fitsB a x)) w') :
    callOn prog fn_World_fits #[ptr L.p, vi 0, whV x] w k := by
  apply F_World_fits_on
  unfold F_World_fits
  have st := State.start (S := fun _ => False) w
  have fin : ∀ {v : Bool} {w' : World}, Ext w w' → fitsB a x = v → k (.bool v) w' := fun he hv => hv ▸ hk _ he
  rcases hby : a.at x.by_ with _ | y <;> cases q13 : (x.kind == 13)
  all_goals
    first
      | (have q0 : (x.of == 0) = true := by simpa using h13 (by simpa using q13))
      | skip
    first
      | (have qt : thereB a x.by_ 13 x.home = false := by simp [thereB, hby])
      | skip
    (repeat' (first | ((with_reducible apply qop_at); (focus (intro w st; (repeat (first | ((with_reducible apply field_at)) | ((with_reducible apply eql_at)) | ((with_reducible apply nil_ptr)) | ((with_reducible apply State.load1 st); (focus ((repeat (first | exact List.Mem.head _ | assumption | refine List.Mem.tail _ ?_)); done)); (focus rfl)) | ((with_reducible apply pick_t); (focus (first | assumption | rfl | decide | (simp only [bne, Bool.not_eq_true', Bool.not_eq_false', Bool.not_true, Bool.not_false, Bool.not_not]; assumption)))) | ((with_reducible apply pick_f); (focus (first | assumption | rfl | decide | (simp only [bne, Bool.not_eq_true', Bool.not_eq_false', Bool.not_true, Bool.not_false, Bool.not_not]; assumption)))) | ((with_reducible apply load_top); (focus (first | exact st.rep (by ((repeat (first | exact List.Mem.head _ | assumption | refine List.Mem.tail _ ?_)); done)) | exact h.ext st.keeps)); (focus rfl)) | ((with_reducible apply look_at); (focus (first | exact st.rep (by ((repeat (first | exact List.Mem.head _ | assumption | refine List.Mem.tail _ ?_)); done)) | exact h.ext st.keeps)); (focus assumption)) | ((with_reducible apply load_thing); (focus (first | exact st.rep (by ((repeat (first | exact List.Mem.head _ | assumption | refine List.Mem.tail _ ?_)); done)) | exact h.ext st.keeps)); (focus assumption); (focus rfl)) | ((with_reducible apply callT_2); (focus kernel_rfl)) | ((with_reducible apply there_c h st); (focus ((repeat (first | exact List.Mem.head _ | assumption | refine List.Mem.tail _ ?_)); done)); (focus ((repeat (first | exact List.Mem.head _ | assumption | refine List.Mem.tail _ ?_)); done)); (focus decide); intro w st) | ((with_reducible apply is_c); (focus (first | exact st.rep (by ((repeat (first | exact List.Mem.head _ | assumption | refine List.Mem.tail _ ?_)); done)) | exact h.ext st.keeps))) | (simp only [upd_get, start_get, List.getD_cons_zero, List.getD_cons_succ, Nat.reduceEqDiff, reduceIte, Nat.reduceAdd]))); exact ⟨rfl, st⟩))) | ((with_reducible apply gq_run); (focus (first | assumption | rfl | decide | (simp only [bne, Bool.not_eq_true', Bool.not_eq_false', Bool.not_true, Bool.not_false, Bool.not_not]; assumption)))) | ((with_reducible apply gq_skip); (focus (first | assumption | rfl | decide | (simp only [bne, Bool.not_eq_true', Bool.not_eq_false', Bool.not_true, Bool.not_false, Bool.not_not]; assumption)))) | ((with_reducible apply gq_undef)) | ((with_reducible apply field_0)) | ((with_reducible apply field_at)) | ((with_reducible apply eql_at)) | ((with_reducible apply State.load1 st); (focus ((repeat (first | exact List.Mem.head _ | assumption | refine List.Mem.tail _ ?_)); done)); (focus rfl)) | ((with_reducible apply cond_t); (focus (first | assumption | rfl | decide | (simp only [bne, Bool.not_eq_true', Bool.not_eq_false', Bool.not_true, Bool.not_false, Bool.not_not]; assumption)))) | ((with_reducible apply gop_run); (focus (first | assumption | rfl | decide | (simp only [bne, Bool.not_eq_true', Bool.not_eq_false', Bool.not_true, Bool.not_false, Bool.not_not]; assumption)))) | ((with_reducible apply pick_t); (focus (first | assumption | rfl | decide | (simp only [bne, Bool.not_eq_true', Bool.not_eq_false', Bool.not_true, Bool.not_false, Bool.not_not]; assumption)))) | ((with_reducible apply cond_f); (focus (first | assumption | rfl | decide | (simp only [bne, Bool.not_eq_true', Bool.not_eq_false', Bool.not_true, Bool.not_false, Bool.not_not]; assumption)))) | ((with_reducible apply gop_skip); (focus (first | assumption | rfl | decide | (simp only [bne, Bool.not_eq_true', Bool.not_eq_false', Bool.not_true, Bool.not_false, Bool.not_not]; assumption)))) | ((with_reducible apply pick_f); (focus (first | assumption | rfl | decide | (simp only [bne, Bool.not_eq_true', Bool.not_eq_false', Bool.not_true, Bool.not_false, Bool.not_not]; assumption)))) | ((with_reducible apply State.boxAgg st); intro b w st) | ((with_reducible apply State.box st); intro b w st) | ((with_reducible apply callT_2); (focus kernel_rfl)) | ((with_reducible apply there_c h st); (focus ((repeat (first | exact List.Mem.head _ | assumption | refine List.Mem.tail _ ?_)); done)); (focus ((repeat (first | exact List.Mem.head _ | assumption | refine List.Mem.tail _ ?_)); done)); (focus decide); intro w st) | ((with_reducible apply is_c); (focus (first | exact st.rep (by ((repeat (first | exact List.Mem.head _ | assumption | refine List.Mem.tail _ ?_)); done)) | exact h.ext st.keeps))) | ((with_reducible refine Q_World_fits_R12_on (C := fun w => State _ _ w _) (Q := fun e => ∀ w, State _ _ w _ → _) st.drew ?_ (fun e w st q => q w st)); unfold Q_World_fits_R12) | ((with_reducible refine Q_World_fits_R16_on (C := fun w => State _ _ w _) (Q := fun e => ∀ w, State _ _ w _ → _) st.drew ?_ (fun e w st q => q w st)); unfold Q_World_fits_R16) | (intro w st) | (simp only [upd_get, start_get, List.getD_cons_zero, List.getD_cons_succ, Nat.reduceEqDiff, reduceIte, Nat.reduceAdd]) | ((with_reducible apply gop_split) <;> intro q <;> (try simp only [Bool.not_true, Bool.not_false] at q)) | ((with_reducible apply cond_split) <;> intro q) | ((with_reducible apply gq_split) <;> intro q <;> (try simp only [Bool.not_true, Bool.not_false] at q))))
  all_goals
    refine fin st.keeps ?_
    clear fin hk st
    simp_all [fitsB]
end
end Go.X
