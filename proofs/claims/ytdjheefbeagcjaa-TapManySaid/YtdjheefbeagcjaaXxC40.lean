/- Contract: Lay. -/
import Derived.Test.YtdjheefbeagcjaaXxC21
import Derived.Test.YtdjheefbeagcjaaXxS9
set_option linter.unusedSimpArgs false
set_option linter.unusedVariables false
set_option maxRecDepth 20000
set_option maxHeartbeats 2000000
namespace Go.X
open Go Go.AW

/-- why nothing is laid; 0: it is -/
def layE (a : AW) (r : Int) (x : Wh) : Int :=
  match a.at r with
  | none => 5
  | some t => if x.kind = t.kind ∧ x.home = t.home ∧ x.of = t.of ∧ x.by_ = t.by_ ∧ x.set = t.set ∧ (t.full = true → x.full = true) ∧ formB a x = true then 0 else 70

section
variable {S : Nat → Prop} {w0 w : World} {L : Lay} {a : AW} {R : List Res} {K : Value → World → Prop} {k : Value → World → Prop}

theorem wlay_c {r : Int} {x : Wh} (h : WRep w L a) (hv : Plain x) (hk0 : 0 ≤ x.kind) (hset : 0 ≤ x.set ∧ x.set < 256) (h14 : x.kind ≠ 14)
    (hno : ∀ w', Ext w w' → layE a r x ≠ 0 → k (vi (layE a r x)) w') (hok : ∀ w', layE a r x = 0 → Grown w w' L L a (a.put r x) → k (vi 0) w') : callOn prog fn_World_Lay #[ptr L.p, vi r, whV x] w k := by
  apply F_World_Lay_on
  unfold F_World_Lay
  have st := State.start (S := fun _ => False) w
  cases hr : a.at r with
  | none =>
    have qi : a.is r = false := by rw [AW.is, hr]; rfl
    have hE : layE a r x = 5 := by simp [layE, hr]
    (repeat (first | ((with_reducible apply not_at)) | ((with_reducible apply cond_t); (focus (first | assumption | rfl | decide | (simp only [bne, Bool.not_eq_true', Bool.not_eq_false', Bool.not_true, Bool.not_false, Bool.not_not]; assumption)))) | ((with_reducible apply cond_f); (focus (first | assumption | rfl | decide | (simp only [bne, Bool.not_eq_true', Bool.not_eq_false', Bool.not_true, Bool.not_false, Bool.not_not]; assumption)))) | ((with_reducible apply State.boxAgg st); intro b w st) | ((with_reducible apply none_c); (focus (first | exact st.rep (by ((repeat (first | exact List.Mem.head _ | assumption | refine List.Mem.tail _ ?_)); done)) | exact h.ext st.keeps))) | ((with_reducible apply is_c); (focus (first | exact st.rep (by ((repeat (first | exact List.Mem.head _ | assumption | refine List.Mem.tail _ ?_)); done)) | exact h.ext st.keeps)))))
    have := hno _ st.keeps (by rw [hE]; decide)
    rw [hE] at this; exact this
  | some t =>
    have qi : a.is r = true := by rw [AW.is, hr]; rfl
    have fin : ∀ {w' : World}, Ext w w' → ¬ (x.kind = t.kind ∧ x.home = t.home ∧ x.of = t.of ∧ x.by_ = t.by_ ∧ x.set = t.set ∧ (t.full = true → x.full = true) ∧ formB a x = true) → k (vi 70) w' := fun he hc => by
      have hE : layE a r x = 70 := by simp only [layE, hr]; rw [if_neg hc]
      have := hno _ he (by rw [hE]; decide)
      rw [hE] at this; exact this
    (repeat' (first | ((with_reducible apply field_0)) | ((with_reducible apply field_at)) | ((with_reducible apply gop_undef)) | ((with_reducible apply neq_at)) | ((with_reducible apply not_at)) | ((with_reducible apply nil_ptr)) | ((with_reducible apply State.load1 st); (focus ((repeat (first | exact List.Mem.head _ | assumption | refine List.Mem.tail _ ?_)); done)); (focus rfl)) | ((with_reducible apply cond_t); (focus (first | assumption | rfl | decide | (simp only [bne, Bool.not_eq_true', Bool.not_eq_false', Bool.not_true, Bool.not_false, Bool.not_not]; assumption)))) | ((with_reducible apply gop_run); (focus (first | assumption | rfl | decide | (simp only [bne, Bool.not_eq_true', Bool.not_eq_false', Bool.not_true, Bool.not_false, Bool.not_not]; assumption)))) | ((with_reducible apply pick_t); (focus (first | assumption | rfl | decide | (simp only [bne, Bool.not_eq_true', Bool.not_eq_false', Bool.not_true, Bool.not_false, Bool.not_not]; assumption)))) | ((with_reducible apply cond_f); (focus (first | assumption | rfl | decide | (simp only [bne, Bool.not_eq_true', Bool.not_eq_false', Bool.not_true, Bool.not_false, Bool.not_not]; assumption)))) | ((with_reducible apply gop_skip); (focus (first | assumption | rfl | decide | (simp only [bne, Bool.not_eq_true', Bool.not_eq_false', Bool.not_true, Bool.not_false, Bool.not_not]; assumption)))) | ((with_reducible apply pick_f); (focus (first | assumption | rfl | decide | (simp only [bne, Bool.not_eq_true', Bool.not_eq_false', Bool.not_true, Bool.not_false, Bool.not_not]; assumption)))) | ((with_reducible apply State.loadAll st); (focus ((repeat (first | exact List.Mem.head _ | assumption | refine List.Mem.tail _ ?_)); done)); (focus (first | (simp [whCells, valL, over_length, Value.cells]; done) | omega))) | ((with_reducible apply State.boxAgg st); intro b w st) | ((with_reducible apply load_top); (focus (first | exact st.rep (by ((repeat (first | exact List.Mem.head _ | assumption | refine List.Mem.tail _ ?_)); done)) | exact h.ext st.keeps)); (focus rfl)) | ((with_reducible apply look_at); (focus (first | exact st.rep (by ((repeat (first | exact List.Mem.head _ | assumption | refine List.Mem.tail _ ?_)); done)) | exact h.ext st.keeps)); (focus assumption)) | ((with_reducible apply load_thing); (focus (first | exact st.rep (by ((repeat (first | exact List.Mem.head _ | assumption | refine List.Mem.tail _ ?_)); done)) | exact h.ext st.keeps)); (focus assumption); (focus rfl)) | ((with_reducible apply none_c); (focus (first | exact st.rep (by ((repeat (first | exact List.Mem.head _ | assumption | refine List.Mem.tail _ ?_)); done)) | exact h.ext st.keeps))) | ((with_reducible apply is_c); (focus (first | exact st.rep (by ((repeat (first | exact List.Mem.head _ | assumption | refine List.Mem.tail _ ?_)); done)) | exact h.ext st.keeps))) | ((with_reducible apply form_c); (focus (first | exact st.rep (by ((repeat (first | exact List.Mem.head _ | assumption | refine List.Mem.tail _ ?_)); done)) | exact h.ext st.keeps)); (focus assumption); (focus assumption); (focus assumption); intro w he; have st := st.ext he) | ((with_reducible apply names_c); (focus assumption); intro w he; have st := st.ext he) | ((with_reducible apply ownWhat_c); (focus assumption); intro w he; have st := st.ext he) | (simp only [upd_get, start_get, List.getD_cons_zero, List.getD_cons_succ, Nat.reduceEqDiff, reduceIte, Nat.reduceAdd]) | ((with_reducible apply State.atDrew st); intro w st) | ((with_reducible apply gop_split) <;> intro q <;> (try simp only [Bool.not_true, Bool.not_false] at q)) | ((with_reducible apply cond_split) <;> intro q)))
    all_goals first
      | (refine fin st.keeps fun hc => ?_; simp_all; done)
      | (have hc : x.kind = t.kind ∧ x.home = t.home ∧ x.of = t.of ∧ x.by_ = t.by_ ∧ x.set = t.set ∧ (t.full = true → x.full = true) ∧ formB a x = true := by simp_all
         have hE : layE a r x = 0 := by simp only [layE, hr]; rw [if_pos hc]
         refine State.putAll (st.own_world h) .head hr (by rw [← hc.1]; exact h14) h14 fun w st => ?_
         exact hok w hE (st.toGrown (.head _) rfl))

theorem State.lay {r : Int} {x : Wh} {R' : List Res} (st : State S w0 w R) (hs : Sub (.world L a) (.world L (a.put r x)) R R') (hv : Plain x) (hk0 : 0 ≤ x.kind) (hset : 0 ≤ x.set ∧ x.set < 256) (h14 : x.kind ≠ 14) (hE : layE a r x = 0)
    (hk : ∀ w, State S w0 w R' → K (vi 0) w) : callOn prog fn_World_Lay #[ptr L.p, vi r, whV x] w K :=
  wlay_c (st.rep hs.mem) hv hk0 hset h14 (fun _ _ h => absurd hE h) fun w' _ g => hk w' (st.grown g hs)
end
end Go.X
