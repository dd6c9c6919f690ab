/- Contract: Facet; slices that are copied. -/
import Derived.Test.YtdjheefbeagcjaaXxC14
import Derived.Test.YtdjheefbeagcjaaXxC25
set_option linter.unusedSimpArgs false
set_option linter.unusedVariables false
set_option maxRecDepth 20000
set_option maxHeartbeats 2000000
namespace Go.X
open Go Go.AW

/-- why there is no such facet; 0: there is, or is to be -/
def facetE (a : AW) (t s : Int) : Int := if a.is t = false then 5 else if a.kind t = 14 ∨ s = a.able t ∨ without s (a.able t) ≠ 0 then 70 else 0
def facetW (t s : Int) : Wh := { Wh.zero with kind := 14, of := t, set := s }

section
variable {w : World} {L : Lay} {a : AW} {k : Value → World → Prop}

theorem able_range (a : AW) : ∀ (n : Nat) (set r : Int), 0 ≤ set → set < 256 → 0 ≤ able a n set r ∧ able a n set r < 256
  | 0, _, _, _, _ => by simp [able]
  | n + 1, set, r, h0, h1 => by
    rw [able_step]
    cases a.at r with
    | none => simp
    | some x =>
      simp only []
      split
      · exact able_range a n _ _ (meet_range h0 h1).1 (meet_range h0 h1).2
      · split
        · exact able_range a n _ _ h0 h1
        · exact meet_range h0 h1

theorem AW.able_in (a : AW) (r : Int) : 0 ≤ a.able r ∧ a.able r < 256 := able_range a _ _ _ (by omega) (by omega)

theorem andNot_at {a b : Int} {k : Value → Prop} (ha : 0 ≤ a ∧ a < 256) (hb : 0 ≤ b ∧ b < 256) (h : k (vb (without a b))) : binI .andNot (vb a) (vb b) k := by
  rw [binI_andNot8 ha.1 ha.2 hb.1 hb.2]; exact h

theorem build_agg {z : Value} {p : List (Nat × Nat)} {q : List (Nat × Value)} (c : List Value) {k : Value → Prop} (hf : Instr.fill (fun j => p[j]?) z.cells q = some c.toArray) (h : k (.agg c.toArray)) : buildS z p q k := by
  unfold buildS; simp only [hf]; exact h

theorem facet_c {t s : Int} (h : WRep w L a) (hf : WF a) (hfew : Few a) (hs : 0 ≤ s ∧ s < 256)
    (hno : ∀ w', Ext w w' → facetE a t s ≠ 0 → k (.tuple #[vi 0, vi (facetE a t s)]) w')
    (hold : ∀ w' r, Ext w w' → facetE a t s = 0 → a.find t s = some r → k (.tuple #[vi r, vi 0]) w')
    (hnew : ∀ w' L', facetE a t s = 0 → a.find t s = none → Grown w w' L L' a (a.add (facetW t s)) → k (.tuple #[vi (a.last + 1), vi 0]) w') :
    callOn prog fn_World_Facet #[ptr L.p, vi t, vb s] w k := by
  apply F_World_Facet_on
  unfold F_World_Facet
  have fin : ∀ {w' : World} (e : Int), Ext w w' → facetE a t s = e → e ≠ 0 → k (.tuple #[vi 0, vi e]) w' := fun e he h1 h2 => by subst h1; exact hno _ he h2
  have st := State.start (S := fun _ => False) w
  have hab := AW.able_in a t
  have ho := hf.one
  cases hfd : a.find t s with
  | some r =>
    have qf : (a.find t s).isSome = true := by rw [hfd]; rfl
    (repeat' (first | ((with_reducible apply eql_at)) | ((with_reducible apply neq_at)) | ((with_reducible apply not_at)) | ((with_reducible apply ext_0)) | ((with_reducible apply ext_1)) | ((with_reducible apply cond_t); (focus (first | assumption | rfl | decide | (simp only [bne, Bool.not_eq_true', Bool.not_eq_false', Bool.not_true, Bool.not_false, Bool.not_not]; assumption)))) | ((with_reducible apply gop_run); (focus (first | assumption | rfl | decide | (simp only [bne, Bool.not_eq_true', Bool.not_eq_false', Bool.not_true, Bool.not_false, Bool.not_not]; assumption)))) | ((with_reducible apply pick_t); (focus (first | assumption | rfl | decide | (simp only [bne, Bool.not_eq_true', Bool.not_eq_false', Bool.not_true, Bool.not_false, Bool.not_not]; assumption)))) | ((with_reducible apply cond_f); (focus (first | assumption | rfl | decide | (simp only [bne, Bool.not_eq_true', Bool.not_eq_false', Bool.not_true, Bool.not_false, Bool.not_not]; assumption)))) | ((with_reducible apply gop_skip); (focus (first | assumption | rfl | decide | (simp only [bne, Bool.not_eq_true', Bool.not_eq_false', Bool.not_true, Bool.not_false, Bool.not_not]; assumption)))) | ((with_reducible apply pick_f); (focus (first | assumption | rfl | decide | (simp only [bne, Bool.not_eq_true', Bool.not_eq_false', Bool.not_true, Bool.not_false, Bool.not_not]; assumption)))) | ((with_reducible apply none_c); (focus (first | exact st.rep (by ((repeat (first | exact List.Mem.head _ | assumption | refine List.Mem.tail _ ?_)); done)) | exact h.ext st.keeps))) | ((with_reducible apply is_c); (focus (first | exact st.rep (by ((repeat (first | exact List.Mem.head _ | assumption | refine List.Mem.tail _ ?_)); done)) | exact h.ext st.keeps))) | ((with_reducible apply able_c); (focus (first | exact st.rep (by ((repeat (first | exact List.Mem.head _ | assumption | refine List.Mem.tail _ ?_)); done)) | exact h.ext st.keeps)); (focus assumption); intro w he; have st := st.ext he) | ((with_reducible apply kind_c); (focus (first | exact st.rep (by ((repeat (first | exact List.Mem.head _ | assumption | refine List.Mem.tail _ ?_)); done)) | exact h.ext st.keeps))) | ((with_reducible apply andNot_at); (focus assumption); (focus assumption)) | ((with_reducible apply find_c); (focus (first | exact st.rep (by ((repeat (first | exact List.Mem.head _ | assumption | refine List.Mem.tail _ ?_)); done)) | exact h.ext st.keeps)); (focus assumption)) | ((with_reducible apply gop_split) <;> intro q <;> (try simp only [Bool.not_true, Bool.not_false] at q)) | ((with_reducible apply cond_split) <;> intro q)))
    all_goals
      first
        | (refine fin _ st.keeps ?_ (by decide)
           simp_all [facetE]
           done)
        | (rw [hfd]
           refine hold _ r st.keeps ?_ hfd
           simp_all [facetE]
           done)
  | none =>
    have qf : (a.find t s).isSome = false := by rw [hfd]; rfl
    (repeat' (first | ((with_reducible apply eql_at)) | ((with_reducible apply neq_at)) | ((with_reducible apply not_at)) | ((with_reducible apply ext_0)) | ((with_reducible apply ext_1)) | ((with_reducible apply cond_t); (focus (first | assumption | rfl | decide | (simp only [bne, Bool.not_eq_true', Bool.not_eq_false', Bool.not_true, Bool.not_false, Bool.not_not]; assumption)))) | ((with_reducible apply gop_run); (focus (first | assumption | rfl | decide | (simp only [bne, Bool.not_eq_true', Bool.not_eq_false', Bool.not_true, Bool.not_false, Bool.not_not]; assumption)))) | ((with_reducible apply pick_t); (focus (first | assumption | rfl | decide | (simp only [bne, Bool.not_eq_true', Bool.not_eq_false', Bool.not_true, Bool.not_false, Bool.not_not]; assumption)))) | ((with_reducible apply cond_f); (focus (first | assumption | rfl | decide | (simp only [bne, Bool.not_eq_true', Bool.not_eq_false', Bool.not_true, Bool.not_false, Bool.not_not]; assumption)))) | ((with_reducible apply gop_skip); (focus (first | assumption | rfl | decide | (simp only [bne, Bool.not_eq_true', Bool.not_eq_false', Bool.not_true, Bool.not_false, Bool.not_not]; assumption)))) | ((with_reducible apply pick_f); (focus (first | assumption | rfl | decide | (simp only [bne, Bool.not_eq_true', Bool.not_eq_false', Bool.not_true, Bool.not_false, Bool.not_not]; assumption)))) | ((with_reducible apply none_c); (focus (first | exact st.rep (by ((repeat (first | exact List.Mem.head _ | assumption | refine List.Mem.tail _ ?_)); done)) | exact h.ext st.keeps))) | ((with_reducible apply is_c); (focus (first | exact st.rep (by ((repeat (first | exact List.Mem.head _ | assumption | refine List.Mem.tail _ ?_)); done)) | exact h.ext st.keeps))) | ((with_reducible apply able_c); (focus (first | exact st.rep (by ((repeat (first | exact List.Mem.head _ | assumption | refine List.Mem.tail _ ?_)); done)) | exact h.ext st.keeps)); (focus assumption); intro w he; have st := st.ext he) | ((with_reducible apply kind_c); (focus (first | exact st.rep (by ((repeat (first | exact List.Mem.head _ | assumption | refine List.Mem.tail _ ?_)); done)) | exact h.ext st.keeps))) | ((with_reducible apply andNot_at); (focus assumption); (focus assumption)) | ((with_reducible apply find_c); (focus (first | exact st.rep (by ((repeat (first | exact List.Mem.head _ | assumption | refine List.Mem.tail _ ?_)); done)) | exact h.ext st.keeps)); (focus assumption)) | ((with_reducible apply gop_split) <;> intro q <;> (try simp only [Bool.not_true, Bool.not_false] at q)) | ((with_reducible apply cond_split) <;> intro q)))
    all_goals
      first
        | (refine fin _ st.keeps ?_ (by decide)
           simp_all [facetE]
           done)
        | (refine build_agg (whCells (facetW t s)) (by kernel_rfl) ?_
           unfold Few at hfew
           refine lay_c (h.ext st.keeps) (facetW t s) (by omega) (fun e => absurd rfl e) (fun e => absurd rfl e) (fun _ => hfd) fun w' L' g => ?_
           have st := (st.own_world h).grown g .head
           refine hnew _ L' ?_ hfd (st.toGrown (.head _) g.p)
           clear hnew hno hold fin
           simp_all [facetE]
           done)
end
end Go.X
