/- Drop: what goes, and whether it may. -/
import Derived.Test.YtdjheefbeagcjaaXxC26
import Derived.Test.YtdjheefbeagcjaaXxC12
import Derived.Test.YtdjheefbeagcjaaXxS8
set_option linter.unusedSimpArgs false
set_option linter.unusedVariables false
set_option maxRecDepth 20000
set_option maxHeartbeats 2000000
namespace Go.AW
/-- does it go, with those that are named? -/
def AW.gone (a : AW) (l : List Int) (r : Int) : Bool := l.contains r || (match a.at r with | some x => x.kind == 14 && l.contains x.of | none => false)
/-- is it held by a facet that stays, or is a facet named whose target stays? -/
def AW.apart (a : AW) (l : List Int) : Bool := a.things.any fun t => t.2.kind == 14 && l.contains t.1 && !l.contains t.2.of
/-- does a thing that stays hold one that goes? -/
def AW.holds (a : AW) (l : List Int) (r : Int) (x : Wh) : Bool := !a.gone l r && ((x.kind != 13 && a.gone l x.of) || a.gone l x.by_)
def AW.dropE (a : AW) (l : List Int) : Int :=
  if (l.any fun r => !a.is r) = true then 5 else if a.apart l = true then 72 else if (a.things.any fun t => a.holds l t.1 t.2) = true then 72 else 0
/-- no facet stands before a facet -/
def FT (a : AW) : Prop := ∀ t ∈ a.things, t.2.kind = 14 → a.kind t.2.of ≠ 14
end Go.AW
namespace Go.X
open Go Go.AW

section
variable {w0 w : World} {L : Lay} {a : AW} {R : List Res} {K : Value → World → Prop}

theorem WRep.bornL (h : WRep w L a) : Born L.es L.cm := ⟨h.born.1, h.born.2⟩

theorem mem_b {G : List Int} {q : Int} : (((if q ∈ G then 1 else 0 : Int)) == 1) = decide (q ∈ G) := by
  by_cases h : q ∈ G <;> simp [h]

theorem load_whole {r : Int} {x : Wh} {k : Value → Prop} (h : WRep w L a) (hr : a.at r = some x) (hk : k (whV x)) : loadN 16 (ptr (L.bk r)) w k :=
  loadN_intro (h.cell hr) (by simp [whCells]) hk

theorem containsR_none {f : Value} (hk : K (.bool false) w) : callOn prog fn_slices_ContainsFunc_Ref #[noList, f] w K := by
  apply F_slices_ContainsFunc_Ref_on
  unfold F_slices_ContainsFunc_Ref
  refine indexFuncR_none (geq_at ?_)
  exact hk

theorem drop_1 {q p : Value} {b5 bg c : Nat} {es : List MapEntry} {G : List Int} {r : Int} (st : State (fun _ => False) w0 w R) (h5 : .cells b5 [.map (some bg)] ∈ R) (hm : .map bg es c ∈ R) (hG : Marks es c G) (hk : K (.bool (decide (r ∈ G))) w) :
    callOn prog fn_World_Drop_1 #[vi r, ptr b5] w K := by
  apply F_World_Drop_1_on
  unfold F_World_Drop_1
  (repeat (first | ((with_reducible apply State.load1 st); (focus ((repeat (first | exact List.Mem.head _ | assumption | refine List.Mem.tail _ ?_)); done)); (focus rfl))))
  refine st.markLook hm hG (eql_at ?_)
  rw [mem_b]
  exact hk

/-- a range over what stands in a map: what has been seen, the slots that matter, what holds so far -/
def Seen (w0 : World) (es : List MapEntry) (slots : Env → Prop) (R : List MapEntry → List Res) (good : List MapEntry → Prop) (m : Nat) (e : Env) (w : World) : Prop :=
  ∃ vis : List MapEntry, m = es.length - vis.length ∧ Vis es vis ∧ slots e ∧ State (fun _ => False) w0 w (R vis) ∧ good vis

theorem Seen.next {es : List MapEntry} {slots : Env → Prop} {R : List MapEntry → List Res} {good : List MapEntry → Prop} {vis : List MapEntry} {x : MapEntry} {c : Nat} {e : Env} (hB : Born es c) (hv : Vis es vis) (hx : x ∈ es) (hn : x ∉ vis)
    (hs : slots e) (st : State (fun _ => False) w0 w (R (vis ++ [x]))) (hg : good (vis ++ [x])) : ∃ m', m' < es.length - vis.length ∧ Seen w0 es slots R good m' e w := by
  obtain ⟨hv', hlen⟩ := hv.snoc hB hx hn
  exact ⟨es.length - (vis ++ [x]).length, by simp; omega, vis ++ [x], rfl, hv', hs, st, hg⟩

/-- the third look: does a thing that stays hold one that goes? -/
theorem drop_p3 {l G : List Int} {b5 bg c : Nat} {es : List MapEntry} {q : Env} (h : WRep w0 L a) (hp : ∀ t ∈ a.things, Plain t.2) (hG : Marks es c G) (hgone : ∀ q, q ∈ G ↔ a.gone l q = true)
    (st : State (fun _ => False) w0 w R) (h5 : .cells b5 [.map (some bg)] ∈ R) (hm : .map bg es c ∈ R) (g0 : q 0 = ptr L.p) (g5 : q 5 = ptr b5)
    (hbad : (a.things.any fun t => a.holds l t.1 t.2) = true → ∀ w', Ext w0 w' → K (vi 72) w')
    (hgood : (a.things.any fun t => a.holds l t.1 t.2) = false → ∀ q w, q 0 = ptr L.p → q 5 = ptr b5 → State (fun _ => False) w0 w R → F_World_Drop_s22 q w K) : F_World_Drop_s24 q w K := by
  simp only [F_World_Drop_s24, g0]
  (repeat (first | ((with_reducible apply field_at)) | ((with_reducible apply nil_ptr)) | ((with_reducible apply load_top); (focus (first | exact st.rep (by ((repeat (first | exact List.Mem.head _ | assumption | refine List.Mem.tail _ ?_)); done)) | exact h.ext st.keeps)); (focus rfl)) | (simp only [upd_get, start_get, List.getD_cons_zero, List.getD_cons_succ, Nat.reduceEqDiff, reduceIte, Nat.reduceAdd])))
  refine st.range (h.ext st.keeps).things fun it w st => ?_
  refine ⟨Seen w0 L.es (fun e => e 0 = ptr L.p ∧ e 5 = ptr b5 ∧ e 73 = ptr it) (fun vis => .obj it (iterO L.bm L.cm vis) :: R) (fun vis => ∀ x ∈ vis, ∀ t ∈ a.things, x.key = vi t.1 → a.holds l t.1 t.2 = false), L.es.length,
    ⟨[], by simp, .nil _, ⟨by simp [upd_get, g0], by simp [upd_get, g5], by simp [upd_get]⟩, st, by simp⟩, ?_⟩
  clear st g0 g5
  rintro m e w ⟨vis, rfl, hv, ⟨g0, g5, g73⟩, st, hok⟩
  have hx := h.ext st.keeps
  simp only [F_World_Drop_s23, g73]
  refine State.next (fun vis' => .obj it (iterO L.bm L.cm vis') :: R) st (fun _ => .head) hx.things h.bornL hv.sub (fun x hxm hnv w st => ?_) fun hall w st => ?_
  · obtain ⟨t, ht, hkey, hval⟩ := h.ent hxm
    have hx := h.ext st.keeps
    have hat := h.at_mem ht
    have good : a.holds l t.1 t.2 = false → ∀ y ∈ vis ++ [x], ∀ s ∈ a.things, y.key = vi s.1 → a.holds l s.1 s.2 = false := by
      intro hh y hy s hs hks
      rcases List.mem_append.1 hy with hy | hy
      · exact hok y hy s hs hks
      · simp at hy; subst hy
        have e1 : t.1 = s.1 := by rw [hkey] at hks; simpa using hks
        have : s.2 = t.2 := by
          have h1 := h.at_mem hs
          rw [← e1, hat] at h1
          exact (Option.some.inj h1).symm
        rw [← e1, this]; exact hh
    have bad : a.holds l t.1 t.2 = true → ∀ w', Ext w0 w' → K (vi 72) w' := fun hh => hbad (List.any_eq_true.2 ⟨t, ht, hh⟩)
    simp only [F_World_Drop_s8, F_World_Drop_s7]
    (repeat (first | ((with_reducible apply ext_0)) | ((with_reducible apply cond_t); (focus (first | assumption | rfl | decide | (simp only [bne, Bool.not_eq_true', Bool.not_eq_false', Bool.not_true, Bool.not_false, Bool.not_not]; assumption)))) | (simp only [upd_get, start_get, List.getD_cons_zero, List.getD_cons_succ, Nat.reduceEqDiff, reduceIte, Nat.reduceAdd])))
    simp only [upd_get, Nat.reduceEqDiff, if_false, g0, g5, g73]
    refine st.entry (vis := vis) (e := x) (.head _) (h.ext st.keeps).things h.bornL hxm ?_
    rw [hkey, hval]
    have hg1 := hgone t.1
    have hg2 := hgone t.2.of
    have hg3 := hgone t.2.by_
    have hpt := hp t ht
    (repeat (first | ((with_reducible apply eql_at)) | ((with_reducible apply ext_0)) | ((with_reducible apply ext_1)) | ((with_reducible apply State.load1 st); (focus ((repeat (first | exact List.Mem.head _ | assumption | refine List.Mem.tail _ ?_)); done)); (focus rfl)) | ((with_reducible apply State.markLook st); (focus ((repeat (first | exact List.Mem.head _ | assumption | refine List.Mem.tail _ ?_)); done)); (focus assumption))))
    rw [mem_b]
    by_cases hr : t.1 ∈ G
    · have q1 : decide (t.1 ∈ G) = true := by simpa using hr
      (repeat (first | ((with_reducible apply cond_t); (focus (first | assumption | rfl | decide | (simp only [bne, Bool.not_eq_true', Bool.not_eq_false', Bool.not_true, Bool.not_false, Bool.not_not]; assumption))))))
      refine Seen.next h.bornL hv hxm hnv ⟨?_, ?_, ?_⟩ st (good ?_)
      all_goals first | (simp only [upd_get, Nat.reduceEqDiff, if_false, g0, g5, g73]; done) | skip
      unfold AW.holds
      rw [hg1.1 hr]; rfl
    · have q1 : decide (t.1 ∈ G) = false := by simpa using hr
      have n1 : a.gone l t.1 = false := by
        cases hh : a.gone l t.1 with
        | false => rfl
        | true => exact absurd (hg1.2 hh) hr
      have b2 : (((if t.2.of ∈ G then 1 else 0 : Int)) == 1) = a.gone l t.2.of := by
        rw [mem_b]
        cases hh : a.gone l t.2.of with
        | false => simp only [decide_eq_false_iff_not]; intro h'; rw [hg2.1 h'] at hh; simp at hh
        | true => simpa using hg2.2 hh
      have b3 : (((if t.2.by_ ∈ G then 1 else 0 : Int)) == 1) = a.gone l t.2.by_ := by
        rw [mem_b]
        cases hh : a.gone l t.2.by_ with
        | false => simp only [decide_eq_false_iff_not]; intro h'; rw [hg3.1 h'] at hh; simp at hh
        | true => simpa using hg3.2 hh
      have hh : a.holds l t.1 t.2 = ((t.2.kind != 13 && a.gone l t.2.of) || a.gone l t.2.by_) := by unfold AW.holds; rw [n1]; rfl
      cases e2 : a.gone l t.2.of <;> cases e3 : a.gone l t.2.by_ <;> cases e1 : t.2.kind != 13 <;> rw [e1, e2, e3] at hh <;> rw [e2] at b2 <;> rw [e3] at b3 <;> simp only [Bool.true_and, Bool.false_and, Bool.or_true, Bool.or_false, Bool.or_self] at hh
      all_goals (repeat (first | ((with_reducible apply qop_at); (focus (intro w st; (repeat (first | ((with_reducible apply field_0)) | ((with_reducible apply field_at)) | ((with_reducible apply eql_at)) | ((with_reducible apply neq_at)) | ((with_reducible apply nil_ptr)) | ((with_reducible apply State.load1 st); (focus ((repeat (first | exact List.Mem.head _ | assumption | refine List.Mem.tail _ ?_)); done)); (focus rfl)) | ((with_reducible apply pick_t); (focus (first | assumption | rfl | decide | (simp only [bne, Bool.not_eq_true', Bool.not_eq_false', Bool.not_true, Bool.not_false, Bool.not_not]; assumption)))) | ((with_reducible apply pick_f); (focus (first | assumption | rfl | decide | (simp only [bne, Bool.not_eq_true', Bool.not_eq_false', Bool.not_true, Bool.not_false, Bool.not_not]; assumption)))) | ((with_reducible apply load_thing); (focus (first | exact st.rep (by ((repeat (first | exact List.Mem.head _ | assumption | refine List.Mem.tail _ ?_)); done)) | exact h.ext st.keeps)); (focus assumption); (focus rfl)) | (rewrite [g5]) | ((with_reducible apply State.markLook st); (focus ((repeat (first | exact List.Mem.head _ | assumption | refine List.Mem.tail _ ?_)); done)); (focus assumption)) | ((with_reducible apply load_whole); (focus (first | exact st.rep (by ((repeat (first | exact List.Mem.head _ | assumption | refine List.Mem.tail _ ?_)); done)) | exact h.ext st.keeps)); (focus assumption)) | ((with_reducible apply held_c); (focus assumption); intro w he; have st := st.ext he) | ((with_reducible apply containsR_none)) | (simp only [upd_get, start_get, List.getD_cons_zero, List.getD_cons_succ, Nat.reduceEqDiff, reduceIte, Nat.reduceAdd]))); exact ⟨rfl, st⟩))) | ((with_reducible apply gq_run); (focus (first | assumption | rfl | decide | (simp only [bne, Bool.not_eq_true', Bool.not_eq_false', Bool.not_true, Bool.not_false, Bool.not_not]; assumption)))) | ((with_reducible apply gq_skip); (focus (first | assumption | rfl | decide | (simp only [bne, Bool.not_eq_true', Bool.not_eq_false', Bool.not_true, Bool.not_false, Bool.not_not]; assumption)))) | ((with_reducible apply cond_t); (focus (first | assumption | rfl | decide | (simp only [bne, Bool.not_eq_true', Bool.not_eq_false', Bool.not_true, Bool.not_false, Bool.not_not]; assumption)))) | ((with_reducible apply cond_f); (focus (first | assumption | rfl | decide | (simp only [bne, Bool.not_eq_true', Bool.not_eq_false', Bool.not_true, Bool.not_false, Bool.not_not]; assumption)))) | ((with_reducible refine Q_World_Drop_R23_on (C := fun w => State _ _ w _) (Q := fun e => ∀ w, State _ _ w _ → _) st.drew ?_ (fun e w st q => q w st)); unfold Q_World_Drop_R23) | (intro w st) | (simp only [upd_get, start_get, List.getD_cons_zero, List.getD_cons_succ, Nat.reduceEqDiff, reduceIte, Nat.reduceAdd])))
      all_goals first | exact bad hh _ st.keeps | (refine Seen.next h.bornL hv hxm hnv ⟨?_, ?_, ?_⟩ st (good hh) <;> simp only [upd_get, Nat.reduceEqDiff, if_false, g0, g5, g73])
  · (repeat (first | ((with_reducible apply ext_0)) | ((with_reducible apply cond_f); (focus (first | assumption | rfl | decide | (simp only [bne, Bool.not_eq_true', Bool.not_eq_false', Bool.not_true, Bool.not_false, Bool.not_not]; assumption)))) | ((with_reducible (conv => whnf)); (simp only [upd_get, start_get, List.getD_cons_zero, List.getD_cons_succ, Nat.reduceEqDiff, reduceIte, Nat.reduceAdd]))))
    refine hgood ?_ (upd (upd e 74 (.tuple #[.bool false])) 75 (.bool false)) _ ?_ ?_ (show State _ w0 w (.obj it (iterO L.bm L.cm vis) :: R) from st).drop1
    rotate_left
    · simp [upd_get, g0]
    · simp [upd_get, g5]
    cases hh : a.things.any fun t => a.holds l t.1 t.2 with
    | false => rfl
    | true =>
      obtain ⟨t, ht, h1⟩ := List.any_eq_true.1 hh
      obtain ⟨x, hx, hk, _⟩ := h.ent_of ht
      rw [hok x (hall x hx) t ht hk] at h1; simp at h1
end
end Go.X
