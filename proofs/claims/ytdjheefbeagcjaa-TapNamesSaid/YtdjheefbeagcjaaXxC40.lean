/- Texts of this family, put together. -/
import Derived.Test.YtdjheefbeagcjaaXxC42
import Derived.Test.YtdjheefbeagcjaaXxC21
import Derived.Test.YtdjheefbeagcjaaXxS9
/- A range over a world's things, as a step of a walk. -/
set_option linter.unusedSimpArgs false
set_option linter.unusedVariables false
set_option maxRecDepth 20000
namespace Go.X
open Go Go.AW

section
variable {S : Nat → Prop} {w0 w w' : World} {L : Lay} {a : AW} {R R' : List Res} {K : Value → World → Prop} {k : Value → Prop}

theorem State.rebase (st : State S w0 w R) : State (fun b => b ∈ blksOf R) w w R := ⟨.refl, st.holds, st.apart, fun b hb => .inl hb⟩

theorem State.compose (st : State S w0 w R) (st' : State (fun b => b ∈ blksOf R) w w' R') : State S w0 w' R' := by
  refine ⟨st.keeps.trans' st'.keeps fun b hb hR => ?_, st'.holds, st'.apart, fun b hb => ?_⟩
  · rcases st.own b hR with h | h
    · exact h
    · omega
  · rcases st'.own b hb with h | h
    · exact st.own b h
    · have := st.keeps.size
      exact .inr (by omega)

theorem things_c (st : State S w0 w R) {p : Value} (hk : ∀ bt w, State S w0 w (.cells bt p.cells.toList :: R) → K (.func (.func fn_World_Things_1) #[] #[ptr bt]) w) : callOn prog fn_World_Things #[p] w K := by
  apply F_World_Things_on
  unfold F_World_Things
  exact st.box fun b w st => hk b w st

theorem State.things {bt : Nat} {B : Nat → Obj → Obj → (Code → Obj) → (Value → World → Prop) → List Value → World → Prop} {KN KR : Kont} {KE : List (Nat × Kont)} {ds : List Deferred} (st : State S w0 w R) (hbt : .cells bt [ptr L.p] ∈ R) (hm : .world L a ∈ R) (hfew : Few a)
    (I : Nat → List Res → Prop) (X : List Res → Prop) (h0 : I 0 R)
    (hround : ∀ (i : Nat) (t : Int × Wh) (Ri : List Res) (l D : Nat) (oR oB : Obj) (oD : Code → Obj) (ky : Value → World → Prop) (S' : Nat → Prop) (w0' w2 : World), a.things[i]? = some t → I i Ri → State S' w0' w2 (.obj l oR :: .obj D (.deferred (some [])) :: Ri) →
      (∀ w3 R', I (i + 1) R' → State S' w0' w3 (.obj l oB :: .obj D (.deferred (some [])) :: R') → ky (.bool true) (w3.putObj l oR)) →
      (∀ w3 R', X R' → State S' w0' w3 (.obj l oB :: .obj D (.deferred (some [])) :: R') → ky (.bool false) (w3.putObj l (oD .ret))) → B l oR oB oD ky [vi t.1, vb t.2.kind] w2)
    (hdone : ∀ D w' R', I a.things.length R' → State S w0 w' (.obj D (.deferred (some [])) :: R') → KN (mark D :: ds) w') (hstop : ∀ D w' R', X R' → State S w0 w' (.obj D (.deferred (some [])) :: R') → KR (mark D :: ds) w') :
    Go.X.rangeX prog (.func (.func fn_World_Things_1) #[] #[ptr bt]) 2 B KN KR KE ds w := by
  refine st.rangeX (by kernel_rfl) fun l D oR oB oE oD w st hyield => ?_
  have hy2 : ∀ v0 v1 w1 k, w1.heap[l]? = some oR → B l oR oB oD k [v0, v1] w1 → yieldOn prog l [v0, v1] w1 k := fun v0 v1 => hyield v0 v1
  show callOn prog fn_World_Things_1 #[.func (.yield l) #[] #[], ptr bt] w _
  have hr : WRep w L a := st.rep (.tail _ (.tail _ hm))
  refine things_1_c (st.cell (.tail _ (.tail _ hbt))) hr hfew (fun w1 i w2 => ∃ Ri, I i Ri ∧ State S w0 w2 (.obj l oR :: .obj D (.deferred (some [])) :: Ri) ∧ State (fun b => b < w.heap.size) w1 w2 (.obj l oR :: .obj D (.deferred (some [])) :: Ri)) ?_ ?_ ?_ ?_
  · intro w1 he
    exact ⟨R, h0, st.ext he, ⟨.refl, (st.ext he).holds, st.apart, fun b hb => .inl (st.lt hb)⟩⟩
  · rintro w1 i w2 ⟨Ri, _, _, s2⟩
    exact s2.keeps
  · rintro w1 i w2 t hew hti ⟨Ri, hI, s1, s2⟩
    show yieldOn prog l [vi t.1, vb t.2.kind] w2 _
    refine hy2 _ _ w2 _ (s1.holds _ (.head _)) ?_
    refine hround i t Ri l D oR oB oD _ _ w2 w2 hti hI s1.rebase (fun w3 R' hI' s3 => ?_) (fun w3 R' hX s3 => ?_)
    · have s3' := s3.putObj (o' := oR) .head
      exact .inl ⟨rfl, R', hI', s1.compose s3', s2.compose s3'⟩
    · have s3' := s3.putObj (o' := oD .ret) .head
      have s4 := s1.compose s3'
      exact .inr ⟨rfl, .inr (.inl ⟨s4.holds _ (.head _), hstop D _ R' hX ((s4.putObj .head).drop1)⟩)⟩
  · rintro w1 w2 ⟨Ri, hI, s1, _⟩
    exact .inl ⟨s1.holds _ (.head _), hdone D _ Ri hI ((s1.putObj .head).drop1)⟩
end
end Go.X
/- Contract: Lay. -/
set_option linter.unusedSimpArgs false
set_option linter.unusedVariables false
set_option maxRecDepth 20000
set_option maxHeartbeats 2000000
namespace Go.X
open Go Go.AW

/-- why nothing is laid; 0: it is -/
def layE (a : AW) (r : Int) (x : Wh) : Int :=
  match a.at r with
  | none => 5
  | some t => if x.kind = t.kind ∧ x.home = t.home ∧ x.of = t.of ∧ x.by_ = t.by_ ∧ x.set = t.set ∧ (t.full = true → x.full = true) ∧ formB a x = true then 0 else 70

section
variable {S : Nat → Prop} {w0 w : World} {L : Lay} {a : AW} {R : List Res} {K : Value → World → Prop} {k : Value → World → Prop}

theorem wlay_c {r : Int} {x : Wh} (h : WRep w L a) (hv : Plain x) (hk0 : 0 ≤ x.kind) (hset : 0 ≤ x.set ∧ x.set < 256) (h14 : x.kind ≠ 14)
    (hno : ∀ w', Ext w w' → layE a r x ≠ 0 → k (vi (layE a r x)) w') (hok : ∀ w', layE a r x = 0 → Grown w w' L L a (a.put r x) → k (vi 0) w') : callOn prog fn_World_Lay #[ptr L.p, vi r, whV x] w k := by
  apply F_World_Lay_on
  unfold F_World_Lay
  have st := State.start (S := fun _ => False) w
  cases hr : a.at r with
  | none =>
    have qi : a.is r = false := by rw [AW.is, hr]; rfl
    have hE : layE a r x = 5 := by simp [layE, hr]
    (repeat (first | ((with_reducible apply not_at)) | ((with_reducible apply cond_t); (focus (first | assumption | rfl | decide | (simp only [bne, Bool.not_eq_true', Bool.not_eq_false', Bool.not_true, Bool.not_false, Bool.not_not]; assumption)))) | ((with_reducible apply cond_f); (focus (first | assumption | rfl | decide | (simp only [bne, Bool.not_eq_true', Bool.not_eq_false', Bool.not_true, Bool.not_false, Bool.not_not]; assumption)))) | ((with_reducible apply State.boxAgg st); intro b w st) | ((with_reducible apply none_c); (focus (first | exact st.rep (by ((repeat (first | exact List.Mem.head _ | assumption | refine List.Mem.tail _ ?_)); done)) | exact h.ext st.keeps))) | ((with_reducible apply is_c); (focus (first | exact st.rep (by ((repeat (first | exact List.Mem.head _ | assumption | refine List.Mem.tail _ ?_)); done)) | exact h.ext st.keeps)))))
    have := hno _ st.keeps (by rw [hE]; decide)
    rw [hE] at this; exact this
  | some t =>
    have qi : a.is r = true := by rw [AW.is, hr]; rfl
    have fin : ∀ {w' : World}, Ext w w' → ¬ (x.kind = t.kind ∧ x.home = t.home ∧ x.of = t.of ∧ x.by_ = t.by_ ∧ x.set = t.set ∧ (t.full = true → x.full = true) ∧ formB a x = true) → k (vi 70) w' := fun he hc => by
      have hE : layE a r x = 70 := by simp only [layE, hr]; rw [if_neg hc]
      have := hno _ he (by rw [hE]; decide)
      rw [hE] at this; exact this
    (repeat' (first | ((with_reducible apply field_0)) | ((with_reducible apply field_at)) | ((with_reducible apply gop_undef)) | ((with_reducible apply neq_at)) | ((with_reducible apply not_at)) | ((with_reducible apply nil_ptr)) | ((with_reducible apply State.load1 st); (focus ((repeat (first | exact List.Mem.head _ | assumption | refine List.Mem.tail _ ?_)); done)); (focus rfl)) | ((with_reducible apply cond_t); (focus (first | assumption | rfl | decide | (simp only [bne, Bool.not_eq_true', Bool.not_eq_false', Bool.not_true, Bool.not_false, Bool.not_not]; assumption)))) | ((with_reducible apply gop_run); (focus (first | assumption | rfl | decide | (simp only [bne, Bool.not_eq_true', Bool.not_eq_false', Bool.not_true, Bool.not_false, Bool.not_not]; assumption)))) | ((with_reducible apply pick_t); (focus (first | assumption | rfl | decide | (simp only [bne, Bool.not_eq_true', Bool.not_eq_false', Bool.not_true, Bool.not_false, Bool.not_not]; assumption)))) | ((with_reducible apply cond_f); (focus (first | assumption | rfl | decide | (simp only [bne, Bool.not_eq_true', Bool.not_eq_false', Bool.not_true, Bool.not_false, Bool.not_not]; assumption)))) | ((with_reducible apply gop_skip); (focus (first | assumption | rfl | decide | (simp only [bne, Bool.not_eq_true', Bool.not_eq_false', Bool.not_true, Bool.not_false, Bool.not_not]; assumption)))) | ((with_reducible apply pick_f); (focus (first | assumption | rfl | decide | (simp only [bne, Bool.not_eq_true', Bool.not_eq_false', Bool.not_true, Bool.not_false, Bool.not_not]; assumption)))) | ((with_reducible apply State.loadAll st); (focus ((repeat (first | exact List.Mem.head _ | assumption | refine List.Mem.tail _ ?_)); done)); (focus (first | (simp [whCells, valL, over_length, Value.cells]; done) | omega))) | ((with_reducible apply State.boxAgg st); intro b w st) | ((with_reducible apply load_top); (focus (first | exact st.rep (by ((repeat (first | exact List.Mem.head _ | assumption | refine List.Mem.tail _ ?_)); done)) | exact h.ext st.keeps)); (focus rfl)) | ((with_reducible apply look_at); (focus (first | exact st.rep (by ((repeat (first | exact List.Mem.head _ | assumption | refine List.Mem.tail _ ?_)); done)) | exact h.ext st.keeps)); (focus assumption)) | ((with_reducible apply load_thing); (focus (first | exact st.rep (by ((repeat (first | exact List.Mem.head _ | assumption | refine List.Mem.tail _ ?_)); done)) | exact h.ext st.keeps)); (focus assumption); (focus rfl)) | ((with_reducible apply none_c); (focus (first | exact st.rep (by ((repeat (first | exact List.Mem.head _ | assumption | refine List.Mem.tail _ ?_)); done)) | exact h.ext st.keeps))) | ((with_reducible apply is_c); (focus (first | exact st.rep (by ((repeat (first | exact List.Mem.head _ | assumption | refine List.Mem.tail _ ?_)); done)) | exact h.ext st.keeps))) | ((with_reducible apply form_c); (focus (first | exact st.rep (by ((repeat (first | exact List.Mem.head _ | assumption | refine List.Mem.tail _ ?_)); done)) | exact h.ext st.keeps)); (focus assumption); (focus assumption); (focus assumption); intro w he; have st := st.ext he) | ((with_reducible apply names_c); (focus assumption); intro w he; have st := st.ext he) | ((with_reducible apply ownWhat_c); (focus assumption); intro w he; have st := st.ext he) | (simp only [upd_get, start_get, List.getD_cons_zero, List.getD_cons_succ, Nat.reduceEqDiff, reduceIte, Nat.reduceAdd]) | ((with_reducible apply State.atDrew st); intro w st) | ((with_reducible apply gop_split) <;> intro q <;> (try simp only [Bool.not_true, Bool.not_false] at q)) | ((with_reducible apply cond_split) <;> intro q)))
    all_goals first
      | (refine fin st.keeps fun hc => ?_; simp_all; done)
      | (have hc : x.kind = t.kind ∧ x.home = t.home ∧ x.of = t.of ∧ x.by_ = t.by_ ∧ x.set = t.set ∧ (t.full = true → x.full = true) ∧ formB a x = true := by simp_all
         have hE : layE a r x = 0 := by simp only [layE, hr]; rw [if_pos hc]
         refine State.putAll (st.own_world h) .head hr (by rw [← hc.1]; exact h14) h14 fun w st => ?_
         exact hok w hE (st.toGrown (.head _) rfl))

theorem State.lay {r : Int} {x : Wh} {R' : List Res} (st : State S w0 w R) (hs : Sub (.world L a) (.world L (a.put r x)) R R') (hv : Plain x) (hk0 : 0 ≤ x.kind) (hset : 0 ≤ x.set ∧ x.set < 256) (h14 : x.kind ≠ 14) (hE : layE a r x = 0)
    (hk : ∀ w, State S w0 w R' → K (vi 0) w) : callOn prog fn_World_Lay #[ptr L.p, vi r, whV x] w K :=
  wlay_c (st.rep hs.mem) hv hk0 hset h14 (fun _ _ h => absurd hE h) fun w' _ g => hk w' (st.grown g hs)
end
end Go.X
