/- Contracts of the package of purses: the purses of a mint, their sum, the check. -/
import Derived.Test.YtdjheefbeagcjaaXxC43
import Derived.Test.YtdjheefbeagcjaaXxC45
set_option linter.unusedSimpArgs false
set_option linter.unusedVariables false
set_option maxRecDepth 20000
set_option maxHeartbeats 1000000
namespace Go.X
open Go Go.AW

def isPurse (m : Int) (t : Int × Wh) : Bool := t.2.kind == 9 && t.2.of == m
/-- the purses of a mint, in order -/
def pursesOf (a : AW) (m : Int) : List (Int × Wh) := a.things.filter (isPurse m)

theorem filter_take_yes {α : Type} {p : α → Bool} {l : List α} {i : Nat} {t : α} (h : l[i]? = some t) (hp : p t = true) : (l.take (i + 1)).filter p = (l.take i).filter p ++ [t] := by
  rw [List.take_add_one, h, List.filter_append]
  simp [hp]
theorem filter_take_no {α : Type} {p : α → Bool} {l : List α} {i : Nat} {t : α} (h : l[i]? = some t) (hp : p t = false) : (l.take (i + 1)).filter p = (l.take i).filter p := by
  rw [List.take_add_one, h, List.filter_append]
  simp [hp]

section
variable {S : Nat → Prop} {w0 w : World} {L : Lay} {a : AW} {R : List Res} {K : Value → World → Prop} {k : Value → World → Prop}

theorem SliceOf.one {v : Value} {l : List Value} (h : SliceOf w v l) : v.oneCell' = true := by
  unfold SliceOf at h
  split at h
  · rfl
  · rfl
  · exact h.elim

theorem State.purses {m : Int} {x : Wh} (st : State S w0 w R) (hm : .world L a ∈ R) (hg : Good a) (hat : a.at m = some x) (hx : x.kind = 8) (hk : ∀ v w, State S w0 w (.slice v ((pursesOf a m).map fun t => vi t.1) :: R) → K (.tuple #[v, vi 0]) w) :
    callOn prog fn_purse_Purses #[ptr L.p, vi m] w K := by
  apply F_purse_Purses_on
  unfold F_purse_Purses
  have hlen := things_few (st.rep hm) hg.few
  refine st.box fun b2 w st => ?_
  refine st.box fun b3 w st => ?_
  (repeat (first | ((with_reducible apply State.load1 st); (focus ((repeat (first | exact List.Mem.head _ | assumption | refine List.Mem.tail _ ?_)); done)); (focus rfl)) | (simp only [upd_get, start_get, List.getD_cons_zero, List.getD_cons_succ, Nat.reduceEqDiff, reduceIte, Nat.reduceAdd])))
  refine st.findYes (.tail _ (.tail _ hm)) (.inl rfl) hat (hg.plain _ (lookup_mem hat)) fun w st => ?_
  rw [if_pos hx]
  (repeat (first | ((with_reducible apply neq_at)) | ((with_reducible apply ext_0)) | ((with_reducible apply ext_1)) | ((with_reducible apply State.load1 st); (focus ((repeat (first | exact List.Mem.head _ | assumption | refine List.Mem.tail _ ?_)); done)); (focus rfl)) | ((with_reducible apply cond_f); (focus (first | assumption | rfl | decide | (simp only [bne, Bool.not_eq_true', Bool.not_eq_false', Bool.not_true, Bool.not_false, Bool.not_not]; assumption)))) | ((with_reducible apply State.allocAgg st); intro b w st) | ((with_reducible apply State.alloc st); intro b w st) | ((with_reducible apply State.storeAll st); (focus ((repeat (first | exact Sub.head | apply Sub.tail)); done)); (focus (first | (simp [whCells, valL, over_length, Value.cells]; done) | omega)); (focus (first | (simp [whCells, valL, over_length, Value.cells]; done) | omega)); (focus (first | rfl | assumption | (simp [whCells, valL, Value.oneCell', Value.cells]; done))); intro w st)))
  have st := st.sub (.cons_cons _ (.cons _ (.refl _)))
  generalize b = c8 at st ⊢
  refine things_c st fun bt w st => ?_
  have st := st.pushNone
  refine st.things (bt := bt) (.tail _ (.head _)) (.tail _ (.tail _ (.tail _ (.tail _ (.tail _ hm))))) hg.few
    (fun i Ri => ∃ s, Ri = .slice s (((a.things.take i).filter (isPurse m)).map fun t => vi t.1) :: .cells bt [ptr L.p] :: .cells c8 [s] :: .cells b3 [vi m] :: .cells b2 [ptr L.p] :: R) (fun _ => False) ⟨noList, rfl⟩ ?_ ?_ (fun _ _ _ h => h.elim)
  · rintro i t Ri l D oR oB oD ky S' w0' w2 hti ⟨s, rfl⟩ st hyes hno
    have ht : t ∈ a.things := List.mem_of_getElem? hti
    have hatt : a.at t.1 = some t.2 := (st.rep (.tail _ (.tail _ (.tail _ (.tail _ (.tail _ (.tail _ (.tail _ hm)))))))).at_mem ht
    have hil : i < a.things.length := (List.getElem?_eq_some_iff.1 hti).1
    refine ⟨st.holds _ (.head _), ?_⟩
    have st := st.putObj (o' := oB) .head
    generalize w2.putObj l oB = w at st ⊢
    (simp only [updL, upd_get, start_get, List.getD_cons_zero, List.getD_cons_succ, Nat.reduceEqDiff, reduceIte, Nat.reduceAdd])
    by_cases hkd : t.2.kind = 9
    · have q1 : (t.2.kind != 9) = false := by simpa using hkd
      (repeat (first | ((with_reducible apply neq_at)) | ((with_reducible apply State.load1 st); (focus ((repeat (first | exact List.Mem.head _ | assumption | refine List.Mem.tail _ ?_)); done)); (focus rfl)) | ((with_reducible apply cond_f); (focus (first | assumption | rfl | decide | (simp only [bne, Bool.not_eq_true', Bool.not_eq_false', Bool.not_true, Bool.not_false, Bool.not_not]; assumption))))))
      refine what_c (st.rep (by ((repeat (first | exact List.Mem.head _ | assumption | refine List.Mem.tail _ ?_)); done))) hatt (hg.plain _ ht) fun w he => ?_
      have st := st.ext he
      by_cases hof : t.2.of = m
      · have q2 : (t.2.of == m) = true := by simpa using hof
        have hp : isPurse m t = true := by simp [isPurse, hkd, hof]
        (repeat (first | ((with_reducible apply field_at)) | ((with_reducible apply eql_at)) | ((with_reducible apply ext_0)) | ((with_reducible apply ext_1)) | ((with_reducible apply State.load1 st); (focus ((repeat (first | exact List.Mem.head _ | assumption | refine List.Mem.tail _ ?_)); done)); (focus rfl)) | ((with_reducible apply cond_t); (focus (first | assumption | rfl | decide | (simp only [bne, Bool.not_eq_true', Bool.not_eq_false', Bool.not_true, Bool.not_false, Bool.not_not]; assumption)))) | ((with_reducible apply State.allocAgg st); intro b w st) | ((with_reducible apply State.storeAll st); (focus ((repeat (first | exact Sub.head | apply Sub.tail)); done)); (focus (first | (simp [whCells, valL, over_length, Value.cells]; done) | omega)); (focus (first | (simp [whCells, valL, over_length, Value.cells]; done) | omega)); (focus (first | rfl | assumption | (simp [whCells, valL, Value.oneCell', Value.cells]; done))); intro w st)))
        refine buildL_intro (cs := [vi t.1]) (by omega) (by kernel_rfl) rfl fun _ w3 he3 _ _ _ hs3 => ?_
        have st := st.ext he3
        refine st.append (fun s' => _ :: .obj l oB :: .obj D (.deferred (some [])) :: .slice s' ((((a.things.take i).filter (isPurse m)).map fun t => vi t.1) ++ [vi t.1]) :: .cells bt [ptr L.p] :: .cells c8 [s] :: .cells b3 [vi m] :: .cells b2 [ptr L.p] :: R)
          (fun s' => .tail (.tail (.tail .head))) hs3.reads (by simp [Value.oneCell']) rfl ?_ ?_ fun s' w st => ?_
        · have h1 := List.length_filter_le (isPurse m) (a.things.take i)
          simp at h1 ⊢; omega
        · have h1 := List.length_filter_le (isPurse m) (a.things.take i)
          simp at h1 ⊢; omega
        have hone := (st.sl (.tail _ (.tail _ (.tail _ (.head _))))).one
        (repeat (first | ((with_reducible apply State.store1 st); (focus ((repeat (first | exact Sub.head | apply Sub.tail)); done)); (focus (first | (simp [whCells, valL, over_length, Value.cells]; done) | omega)); (focus (first | rfl | assumption | (simp [whCells, valL, Value.oneCell', Value.cells]; done))); intro w st)))
        refine ⟨st.holds (.obj l oB) (by ((repeat (first | exact List.Mem.head _ | assumption | refine List.Mem.tail _ ?_)); done)), hyes w _ ⟨s', ?_⟩ st.drop1⟩
        rw [filter_take_yes hti hp]
        simp
      · have q2 : (t.2.of == m) = false := by simpa using hof
        have hp : isPurse m t = false := by simp [isPurse, hof]
        (repeat (first | ((with_reducible apply field_at)) | ((with_reducible apply eql_at)) | ((with_reducible apply ext_0)) | ((with_reducible apply ext_1)) | ((with_reducible apply State.load1 st); (focus ((repeat (first | exact List.Mem.head _ | assumption | refine List.Mem.tail _ ?_)); done)); (focus rfl)) | ((with_reducible apply cond_f); (focus (first | assumption | rfl | decide | (simp only [bne, Bool.not_eq_true', Bool.not_eq_false', Bool.not_true, Bool.not_false, Bool.not_not]; assumption)))) | ((with_reducible apply State.allocAgg st); intro b w st) | ((with_reducible apply State.storeAll st); (focus ((repeat (first | exact Sub.head | apply Sub.tail)); done)); (focus (first | (simp [whCells, valL, over_length, Value.cells]; done) | omega)); (focus (first | (simp [whCells, valL, over_length, Value.cells]; done) | omega)); (focus (first | rfl | assumption | (simp [whCells, valL, Value.oneCell', Value.cells]; done))); intro w st)))
        refine ⟨st.holds (.obj l oB) (by ((repeat (first | exact List.Mem.head _ | assumption | refine List.Mem.tail _ ?_)); done)), hyes w _ ⟨s, ?_⟩ st.drop1⟩
        rw [filter_take_no hti hp]
    · have q1 : (t.2.kind != 9) = true := by simpa using hkd
      have hp : isPurse m t = false := by simp [isPurse, hkd]
      (repeat (first | ((with_reducible apply neq_at)) | ((with_reducible apply cond_t); (focus (first | assumption | rfl | decide | (simp only [bne, Bool.not_eq_true', Bool.not_eq_false', Bool.not_true, Bool.not_false, Bool.not_not]; assumption))))))
      refine ⟨st.holds (.obj l oB) (by ((repeat (first | exact List.Mem.head _ | assumption | refine List.Mem.tail _ ?_)); done)), hyes w _ ⟨s, ?_⟩ st⟩
      rw [filter_take_no hti hp]
  · rintro D w' R' ⟨s, rfl⟩ st
    have hall : (a.things.take a.things.length).filter (isPurse m) = pursesOf a m := by rw [List.take_length]; rfl
    rw [hall] at st
    (repeat (first | ((with_reducible apply State.load1 st); (focus ((repeat (first | exact List.Mem.head _ | assumption | refine List.Mem.tail _ ?_)); done)); (focus rfl))))
    refine st.leave1 .head fun w st => ?_
    exact hk _ _ (st.sub (.cons _ (.cons_cons _ (.cons _ (.cons _ (.cons _ (.cons _ (.refl _))))))))

/-- what the purses of a mint have together -/
def sumOf (a : AW) (m : Int) : Int := ((pursesOf a m).map fun t => t.2.n).sum

theorem sum_take {l : List Int} (hx : ∀ x ∈ l, 0 ≤ x) (i : Nat) : 0 ≤ (l.take i).sum ∧ (l.take i).sum ≤ l.sum := by
  have pos : ∀ {l : List Int}, (∀ x ∈ l, 0 ≤ x) → 0 ≤ l.sum := by
    intro l h
    induction l with
    | nil => simp
    | cons x l ih => have := h x (by simp); have := ih fun y hy => h y (by simp [hy]); simp only [List.sum_cons]; omega
  have h1 : l.sum = (l.take i).sum + (l.drop i).sum := by rw [← List.sum_append, List.take_append_drop]
  have h2 := pos (l := l.take i) fun x h => hx x (List.mem_of_mem_take h)
  have h3 := pos (l := l.drop i) fun x h => hx x (List.mem_of_mem_drop h)
  omega

theorem min_at {x y : Int} {k : Value → Prop} (h : x ≤ y) (hk : k (vi x)) : minK [vi x, vi y] k := by
  show k (.int .i64 (if y < x then y else x))
  rw [if_neg (by omega)]; exact hk

theorem State.sum {m : Int} {x : Wh} (st : State S w0 w R) (hm : .world L a ∈ R) (hg : Good a) (hat : a.at m = some x) (hx : x.kind = 8) (hpos : ∀ t ∈ pursesOf a m, 0 ≤ t.2.n) (htot : sumOf a m ≤ 9007199254740992)
    (hk : ∀ w, State S w0 w R → K (.tuple #[vi (sumOf a m), vi x.lost, vi x.n, vi 0]) w) : callOn prog fn_purse_Sum #[ptr L.p, vi m] w K := by
  apply F_purse_Sum_on
  unfold F_purse_Sum
  have hlen := things_few (st.rep hm) hg.few
  have hpl : (pursesOf a m).length ≤ a.things.length := List.length_filter_le _ _
  refine st.purses hm hg hat hx fun v w st => ?_
  have hs := st.sl (.head _)
  (repeat (first | ((with_reducible apply neq_at)) | ((with_reducible apply ext_0)) | ((with_reducible apply ext_1)) | ((with_reducible apply cond_f); (focus (first | assumption | rfl | decide | (simp only [bne, Bool.not_eq_true', Bool.not_eq_false', Bool.not_true, Bool.not_false, Bool.not_not]; assumption))))))
  rw [hs.lenL]
  simp only [List.length_map]
  refine ⟨fun n e w' => ∃ i : Nat, n = (pursesOf a m).length - i ∧ i ≤ (pursesOf a m).length ∧ e 0 = ptr L.p ∧ e 1 = vi m ∧ e 4 = vi (((pursesOf a m).map fun t => t.2.n).take i).sum ∧ e 24 = v ∧ e 25 = vi (pursesOf a m).length ∧ e 26 = vi i ∧
    State S w0 w' (.slice v ((pursesOf a m).map fun t => vi t.1) :: R), (pursesOf a m).length, ⟨0, by omega, by omega, by simp [upd_get, start_get], by simp [upd_get, start_get], by simp [upd_get], by simp [upd_get], by simp [upd_get], by simp [upd_get], st⟩, ?_⟩
  clear st hs
  rintro n e w1 ⟨i, rfl, hi, g0, g1, g4, g24, g25, g26, st⟩
  simp only [g0, g1, g4, g24, g25, g26]
  have hb := sum_take (l := (pursesOf a m).map fun t => t.2.n) (fun x hx => by obtain ⟨t, ht, rfl⟩ := List.mem_map.1 hx; exact hpos t ht) i
  have hb1 := sum_take (l := (pursesOf a m).map fun t => t.2.n) (fun x hx => by obtain ⟨t, ht, rfl⟩ := List.mem_map.1 hx; exact hpos t ht) (i + 1)
  have htot' : ((pursesOf a m).map fun t => t.2.n).sum ≤ 9007199254740992 := htot
  by_cases hil : i < (pursesOf a m).length
  · have q1 : decide ((i : Int) < ((pursesOf a m).length : Int)) = true := by simp; omega
    have hmem := List.getElem_mem hil
    have hmt : (pursesOf a m)[i] ∈ a.things := (List.mem_filter.1 hmem).1
    have hkd : (pursesOf a m)[i].2.kind = 9 := by
      have := (List.mem_filter.1 hmem).2
      simp [isPurse] at this; exact this.1
    have hatt : a.at (pursesOf a m)[i].1 = some (pursesOf a m)[i].2 := (st.rep (.tail _ hm)).at_mem hmt
    have hsucc : (((pursesOf a m).map fun t => t.2.n).take (i + 1)).sum = (((pursesOf a m).map fun t => t.2.n).take i).sum + (pursesOf a m)[i].2.n := by
      rw [List.take_add_one, List.getElem?_map, List.getElem?_eq_getElem hil]
      simp only [Option.map_some, Option.toList_some, List.sum_append, List.sum_cons, List.sum_nil]; omega
    refine lss_at (cond_t q1 ?_)
    refine at_val' (st.sl (.head _)).reads (by omega) (by simp; omega) fun b j hrd => ?_
    have hgd : ((pursesOf a m).map fun t => vi t.1).getD ((i : Int)).toNat undef = vi (pursesOf a m)[i].1 := by simp [List.getD_eq_getElem?_getD, hil]
    rw [hgd] at hrd
    refine load_reads hrd ?_
    refine st.getYes (.tail _ hm) hatt hkd (hg.plain _ hmt) fun w st => ?_
    (repeat (first | ((with_reducible apply ext_0)) | ((with_reducible apply ext_1)) | ((with_reducible apply sub_at); (focus omega); (focus omega)) | (simp only [upd_get, start_get, List.getD_cons_zero, List.getD_cons_succ, Nat.reduceEqDiff, reduceIte, Nat.reduceAdd])))
    refine min_at (by omega) ?_
    (repeat (first | ((with_reducible apply add_at); (focus omega); (focus omega))))
    exact ⟨(pursesOf a m).length - (i + 1), by omega, i + 1, rfl, by omega, by simp [upd_get, g0], by simp [upd_get, g1], by simp [upd_get, hsucc], by simp [upd_get, g24], by simp [upd_get, g25], by simp [upd_get], st⟩
  · have q1 : decide ((i : Int) < ((pursesOf a m).length : Int)) = false := by simp; omega
    have hie : i = (pursesOf a m).length := by omega
    subst hie
    have hfull : (((pursesOf a m).map fun t => t.2.n).take (pursesOf a m).length).sum = sumOf a m := by rw [List.take_of_length_le (by simp)]; rfl
    refine lss_at (cond_f q1 ?_)
    refine what_c (st.rep (.tail _ hm)) hat (hg.plain _ (lookup_mem hat)) fun w he => ?_
    have st := st.ext he
    (repeat (first | ((with_reducible apply field_at)) | ((with_reducible apply ext_0)) | ((with_reducible apply ext_1)) | ((with_reducible apply State.load1 st); (focus ((repeat (first | exact List.Mem.head _ | assumption | refine List.Mem.tail _ ?_)); done)); (focus rfl)) | ((with_reducible apply State.allocAgg st); intro b w st) | ((with_reducible apply State.storeAll st); (focus ((repeat (first | exact Sub.head | apply Sub.tail)); done)); (focus (first | (simp [whCells, valL, over_length, Value.cells]; done) | omega)); (focus (first | (simp [whCells, valL, over_length, Value.cells]; done) | omega)); (focus (first | rfl | assumption | (simp [whCells, valL, Value.oneCell', Value.cells]; done))); intro w st) | ((with_reducible apply State.atDrew st); intro w st)))
    rw [hfull]
    exact hk _ (st.drop1.drop1)

/-- every mint's purses have what it has made, less what was lost -/
def Balanced (a : AW) : Prop := ∀ t ∈ a.things, t.2.kind = 8 → (∀ p ∈ pursesOf a t.1, 0 ≤ p.2.n) ∧ sumOf a t.1 = t.2.n - t.2.lost ∧ 0 ≤ t.2.lost ∧ t.2.lost ≤ t.2.n ∧ t.2.n ≤ 9007199254740992

theorem State.check (st : State S w0 w R) (hm : .world L a ∈ R) (hg : Good a) (hbal : Balanced a) (hsd : a.sides ≠ 0) (hk : ∀ w, State S w0 w R → K (vi 0) w) : callOn prog fn_purse_Check #[ptr L.p] w K := by
  apply F_purse_Check_on
  unfold F_purse_Check
  refine st.box fun b1 w st => ?_
  refine st.alloc fun b2 w st => ?_
  have q0 : (a.sides == 0) = false := by simpa using hsd
  (repeat (first | ((with_reducible apply eql_at)) | ((with_reducible apply ptr_eql)) | ((with_reducible apply State.load1 st); (focus ((repeat (first | exact List.Mem.head _ | assumption | refine List.Mem.tail _ ?_)); done)); (focus rfl)) | ((with_reducible apply gop_run); (focus (first | assumption | rfl | decide | (simp only [bne, Bool.not_eq_true', Bool.not_eq_false', Bool.not_true, Bool.not_false, Bool.not_not]; assumption)))) | ((with_reducible apply cond_f); (focus (first | assumption | rfl | decide | (simp only [bne, Bool.not_eq_true', Bool.not_eq_false', Bool.not_true, Bool.not_false, Bool.not_not]; assumption)))) | ((with_reducible apply pick_f); (focus (first | assumption | rfl | decide | (simp only [bne, Bool.not_eq_true', Bool.not_eq_false', Bool.not_true, Bool.not_false, Bool.not_not]; assumption)))) | ((with_reducible apply sides_c); (focus (first | exact st.rep (by ((repeat (first | exact List.Mem.head _ | assumption | refine List.Mem.tail _ ?_)); done)) | exact h.ext st.keeps))) | (simp only [upd_get, start_get, List.getD_cons_zero, List.getD_cons_succ, Nat.reduceEqDiff, reduceIte, Nat.reduceAdd])))
  refine things_c st fun bt w st => ?_
  refine st.things (bt := bt) (.head _) (.tail _ (.tail _ (.tail _ hm))) hg.few (fun i Ri => Ri = .cells bt [ptr L.p] :: .cells b2 [vi 0] :: .cells b1 [ptr L.p] :: R) (fun _ => False) rfl ?_ ?_ (fun _ _ _ h => h.elim)
  · rintro i t Ri l D oR oB oD ky S' w0' w2 hti rfl st hyes hno
    have ht : t ∈ a.things := List.mem_of_getElem? hti
    have hatt : a.at t.1 = some t.2 := (st.rep (.tail _ (.tail _ (.tail _ (.tail _ (.tail _ hm)))))).at_mem ht
    refine ⟨st.holds _ (.head _), ?_⟩
    have st := st.putObj (o' := oB) .head
    generalize w2.putObj l oB = w at st ⊢
    (simp only [updL, upd_get, start_get, List.getD_cons_zero, List.getD_cons_succ, Nat.reduceEqDiff, reduceIte, Nat.reduceAdd])
    by_cases hkd : t.2.kind = 8
    · have q1 : (t.2.kind != 8) = false := by simpa using hkd
      obtain ⟨h1, h2, h3, h4, h5⟩ := hbal t ht hkd
      have q2 : (t.2.n - t.2.lost != sumOf a t.1) = false := by simp [h2]
      (repeat (first | ((with_reducible apply neq_at)) | ((with_reducible apply State.load1 st); (focus ((repeat (first | exact List.Mem.head _ | assumption | refine List.Mem.tail _ ?_)); done)); (focus rfl)) | ((with_reducible apply cond_f); (focus (first | assumption | rfl | decide | (simp only [bne, Bool.not_eq_true', Bool.not_eq_false', Bool.not_true, Bool.not_false, Bool.not_not]; assumption))))))
      refine st.sum (by ((repeat (first | exact List.Mem.head _ | assumption | refine List.Mem.tail _ ?_)); done)) hg hatt hkd h1 (by omega) fun w st => ?_
      (repeat (first | ((with_reducible apply neq_at)) | ((with_reducible apply ext_0)) | ((with_reducible apply ext_1)) | ((with_reducible apply ext_2)) | ((with_reducible apply ext_3)) | ((with_reducible apply cond_f); (focus (first | assumption | rfl | decide | (simp only [bne, Bool.not_eq_true', Bool.not_eq_false', Bool.not_true, Bool.not_false, Bool.not_not]; assumption)))) | ((with_reducible apply sub_at); (focus omega); (focus omega))))
      exact ⟨st.holds _ (.head _), hyes w _ rfl st⟩
    · have q1 : (t.2.kind != 8) = true := by simpa using hkd
      (repeat (first | ((with_reducible apply neq_at)) | ((with_reducible apply cond_t); (focus (first | assumption | rfl | decide | (simp only [bne, Bool.not_eq_true', Bool.not_eq_false', Bool.not_true, Bool.not_false, Bool.not_not]; assumption))))))
      exact ⟨st.holds _ (.head _), hyes w _ rfl st⟩
  · rintro D w' R' rfl st
    (repeat (first | ((with_reducible apply State.store1 st); (focus ((repeat (first | exact Sub.head | apply Sub.tail)); done)); (focus (first | (simp [whCells, valL, over_length, Value.cells]; done) | omega)); (focus (first | rfl | assumption | (simp [whCells, valL, Value.oneCell', Value.cells]; done))); intro w st)))
    refine st.leave1 .head fun w st => ?_
    (repeat (first | ((with_reducible apply State.load1 st); (focus ((repeat (first | exact List.Mem.head _ | assumption | refine List.Mem.tail _ ?_)); done)); (focus rfl))))
    exact hk _ (st.drop1.drop1.drop1.drop1)
end
end Go.X
