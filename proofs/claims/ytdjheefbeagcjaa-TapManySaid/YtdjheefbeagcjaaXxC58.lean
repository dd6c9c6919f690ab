/- Texts of this family, put together. -/
import Derived.Test.YtdjheefbeagcjaaXxC46
import Derived.Test.YtdjheefbeagcjaaXxC55
import Derived.Test.YtdjheefbeagcjaaXxS11
/- Contracts of the package of taps. -/
set_option linter.unusedSimpArgs false
set_option linter.unusedVariables false
set_option maxRecDepth 20000
set_option maxHeartbeats 2000000
namespace Go.X
open Go Go.AW

/-- a tally of a side; a tap of a thing, with its tally -/
abbrev tallyS (s n : Int) : Wh := { Wh.zero with kind := 3, home := s, n := n }
abbrev tapS (s r t : Int) : Wh := { Wh.zero with kind := 16, home := s, of := r, by_ := t }
/-- one more, if there is room -/
def tick (n : Int) : Int := if 9007199254740992 < n + 1 then 9007199254740992 else n + 1

section
variable {S : Nat → Prop} {w0 w : World} {L : Lay} {a : AW} {R : List Res} {K : Value → World → Prop} {k : Value → Prop}

theorem min_tick {n : Int} (h : k (vi (tick n))) : minK [vi (n + 1), vi 9007199254740992] k := h

theorem State.count {t : Int} {x y : Wh} (st : State S w0 w (.world L a :: R)) (hat : a.at t = some x) (hpx : Plain x) (hby : a.at x.by_ = some y) (hpy : Plain y) (hset : 0 ≤ y.set ∧ y.set < 256) (hk0 : 0 ≤ y.kind) (h14 : y.kind ≠ 14)
    (hn : 0 ≤ y.n ∧ y.n ≤ 9007199254740992) (hL : layE a x.by_ (withN y (tick y.n)) = 0) (hk : ∀ w, State S w0 w (.world L (a.put x.by_ (withN y (tick y.n))) :: R) → K (.tuple #[]) w) :
    callOn prog fn_counter_count #[.agg #[ptr L.p], vi t] w K := by
  apply F_counter_count_on
  unfold F_counter_count
  refine State.boxAgg (l := [ptr L.p]) st fun b w st => ?_
  (repeat (first | ((with_reducible apply field_0)) | ((with_reducible apply State.load1 st); (focus ((repeat (first | exact List.Mem.head _ | assumption | refine List.Mem.tail _ ?_)); done)); (focus rfl))))
  refine what_c (st.rep (.tail _ (.head _))) hat hpx fun w he => ?_
  have st := st.ext he
  (repeat (first | ((with_reducible apply field_0)) | ((with_reducible apply field_at)) | ((with_reducible apply ext_0)) | ((with_reducible apply ext_1)) | ((with_reducible apply State.load1 st); (focus ((repeat (first | exact List.Mem.head _ | assumption | refine List.Mem.tail _ ?_)); done)); (focus rfl)) | ((with_reducible apply State.allocAgg st); intro b w st) | ((with_reducible apply State.storeAll st); (focus ((repeat (first | exact Sub.head | apply Sub.tail)); done)); (focus (first | (simp [whCells, valL, over_length, Value.cells]; done) | omega)); (focus (first | (simp [whCells, valL, over_length, Value.cells]; done) | omega)); (focus (first | rfl | assumption | (simp [whCells, valL, Value.oneCell', Value.cells]; done))); intro w st)))
  refine what_c (st.rep (.tail _ (.tail _ (.head _)))) hby hpy fun w he => ?_
  have st := st.ext he
  (repeat (first | ((with_reducible apply field_at)) | ((with_reducible apply ext_0)) | ((with_reducible apply ext_1)) | ((with_reducible apply State.load1 st); (focus ((repeat (first | exact List.Mem.head _ | assumption | refine List.Mem.tail _ ?_)); done)); (focus rfl)) | ((with_reducible apply State.allocAgg st); intro b w st) | ((with_reducible apply State.storeAll st); (focus ((repeat (first | exact Sub.head | apply Sub.tail)); done)); (focus (first | (simp [whCells, valL, over_length, Value.cells]; done) | omega)); (focus (first | (simp [whCells, valL, over_length, Value.cells]; done) | omega)); (focus (first | rfl | assumption | (simp [whCells, valL, Value.oneCell', Value.cells]; done))); intro w st) | ((with_reducible apply add_at); (focus omega); (focus omega))))
  refine min_tick ?_
  (repeat (first | ((with_reducible apply field_0)) | ((with_reducible apply field_at)) | ((with_reducible apply State.load1 st); (focus ((repeat (first | exact List.Mem.head _ | assumption | refine List.Mem.tail _ ?_)); done)); (focus rfl)) | ((with_reducible apply State.loadAll st); (focus ((repeat (first | exact List.Mem.head _ | assumption | refine List.Mem.tail _ ?_)); done)); (focus (first | (simp [whCells, valL, over_length, Value.cells]; done) | omega))) | ((with_reducible apply State.store1 st); (focus ((repeat (first | exact Sub.head | apply Sub.tail)); done)); (focus (first | (simp [whCells, valL, over_length, Value.cells]; done) | omega)); (focus (first | rfl | assumption | (simp [whCells, valL, Value.oneCell', Value.cells]; done))); intro w st) | (simp only [upd_get, start_get, List.getD_cons_zero, List.getD_cons_succ, Nat.reduceEqDiff, reduceIte, Nat.reduceAdd])))
  refine State.lay (x := withN y (tick y.n)) (r := x.by_) st (.tail (.tail (.tail .head))) hpy hk0 hset h14 hL fun w st => ?_
  exact hk _ st.drop1.drop1.drop1

theorem State.tapMade {x : Wh} {R' : Lay → List Res} (st : State S w0 w R) (hs : ∀ L', Sub (.world L a) (.world L' (a.make x)) R (R' L')) (hg : Good a) (hp : Plain x) (hk0 : 0 ≤ x.kind ∧ 0 ≤ x.set ∧ x.set < 256) (hop : x.kind = 6 ∨ x.kind = 11 → a.is x.of = false) (hE : makeE a x = 0)
    (hk : ∀ w L', L'.p = L.p → State S w0 w (R' L') → K (.tuple #[vi (a.last + 1), vi 0]) w) : callOn prog fn_tap_made #[ptr L.p, whV x] w K := by
  apply F_tap_made_on
  unfold F_tap_made
  (repeat (first | ((with_reducible apply ptr_eql)) | ((with_reducible apply cond_f); (focus (first | assumption | rfl | decide | (simp only [bne, Bool.not_eq_true', Bool.not_eq_false', Bool.not_true, Bool.not_false, Bool.not_not]; assumption)))) | ((with_reducible apply State.loadAll st); (focus ((repeat (first | exact List.Mem.head _ | assumption | refine List.Mem.tail _ ?_)); done)); (focus (first | (simp [whCells, valL, over_length, Value.cells]; done) | omega))) | ((with_reducible apply State.boxAgg st); intro b w st)))
  refine st.make (R' := fun L' => .cells _ (whCells x) :: R' L') (fun L' => .tail (hs L')) hg hp hk0 hop hE fun w L' hp st => ?_
  (repeat (first | ((with_reducible apply ext_0)) | ((with_reducible apply ext_1))))
  exact hk _ _ hp st.drop1

theorem State.tapMadeNo {x : Wh} {e : Int} (st : State S w0 w R) (hm : .world L a ∈ R) (hg : Good a) (hp : Plain x) (hk0 : 0 ≤ x.kind ∧ 0 ≤ x.set ∧ x.set < 256) (hop : x.kind = 6 ∨ x.kind = 11 → a.is x.of = false) (hE : makeE a x = e) (he : e ≠ 0)
    (hk : ∀ w, State S w0 w R → K (.tuple #[vi 0, vi e]) w) : callOn prog fn_tap_made #[ptr L.p, whV x] w K := by
  apply F_tap_made_on
  unfold F_tap_made
  (repeat (first | ((with_reducible apply ptr_eql)) | ((with_reducible apply cond_f); (focus (first | assumption | rfl | decide | (simp only [bne, Bool.not_eq_true', Bool.not_eq_false', Bool.not_true, Bool.not_false, Bool.not_not]; assumption)))) | ((with_reducible apply State.loadAll st); (focus ((repeat (first | exact List.Mem.head _ | assumption | refine List.Mem.tail _ ?_)); done)); (focus (first | (simp [whCells, valL, over_length, Value.cells]; done) | omega))) | ((with_reducible apply State.boxAgg st); intro b w st)))
  refine st.makeNo (.tail _ hm) hg hp hk0 hop hE he fun w st => ?_
  (repeat (first | ((with_reducible apply ext_0)) | ((with_reducible apply ext_1))))
  exact hk _ st.drop1

theorem tapMay_ok {s r : Int} (h : WRep w L a) (hs : a.side s = true) (hr : a.is r = true) (hk : K (vi 0) w) : callOn prog fn_tap_may #[ptr L.p, vi s, vi r] w K := by
  apply F_tap_may_on
  unfold F_tap_may
  have st := State.start (S := fun _ => False) w
  have hs' := hs
  simp only [AW.side, Bool.and_eq_true, decide_eq_true_eq] at hs'
  have q1 : (a.sides == 0) = false := beq_eq_false_iff_ne.2 (by omega)
  have q2 : decide (s < 0) = false := decide_eq_false (by omega)
  have q3 : decide (s ≥ a.sides) = false := decide_eq_false (by omega)
  (repeat (first | ((with_reducible apply eql_at)) | ((with_reducible apply lss_at)) | ((with_reducible apply geq_at)) | ((with_reducible apply not_at)) | ((with_reducible apply ptr_eql)) | ((with_reducible apply gop_run); (focus (first | assumption | rfl | decide | (simp only [bne, Bool.not_eq_true', Bool.not_eq_false', Bool.not_true, Bool.not_false, Bool.not_not]; assumption)))) | ((with_reducible apply cond_f); (focus (first | assumption | rfl | decide | (simp only [bne, Bool.not_eq_true', Bool.not_eq_false', Bool.not_true, Bool.not_false, Bool.not_not]; assumption)))) | ((with_reducible apply pick_f); (focus (first | assumption | rfl | decide | (simp only [bne, Bool.not_eq_true', Bool.not_eq_false', Bool.not_true, Bool.not_false, Bool.not_not]; assumption)))) | ((with_reducible apply sides_c); (focus (first | exact st.rep (by ((repeat (first | exact List.Mem.head _ | assumption | refine List.Mem.tail _ ?_)); done)) | exact h.ext st.keeps))) | ((with_reducible apply is_c); (focus (first | exact st.rep (by ((repeat (first | exact List.Mem.head _ | assumption | refine List.Mem.tail _ ?_)); done)) | exact h.ext st.keeps)))))
  exact hk

theorem State.walk {f : Value} {r : Int} (st : State S w0 w R) (hm : .world L a ∈ R) (hg : Good a) (hr : a.is r = true) (hsd : a.sides ≠ 0) (I : Nat → List Res → Prop) (h0 : I 0 R)
    (hw : ∀ i Ri, I i Ri → ∃ a', .world L a' ∈ Ri ∧ ∀ q, a'.kind q = a.kind q)
    (hround : ∀ i q Ri w2 (v : Value) (l : List Value) (k : Value → World → Prop), (a.way r)[i]? = some q → I i Ri → State S w0 w2 (.slice v l :: Ri) →
      (a.kind q = 16 → (∀ val w3 R', I (i + 1) R' → State S w0 w3 (.slice v l :: R') → k val w3) → callT prog f [vi q] w2 k) ∧ (a.kind q ≠ 16 → I (i + 1) Ri))
    (hk : ∀ w' R', I (a.way r).length R' → State S w0 w' R' → K (vi 0) w') : callOn prog fn_tap_walk #[ptr L.p, vi r, f] w K := by
  apply F_tap_walk_on
  unfold F_tap_walk
  have q1 : (a.sides == 0) = false := beq_eq_false_iff_ne.2 hsd
  have hlen := way_few (st.rep hm) hg.few r
  (repeat (first | ((with_reducible apply eql_at)) | ((with_reducible apply not_at)) | ((with_reducible apply ptr_eql)) | ((with_reducible apply gop_run); (focus (first | assumption | rfl | decide | (simp only [bne, Bool.not_eq_true', Bool.not_eq_false', Bool.not_true, Bool.not_false, Bool.not_not]; assumption)))) | ((with_reducible apply cond_f); (focus (first | assumption | rfl | decide | (simp only [bne, Bool.not_eq_true', Bool.not_eq_false', Bool.not_true, Bool.not_false, Bool.not_not]; assumption)))) | ((with_reducible apply pick_f); (focus (first | assumption | rfl | decide | (simp only [bne, Bool.not_eq_true', Bool.not_eq_false', Bool.not_true, Bool.not_false, Bool.not_not]; assumption)))) | ((with_reducible apply sides_c); (focus (first | exact st.rep (by ((repeat (first | exact List.Mem.head _ | assumption | refine List.Mem.tail _ ?_)); done)) | exact h.ext st.keeps))) | ((with_reducible apply is_c); (focus (first | exact st.rep (by ((repeat (first | exact List.Mem.head _ | assumption | refine List.Mem.tail _ ?_)); done)) | exact h.ext st.keeps))) | (simp only [upd_get, start_get, List.getD_cons_zero, List.getD_cons_succ, Nat.reduceEqDiff, reduceIte, Nat.reduceAdd])))
  refine way_c (st.rep hm) hg.wf hg.few r fun v w he hs hnew => ?_
  have st := st.push he (r := .slice v ((a.way r).map vi)) hs (blk_nodup v) hnew
  simp only [hs.reads.lenL, List.length_map]
  refine ⟨fun m e w' => ∃ i Ri, m = (a.way r).length - i ∧ i ≤ (a.way r).length ∧ I i Ri ∧ e 0 = ptr L.p ∧ e 2 = f ∧ e 22 = v ∧ e 23 = vi (a.way r).length ∧ e 24 = vi i ∧ State S w0 w' (.slice v ((a.way r).map vi) :: Ri), (a.way r).length,
    ⟨0, R, by omega, by omega, h0, by simp [upd_get, start_get], by simp [upd_get, start_get], by simp [upd_get], by simp [upd_get], by simp [upd_get], st⟩, ?_⟩
  clear st
  rintro m e w ⟨i, Ri, rfl, hi, hI, g0, g2, g22, g23, g24, st⟩
  simp only [g23, g24]
  by_cases hil : i < (a.way r).length
  · have q2 : decide ((i : Int) < ((a.way r).length : Int)) = true := decide_eq_true (by omega)
    obtain ⟨a', hm', hkind⟩ := hw i Ri hI
    have hq : (a.way r)[i]? = some (a.way r)[i] := List.getElem?_eq_getElem hil
    generalize (a.way r)[i] = q at hq
    (repeat (first | ((with_reducible apply lss_at)) | ((with_reducible apply cond_t); (focus (first | assumption | rfl | decide | (simp only [bne, Bool.not_eq_true', Bool.not_eq_false', Bool.not_true, Bool.not_false, Bool.not_not]; assumption)))) | (rewrite [g0]) | (rewrite [g2]) | (rewrite [g22]) | (simp only [upd_get, start_get, List.getD_cons_zero, List.getD_cons_succ, Nat.reduceEqDiff, reduceIte, Nat.reduceAdd])))
    refine at_val' (st.sl (.head _)).reads (by omega) (by simp; omega) fun b j hrd => ?_
    have hgd : ((a.way r).map vi).getD (i : Int).toNat undef = vi q := by
      rw [show ((i : Int)).toNat = i by omega, List.getD_eq_getElem?_getD, List.getElem?_map, hq]; rfl
    rw [hgd] at hrd
    (repeat (first | ((with_reducible apply load_reads); (focus assumption))))
    refine kind_c (st.rep (.tail _ hm')) q ?_
    rw [hkind q]
    have h2 := (hround i q Ri w v _ (fun _ _ => True) hq hI st).2
    by_cases hk16 : a.kind q = 16
    · have q3 : (a.kind q == 16) = true := by simpa using hk16
      (repeat (first | ((with_reducible apply eql_at)) | ((with_reducible apply cond_t); (focus (first | assumption | rfl | decide | (simp only [bne, Bool.not_eq_true', Bool.not_eq_false', Bool.not_true, Bool.not_false, Bool.not_not]; assumption))))))
      refine (hround i q Ri w v _ _ hq hI st).1 hk16 fun val w3 R' hI' st => ?_
      (repeat (first | ((with_reducible apply add_at); (focus omega); (focus omega))))
      exact ⟨(a.way r).length - (i + 1), by omega, i + 1, R', rfl, by omega, hI', by simp [upd_get, g0], by simp [upd_get, g2], by simp [upd_get, g22], by simp [upd_get, g23], by simp [upd_get], st⟩
    · have q3 : (a.kind q == 16) = false := by simpa using hk16
      (repeat (first | ((with_reducible apply eql_at)) | ((with_reducible apply cond_f); (focus (first | assumption | rfl | decide | (simp only [bne, Bool.not_eq_true', Bool.not_eq_false', Bool.not_true, Bool.not_false, Bool.not_not]; assumption)))) | ((with_reducible apply add_at); (focus omega); (focus omega))))
      exact ⟨(a.way r).length - (i + 1), by omega, i + 1, Ri, rfl, by omega, h2 hk16, by simp [upd_get, g0], by simp [upd_get, g2], by simp [upd_get, g22], by simp [upd_get, g23], by simp [upd_get], st⟩
  · have q2 : decide ((i : Int) < ((a.way r).length : Int)) = false := decide_eq_false (by omega)
    have hie : i = (a.way r).length := by omega
    subst hie
    (repeat (first | ((with_reducible apply lss_at)) | ((with_reducible apply cond_f); (focus (first | assumption | rfl | decide | (simp only [bne, Bool.not_eq_true', Bool.not_eq_false', Bool.not_true, Bool.not_false, Bool.not_not]; assumption))))))
    exact hk _ Ri hI st.drop1

theorem State.listAdd {b : Nat} {v v1 : Value} {l l1 : List Value} {q : Int} (st : State S w0 w (.slice v1 l1 :: .cells b [v] :: .slice v l :: R)) (hl : l.length ≤ 8796093022208)
    (hk : ∀ v' w, State S w0 w (.slice v1 l1 :: .cells b [v'] :: .slice v' (l ++ [vi q]) :: R) → K (.tuple #[]) w) : callOn prog fn_list_add #[ptr b, vi q] w K := by
  apply F_list_add_on
  unfold F_list_add
  (repeat (first | ((with_reducible apply field_0)) | ((with_reducible apply nil_ptr)) | ((with_reducible apply State.load1 st); (focus ((repeat (first | exact List.Mem.head _ | assumption | refine List.Mem.tail _ ?_)); done)); (focus rfl))))
  refine st.buildL [vi q] (by decide) (by kernel_rfl) rfl fun b2 w st => ?_
  refine st.append (l := l) (ys := [vi q]) (fun s' => .slice (.slice (some ⟨b2, 0, none⟩) 1 1) [vi q] :: .slice v1 l1 :: .cells b [v] :: .slice s' (l ++ [vi q]) :: R) (fun s' => .tail (.tail (.tail .head))) (st.sl (.head _)).reads (by simp [Value.oneCell']) rfl (by simp; omega) (by simp; omega) fun s' w st => ?_
  have hone := SliceOf.one (st.sl (v := s') (l := l ++ [vi q]) (.tail _ (.tail _ (.tail _ (.head _)))))
  (repeat (first | ((with_reducible apply field_0)) | ((with_reducible apply nil_ptr)) | ((with_reducible apply State.store1 st); (focus ((repeat (first | exact Sub.head | apply Sub.tail)); done)); (focus (first | (simp [whCells, valL, over_length, Value.cells]; done) | omega)); (focus (first | rfl | assumption | (simp [whCells, valL, Value.oneCell', Value.cells]; done))); intro w st)))
  exact hk s' _ st.drop1

/-- the taps of a list of references -/
def AW.tapsOf (a : AW) (l : List Int) : List Int := l.filter fun q => a.kind q == 16

theorem State.taps {r : Int} (st : State S w0 w R) (hm : .world L a ∈ R) (hg : Good a) (hr : a.is r = true) (hsd : a.sides ≠ 0)
    (hk : ∀ v w, State S w0 w (.slice v ((AW.tapsOf a (a.way r)).map vi) :: R) → K (.tuple #[v, vi 0]) w) : callOn prog fn_tap_Taps #[ptr L.p, vi r] w K := by
  apply F_tap_Taps_on
  unfold F_tap_Taps
  have st := st.pushNone
  (repeat (first | ((with_reducible apply State.allocAgg st); intro b w st)))
  have hlen := way_few (st.rep (.tail _ (.tail _ hm))) hg.few r
  refine State.walk st (.tail _ (.tail _ hm)) hg hr hsd (fun i Ri => ∃ v, Ri = .cells b [v] :: .slice v ((AW.tapsOf a ((a.way r).take i)).map vi) :: R) ⟨noList, rfl⟩ ?_ ?_ ?_
  · rintro i Ri ⟨v, rfl⟩
    exact ⟨a, .tail _ (.tail _ hm), fun _ => rfl⟩
  · rintro i q Ri w2 v l k hq ⟨v2, rfl⟩ st
    have hlt : i < (a.way r).length := (List.getElem?_eq_some_iff.1 hq).1
    have htk : (a.way r).take (i + 1) = (a.way r).take i ++ [q] := by rw [List.take_add_one, hq]; rfl
    refine ⟨fun hk16 hk => ?_, fun hk16 => ⟨v2, ?_⟩⟩
    · have q3 : (a.kind q == 16) = true := by simpa using hk16
      refine callT_go (by kernel_rfl) ?_
      refine State.listAdd st ?_ fun v' w3 st => ?_
      · have := List.length_filter_le (fun q => a.kind q == 16) ((a.way r).take i)
        simp only [AW.tapsOf, List.length_map]
        simp only [List.length_take] at this
        omega
      · refine hk _ w3 _ ⟨v', rfl⟩ ?_
        rw [htk]
        simpa [AW.tapsOf, List.filter_append, q3] using st
    · have q3 : (a.kind q == 16) = false := by simpa using hk16
      rw [htk]
      simp [AW.tapsOf, List.filter_append, q3]
  · rintro w' Ri ⟨v, rfl⟩ st
    rw [List.take_length] at st
    (repeat (first | ((with_reducible apply field_0)) | ((with_reducible apply State.load1 st); (focus ((repeat (first | exact List.Mem.head _ | assumption | refine List.Mem.tail _ ?_)); done)); (focus rfl))))
    exact hk v _ st.drop1

theorem tally_c {t : Int} {x : Wh} (h : WRep w L a) (hat : a.at t = some x) (hp : Plain x) (hk : ∀ w', Ext w w' → K (.tuple #[vi (if x.kind = 16 then x.by_ else 0), vi (if x.kind = 16 then 0 else 130)]) w') : callOn prog fn_tap_Tally #[ptr L.p, vi t] w K := by
  apply F_tap_Tally_on
  unfold F_tap_Tally
  have st := State.start (S := fun _ => False) w
  (repeat (first | ((with_reducible apply ptr_eql)) | ((with_reducible apply cond_f); (focus (first | assumption | rfl | decide | (simp only [bne, Bool.not_eq_true', Bool.not_eq_false', Bool.not_true, Bool.not_false, Bool.not_not]; assumption))))))
  refine what_c (h.ext st.keeps) hat hp fun w he => ?_
  have st := st.ext he
  by_cases hk16 : x.kind = 16
  · have q1 : (x.kind != 16) = false := by simpa using hk16
    rw [if_pos hk16, if_pos hk16] at hk
    (repeat (first | ((with_reducible apply field_0)) | ((with_reducible apply field_at)) | ((with_reducible apply neq_at)) | ((with_reducible apply ext_0)) | ((with_reducible apply ext_1)) | ((with_reducible apply State.load1 st); (focus ((repeat (first | exact List.Mem.head _ | assumption | refine List.Mem.tail _ ?_)); done)); (focus rfl)) | ((with_reducible apply cond_f); (focus (first | assumption | rfl | decide | (simp only [bne, Bool.not_eq_true', Bool.not_eq_false', Bool.not_true, Bool.not_false, Bool.not_not]; assumption)))) | ((with_reducible apply State.allocAgg st); intro b w st) | ((with_reducible apply State.storeAll st); (focus ((repeat (first | exact Sub.head | apply Sub.tail)); done)); (focus (first | (simp [whCells, valL, over_length, Value.cells]; done) | omega)); (focus (first | (simp [whCells, valL, over_length, Value.cells]; done) | omega)); (focus (first | rfl | assumption | (simp [whCells, valL, Value.oneCell', Value.cells]; done))); intro w st)))
    exact hk _ st.keeps
  · have q1 : (x.kind != 16) = true := by simpa using hk16
    rw [if_neg hk16, if_neg hk16] at hk
    (repeat (first | ((with_reducible apply field_0)) | ((with_reducible apply neq_at)) | ((with_reducible apply ext_0)) | ((with_reducible apply ext_1)) | ((with_reducible apply State.load1 st); (focus ((repeat (first | exact List.Mem.head _ | assumption | refine List.Mem.tail _ ?_)); done)); (focus rfl)) | ((with_reducible apply cond_t); (focus (first | assumption | rfl | decide | (simp only [bne, Bool.not_eq_true', Bool.not_eq_false', Bool.not_true, Bool.not_false, Bool.not_not]; assumption)))) | ((with_reducible apply cond_f); (focus (first | assumption | rfl | decide | (simp only [bne, Bool.not_eq_true', Bool.not_eq_false', Bool.not_true, Bool.not_false, Bool.not_not]; assumption)))) | ((with_reducible apply State.allocAgg st); intro b w st) | ((with_reducible apply State.storeAll st); (focus ((repeat (first | exact Sub.head | apply Sub.tail)); done)); (focus (first | (simp [whCells, valL, over_length, Value.cells]; done) | omega)); (focus (first | (simp [whCells, valL, over_length, Value.cells]; done) | omega)); (focus (first | rfl | assumption | (simp [whCells, valL, Value.oneCell', Value.cells]; done))); intro w st)))
    exact hk _ st.keeps

theorem tcount_yes {t : Int} {x y : Wh} (h : WRep w L a) (hat : a.at t = some x) (hp : Plain x) (hx : x.kind = 16) (hby : a.at x.by_ = some y) (hpy : Plain y) (hk : ∀ w', Ext w w' → K (.tuple #[vi y.n, vi 0]) w') : callOn prog fn_tap_Count #[ptr L.p, vi t] w K := by
  apply F_tap_Count_on
  unfold F_tap_Count
  have st := State.start (S := fun _ => False) w
  refine tally_c h hat hp fun w he => ?_
  have st := st.ext he
  rw [if_pos hx, if_pos hx]
  (repeat (first | ((with_reducible apply neq_at)) | ((with_reducible apply ext_0)) | ((with_reducible apply ext_1)) | ((with_reducible apply cond_f); (focus (first | assumption | rfl | decide | (simp only [bne, Bool.not_eq_true', Bool.not_eq_false', Bool.not_true, Bool.not_false, Bool.not_not]; assumption))))))
  refine what_c (h.ext st.keeps) hby hpy fun w he => ?_
  have st := st.ext he
  (repeat (first | ((with_reducible apply field_at)) | ((with_reducible apply ext_0)) | ((with_reducible apply ext_1)) | ((with_reducible apply State.load1 st); (focus ((repeat (first | exact List.Mem.head _ | assumption | refine List.Mem.tail _ ?_)); done)); (focus rfl)) | ((with_reducible apply State.allocAgg st); intro b w st) | ((with_reducible apply State.storeAll st); (focus ((repeat (first | exact Sub.head | apply Sub.tail)); done)); (focus (first | (simp [whCells, valL, over_length, Value.cells]; done) | omega)); (focus (first | (simp [whCells, valL, over_length, Value.cells]; done) | omega)); (focus (first | rfl | assumption | (simp [whCells, valL, Value.oneCell', Value.cells]; done))); intro w st)))
  exact hk _ st.keeps

theorem tcount_no {t : Int} {x : Wh} (h : WRep w L a) (hat : a.at t = some x) (hp : Plain x) (hx : x.kind ≠ 16) (hk : ∀ w', Ext w w' → K (.tuple #[vi 0, vi 130]) w') : callOn prog fn_tap_Count #[ptr L.p, vi t] w K := by
  apply F_tap_Count_on
  unfold F_tap_Count
  have st := State.start (S := fun _ => False) w
  refine tally_c h hat hp fun w he => ?_
  have st := st.ext he
  rw [if_neg hx, if_neg hx]
  (repeat (first | ((with_reducible apply neq_at)) | ((with_reducible apply ext_0)) | ((with_reducible apply ext_1)) | ((with_reducible apply cond_t); (focus (first | assumption | rfl | decide | (simp only [bne, Bool.not_eq_true', Bool.not_eq_false', Bool.not_true, Bool.not_false, Bool.not_not]; assumption))))))
  exact hk _ st.keeps
end
end Go.X
/- Make of a tap, Pass; the chapter's first examples (layer 13); the law TapNames: its call. -/
set_option linter.unusedSimpArgs false
set_option linter.unusedVariables false
set_option maxRecDepth 20000
set_option maxHeartbeats 2000000
namespace Go.X
open Go Go.AW

/-- what a call through a tap does to its tally -/
def tickOne (a : AW) (q : Int) : AW :=
  match a.at q with
  | none => a
  | some x => if x.kind = 16 then (match a.at x.by_ with | none => a | some y => a.put x.by_ (withN y (tick y.n))) else a

def tickB (a : AW) (q : Int) : Bool :=
  match a.at q with
  | none => true
  | some x => if x.kind = 16 then (match a.at x.by_ with | none => false | some y => plainB x && plainB y && decide (0 ≤ y.set) && decide (y.set < 256) && decide (y.kind = 3) && decide (0 ≤ y.n) && decide (y.n ≤ 9007199254740992) && decide (layE a x.by_ (withN y (tick y.n)) = 0)) else true

def ticks (a : AW) (l : List Int) : AW := l.foldl tickOne a

def ticksB : AW → List Int → Bool
  | _, [] => true
  | a, q :: l => tickB a q && ticksB (tickOne a q) l

theorem ticks_snoc (a : AW) (l : List Int) (q : Int) : ticks a (l ++ [q]) = tickOne (ticks a l) q := by simp [ticks]

theorem ticksB_at : ∀ (l : List Int) (a : AW) (i : Nat) (q : Int), ticksB a l = true → l[i]? = some q → tickB (ticks a (l.take i)) q = true
  | [], _, _, _, _, h => by simp at h
  | x :: l, a, 0, q, hb, h => by simp at h; subst h; simp [ticksB] at hb; exact hb.1
  | x :: l, a, i + 1, q, hb, h => by
    simp [ticksB] at hb
    simp at h
    have := ticksB_at l (tickOne a x) i q hb.2 h
    simpa [ticks] using this

theorem tickOne_kind (a : AW) (p q : Int) : (tickOne a p).kind q = a.kind q := by
  unfold tickOne
  cases hx : a.at p with
  | none => rfl
  | some x =>
    simp only
    by_cases hk : x.kind = 16
    · rw [if_pos hk]
      cases hy : a.at x.by_ with
      | none => rfl
      | some y =>
        simp only
        unfold AW.kind
        rw [AW.at_put]
        by_cases hq : q = x.by_
        · subst hq; rw [if_pos rfl, hy]; rfl
        · rw [if_neg hq]
    · rw [if_neg hk]

theorem ticks_kind (q : Int) : ∀ (l : List Int) (a : AW), (ticks a l).kind q = a.kind q
  | [], _ => rfl
  | p :: l, a => by
    have := ticks_kind q l (tickOne a p)
    simp only [ticks, List.foldl_cons] at this ⊢
    rw [this, tickOne_kind]

section
variable {S : Nat → Prop} {w0 w : World} {L : Lay} {a : AW} {R : List Res} {K : Value → World → Prop} {k : Value → Prop}

theorem State.pass {r : Int} (st : State S w0 w (.world L a :: R)) (hg : Good a) (hr : a.is r = true) (hsd : a.sides ≠ 0) (hB : ticksB a (a.way r) = true)
    (hk : ∀ w, State S w0 w (.world L (ticks a (a.way r)) :: R) → K (vi 0) w) : callOn prog fn_tap_Pass #[ptr L.p, vi r] w K := by
  apply F_tap_Pass_on
  unfold F_tap_Pass
  refine build_agg [ptr L.p] (by kernel_rfl) ?_
  refine State.walk st (.head _) hg hr hsd (fun i Ri => Ri = .world L (ticks a ((a.way r).take i)) :: R) (by simp [ticks]) ?_ ?_ ?_
  · rintro i Ri rfl
    exact ⟨_, .head _, fun q => ticks_kind q _ _⟩
  · rintro i q Ri w2 v l k hq rfl st
    have htk : (a.way r).take (i + 1) = (a.way r).take i ++ [q] := by rw [List.take_add_one, hq]; rfl
    have hb := ticksB_at _ _ _ _ hB hq
    have hkd := ticks_kind q ((a.way r).take i) a
    rw [htk, ticks_snoc]
    generalize ticks a ((a.way r).take i) = a' at hb hkd st
    refine ⟨fun hk16 hk => ?_, fun hk16 => ?_⟩
    · unfold tickB at hb
      rw [hk16] at hkd
      unfold AW.kind at hkd
      cases hat : a'.at q with
      | none => rw [hat] at hkd; simp at hkd
      | some x =>
        rw [hat] at hkd hb
        simp only at hkd hb
        rw [if_pos hkd] at hb
        cases hby : a'.at x.by_ with
        | none => rw [hby] at hb; simp at hb
        | some y =>
          rw [hby] at hb
          simp only [Bool.and_eq_true, decide_eq_true_eq, plainB_iff] at hb
          obtain ⟨⟨⟨⟨⟨⟨⟨p1, p2⟩, p3⟩, p4⟩, p5⟩, p6⟩, p7⟩, p8⟩ := hb
          have e1 : tickOne a' q = a'.put x.by_ (withN y (tick y.n)) := by
            unfold tickOne; rw [hat]; simp only; rw [if_pos hkd, hby]
          rw [e1] at hk
          refine callT_go (by kernel_rfl) ?_
          have st := st.perm0 (.swap _ _ _)
          refine State.count st hat p1 hby p2 ⟨p3, p4⟩ (by omega) (by omega) ⟨p6, p7⟩ p8 fun w st => ?_
          exact hk _ w _ rfl (st.perm0 (.swap _ _ _))
    · have : tickOne a' q = a' := by
        unfold tickOne
        unfold AW.kind at hkd
        cases hx : a'.at q with
        | none => rfl
        | some x =>
          rw [hx] at hkd
          simp only at hkd
          simp only
          rw [if_neg (by unfold AW.kind at hk16; omega)]
      rw [this]
  · rintro w' Ri rfl st
    rw [List.take_length] at st
    exact hk _ st

theorem leave_done {c8 c3 c9 c6 c7 : Nat} {s : Value} {f : World → Prop} (st : State S w0 w R) (h8 : .cells c8 [vi 0] ∈ R) (hk : ∀ w, State S w0 w R → f w) :
    leaveK prog ([{ target := .fn (.func fn_tap_Make_1) #[ptr c8, ptr c3, ptr c9, ptr c6, ptr c7], args := #[] }] : List Deferred) f w := by
  unfold leaveK
  show dcallOn prog fn_tap_Make_1 #[ptr c8, ptr c3, ptr c9, ptr c6, ptr c7] w _
  refine F_tap_Make_1_onD _ _ _ _ _ w _ ?_
  unfold F_tap_Make_1
  (repeat (first | ((with_reducible apply neq_at)) | ((with_reducible apply State.load1 st); (focus ((repeat (first | exact List.Mem.head _ | assumption | refine List.Mem.tail _ ?_)); done)); (focus rfl)) | ((with_reducible apply cond_f); (focus (first | assumption | rfl | decide | (simp only [bne, Bool.not_eq_true', Bool.not_eq_false', Bool.not_true, Bool.not_false, Bool.not_not]; assumption)))) | (simp only [upd_get, start_get, List.getD_cons_zero, List.getD_cons_succ, Nat.reduceEqDiff, reduceIte, Nat.reduceAdd])))
  exact hk _ st

theorem State.tapMake {s r : Int} (st : State S w0 w (.world L a :: R)) (hg : Good a) (hs : a.side s = true) (hr : a.is r = true) (hnf : ∀ t ∈ a.things, t.2.kind ≠ 14) (hE1 : makeE a (tallyS s 0) = 0)
    (hg1 : Good (a.make (tallyS s 0))) (hE2 : makeE (a.make (tallyS s 0)) (tapS s r (a.last + 1)) = 0)
    (hk : ∀ w L', L'.p = L.p → State S w0 w (.world L' ((a.make (tallyS s 0)).make (tapS s r (a.last + 1))) :: R) → K (.tuple #[vi ((a.make (tallyS s 0)).last + 1), vi (a.last + 1), vi 0]) w) :
    callOn prog fn_tap_Make #[ptr L.p, vi s, vi r] w K := by
  apply F_tap_Make_on
  unfold F_tap_Make
  refine State.box st fun c3 w st => ?_
  refine State.alloc st fun c6 w st => ?_
  refine State.alloc st fun c7 w st => ?_
  refine State.alloc st fun c8 w st => ?_
  (repeat (first | ((with_reducible apply State.load1 st); (focus ((repeat (first | exact List.Mem.head _ | assumption | refine List.Mem.tail _ ?_)); done)); (focus rfl))))
  refine tapMay_ok (st.rep (.tail _ (.tail _ (.tail _ (.tail _ (.head _)))))) hs hr ?_
  (repeat (first | ((with_reducible apply neq_at)) | ((with_reducible apply State.load1 st); (focus ((repeat (first | exact List.Mem.head _ | assumption | refine List.Mem.tail _ ?_)); done)); (focus rfl)) | ((with_reducible apply cond_f); (focus (first | assumption | rfl | decide | (simp only [bne, Bool.not_eq_true', Bool.not_eq_false', Bool.not_true, Bool.not_false, Bool.not_not]; assumption)))) | ((with_reducible apply State.store1 st); (focus ((repeat (first | exact Sub.head | apply Sub.tail)); done)); (focus (first | (simp [whCells, valL, over_length, Value.cells]; done) | omega)); (focus (first | rfl | assumption | (simp [whCells, valL, Value.oneCell', Value.cells]; done))); intro w st)))
  refine copy_c (st.rep (.tail _ (.tail _ (.tail _ (.tail _ (.head _)))))) hg.plain hnf fun w' Lc he _ _ => ?_
  have st := st.ext he
  refine State.alloc st fun c9 w st => ?_
  (repeat (first | ((with_reducible apply State.store1 st); (focus ((repeat (first | exact Sub.head | apply Sub.tail)); done)); (focus (first | (simp [whCells, valL, over_length, Value.cells]; done) | omega)); (focus (first | rfl | assumption | (simp [whCells, valL, Value.oneCell', Value.cells]; done))); intro w st)))
  unfold deferX
  (repeat (first | ((with_reducible apply State.load1 st); (focus ((repeat (first | exact List.Mem.head _ | assumption | refine List.Mem.tail _ ?_)); done)); (focus rfl)) | (simp only [upd_get, start_get, List.getD_cons_zero, List.getD_cons_succ, Nat.reduceEqDiff, reduceIte, Nat.reduceAdd])))
  refine build_agg (whCells (tallyS s 0)) (by kernel_rfl) ?_
  refine State.tapMade (L := L) (a := a) (x := tallyS s 0) (R' := fun L' => .cells c9 _ :: .cells c8 _ :: .cells c7 _ :: .cells c6 _ :: .cells c3 _ :: .world L' (a.make (tallyS s 0)) :: R) st (fun L' => .tail (.tail (.tail (.tail (.tail .head))))) hg (by simp [Plain, Wh.zero]) (by simp [Wh.zero]) (by simp) hE1 fun w L1 hp1 st => ?_
  rw [← hp1] at st
  (repeat (first | ((with_reducible apply neq_at)) | ((with_reducible apply ext_0)) | ((with_reducible apply ext_1)) | ((with_reducible apply State.load1 st); (focus ((repeat (first | exact List.Mem.head _ | assumption | refine List.Mem.tail _ ?_)); done)); (focus rfl)) | ((with_reducible apply cond_f); (focus (first | assumption | rfl | decide | (simp only [bne, Bool.not_eq_true', Bool.not_eq_false', Bool.not_true, Bool.not_false, Bool.not_not]; assumption)))) | ((with_reducible apply State.store1 st); (focus ((repeat (first | exact Sub.head | apply Sub.tail)); done)); (focus (first | (simp [whCells, valL, over_length, Value.cells]; done) | omega)); (focus (first | rfl | assumption | (simp [whCells, valL, Value.oneCell', Value.cells]; done))); intro w st)))
  refine build_agg (whCells (tapS s r (a.last + 1))) (by kernel_rfl) ?_
  refine State.tapMade (L := L1) (a := a.make (tallyS s 0)) (x := tapS s r (a.last + 1)) (R' := fun L' => .cells c9 _ :: .cells c8 _ :: .cells c7 _ :: .cells c6 _ :: .cells c3 _ :: .world L' ((a.make (tallyS s 0)).make (tapS s r (a.last + 1))) :: R) st (fun L' => .tail (.tail (.tail (.tail (.tail .head))))) hg1 (by simp [Plain, Wh.zero]) (by simp [Wh.zero]) (by simp) hE2 fun w L2 hp2 st => ?_
  (repeat (first | ((with_reducible apply ext_0)) | ((with_reducible apply ext_1)) | ((with_reducible apply State.store1 st); (focus ((repeat (first | exact Sub.head | apply Sub.tail)); done)); (focus (first | (simp [whCells, valL, over_length, Value.cells]; done) | omega)); (focus (first | rfl | assumption | (simp [whCells, valL, Value.oneCell', Value.cells]; done))); intro w st)))
  refine leave_done (s := undef) st (.tail _ (.head _)) fun w st => ?_
  (repeat (first | ((with_reducible apply State.load1 st); (focus ((repeat (first | exact List.Mem.head _ | assumption | refine List.Mem.tail _ ?_)); done)); (focus rfl))))
  exact hk _ L2 (hp2.trans hp1) st.drop1.drop1.drop1.drop1.drop1
end

def A13_0 : AW := { parents := [], cut := [false], things := [], last := 0, made := [0] }
abbrev cellS : Wh := { Wh.zero with kind := 1 }
def A13_1 : AW := { parents := [], cut := [false], things := [(1, cellS)], last := 1, made := [1] }
def A13_2 : AW := { parents := [], cut := [false], things := [(1, cellS), (2, tallyS 0 0)], last := 2, made := [2] }
def A13_3 : AW := { parents := [], cut := [false], things := [(1, cellS), (2, tallyS 0 0), (3, tapS 0 1 2)], last := 3, made := [3] }
def A13_4 : AW := { parents := [], cut := [false], things := [(1, cellS), (2, tallyS 0 1), (3, tapS 0 1 2)], last := 3, made := [3] }
theorem A13_1_eq : A13_0.make cellS = A13_1 := by decide
theorem A13_2_eq : A13_1.make (tallyS 0 0) = A13_2 := by decide
theorem A13_3_eq : A13_2.make (tapS 0 1 2) = A13_3 := by decide
theorem A13_4_eq : ticks A13_3 (A13_3.way 3) = A13_4 := by decide
theorem A13_5_eq : ticks A13_4 (A13_4.way 1) = A13_4 := by decide
theorem G13_0 : Good A13_0 := good_of (by kernel_rfl)
theorem G13_1 : Good A13_1 := good_of (by kernel_rfl)
theorem G13_2 : Good A13_2 := good_of (by kernel_rfl)
theorem G13_3 : Good A13_3 := good_of (by kernel_rfl)
theorem G13_4 : Good A13_4 := good_of (by kernel_rfl)

section
variable {w : World} {K : Value → World → Prop}

theorem lives13_c (hk : ∀ w', Ext w w' → K (.bool true) w') : callOn prog fn_law13_lives #[] w K := by
  apply F_law13_lives_on
  unfold F_law13_lives
  have st := State.start (S := fun _ => False) w
  refine st.newYes (a := A13_0) (ps := []) (show ReadsOf w (.slice none 0 0) [] from ⟨rfl, rfl, rfl⟩) (by decide) fun w L st => ?_
  (repeat (first | ((with_reducible apply ext_0)) | ((with_reducible apply ext_1))))
  refine build_agg (whCells cellS) (by kernel_rfl) ?_
  refine st.make (R' := fun L' => [.world L' (A13_0.make cellS)]) (fun L' => .head) G13_0 (by simp [Plain, Wh.zero]) (by simp [Wh.zero]) (by simp) (by decide) fun w L1 hp st => ?_
  rw [A13_1_eq] at st
  rw [← hp, show A13_0.last + 1 = 1 from rfl]
  (repeat (first | ((with_reducible apply ext_0)) | ((with_reducible apply ext_1))))
  refine State.tapMake (s := 0) (r := 1) st G13_1 (by decide) (by decide) (by simp [A13_1]) (by decide) (by rw [A13_2_eq]; exact G13_2) (by rw [A13_2_eq]; decide) fun w L2 hp st => ?_
  rw [A13_2_eq, show A13_1.last + 1 = 2 from rfl, A13_3_eq] at st
  rw [← hp, A13_2_eq, show A13_2.last + 1 = 3 from rfl, show A13_1.last + 1 = 2 from rfl]
  (repeat (first | ((with_reducible apply ext_0)) | ((with_reducible apply ext_1)) | ((with_reducible apply ext_2))))
  refine State.pass (r := 3) st G13_3 (by decide) (by decide) (by decide) fun w st => ?_
  rw [A13_4_eq] at st
  refine State.pass (r := 1) st G13_4 (by decide) (by decide) (by decide) fun w st => ?_
  rw [A13_5_eq] at st
  refine tcount_yes (t := 3) (x := tapS 0 1 2) (y := tallyS 0 1) (st.rep (.head _)) (by decide) (by simp [Plain, Wh.zero]) rfl (by decide) (by simp [Plain, Wh.zero]) fun w he => ?_
  have st := st.ext he
  (repeat (first | ((with_reducible apply ext_0)) | ((with_reducible apply ext_1)) | (simp only [upd_get, start_get, List.getD_cons_zero, List.getD_cons_succ, Nat.reduceEqDiff, reduceIte, Nat.reduceAdd])))
  refine tcount_no (t := 1) (x := cellS) (st.rep (.head _)) (by decide) (by simp [Plain, Wh.zero]) (by decide) fun w he => ?_
  have st := st.ext he
  (repeat (first | ((with_reducible apply ext_0)) | ((with_reducible apply ext_1))))
  refine State.taps (r := 3) st (.head _) G13_4 (by decide) (by decide) fun v w st => ?_
  have e1 : (AW.tapsOf A13_4 (A13_4.way 3)).map vi = [vi 3] := by rw [show AW.tapsOf A13_4 (A13_4.way 3) = [3] by decide]; rfl
  rw [e1] at st
  have hrd := (st.sl (.head _)).reads
  obtain ⟨xa, n1, cap, rfl, hn1, _⟩ := hrd.first
  have hn1 : n1 = 1 := by simpa using hn1
  subst hn1
  (repeat (first | ((with_reducible apply eql_at)) | ((with_reducible apply len_slice)) | ((with_reducible apply ext_0)) | ((with_reducible apply ext_1)) | ((with_reducible apply gop_run); (focus (first | assumption | rfl | decide | (simp only [bne, Bool.not_eq_true', Bool.not_eq_false', Bool.not_true, Bool.not_false, Bool.not_not]; assumption)))) | ((with_reducible apply pick_t); (focus (first | assumption | rfl | decide | (simp only [bne, Bool.not_eq_true', Bool.not_eq_false', Bool.not_true, Bool.not_false, Bool.not_not]; assumption)))) | (simp only [upd_get, start_get, List.getD_cons_zero, List.getD_cons_succ, Nat.reduceEqDiff, reduceIte, Nat.reduceAdd])))
  refine at_val' (j := 0) hrd (by omega) (by simp) fun b j hr => ?_
  have hr : Reads w b j (vi 3) := hr
  (repeat (first | ((with_reducible apply eql_at)) | ((with_reducible apply gop_run); (focus (first | assumption | rfl | decide | (simp only [bne, Bool.not_eq_true', Bool.not_eq_false', Bool.not_true, Bool.not_false, Bool.not_not]; assumption)))) | ((with_reducible apply pick_t); (focus (first | assumption | rfl | decide | (simp only [bne, Bool.not_eq_true', Bool.not_eq_false', Bool.not_true, Bool.not_false, Bool.not_not]; assumption)))) | ((with_reducible apply load_reads); (focus assumption))))
  exact hk w st.keeps

theorem tapNames_c {W : World} (hk : ∀ w', Ext W w' → K (.bool true) w') : callOn prog fn_law13_TapNames #[] W K := by
  apply F_law13_TapNames_on
  unfold F_law13_TapNames
  refine gop_run rfl (lives13_c fun w' he => ?_)
  exact hk w' he
end
end Go.X
/- Become; Make of a tap that has no room; With. -/
set_option linter.unusedSimpArgs false
set_option linter.unusedVariables false
set_option maxRecDepth 20000
set_option maxHeartbeats 2000000
namespace Go.X
open Go Go.AW

section
variable {S : Nat → Prop} {w0 w : World} {L Lc : Lay} {a a1 : AW} {R : List Res} {K : Value → World → Prop} {k : Value → Prop}

theorem State.become (st : State S w0 w (.world L a1 :: .world Lc a :: R)) (hp : ∀ t ∈ a.things, Plain t.2) (hnf : ∀ t ∈ a.things, t.2.kind ≠ 14) (hk : ∀ w L', L'.p = L.p → State S w0 w (.world L' a :: R) → K (vi 0) w) :
    callOn prog fn_World_Become #[ptr L.p, ptr Lc.p] w K := by
  apply F_World_Become_on
  unfold F_World_Become
  (repeat (first | ((with_reducible apply gop_run); (focus (first | assumption | rfl | decide | (simp only [bne, Bool.not_eq_true', Bool.not_eq_false', Bool.not_true, Bool.not_false, Bool.not_not]; assumption)))) | ((with_reducible apply cond_f); (focus (first | assumption | rfl | decide | (simp only [bne, Bool.not_eq_true', Bool.not_eq_false', Bool.not_true, Bool.not_false, Bool.not_not]; assumption)))) | ((with_reducible apply pick_f); (focus (first | assumption | rfl | decide | (simp only [bne, Bool.not_eq_true', Bool.not_eq_false', Bool.not_true, Bool.not_false, Bool.not_not]; assumption)))) | ((with_reducible apply none_c); (focus (first | exact st.rep (by ((repeat (first | exact List.Mem.head _ | assumption | refine List.Mem.tail _ ?_)); done)) | exact h.ext st.keeps)))))
  refine copy_c (st.rep (.tail _ (.head _))) hp hnf fun w' L2 he hr hf => ?_
  have st := (st.push he (r := .world L2 a) hr hr.apart hf).open_world
  have st := st.perm0 (List.perm_middle (l₁ := pieces L2 a a.things) (l₂ := .world Lc a :: R))
  have st := st.open_world
  have hpc : ∀ (M : Lay) (b : AW), pieces M b b.things = .cells M.p (tops M b.last) :: (pieces M b b.things).tail := fun _ _ => rfl
  have st : State S w0 w' ((.cells L.p (tops L a1.last) :: (pieces L a1 a1.things).tail) ++ .cells L2.p (tops L2 a.last) :: ((pieces L2 a a.things).tail ++ (.world Lc a :: R))) := st
  have st := st.perm0 (List.perm_middle (l₁ := .cells L.p (tops L a1.last) :: (pieces L a1 a1.things).tail) (l₂ := (pieces L2 a a.things).tail ++ (.world Lc a :: R)))
  have st : State S w0 w' (.cells L2.p (tops L2 a.last) :: .cells L.p (tops L a1.last) :: ((pieces L a1 a1.things).tail ++ ((pieces L2 a a.things).tail ++ (.world Lc a :: R)))) := st
  generalize hr1 : (pieces L a1 a1.things).tail = r1 at st
  generalize hr2 : (pieces L2 a a.things).tail = r2 at st
  unfold tops at st
  (repeat (first | ((with_reducible apply nil_ptr)) | ((with_reducible apply State.loadAll st); (focus ((repeat (first | exact List.Mem.head _ | assumption | refine List.Mem.tail _ ?_)); done)); (focus (first | (simp [whCells, valL, over_length, Value.cells]; done) | omega)))))
  refine State.storeAll (cs := tops L2 a.last) (R' := .cells L2.p (tops L2 a.last) :: .cells L.p (tops L2 a.last) :: (r1 ++ (r2 ++ (.world Lc a :: R)))) st (.tail .head) rfl rfl (by
    have h1 := (hr.par).one
    have h2 := (hr.cut).one
    have h3 := (hr.made).one
    intro v hv
    simp only [tops, List.mem_cons, List.not_mem_nil, or_false] at hv
    rcases hv with rfl | rfl | rfl | rfl | rfl | rfl <;> first | assumption | rfl) fun w st => ?_
  have st := st.perm0 (R' := .cells L.p (tops L2 a.last) :: (r2 ++ ((.world Lc a :: R) ++ (.cells L2.p (tops L2 a.last) :: r1)))) (by
    refine (List.Perm.swap _ _ _).trans (List.Perm.cons _ ?_)
    have h1 : ((.cells L2.p (tops L2 a.last) :: r1) ++ (r2 ++ (.world Lc a :: R))).Perm ((r2 ++ (.world Lc a :: R)) ++ (.cells L2.p (tops L2 a.last) :: r1)) := List.perm_append_comm
    rw [List.append_assoc] at h1
    exact h1)
  have hfit : Fit { L2 with p := L.p } a := by
    have f := hr.fit
    exact ⟨f.ents, f.facs, f.born, f.sorted, f.len1, f.len2, f.len3, f.nums, f.low, f.high⟩
  have st : State S w0 w (pieces { L2 with p := L.p } a a.things ++ ((.world Lc a :: R) ++ (.cells L2.p (tops L2 a.last) :: r1))) := by
    rw [← hr2] at st; exact st
  have st := st.close_world hfit
  exact hk _ { L2 with p := L.p } rfl (st.sub (.cons_cons _ (.cons _ (List.sublist_append_left _ _))))

theorem leave_back {c8 c3 c9 c6 c7 : Nat} {e : Int} {v6 v7 : Value} {f : World → Prop} (he : e ≠ 0) (hp : ∀ t ∈ a.things, Plain t.2) (hnf : ∀ t ∈ a.things, t.2.kind ≠ 14)
    (st : State S w0 w (.cells c9 [ptr Lc.p] :: .world Lc a :: .cells c8 [vi e] :: .cells c7 [v7] :: .cells c6 [v6] :: .cells c3 [ptr L.p] :: .world L a1 :: R))
    (hk : ∀ w L', L'.p = L.p → State S w0 w (.world L' a :: .cells c9 [ptr Lc.p] :: .cells c8 [vi e] :: .cells c7 [vi 0] :: .cells c6 [vi 0] :: .cells c3 [ptr L.p] :: R) → f w) :
    leaveK prog ([{ target := .fn (.func fn_tap_Make_1) #[ptr c8, ptr c3, ptr c9, ptr c6, ptr c7], args := #[] }] : List Deferred) f w := by
  unfold leaveK
  show dcallOn prog fn_tap_Make_1 #[ptr c8, ptr c3, ptr c9, ptr c6, ptr c7] w _
  refine F_tap_Make_1_onD _ _ _ _ _ w _ ?_
  unfold F_tap_Make_1
  have q1 : (e != 0) = true := by simpa using he
  (repeat (first | ((with_reducible apply neq_at)) | ((with_reducible apply State.load1 st); (focus ((repeat (first | exact List.Mem.head _ | assumption | refine List.Mem.tail _ ?_)); done)); (focus rfl)) | ((with_reducible apply cond_t); (focus (first | assumption | rfl | decide | (simp only [bne, Bool.not_eq_true', Bool.not_eq_false', Bool.not_true, Bool.not_false, Bool.not_not]; assumption)))) | (simp only [upd_get, start_get, List.getD_cons_zero, List.getD_cons_succ, Nat.reduceEqDiff, reduceIte, Nat.reduceAdd])))
  have hpm : (([Res.cells c9 [ptr Lc.p], Res.world Lc a, Res.cells c8 [vi e], Res.cells c7 [v7], Res.cells c6 [v6], Res.cells c3 [ptr L.p]] : List Res) ++ Res.world L a1 :: R).Perm
      (Res.world L a1 :: (([Res.cells c9 [ptr Lc.p], Res.world Lc a, Res.cells c8 [vi e], Res.cells c7 [v7], Res.cells c6 [v6], Res.cells c3 [ptr L.p]] : List Res) ++ R)) := List.perm_middle
  have st : State S w0 w (Res.world L a1 :: Res.cells c9 [ptr Lc.p] :: Res.world Lc a :: Res.cells c8 [vi e] :: Res.cells c7 [v7] :: Res.cells c6 [v6] :: Res.cells c3 [ptr L.p] :: R) := st.perm0 hpm
  have st := st.perm0 (List.Perm.cons _ (List.Perm.swap _ _ _))
  refine State.become st hp hnf fun w L' hp' st => ?_
  (repeat (first | ((with_reducible apply State.store1 st); (focus ((repeat (first | exact Sub.head | apply Sub.tail)); done)); (focus (first | (simp [whCells, valL, over_length, Value.cells]; done) | omega)); (focus (first | rfl | assumption | (simp [whCells, valL, Value.oneCell', Value.cells]; done))); intro w st)))
  exact hk _ L' hp' st

theorem State.tapMakeNo {s r e : Int} (st : State S w0 w (.world L a :: R)) (hg : Good a) (hs : a.side s = true) (hr : a.is r = true) (hnf : ∀ t ∈ a.things, t.2.kind ≠ 14) (hE1 : makeE a (tallyS s 0) = 0)
    (hg1 : Good (a.make (tallyS s 0))) (hE2 : makeE (a.make (tallyS s 0)) (tapS s r (a.last + 1)) = e) (he : e ≠ 0)
    (hk : ∀ w L', L'.p = L.p → State S w0 w (.world L' a :: R) → K (.tuple #[vi 0, vi 0, vi e]) w) :
    callOn prog fn_tap_Make #[ptr L.p, vi s, vi r] w K := by
  apply F_tap_Make_on
  unfold F_tap_Make
  refine State.box st fun c3 w st => ?_
  refine State.alloc st fun c6 w st => ?_
  refine State.alloc st fun c7 w st => ?_
  refine State.alloc st fun c8 w st => ?_
  (repeat (first | ((with_reducible apply State.load1 st); (focus ((repeat (first | exact List.Mem.head _ | assumption | refine List.Mem.tail _ ?_)); done)); (focus rfl))))
  refine tapMay_ok (st.rep (.tail _ (.tail _ (.tail _ (.tail _ (.head _)))))) hs hr ?_
  (repeat (first | ((with_reducible apply neq_at)) | ((with_reducible apply State.load1 st); (focus ((repeat (first | exact List.Mem.head _ | assumption | refine List.Mem.tail _ ?_)); done)); (focus rfl)) | ((with_reducible apply cond_f); (focus (first | assumption | rfl | decide | (simp only [bne, Bool.not_eq_true', Bool.not_eq_false', Bool.not_true, Bool.not_false, Bool.not_not]; assumption)))) | ((with_reducible apply State.store1 st); (focus ((repeat (first | exact Sub.head | apply Sub.tail)); done)); (focus (first | (simp [whCells, valL, over_length, Value.cells]; done) | omega)); (focus (first | rfl | assumption | (simp [whCells, valL, Value.oneCell', Value.cells]; done))); intro w st)))
  refine copy_c (st.rep (.tail _ (.tail _ (.tail _ (.tail _ (.head _)))))) hg.plain hnf fun w' Lc he' hrc hfc => ?_
  have st := st.push he' (r := .world Lc a) hrc hrc.apart hfc
  refine State.alloc st fun c9 w st => ?_
  (repeat (first | ((with_reducible apply State.store1 st); (focus ((repeat (first | exact Sub.head | apply Sub.tail)); done)); (focus (first | (simp [whCells, valL, over_length, Value.cells]; done) | omega)); (focus (first | rfl | assumption | (simp [whCells, valL, Value.oneCell', Value.cells]; done))); intro w st)))
  unfold deferX
  (repeat (first | ((with_reducible apply State.load1 st); (focus ((repeat (first | exact List.Mem.head _ | assumption | refine List.Mem.tail _ ?_)); done)); (focus rfl)) | (simp only [upd_get, start_get, List.getD_cons_zero, List.getD_cons_succ, Nat.reduceEqDiff, reduceIte, Nat.reduceAdd])))
  refine build_agg (whCells (tallyS s 0)) (by kernel_rfl) ?_
  refine State.tapMade (L := L) (a := a) (x := tallyS s 0) (R' := fun L' => .cells c9 _ :: .world Lc a :: .cells c8 _ :: .cells c7 _ :: .cells c6 _ :: .cells c3 _ :: .world L' (a.make (tallyS s 0)) :: R) st (fun L' => .tail (.tail (.tail (.tail (.tail (.tail .head)))))) hg (by simp [Plain, Wh.zero]) (by simp [Wh.zero]) (by simp) hE1 fun w L1 hp1 st => ?_
  rw [← hp1] at st
  (repeat (first | ((with_reducible apply neq_at)) | ((with_reducible apply ext_0)) | ((with_reducible apply ext_1)) | ((with_reducible apply State.load1 st); (focus ((repeat (first | exact List.Mem.head _ | assumption | refine List.Mem.tail _ ?_)); done)); (focus rfl)) | ((with_reducible apply cond_f); (focus (first | assumption | rfl | decide | (simp only [bne, Bool.not_eq_true', Bool.not_eq_false', Bool.not_true, Bool.not_false, Bool.not_not]; assumption)))) | ((with_reducible apply State.store1 st); (focus ((repeat (first | exact Sub.head | apply Sub.tail)); done)); (focus (first | (simp [whCells, valL, over_length, Value.cells]; done) | omega)); (focus (first | rfl | assumption | (simp [whCells, valL, Value.oneCell', Value.cells]; done))); intro w st)))
  refine build_agg (whCells (tapS s r (a.last + 1))) (by kernel_rfl) ?_
  refine State.tapMadeNo (L := L1) (a := a.make (tallyS s 0)) (x := tapS s r (a.last + 1)) st (.tail _ (.tail _ (.tail _ (.tail _ (.tail _ (.tail _ (.head _))))))) hg1 (by simp [Plain, Wh.zero]) (by simp [Wh.zero]) (by simp) hE2 he fun w st => ?_
  (repeat (first | ((with_reducible apply ext_0)) | ((with_reducible apply ext_1)) | ((with_reducible apply State.store1 st); (focus ((repeat (first | exact Sub.head | apply Sub.tail)); done)); (focus (first | (simp [whCells, valL, over_length, Value.cells]; done) | omega)); (focus (first | rfl | assumption | (simp [whCells, valL, Value.oneCell', Value.cells]; done))); intro w st)))
  refine leave_back (L := L1) (Lc := Lc) (a := a) (e := e) (v7 := vi (a.last + 1)) (v6 := vi 0) he hg.plain hnf st fun w L2 hp2 st => ?_
  (repeat (first | ((with_reducible apply State.load1 st); (focus ((repeat (first | exact List.Mem.head _ | assumption | refine List.Mem.tail _ ?_)); done)); (focus rfl))))
  exact hk _ L2 (hp2.trans hp1) (st.sub (.cons_cons _ (.cons _ (.cons _ (.cons _ (.cons _ (.cons _ (.refl _))))))))

theorem State.with {s r t : Int} {y : Wh} (st : State S w0 w (.world L a :: R)) (hg : Good a) (hs : a.side s = true) (hr : a.is r = true) (hat : a.at t = some y) (hy : y.kind = 3) (hh : y.home = s)
    (hyes : makeE a (tapS s r t) = 0 → ∀ w L', L'.p = L.p → State S w0 w (.world L' (a.make (tapS s r t)) :: R) → K (.tuple #[vi (a.last + 1), vi 0]) w)
    (hno : makeE a (tapS s r t) ≠ 0 → ∀ w, State S w0 w (.world L a :: R) → K (.tuple #[vi 0, vi (makeE a (tapS s r t))]) w) :
    callOn prog fn_tap_With #[ptr L.p, vi s, vi r, vi t] w K := by
  apply F_tap_With_on
  unfold F_tap_With
  have qi : a.is t = true := by rw [AW.is, hat]; rfl
  refine tapMay_ok (st.rep (.head _)) hs hr ?_
  (repeat (first | ((with_reducible apply neq_at)) | ((with_reducible apply not_at)) | ((with_reducible apply cond_f); (focus (first | assumption | rfl | decide | (simp only [bne, Bool.not_eq_true', Bool.not_eq_false', Bool.not_true, Bool.not_false, Bool.not_not]; assumption)))) | ((with_reducible apply is_c); (focus (first | exact st.rep (by ((repeat (first | exact List.Mem.head _ | assumption | refine List.Mem.tail _ ?_)); done)) | exact h.ext st.keeps)))))
  refine home_c (st.rep (.head _)) t ?_
  rw [hat]
  (repeat (first | ((with_reducible apply ext_0)) | ((with_reducible apply ext_1)) | (simp only [upd_get, start_get, List.getD_cons_zero, List.getD_cons_succ, Nat.reduceEqDiff, reduceIte, Nat.reduceAdd])))
  refine kind_c (st.rep (.head _)) t ?_
  have hkd : a.kind t = 3 := by unfold AW.kind; rw [hat]; exact hy
  rw [hkd]
  have q1 : ((if y.kind = 14 then 0 else y.home) != s) = false := by rw [if_neg (by omega)]; simpa using hh
  (repeat (first | ((with_reducible apply neq_at)) | ((with_reducible apply gop_run); (focus (first | assumption | rfl | decide | (simp only [bne, Bool.not_eq_true', Bool.not_eq_false', Bool.not_true, Bool.not_false, Bool.not_not]; assumption)))) | ((with_reducible apply cond_f); (focus (first | assumption | rfl | decide | (simp only [bne, Bool.not_eq_true', Bool.not_eq_false', Bool.not_true, Bool.not_false, Bool.not_not]; assumption)))) | ((with_reducible apply pick_f); (focus (first | assumption | rfl | decide | (simp only [bne, Bool.not_eq_true', Bool.not_eq_false', Bool.not_true, Bool.not_false, Bool.not_not]; assumption))))))
  refine build_agg (whCells (tapS s r t)) (by kernel_rfl) ?_
  by_cases hE : makeE a (tapS s r t) = 0
  · refine State.tapMade (R' := fun L' => .world L' (a.make (tapS s r t)) :: R) st (fun L' => .head) hg (by simp [Plain, Wh.zero]) (by simp [Wh.zero]) (by simp) hE fun w L' hp st => ?_
    (repeat (first | ((with_reducible apply ext_0)) | ((with_reducible apply ext_1))))
    exact hyes hE _ L' hp st
  · refine State.tapMadeNo st (.head _) hg (by simp [Plain, Wh.zero]) (by simp [Wh.zero]) (by simp) rfl hE fun w st => ?_
    (repeat (first | ((with_reducible apply ext_0)) | ((with_reducible apply ext_1))))
    exact hno hE _ st
end
end Go.X
