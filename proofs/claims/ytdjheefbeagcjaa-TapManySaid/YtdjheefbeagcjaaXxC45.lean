/- Contracts of the package of purses: a mint, asks, takes, moves. -/
import Derived.Test.YtdjheefbeagcjaaXxC44
set_option linter.unusedSimpArgs false
set_option linter.unusedVariables false
set_option maxRecDepth 20000
set_option maxHeartbeats 1000000
namespace Go.X
open Go Go.AW

/-- a mint of a side; a purse of a mint -/
abbrev mintS (s n lost : Int) : Wh := { Wh.zero with kind := 8, home := s, n := n, lost := lost }
abbrev purseS (s m n : Int) : Wh := { Wh.zero with kind := 9, home := s, of := m, n := n }
/-- an amount more, or less -/
abbrev withN (x : Wh) (n : Int) : Wh := { x with n := n }

/-- a purse with what is asked for; the mint's sum with it -/
def AW.ask (a : AW) (m : Int) (x : Wh) (n : Int) : AW := AW.put (a.make (purseS x.home m n)) m (withN x (x.n + n))
def AW.take (a : AW) (p : Int) (x : Wh) (n : Int) : AW := AW.put (a.make (purseS x.home x.of n)) p (withN x (x.n - n))
def AW.move (a : AW) (t f : Int) (x y : Wh) : AW := AW.put (AW.put a t (withN x (x.n + y.n))) f (withN y 0)

section
variable {S : Nat → Prop} {w0 w : World} {L : Lay} {a : AW} {R : List Res} {K : Value → World → Prop} {k : Value → World → Prop}

theorem State.mintYes {s : Int} (st : State S w0 w (.world L a :: R)) (hg : Good a) (hE : makeE a (mintS s 0 0) = 0)
    (hk : ∀ w L', L'.p = L.p → State S w0 w (.world L' (a.make (mintS s 0 0)) :: R) → K (.tuple #[vi (a.last + 1), vi 0]) w) : callOn prog fn_purse_Mint #[ptr L.p, vi s] w K := by
  apply F_purse_Mint_on
  unfold F_purse_Mint
  (repeat (first | ((with_reducible apply ptr_eql)) | ((with_reducible apply cond_f); (focus (first | assumption | rfl | decide | (simp only [bne, Bool.not_eq_true', Bool.not_eq_false', Bool.not_true, Bool.not_false, Bool.not_not]; assumption)))) | (simp only [upd_get, start_get, List.getD_cons_zero, List.getD_cons_succ, Nat.reduceEqDiff, reduceIte, Nat.reduceAdd])))
  refine build_agg (whCells (mintS s 0 0)) (by kernel_rfl) ?_
  refine st.make (fun L' => .head) hg (by simp [Plain, Wh.zero]) (by simp [Wh.zero]) (by simp) hE fun w L' hp st => ?_
  (repeat (first | ((with_reducible apply eql_at)) | ((with_reducible apply ext_0)) | ((with_reducible apply ext_1)) | ((with_reducible apply cond_f); (focus (first | assumption | rfl | decide | (simp only [bne, Bool.not_eq_true', Bool.not_eq_false', Bool.not_true, Bool.not_false, Bool.not_not]; assumption))))))
  exact hk _ _ hp st

/-- what is asked for is made -/
theorem State.askYes {m n : Int} {x : Wh} (st : State S w0 w (.world L a :: R)) (hg : Good a) (hat : a.at m = some x) (hx : x.kind = 8) (hpx : Plain x) (hset : 0 ≤ x.set ∧ x.set < 256) (hn : 0 ≤ n) (hn0 : 0 ≤ x.n) (hn1 : x.n + n ≤ 9007199254740992)
    (hE : makeE a (purseS x.home m n) = 0) (hL : layE (a.make (purseS x.home m n)) m (withN x (x.n + n)) = 0) (hk : ∀ w L', L'.p = L.p → State S w0 w (.world L' (AW.ask a m x n) :: R) → K (.tuple #[vi (a.last + 1), vi 0]) w) :
    callOn prog fn_purse_Ask #[ptr L.p, vi m, vi n] w K := by
  apply F_purse_Ask_on
  unfold F_purse_Ask
  refine st.findYes (.head _) (.inl rfl) hat hpx fun w st => ?_
  rw [if_pos hx]
  have q1 : decide (n < 0) = false := by simp; omega
  have q2 : decide (n > 9007199254740992 - x.n) = false := by simp; omega
  (repeat (first | ((with_reducible apply field_at)) | ((with_reducible apply neq_at)) | ((with_reducible apply lss_at)) | ((with_reducible apply gtr_at)) | ((with_reducible apply ext_0)) | ((with_reducible apply ext_1)) | ((with_reducible apply State.load1 st); (focus ((repeat (first | exact List.Mem.head _ | assumption | refine List.Mem.tail _ ?_)); done)); (focus rfl)) | ((with_reducible apply cond_f); (focus (first | assumption | rfl | decide | (simp only [bne, Bool.not_eq_true', Bool.not_eq_false', Bool.not_true, Bool.not_false, Bool.not_not]; assumption)))) | ((with_reducible apply State.allocAgg st); intro b w st) | ((with_reducible apply State.storeAll st); (focus ((repeat (first | exact Sub.head | apply Sub.tail)); done)); (focus (first | (simp [whCells, valL, over_length, Value.cells]; done) | omega)); (focus (first | (simp [whCells, valL, over_length, Value.cells]; done) | omega)); (focus (first | rfl | assumption | (simp [whCells, valL, Value.oneCell', Value.cells]; done))); intro w st) | ((with_reducible apply sub_at); (focus omega); (focus omega))))
  refine build_agg (whCells (purseS x.home m n)) (by kernel_rfl) ?_
  refine st.make (R' := fun L' => .cells _ (whCells x) :: .world L' (a.make (purseS x.home m n)) :: R) (fun L' => .tail .head) hg (by simp [Plain, Wh.zero]) (by simp [Wh.zero]) (by simp) hE fun w L' hp st => ?_
  rw [← hp]
  (repeat (first | ((with_reducible apply field_at)) | ((with_reducible apply neq_at)) | ((with_reducible apply ext_0)) | ((with_reducible apply ext_1)) | ((with_reducible apply State.load1 st); (focus ((repeat (first | exact List.Mem.head _ | assumption | refine List.Mem.tail _ ?_)); done)); (focus rfl)) | ((with_reducible apply cond_f); (focus (first | assumption | rfl | decide | (simp only [bne, Bool.not_eq_true', Bool.not_eq_false', Bool.not_true, Bool.not_false, Bool.not_not]; assumption)))) | ((with_reducible apply State.loadAll st); (focus ((repeat (first | exact List.Mem.head _ | assumption | refine List.Mem.tail _ ?_)); done)); (focus (first | (simp [whCells, valL, over_length, Value.cells]; done) | omega))) | ((with_reducible apply State.store1 st); (focus ((repeat (first | exact Sub.head | apply Sub.tail)); done)); (focus (first | (simp [whCells, valL, over_length, Value.cells]; done) | omega)); (focus (first | rfl | assumption | (simp [whCells, valL, Value.oneCell', Value.cells]; done))); intro w st) | ((with_reducible apply add_at); (focus omega); (focus omega)) | (simp only [upd_get, start_get, List.getD_cons_zero, List.getD_cons_succ, Nat.reduceEqDiff, reduceIte, Nat.reduceAdd])))
  refine State.lay (x := withN x (x.n + n)) (r := m) st (.tail .head) hpx (by simp [hx]) hset (by simp [hx]) hL fun w st => ?_
  skip
  exact hk _ _ hp st.drop1

def askE (a : AW) (m : Int) (x : Wh) (n : Int) : Int := if n < 0 then 2 else if 9007199254740992 - x.n < n then 8 else makeE a (purseS x.home m n)

theorem State.askNo {m n e : Int} {x : Wh} (st : State S w0 w (.world L a :: R)) (hg : Good a) (hat : a.at m = some x) (hx : x.kind = 8) (hpx : Plain x) (hn0 : 0 ≤ x.n ∧ x.n ≤ 9007199254740992)
    (hE : askE a m x n = e) (he : e ≠ 0) (hk : ∀ w, State S w0 w (.world L a :: R) → K (.tuple #[vi 0, vi e]) w) : callOn prog fn_purse_Ask #[ptr L.p, vi m, vi n] w K := by
  apply F_purse_Ask_on
  unfold F_purse_Ask
  refine st.findYes (.head _) (.inl rfl) hat hpx fun w st => ?_
  rw [if_pos hx]
  unfold askE at hE
  by_cases h1 : n < 0
  · have q1 : decide (n < 0) = true := by simpa using h1
    rw [if_pos h1] at hE
    subst hE
    (repeat (first | ((with_reducible apply neq_at)) | ((with_reducible apply lss_at)) | ((with_reducible apply ext_0)) | ((with_reducible apply ext_1)) | ((with_reducible apply cond_t); (focus (first | assumption | rfl | decide | (simp only [bne, Bool.not_eq_true', Bool.not_eq_false', Bool.not_true, Bool.not_false, Bool.not_not]; assumption)))) | ((with_reducible apply cond_f); (focus (first | assumption | rfl | decide | (simp only [bne, Bool.not_eq_true', Bool.not_eq_false', Bool.not_true, Bool.not_false, Bool.not_not]; assumption)))) | ((with_reducible apply State.allocAgg st); intro b w st) | ((with_reducible apply State.storeAll st); (focus ((repeat (first | exact Sub.head | apply Sub.tail)); done)); (focus (first | (simp [whCells, valL, over_length, Value.cells]; done) | omega)); (focus (first | (simp [whCells, valL, over_length, Value.cells]; done) | omega)); (focus (first | rfl | assumption | (simp [whCells, valL, Value.oneCell', Value.cells]; done))); intro w st)))
    exact hk _ st.drop1
  · have q1 : decide (n < 0) = false := by simpa using h1
    rw [if_neg h1] at hE
    by_cases h2 : 9007199254740992 - x.n < n
    · have q2 : decide (n > 9007199254740992 - x.n) = true := by simpa using h2
      rw [if_pos h2] at hE
      subst hE
      (repeat (first | ((with_reducible apply field_at)) | ((with_reducible apply neq_at)) | ((with_reducible apply lss_at)) | ((with_reducible apply gtr_at)) | ((with_reducible apply ext_0)) | ((with_reducible apply ext_1)) | ((with_reducible apply State.load1 st); (focus ((repeat (first | exact List.Mem.head _ | assumption | refine List.Mem.tail _ ?_)); done)); (focus rfl)) | ((with_reducible apply cond_t); (focus (first | assumption | rfl | decide | (simp only [bne, Bool.not_eq_true', Bool.not_eq_false', Bool.not_true, Bool.not_false, Bool.not_not]; assumption)))) | ((with_reducible apply cond_f); (focus (first | assumption | rfl | decide | (simp only [bne, Bool.not_eq_true', Bool.not_eq_false', Bool.not_true, Bool.not_false, Bool.not_not]; assumption)))) | ((with_reducible apply State.allocAgg st); intro b w st) | ((with_reducible apply State.storeAll st); (focus ((repeat (first | exact Sub.head | apply Sub.tail)); done)); (focus (first | (simp [whCells, valL, over_length, Value.cells]; done) | omega)); (focus (first | (simp [whCells, valL, over_length, Value.cells]; done) | omega)); (focus (first | rfl | assumption | (simp [whCells, valL, Value.oneCell', Value.cells]; done))); intro w st) | ((with_reducible apply sub_at); (focus omega); (focus omega))))
      exact hk _ st.drop1
    · have q2 : decide (n > 9007199254740992 - x.n) = false := by simpa using h2
      rw [if_neg h2] at hE
      (repeat (first | ((with_reducible apply field_at)) | ((with_reducible apply neq_at)) | ((with_reducible apply lss_at)) | ((with_reducible apply gtr_at)) | ((with_reducible apply ext_0)) | ((with_reducible apply ext_1)) | ((with_reducible apply State.load1 st); (focus ((repeat (first | exact List.Mem.head _ | assumption | refine List.Mem.tail _ ?_)); done)); (focus rfl)) | ((with_reducible apply cond_f); (focus (first | assumption | rfl | decide | (simp only [bne, Bool.not_eq_true', Bool.not_eq_false', Bool.not_true, Bool.not_false, Bool.not_not]; assumption)))) | ((with_reducible apply State.allocAgg st); intro b w st) | ((with_reducible apply State.storeAll st); (focus ((repeat (first | exact Sub.head | apply Sub.tail)); done)); (focus (first | (simp [whCells, valL, over_length, Value.cells]; done) | omega)); (focus (first | (simp [whCells, valL, over_length, Value.cells]; done) | omega)); (focus (first | rfl | assumption | (simp [whCells, valL, Value.oneCell', Value.cells]; done))); intro w st) | ((with_reducible apply sub_at); (focus omega); (focus omega))))
      refine build_agg (whCells (purseS x.home m n)) (by kernel_rfl) ?_
      refine st.makeNo (.tail _ (.head _)) hg (by simp [Plain, Wh.zero]) (by simp [Wh.zero]) (by simp) hE he fun w st => ?_
      have q3 : (e != 0) = true := by simpa using he
      (repeat (first | ((with_reducible apply neq_at)) | ((with_reducible apply ext_0)) | ((with_reducible apply ext_1)) | ((with_reducible apply cond_t); (focus (first | assumption | rfl | decide | (simp only [bne, Bool.not_eq_true', Bool.not_eq_false', Bool.not_true, Bool.not_false, Bool.not_not]; assumption))))))
      exact hk _ st.drop1

/-- what is taken stands in a purse more -/
theorem State.takeYes {p n : Int} {x : Wh} (st : State S w0 w (.world L a :: R)) (hg : Good a) (hat : a.at p = some x) (hx : x.kind = 9) (hpx : Plain x) (hset : 0 ≤ x.set ∧ x.set < 256) (hn : 0 ≤ n) (hn1 : n ≤ x.n) (hn2 : x.n ≤ 9007199254740992)
    (hE : makeE a (purseS x.home x.of n) = 0) (hL : layE (a.make (purseS x.home x.of n)) p (withN x (x.n - n)) = 0) (hk : ∀ w L', L'.p = L.p → State S w0 w (.world L' (AW.take a p x n) :: R) → K (.tuple #[vi (a.last + 1), vi 0]) w) :
    callOn prog fn_purse_Take #[ptr L.p, vi p, vi n] w K := by
  apply F_purse_Take_on
  unfold F_purse_Take
  refine st.findYes (.head _) (.inr rfl) hat hpx fun w st => ?_
  rw [if_pos hx]
  have q1 : decide (n < 0) = false := by simp; omega
  have q2 : decide (n > x.n) = false := by simp; omega
  (repeat (first | ((with_reducible apply field_at)) | ((with_reducible apply neq_at)) | ((with_reducible apply lss_at)) | ((with_reducible apply gtr_at)) | ((with_reducible apply ext_0)) | ((with_reducible apply ext_1)) | ((with_reducible apply State.load1 st); (focus ((repeat (first | exact List.Mem.head _ | assumption | refine List.Mem.tail _ ?_)); done)); (focus rfl)) | ((with_reducible apply cond_f); (focus (first | assumption | rfl | decide | (simp only [bne, Bool.not_eq_true', Bool.not_eq_false', Bool.not_true, Bool.not_false, Bool.not_not]; assumption)))) | ((with_reducible apply State.allocAgg st); intro b w st) | ((with_reducible apply State.storeAll st); (focus ((repeat (first | exact Sub.head | apply Sub.tail)); done)); (focus (first | (simp [whCells, valL, over_length, Value.cells]; done) | omega)); (focus (first | (simp [whCells, valL, over_length, Value.cells]; done) | omega)); (focus (first | rfl | assumption | (simp [whCells, valL, Value.oneCell', Value.cells]; done))); intro w st)))
  refine build_agg (whCells (purseS x.home x.of n)) (by kernel_rfl) ?_
  refine st.make (R' := fun L' => .cells _ (whCells x) :: .world L' (a.make (purseS x.home x.of n)) :: R) (fun L' => .tail .head) hg (by simp [Plain, Wh.zero]) (by simp [Wh.zero]) (by simp) hE fun w L' hp st => ?_
  rw [← hp]
  (repeat (first | ((with_reducible apply field_at)) | ((with_reducible apply neq_at)) | ((with_reducible apply ext_0)) | ((with_reducible apply ext_1)) | ((with_reducible apply State.load1 st); (focus ((repeat (first | exact List.Mem.head _ | assumption | refine List.Mem.tail _ ?_)); done)); (focus rfl)) | ((with_reducible apply cond_f); (focus (first | assumption | rfl | decide | (simp only [bne, Bool.not_eq_true', Bool.not_eq_false', Bool.not_true, Bool.not_false, Bool.not_not]; assumption)))) | ((with_reducible apply State.loadAll st); (focus ((repeat (first | exact List.Mem.head _ | assumption | refine List.Mem.tail _ ?_)); done)); (focus (first | (simp [whCells, valL, over_length, Value.cells]; done) | omega))) | ((with_reducible apply State.store1 st); (focus ((repeat (first | exact Sub.head | apply Sub.tail)); done)); (focus (first | (simp [whCells, valL, over_length, Value.cells]; done) | omega)); (focus (first | rfl | assumption | (simp [whCells, valL, Value.oneCell', Value.cells]; done))); intro w st) | ((with_reducible apply sub_at); (focus omega); (focus omega)) | (simp only [upd_get, start_get, List.getD_cons_zero, List.getD_cons_succ, Nat.reduceEqDiff, reduceIte, Nat.reduceAdd])))
  refine State.lay (x := withN x (x.n - n)) (r := p) st (.tail .head) hpx (by simp [hx]) hset (by simp [hx]) hL fun w st => ?_
  skip
  exact hk _ _ hp st.drop1

def takeE (a : AW) (x : Wh) (n : Int) : Int := if n < 0 then 2 else if x.n < n then 81 else makeE a (purseS x.home x.of n)

theorem State.takeNo {p n e : Int} {x : Wh} (st : State S w0 w (.world L a :: R)) (hg : Good a) (hat : a.at p = some x) (hx : x.kind = 9) (hpx : Plain x)
    (hE : takeE a x n = e) (he : e ≠ 0) (hk : ∀ w, State S w0 w (.world L a :: R) → K (.tuple #[vi 0, vi e]) w) : callOn prog fn_purse_Take #[ptr L.p, vi p, vi n] w K := by
  apply F_purse_Take_on
  unfold F_purse_Take
  refine st.findYes (.head _) (.inr rfl) hat hpx fun w st => ?_
  rw [if_pos hx]
  unfold takeE at hE
  by_cases h1 : n < 0
  · have q1 : decide (n < 0) = true := by simpa using h1
    rw [if_pos h1] at hE
    subst hE
    (repeat (first | ((with_reducible apply neq_at)) | ((with_reducible apply lss_at)) | ((with_reducible apply ext_0)) | ((with_reducible apply ext_1)) | ((with_reducible apply cond_t); (focus (first | assumption | rfl | decide | (simp only [bne, Bool.not_eq_true', Bool.not_eq_false', Bool.not_true, Bool.not_false, Bool.not_not]; assumption)))) | ((with_reducible apply cond_f); (focus (first | assumption | rfl | decide | (simp only [bne, Bool.not_eq_true', Bool.not_eq_false', Bool.not_true, Bool.not_false, Bool.not_not]; assumption)))) | ((with_reducible apply State.allocAgg st); intro b w st) | ((with_reducible apply State.storeAll st); (focus ((repeat (first | exact Sub.head | apply Sub.tail)); done)); (focus (first | (simp [whCells, valL, over_length, Value.cells]; done) | omega)); (focus (first | (simp [whCells, valL, over_length, Value.cells]; done) | omega)); (focus (first | rfl | assumption | (simp [whCells, valL, Value.oneCell', Value.cells]; done))); intro w st)))
    exact hk _ st.drop1
  · have q1 : decide (n < 0) = false := by simpa using h1
    rw [if_neg h1] at hE
    by_cases h2 : x.n < n
    · have q2 : decide (n > x.n) = true := by simpa using h2
      rw [if_pos h2] at hE
      subst hE
      (repeat (first | ((with_reducible apply field_at)) | ((with_reducible apply neq_at)) | ((with_reducible apply lss_at)) | ((with_reducible apply gtr_at)) | ((with_reducible apply ext_0)) | ((with_reducible apply ext_1)) | ((with_reducible apply State.load1 st); (focus ((repeat (first | exact List.Mem.head _ | assumption | refine List.Mem.tail _ ?_)); done)); (focus rfl)) | ((with_reducible apply cond_t); (focus (first | assumption | rfl | decide | (simp only [bne, Bool.not_eq_true', Bool.not_eq_false', Bool.not_true, Bool.not_false, Bool.not_not]; assumption)))) | ((with_reducible apply cond_f); (focus (first | assumption | rfl | decide | (simp only [bne, Bool.not_eq_true', Bool.not_eq_false', Bool.not_true, Bool.not_false, Bool.not_not]; assumption)))) | ((with_reducible apply State.allocAgg st); intro b w st) | ((with_reducible apply State.storeAll st); (focus ((repeat (first | exact Sub.head | apply Sub.tail)); done)); (focus (first | (simp [whCells, valL, over_length, Value.cells]; done) | omega)); (focus (first | (simp [whCells, valL, over_length, Value.cells]; done) | omega)); (focus (first | rfl | assumption | (simp [whCells, valL, Value.oneCell', Value.cells]; done))); intro w st)))
      exact hk _ st.drop1
    · have q2 : decide (n > x.n) = false := by simpa using h2
      rw [if_neg h2] at hE
      (repeat (first | ((with_reducible apply field_at)) | ((with_reducible apply neq_at)) | ((with_reducible apply lss_at)) | ((with_reducible apply gtr_at)) | ((with_reducible apply ext_0)) | ((with_reducible apply ext_1)) | ((with_reducible apply State.load1 st); (focus ((repeat (first | exact List.Mem.head _ | assumption | refine List.Mem.tail _ ?_)); done)); (focus rfl)) | ((with_reducible apply cond_f); (focus (first | assumption | rfl | decide | (simp only [bne, Bool.not_eq_true', Bool.not_eq_false', Bool.not_true, Bool.not_false, Bool.not_not]; assumption)))) | ((with_reducible apply State.allocAgg st); intro b w st) | ((with_reducible apply State.storeAll st); (focus ((repeat (first | exact Sub.head | apply Sub.tail)); done)); (focus (first | (simp [whCells, valL, over_length, Value.cells]; done) | omega)); (focus (first | (simp [whCells, valL, over_length, Value.cells]; done) | omega)); (focus (first | rfl | assumption | (simp [whCells, valL, Value.oneCell', Value.cells]; done))); intro w st)))
      refine build_agg (whCells (purseS x.home x.of n)) (by kernel_rfl) ?_
      refine st.makeNo (.tail _ (.head _)) hg (by simp [Plain, Wh.zero]) (by simp [Wh.zero]) (by simp) hE he fun w st => ?_
      have q3 : (e != 0) = true := by simpa using he
      (repeat (first | ((with_reducible apply neq_at)) | ((with_reducible apply ext_0)) | ((with_reducible apply ext_1)) | ((with_reducible apply cond_t); (focus (first | assumption | rfl | decide | (simp only [bne, Bool.not_eq_true', Bool.not_eq_false', Bool.not_true, Bool.not_false, Bool.not_not]; assumption))))))
      exact hk _ st.drop1

theorem State.getYes {p : Int} {x : Wh} (st : State S w0 w R) (hm : .world L a ∈ R) (hat : a.at p = some x) (hx : x.kind = 9) (hpx : Plain x) (hk : ∀ w, State S w0 w R → K (.tuple #[vi x.n, vi 0]) w) : callOn prog fn_purse_Get #[ptr L.p, vi p] w K := by
  apply F_purse_Get_on
  unfold F_purse_Get
  refine st.findYes hm (.inr rfl) hat hpx fun w st => ?_
  rw [if_pos hx]
  (repeat (first | ((with_reducible apply field_at)) | ((with_reducible apply neq_at)) | ((with_reducible apply ext_0)) | ((with_reducible apply ext_1)) | ((with_reducible apply State.load1 st); (focus ((repeat (first | exact List.Mem.head _ | assumption | refine List.Mem.tail _ ?_)); done)); (focus rfl)) | ((with_reducible apply cond_f); (focus (first | assumption | rfl | decide | (simp only [bne, Bool.not_eq_true', Bool.not_eq_false', Bool.not_true, Bool.not_false, Bool.not_not]; assumption)))) | ((with_reducible apply State.allocAgg st); intro b w st) | ((with_reducible apply State.storeAll st); (focus ((repeat (first | exact Sub.head | apply Sub.tail)); done)); (focus (first | (simp [whCells, valL, over_length, Value.cells]; done) | omega)); (focus (first | (simp [whCells, valL, over_length, Value.cells]; done) | omega)); (focus (first | rfl | assumption | (simp [whCells, valL, Value.oneCell', Value.cells]; done))); intro w st)))
  exact hk _ st.drop1

/-- all of one purse goes into another of its mint -/
theorem State.moveYes {t f : Int} {x y : Wh} (st : State S w0 w (.world L a :: R)) (hg : Good a) (hat : a.at t = some x) (hx : x.kind = 9) (hpx : Plain x) (hsx : 0 ≤ x.set ∧ x.set < 256) (haf : a.at f = some y) (hy : y.kind = 9) (hpy : Plain y) (hsy : 0 ≤ y.set ∧ y.set < 256)
    (htf : t ≠ f) (hof : x.of = y.of) (h0 : 0 ≤ x.n) (h1 : 0 ≤ y.n) (h2 : x.n + y.n ≤ 9007199254740992) (hL1 : layE a t (withN x (x.n + y.n)) = 0) (hL2 : layE (AW.put a t (withN x (x.n + y.n))) f (withN y 0) = 0)
    (hk : ∀ w, State S w0 w (.world L (AW.move a t f x y) :: R) → K (vi 0) w) : callOn prog fn_purse_Move #[ptr L.p, vi t, vi f] w K := by
  apply F_purse_Move_on
  unfold F_purse_Move
  refine st.findYes (.head _) (.inr rfl) hat hpx fun w st => ?_
  rw [if_pos hx]
  (repeat (first | ((with_reducible apply ext_0)) | ((with_reducible apply ext_1)) | ((with_reducible apply State.allocAgg st); intro b w st) | ((with_reducible apply State.storeAll st); (focus ((repeat (first | exact Sub.head | apply Sub.tail)); done)); (focus (first | (simp [whCells, valL, over_length, Value.cells]; done) | omega)); (focus (first | (simp [whCells, valL, over_length, Value.cells]; done) | omega)); (focus (first | rfl | assumption | (simp [whCells, valL, Value.oneCell', Value.cells]; done))); intro w st)))
  refine st.findYes (.tail _ (.head _)) (.inr rfl) haf hpy fun w st => ?_
  rw [if_pos hy]
  have q1 : (t == f) = false := by simpa using htf
  have q2 : (x.of != y.of) = false := by simpa using hof
  have q3 : decide (y.n > 9007199254740992 - x.n) = false := by simp; omega
  (repeat (first | ((with_reducible apply field_at)) | ((with_reducible apply eql_at)) | ((with_reducible apply neq_at)) | ((with_reducible apply gtr_at)) | ((with_reducible apply ext_0)) | ((with_reducible apply ext_1)) | ((with_reducible apply State.load1 st); (focus ((repeat (first | exact List.Mem.head _ | assumption | refine List.Mem.tail _ ?_)); done)); (focus rfl)) | ((with_reducible apply gop_run); (focus (first | assumption | rfl | decide | (simp only [bne, Bool.not_eq_true', Bool.not_eq_false', Bool.not_true, Bool.not_false, Bool.not_not]; assumption)))) | ((with_reducible apply cond_f); (focus (first | assumption | rfl | decide | (simp only [bne, Bool.not_eq_true', Bool.not_eq_false', Bool.not_true, Bool.not_false, Bool.not_not]; assumption)))) | ((with_reducible apply pick_f); (focus (first | assumption | rfl | decide | (simp only [bne, Bool.not_eq_true', Bool.not_eq_false', Bool.not_true, Bool.not_false, Bool.not_not]; assumption)))) | ((with_reducible apply State.loadAll st); (focus ((repeat (first | exact List.Mem.head _ | assumption | refine List.Mem.tail _ ?_)); done)); (focus (first | (simp [whCells, valL, over_length, Value.cells]; done) | omega))) | ((with_reducible apply State.allocAgg st); intro b w st) | ((with_reducible apply State.storeAll st); (focus ((repeat (first | exact Sub.head | apply Sub.tail)); done)); (focus (first | (simp [whCells, valL, over_length, Value.cells]; done) | omega)); (focus (first | (simp [whCells, valL, over_length, Value.cells]; done) | omega)); (focus (first | rfl | assumption | (simp [whCells, valL, Value.oneCell', Value.cells]; done))); intro w st) | ((with_reducible apply State.store1 st); (focus ((repeat (first | exact Sub.head | apply Sub.tail)); done)); (focus (first | (simp [whCells, valL, over_length, Value.cells]; done) | omega)); (focus (first | rfl | assumption | (simp [whCells, valL, Value.oneCell', Value.cells]; done))); intro w st) | ((with_reducible apply add_at); (focus omega); (focus omega)) | ((with_reducible apply sub_at); (focus omega); (focus omega)) | (simp only [upd_get, start_get, List.getD_cons_zero, List.getD_cons_succ, Nat.reduceEqDiff, reduceIte, Nat.reduceAdd])))
  refine State.lay (x := withN x (x.n + y.n)) (r := t) st (.tail (.tail .head)) hpx (by simp [hx]) hsx (by simp [hx]) hL1 fun w st => ?_
  (repeat (first | ((with_reducible apply neq_at)) | ((with_reducible apply cond_f); (focus (first | assumption | rfl | decide | (simp only [bne, Bool.not_eq_true', Bool.not_eq_false', Bool.not_true, Bool.not_false, Bool.not_not]; assumption)))) | ((with_reducible apply State.loadAll st); (focus ((repeat (first | exact List.Mem.head _ | assumption | refine List.Mem.tail _ ?_)); done)); (focus (first | (simp [whCells, valL, over_length, Value.cells]; done) | omega))) | (simp only [upd_get, start_get, List.getD_cons_zero, List.getD_cons_succ, Nat.reduceEqDiff, reduceIte, Nat.reduceAdd])))
  refine State.lay (x := withN y 0) (r := f) st (.tail (.tail .head)) hpy (by simp [hy]) hsy (by simp [hy]) hL2 fun w st => ?_
  exact hk _ st.drop1.drop1

theorem State.moveNo {t f : Int} {x y : Wh} (st : State S w0 w R) (hm : .world L a ∈ R) (hat : a.at t = some x) (hpx : Plain x) (haf : a.at f = some y) (hpy : Plain y) (hno : x.kind ≠ 9 ∨ y.kind ≠ 9 ∨ t = f ∨ x.of ≠ y.of)
    (hk : ∀ w, State S w0 w R → K (vi 100) w) : callOn prog fn_purse_Move #[ptr L.p, vi t, vi f] w K := by
  apply F_purse_Move_on
  unfold F_purse_Move
  refine st.findYes hm (.inr rfl) hat hpx fun w st => ?_
  by_cases hx : x.kind = 9
  · rw [if_pos hx]
    (repeat (first | ((with_reducible apply ext_0)) | ((with_reducible apply ext_1)) | ((with_reducible apply State.allocAgg st); intro b w st) | ((with_reducible apply State.storeAll st); (focus ((repeat (first | exact Sub.head | apply Sub.tail)); done)); (focus (first | (simp [whCells, valL, over_length, Value.cells]; done) | omega)); (focus (first | (simp [whCells, valL, over_length, Value.cells]; done) | omega)); (focus (first | rfl | assumption | (simp [whCells, valL, Value.oneCell', Value.cells]; done))); intro w st)))
    refine st.findYes (.tail _ hm) (.inr rfl) haf hpy fun w st => ?_
    by_cases hy : y.kind = 9
    · rw [if_pos hy]
      by_cases htf : t = f
      · have q1 : (t == f) = true := by simpa using htf
        (repeat (first | ((with_reducible apply eql_at)) | ((with_reducible apply neq_at)) | ((with_reducible apply ext_0)) | ((with_reducible apply ext_1)) | ((with_reducible apply cond_t); (focus (first | assumption | rfl | decide | (simp only [bne, Bool.not_eq_true', Bool.not_eq_false', Bool.not_true, Bool.not_false, Bool.not_not]; assumption)))) | ((with_reducible apply gop_run); (focus (first | assumption | rfl | decide | (simp only [bne, Bool.not_eq_true', Bool.not_eq_false', Bool.not_true, Bool.not_false, Bool.not_not]; assumption)))) | ((with_reducible apply pick_t); (focus (first | assumption | rfl | decide | (simp only [bne, Bool.not_eq_true', Bool.not_eq_false', Bool.not_true, Bool.not_false, Bool.not_not]; assumption)))) | ((with_reducible apply cond_f); (focus (first | assumption | rfl | decide | (simp only [bne, Bool.not_eq_true', Bool.not_eq_false', Bool.not_true, Bool.not_false, Bool.not_not]; assumption)))) | ((with_reducible apply gop_skip); (focus (first | assumption | rfl | decide | (simp only [bne, Bool.not_eq_true', Bool.not_eq_false', Bool.not_true, Bool.not_false, Bool.not_not]; assumption)))) | ((with_reducible apply pick_f); (focus (first | assumption | rfl | decide | (simp only [bne, Bool.not_eq_true', Bool.not_eq_false', Bool.not_true, Bool.not_false, Bool.not_not]; assumption)))) | ((with_reducible apply State.allocAgg st); intro b w st) | ((with_reducible apply State.storeAll st); (focus ((repeat (first | exact Sub.head | apply Sub.tail)); done)); (focus (first | (simp [whCells, valL, over_length, Value.cells]; done) | omega)); (focus (first | (simp [whCells, valL, over_length, Value.cells]; done) | omega)); (focus (first | rfl | assumption | (simp [whCells, valL, Value.oneCell', Value.cells]; done))); intro w st)))
        exact hk _ st.drop1.drop1
      · have q1 : (t == f) = false := by simpa using htf
        have q2 : (x.of != y.of) = true := by
          simp only [bne_iff_ne]
          rcases hno with h | h | h | h
          · exact absurd hx h
          · exact absurd hy h
          · exact absurd h htf
          · exact h
        (repeat (first | ((with_reducible apply field_at)) | ((with_reducible apply eql_at)) | ((with_reducible apply neq_at)) | ((with_reducible apply ext_0)) | ((with_reducible apply ext_1)) | ((with_reducible apply State.load1 st); (focus ((repeat (first | exact List.Mem.head _ | assumption | refine List.Mem.tail _ ?_)); done)); (focus rfl)) | ((with_reducible apply cond_t); (focus (first | assumption | rfl | decide | (simp only [bne, Bool.not_eq_true', Bool.not_eq_false', Bool.not_true, Bool.not_false, Bool.not_not]; assumption)))) | ((with_reducible apply gop_run); (focus (first | assumption | rfl | decide | (simp only [bne, Bool.not_eq_true', Bool.not_eq_false', Bool.not_true, Bool.not_false, Bool.not_not]; assumption)))) | ((with_reducible apply cond_f); (focus (first | assumption | rfl | decide | (simp only [bne, Bool.not_eq_true', Bool.not_eq_false', Bool.not_true, Bool.not_false, Bool.not_not]; assumption)))) | ((with_reducible apply pick_f); (focus (first | assumption | rfl | decide | (simp only [bne, Bool.not_eq_true', Bool.not_eq_false', Bool.not_true, Bool.not_false, Bool.not_not]; assumption)))) | ((with_reducible apply State.allocAgg st); intro b w st) | ((with_reducible apply State.storeAll st); (focus ((repeat (first | exact Sub.head | apply Sub.tail)); done)); (focus (first | (simp [whCells, valL, over_length, Value.cells]; done) | omega)); (focus (first | (simp [whCells, valL, over_length, Value.cells]; done) | omega)); (focus (first | rfl | assumption | (simp [whCells, valL, Value.oneCell', Value.cells]; done))); intro w st)))
        exact hk _ st.drop1.drop1
    · rw [if_neg hy]
      (repeat (first | ((with_reducible apply eql_at)) | ((with_reducible apply neq_at)) | ((with_reducible apply ext_0)) | ((with_reducible apply ext_1)) | ((with_reducible apply cond_t); (focus (first | assumption | rfl | decide | (simp only [bne, Bool.not_eq_true', Bool.not_eq_false', Bool.not_true, Bool.not_false, Bool.not_not]; assumption)))) | ((with_reducible apply gop_run); (focus (first | assumption | rfl | decide | (simp only [bne, Bool.not_eq_true', Bool.not_eq_false', Bool.not_true, Bool.not_false, Bool.not_not]; assumption)))) | ((with_reducible apply pick_t); (focus (first | assumption | rfl | decide | (simp only [bne, Bool.not_eq_true', Bool.not_eq_false', Bool.not_true, Bool.not_false, Bool.not_not]; assumption)))) | ((with_reducible apply cond_f); (focus (first | assumption | rfl | decide | (simp only [bne, Bool.not_eq_true', Bool.not_eq_false', Bool.not_true, Bool.not_false, Bool.not_not]; assumption)))) | ((with_reducible apply gop_skip); (focus (first | assumption | rfl | decide | (simp only [bne, Bool.not_eq_true', Bool.not_eq_false', Bool.not_true, Bool.not_false, Bool.not_not]; assumption)))) | ((with_reducible apply pick_f); (focus (first | assumption | rfl | decide | (simp only [bne, Bool.not_eq_true', Bool.not_eq_false', Bool.not_true, Bool.not_false, Bool.not_not]; assumption)))) | ((with_reducible apply State.allocAgg st); intro b w st) | ((with_reducible apply State.storeAll st); (focus ((repeat (first | exact Sub.head | apply Sub.tail)); done)); (focus (first | (simp [whCells, valL, over_length, Value.cells]; done) | omega)); (focus (first | (simp [whCells, valL, over_length, Value.cells]; done) | omega)); (focus (first | rfl | assumption | (simp [whCells, valL, Value.oneCell', Value.cells]; done))); intro w st)))
      exact hk _ st.drop1.drop1
  · rw [if_neg hx]
    (repeat (first | ((with_reducible apply ext_0)) | ((with_reducible apply ext_1)) | ((with_reducible apply State.allocAgg st); intro b w st) | ((with_reducible apply State.storeAll st); (focus ((repeat (first | exact Sub.head | apply Sub.tail)); done)); (focus (first | (simp [whCells, valL, over_length, Value.cells]; done) | omega)); (focus (first | (simp [whCells, valL, over_length, Value.cells]; done) | omega)); (focus (first | rfl | assumption | (simp [whCells, valL, Value.oneCell', Value.cells]; done))); intro w st)))
    refine st.findYes (.tail _ hm) (.inr rfl) haf hpy fun w st => ?_
    by_cases hy : y.kind = 9
    · rw [if_pos hy]
      (repeat (first | ((with_reducible apply eql_at)) | ((with_reducible apply neq_at)) | ((with_reducible apply ext_0)) | ((with_reducible apply ext_1)) | ((with_reducible apply cond_t); (focus (first | assumption | rfl | decide | (simp only [bne, Bool.not_eq_true', Bool.not_eq_false', Bool.not_true, Bool.not_false, Bool.not_not]; assumption)))) | ((with_reducible apply gop_run); (focus (first | assumption | rfl | decide | (simp only [bne, Bool.not_eq_true', Bool.not_eq_false', Bool.not_true, Bool.not_false, Bool.not_not]; assumption)))) | ((with_reducible apply pick_t); (focus (first | assumption | rfl | decide | (simp only [bne, Bool.not_eq_true', Bool.not_eq_false', Bool.not_true, Bool.not_false, Bool.not_not]; assumption)))) | ((with_reducible apply cond_f); (focus (first | assumption | rfl | decide | (simp only [bne, Bool.not_eq_true', Bool.not_eq_false', Bool.not_true, Bool.not_false, Bool.not_not]; assumption)))) | ((with_reducible apply gop_skip); (focus (first | assumption | rfl | decide | (simp only [bne, Bool.not_eq_true', Bool.not_eq_false', Bool.not_true, Bool.not_false, Bool.not_not]; assumption)))) | ((with_reducible apply pick_f); (focus (first | assumption | rfl | decide | (simp only [bne, Bool.not_eq_true', Bool.not_eq_false', Bool.not_true, Bool.not_false, Bool.not_not]; assumption)))) | ((with_reducible apply State.allocAgg st); intro b w st) | ((with_reducible apply State.storeAll st); (focus ((repeat (first | exact Sub.head | apply Sub.tail)); done)); (focus (first | (simp [whCells, valL, over_length, Value.cells]; done) | omega)); (focus (first | (simp [whCells, valL, over_length, Value.cells]; done) | omega)); (focus (first | rfl | assumption | (simp [whCells, valL, Value.oneCell', Value.cells]; done))); intro w st)))
      exact hk _ st.drop1.drop1
    · rw [if_neg hy]
      (repeat (first | ((with_reducible apply eql_at)) | ((with_reducible apply neq_at)) | ((with_reducible apply ext_0)) | ((with_reducible apply ext_1)) | ((with_reducible apply cond_t); (focus (first | assumption | rfl | decide | (simp only [bne, Bool.not_eq_true', Bool.not_eq_false', Bool.not_true, Bool.not_false, Bool.not_not]; assumption)))) | ((with_reducible apply gop_run); (focus (first | assumption | rfl | decide | (simp only [bne, Bool.not_eq_true', Bool.not_eq_false', Bool.not_true, Bool.not_false, Bool.not_not]; assumption)))) | ((with_reducible apply pick_t); (focus (first | assumption | rfl | decide | (simp only [bne, Bool.not_eq_true', Bool.not_eq_false', Bool.not_true, Bool.not_false, Bool.not_not]; assumption)))) | ((with_reducible apply cond_f); (focus (first | assumption | rfl | decide | (simp only [bne, Bool.not_eq_true', Bool.not_eq_false', Bool.not_true, Bool.not_false, Bool.not_not]; assumption)))) | ((with_reducible apply gop_skip); (focus (first | assumption | rfl | decide | (simp only [bne, Bool.not_eq_true', Bool.not_eq_false', Bool.not_true, Bool.not_false, Bool.not_not]; assumption)))) | ((with_reducible apply pick_f); (focus (first | assumption | rfl | decide | (simp only [bne, Bool.not_eq_true', Bool.not_eq_false', Bool.not_true, Bool.not_false, Bool.not_not]; assumption)))) | ((with_reducible apply State.allocAgg st); intro b w st) | ((with_reducible apply State.storeAll st); (focus ((repeat (first | exact Sub.head | apply Sub.tail)); done)); (focus (first | (simp [whCells, valL, over_length, Value.cells]; done) | omega)); (focus (first | (simp [whCells, valL, over_length, Value.cells]; done) | omega)); (focus (first | rfl | assumption | (simp [whCells, valL, Value.oneCell', Value.cells]; done))); intro w st)))
      exact hk _ st.drop1.drop1

theorem State.ofMint {m : Int} {x : Wh} (st : State S w0 w R) (hm : .world L a ∈ R) (hat : a.at m = some x) (hx : x.kind = 8) (hpx : Plain x) (hk : ∀ w, State S w0 w R → K (.tuple #[vi m, vi 0]) w) : callOn prog fn_purse_Of #[ptr L.p, vi m] w K := by
  apply F_purse_Of_on
  unfold F_purse_Of
  refine st.findYes hm (.inl rfl) hat hpx fun w st => ?_
  rw [if_pos hx]
  (repeat (first | ((with_reducible apply neq_at)) | ((with_reducible apply ext_0)) | ((with_reducible apply ext_1)) | ((with_reducible apply cond_t); (focus (first | assumption | rfl | decide | (simp only [bne, Bool.not_eq_true', Bool.not_eq_false', Bool.not_true, Bool.not_false, Bool.not_not]; assumption)))) | ((with_reducible apply cond_f); (focus (first | assumption | rfl | decide | (simp only [bne, Bool.not_eq_true', Bool.not_eq_false', Bool.not_true, Bool.not_false, Bool.not_not]; assumption)))) | ((with_reducible apply State.allocAgg st); intro b w st) | ((with_reducible apply State.storeAll st); (focus ((repeat (first | exact Sub.head | apply Sub.tail)); done)); (focus (first | (simp [whCells, valL, over_length, Value.cells]; done) | omega)); (focus (first | (simp [whCells, valL, over_length, Value.cells]; done) | omega)); (focus (first | rfl | assumption | (simp [whCells, valL, Value.oneCell', Value.cells]; done))); intro w st)))
  exact hk _ st.drop1

theorem State.ofPurse {p : Int} {x : Wh} (st : State S w0 w R) (hm : .world L a ∈ R) (hat : a.at p = some x) (hx : x.kind = 9) (hpx : Plain x) (hk : ∀ w, State S w0 w R → K (.tuple #[vi x.of, vi 0]) w) : callOn prog fn_purse_Of #[ptr L.p, vi p] w K := by
  apply F_purse_Of_on
  unfold F_purse_Of
  refine st.findYes hm (.inl rfl) hat hpx fun w st => ?_
  rw [if_neg (by omega)]
  (repeat (first | ((with_reducible apply neq_at)) | ((with_reducible apply ext_0)) | ((with_reducible apply ext_1)) | ((with_reducible apply cond_f); (focus (first | assumption | rfl | decide | (simp only [bne, Bool.not_eq_true', Bool.not_eq_false', Bool.not_true, Bool.not_false, Bool.not_not]; assumption)))) | ((with_reducible apply State.allocAgg st); intro b w st) | ((with_reducible apply State.storeAll st); (focus ((repeat (first | exact Sub.head | apply Sub.tail)); done)); (focus (first | (simp [whCells, valL, over_length, Value.cells]; done) | omega)); (focus (first | (simp [whCells, valL, over_length, Value.cells]; done) | omega)); (focus (first | rfl | assumption | (simp [whCells, valL, Value.oneCell', Value.cells]; done))); intro w st)))
  refine st.findYes (.tail _ hm) (.inr rfl) hat hpx fun w st => ?_
  rw [if_pos hx]
  (repeat (first | ((with_reducible apply field_at)) | ((with_reducible apply neq_at)) | ((with_reducible apply ext_0)) | ((with_reducible apply ext_1)) | ((with_reducible apply State.load1 st); (focus ((repeat (first | exact List.Mem.head _ | assumption | refine List.Mem.tail _ ?_)); done)); (focus rfl)) | ((with_reducible apply cond_f); (focus (first | assumption | rfl | decide | (simp only [bne, Bool.not_eq_true', Bool.not_eq_false', Bool.not_true, Bool.not_false, Bool.not_not]; assumption)))) | ((with_reducible apply State.allocAgg st); intro b w st) | ((with_reducible apply State.storeAll st); (focus ((repeat (first | exact Sub.head | apply Sub.tail)); done)); (focus (first | (simp [whCells, valL, over_length, Value.cells]; done) | omega)); (focus (first | (simp [whCells, valL, over_length, Value.cells]; done) | omega)); (focus (first | rfl | assumption | (simp [whCells, valL, Value.oneCell', Value.cells]; done))); intro w st)))
  exact hk _ st.drop1.drop1
end
end Go.X
