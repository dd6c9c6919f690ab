/- Texts of this family, put together. -/
import Derived.Test.YtdjheefbeagcjaaXxC48
import Derived.Test.YtdjheefbeagcjaaXxS12
/- The law PurseBack: its call. -/
set_option linter.unusedSimpArgs false
set_option linter.unusedVariables false
set_option maxRecDepth 20000
set_option maxHeartbeats 2000000
namespace Go.X
open Go Go.AW

/-- the references of the first k purses -/
def refsL (k : Nat) : List Value := (List.range k).map fun (j : Nat) => vi ((j : Int) + 2)
theorem refsL_succ (k : Nat) : refsL (k + 1) = refsL k ++ [vi ((k : Int) + 2)] := by simp [refsL, List.range_succ]
theorem refsL_len (k : Nat) : (refsL k).length = k := by simp [refsL]
theorem refsL_get {k j : Nat} (h : j < k) : (refsL k).getD j undef = vi ((j : Int) + 2) := by simp [refsL, List.getD_eq_getElem?_getD, h]

theorem move_take {qs : List Int} {k j : Nat} (hk : k ≤ qs.length) (h0 : 0 < k) (hj : j < k) (hj0 : 0 ≠ j) :
    (((qs.set 0 (qs[0] + qs[j])).set j 0).take k).sum = (qs.take k).sum := by
  have e1 : ((qs.set 0 (qs[0] + qs[j])).set j 0).take k = ((qs.take k).set 0 (qs[0] + qs[j])).set j 0 := by rw [List.take_set, List.take_set]
  have hl : (qs.take k).length = k := by simp; omega
  rw [e1, sum_set (by simp; omega), List.getElem_set_ne hj0, sum_set (by omega)]
  simp only [List.getElem_take]
  omega

theorem take_zero {qs : List Int} {k : Nat} (hk : k ≤ qs.length) (h0 : 0 < k) (hz : ∀ j (h : j < qs.length), 1 ≤ j → j < k → qs[j] = 0) : (qs.take k).sum = qs[0] := by
  have key : ∀ m, m ≤ k → 1 ≤ m → (qs.take m).sum = qs[0] := by
    intro m
    induction m with
    | zero => intro _ h; omega
    | succ m ih =>
      intro hm _
      rw [List.take_add_one, List.getElem?_eq_getElem (by omega)]
      simp only [Option.toList_some, List.sum_append, List.sum_cons, List.sum_nil]
      by_cases hm0 : m = 0
      · subst hm0; simp
      · rw [ih (by omega) (by omega), hz m (by omega) (by omega) (by omega)]; omega
  exact key k (Nat.le_refl _) h0

theorem modI_eq (s : Int) (n : Int) : ((s.tmod n) + n).tmod n = modI s n := rfl

section
variable {W w : World} {L : Lay} {a : AW} {K : Value → World → Prop} {k : Value → Prop}

theorem at_u16 {v : Value} {l : List Int} {j : Int} (h : ReadsOf w v (l.map (.int .u16))) (h0 : 0 ≤ j) (h1 : j < l.length) (hk : ∀ b i, Reads w b i (.int .u16 (l.getD j.toNat 0)) → k (.pointer (some ⟨b, i, none⟩))) : indexS 1 v (vi j) k :=
  at_val' h h0 (by simpa using h1) fun b i hr => hk b i (by
    have : j.toNat < l.length := by omega
    simpa [this, List.getD_eq_getElem?_getD] using hr)

theorem at_ref {v : Value} {n : Nat} {j : Int} (h : ReadsOf w v (refsL n)) (h0 : 0 ≤ j) (h1 : j < n) (hk : ∀ b i, Reads w b i (vi (j + 2)) → k (.pointer (some ⟨b, i, none⟩))) : indexS 1 v (vi j) k :=
  at_val' h h0 (by rw [refsL_len]; exact h1) fun b i hr => hk b i (by
    rw [refsL_get (by omega)] at hr
    rwa [show ((j.toNat : Nat) : Int) = j by omega] at hr)

/-- a move into the first purse, out of one of the first n -/
theorem back_move {v : Value} {n j : Nat} {qs : List Int} (st : State (fun _ => False) W w [.world L a, .slice v (refsL n)]) (hT : Till a 0 qs) (hn : n ≤ qs.length) (h0 : 0 < n) (hj : j < n) (hj0 : j ≠ 0)
    (hk : ∀ w a' qs', qs' = (qs.set 0 (qs[0] + qs[j])).set j 0 → Till a' 0 qs' → State (fun _ => False) W w [.world L a', .slice v (refsL n)] → K (vi 0) w) : callOn prog fn_purse_Move #[ptr L.p, vi 2, vi ((j : Int) + 2)] w K := by
  obtain ⟨g1, g2, g3, g4, g5, g6⟩ := hT.move (i := 0) (j := j) (by omega) (by omega) (Ne.symm hj0)
  have ha0 := hT.atP (i := 0) (by omega)
  have haj := hT.atP (i := j) (by omega)
  simp only [Int.natCast_zero, Int.zero_add] at g4 g5 g6 ha0
  exact State.moveYes st hT.good ha0 rfl (by simp [Plain, Wh.zero]) (by simp [Wh.zero]) haj rfl (by simp [Plain, Wh.zero]) (by simp [Wh.zero]) (by omega) rfl g1 g2 g3 g4 g5 fun w st => hk w _ _ rfl g6 st

/-- the tail: whatever order, then all into the first one -/
theorem back_tail {v1 : Value} {os qs : List Int} {tot : Int} {n : Nat} {e : Env} {xa : Option Addr} {cap : Nat} (h1 : ReadsOf W v1 (os.map vi)) (hT : Till a 0 qs) (hn : n ≤ qs.length) (h0 : 0 < n) (h60 : n ≤ 60) (hsum : (qs.take n).sum = tot)
    (g1 : e 1 = v1) (g7 : e 7 = ptr L.p) (g11 : e 11 = .slice xa n cap) (g12 : e 12 = vi tot) (st : State (fun _ => False) W w [.world L a, .slice (.slice xa n cap) (refsL n)]) (hk : ∀ w', Ext W w' → K (.bool true) w') : F_law10_PurseBack_s16 e w K := by
  obtain ⟨x1, n1, c1, hv1, hn1, _⟩ := h1.first
  have hn1 : n1 = os.length := by simpa using hn1
  subst hn1
  subst hv1
  unfold F_law10_PurseBack_s16
  refine ⟨fun m e w' => ∃ (i : Nat) (a : AW) (qs : List Int), m = os.length - i ∧ i ≤ os.length ∧ Till a 0 qs ∧ n ≤ qs.length ∧ (qs.take n).sum = tot ∧ e 1 = .slice x1 os.length c1 ∧ e 7 = ptr L.p ∧ e 11 = .slice xa n cap ∧ e 12 = vi tot ∧ e 25 = vi i ∧
    State (fun _ => False) W w' [.world L a, .slice (.slice xa n cap) (refsL n)], os.length, ⟨0, a, qs, by omega, by omega, hT, hn, hsum, by first | trivial | (simp [upd_get, g1]; done), by first | trivial | (simp [upd_get, g7]; done), by first | trivial | (simp [upd_get, g11]; done), by first | trivial | (simp [upd_get, g12]; done), by first | trivial | (simp [upd_get]; done), st⟩, ?_⟩
  clear st hT hn hsum g1 g7 g11 g12
  rintro m e w1 ⟨i, a, qs, rfl, hi, hT, hn, hsum, g1, g7, g11, g12, g25, st⟩
  simp only [g1, g7, g11, g12, g25, upd_get, Nat.reduceEqDiff, if_false, if_true]
  have fin : ∀ {e : Env} {w : World}, e 1 = .slice x1 os.length c1 → e 7 = ptr L.p → e 11 = .slice xa n cap → e 12 = vi tot → State (fun _ => False) W w [.world L a, .slice (.slice xa n cap) (refsL n)] → e 28 = vi 1 →
      loopK (fun k4 e4 w => lenL (e4 11) fun t213 => F_law10_PurseBack_s13 e4 k4 (upd (upd (upd e4 211 (e4 28)) 212 (e4 11)) 213 t213) t213 w K) e w := by
    intro e w g1 g7 g11 g12 st g28
    refine ⟨fun m e w' => ∃ (i : Nat) (a : AW) (qs : List Int), m = n - i ∧ i ≤ n ∧ 1 ≤ i ∧ Till a 0 qs ∧ n ≤ qs.length ∧ (qs.take n).sum = tot ∧ (∀ j (h : j < qs.length), 1 ≤ j → j < i → qs[j] = 0) ∧ e 7 = ptr L.p ∧ e 11 = .slice xa n cap ∧ e 12 = vi tot ∧ e 28 = vi i ∧
      State (fun _ => False) W w' [.world L a, .slice (.slice xa n cap) (refsL n)], n - 1, ⟨1, a, qs, by omega, by omega, by omega, hT, hn, hsum, fun j _ h1 h2 => by omega, g7, g11, g12, g28, st⟩, ?_⟩
    clear st hT hn hsum g1 g7 g11 g12 g28
    rintro m e w2 ⟨i, a, qs, rfl, hi, hi1, hT, hn, hsum, hz, g7, g11, g12, g28, st⟩
    simp only [g7, g11, g12, g28]
    by_cases hil : i < n
    · have q1 : decide ((i : Int) < (n : Int)) = true := by simp; omega
      (repeat (first | ((with_reducible apply len_slice))))
      unfold F_law10_PurseBack_s13
      rw [g28]
      (repeat (first | ((with_reducible apply lss_at)) | ((with_reducible apply cond_t); (focus (first | assumption | rfl | decide | (simp only [bne, Bool.not_eq_true', Bool.not_eq_false', Bool.not_true, Bool.not_false, Bool.not_not]; assumption)))) | (rewrite [g28]) | (rewrite [g7]) | (rewrite [g11]) | (simp only [upd_get, start_get, List.getD_cons_zero, List.getD_cons_succ, Nat.reduceEqDiff, reduceIte, Nat.reduceAdd]) | ((with_reducible apply State.atDrew st); intro w st)))
      refine at_ref (st.sl (.tail _ (.head _))).reads (by omega) (by omega) fun b j hrd => ?_
      (repeat (first | ((with_reducible apply load_reads); (focus assumption))))
      refine at_ref (st.sl (.tail _ (.head _))).reads (by omega) (by omega) fun b2 j2 hrd2 => ?_
      (repeat (first | ((with_reducible apply load_reads); (focus assumption))))
      refine back_move st hT hn h0 hil (by omega) fun w a' qs' hq hT' st => ?_
      (repeat (first | ((with_reducible apply neq_at)) | ((with_reducible apply cond_f); (focus (first | assumption | rfl | decide | (simp only [bne, Bool.not_eq_true', Bool.not_eq_false', Bool.not_true, Bool.not_false, Bool.not_not]; assumption)))) | ((with_reducible apply add_at); (focus omega); (focus omega)) | (rewrite [g28]) | (rewrite [g7]) | (rewrite [g11]) | (rewrite [g12]) | (simp only [upd_get, start_get, List.getD_cons_zero, List.getD_cons_succ, Nat.reduceEqDiff, reduceIte, Nat.reduceAdd])))
      refine ⟨n - (i + 1), by omega, i + 1, a', qs', rfl, by omega, by omega, hT', by rw [hq]; simpa using hn, by rw [hq, move_take hn h0 hil (by omega)]; exact hsum, fun j hj h1 h2 => ?_, by first | trivial | (simp [upd_get, g7]; done), by first | trivial | (simp [upd_get, g11]; done), by first | trivial | (simp [upd_get, g12]; done), by first | trivial | (simp [upd_get]; done), st⟩
      subst hq
      by_cases hji : j = i
      · subst hji; simp
      · rw [List.getElem_set_ne (fun e => hji e.symm), List.getElem_set_ne (by omega)]
        exact hz j (by simpa using hj) h1 (by omega)
    · have q1 : decide ((i : Int) < (n : Int)) = false := by simp; omega
      have hq0 := take_zero hn h0 fun j hj h1 h2 => hz j hj h1 (by omega)
      have ha0 := hT.atP (i := 0) (by omega)
      simp only [Int.natCast_zero, Int.zero_add] at ha0
      (repeat (first | ((with_reducible apply len_slice))))
      unfold F_law10_PurseBack_s13
      rw [g28]
      (repeat (first | ((with_reducible apply lss_at)) | ((with_reducible apply cond_f); (focus (first | assumption | rfl | decide | (simp only [bne, Bool.not_eq_true', Bool.not_eq_false', Bool.not_true, Bool.not_false, Bool.not_not]; assumption)))) | (rewrite [g7]) | (rewrite [g11]) | ((with_reducible (conv => whnf)); (simp only [upd_get, start_get, List.getD_cons_zero, List.getD_cons_succ, Nat.reduceEqDiff, reduceIte, Nat.reduceAdd]))))
      refine at_ref (j := 0) (st.sl (.tail _ (.head _))).reads (by omega) (by omega) fun b j hrd => ?_
      (repeat (first | ((with_reducible apply load_reads); (focus assumption))))
      refine st.getYes (.head _) ha0 rfl (by simp [Plain, Wh.zero]) fun w st => ?_
      have q3 : (qs[0] == tot) = true := by rw [← hq0, hsum]; simp
      (repeat (first | ((with_reducible apply eql_at)) | ((with_reducible apply ext_0)) | ((with_reducible apply ext_1)) | ((with_reducible apply gop_run); (focus (first | assumption | rfl | decide | (simp only [bne, Bool.not_eq_true', Bool.not_eq_false', Bool.not_true, Bool.not_false, Bool.not_not]; assumption)))) | (rewrite [g12]) | (simp only [upd_get, start_get, List.getD_cons_zero, List.getD_cons_succ, Nat.reduceEqDiff, reduceIte, Nat.reduceAdd])))
      refine lives10_c fun w he => ?_
      have st := st.ext he
      (repeat (first | ((with_reducible apply pick_t); (focus (first | assumption | rfl | decide | (simp only [bne, Bool.not_eq_true', Bool.not_eq_false', Bool.not_true, Bool.not_false, Bool.not_not]; assumption))))))
      exact hk w st.keeps
  by_cases hil : i < os.length
  · have q1 : decide ((i : Int) < (os.length : Int)) = true := by simp; omega
    by_cases hi100 : i < 100
    · have q2 : decide ((i : Int) < 100) = true := by simp; omega
      (repeat (first | ((with_reducible apply lss_at)) | ((with_reducible apply len_slice)) | ((with_reducible apply cond_t); (focus (first | assumption | rfl | decide | (simp only [bne, Bool.not_eq_true', Bool.not_eq_false', Bool.not_true, Bool.not_false, Bool.not_not]; assumption)))) | ((with_reducible apply gop_run); (focus (first | assumption | rfl | decide | (simp only [bne, Bool.not_eq_true', Bool.not_eq_false', Bool.not_true, Bool.not_false, Bool.not_not]; assumption)))) | ((with_reducible apply pick_t); (focus (first | assumption | rfl | decide | (simp only [bne, Bool.not_eq_true', Bool.not_eq_false', Bool.not_true, Bool.not_false, Bool.not_not]; assumption)))) | (rewrite [g25]) | (rewrite [g1]) | (rewrite [g11]) | ((with_reducible (conv => whnf)); (simp only [upd_get, start_get, List.getD_cons_zero, List.getD_cons_succ, Nat.reduceEqDiff, reduceIte, Nat.reduceAdd]))))
      refine at_int (h1.ext st.keeps) (by omega) (by omega) fun b j hrd => ?_
      have hmod := modI_range (os.getD (i : Int).toNat 0) (n := (n : Int)) (by omega)
      have hb1 := Int.tmod_lt_of_pos (os.getD (i : Int).toNat 0) (show (0 : Int) < n by omega)
      have hb2 : -(n : Int) < (os.getD (i : Int).toNat 0).tmod n := by
        have := Int.tmod_lt_of_pos (-(os.getD (i : Int).toNat 0)) (show (0 : Int) < n by omega)
        rw [Int.neg_tmod] at this
        omega
      (repeat (first | ((with_reducible apply len_slice)) | ((with_reducible apply load_reads); (focus assumption)) | (rewrite [g11]) | ((with_reducible (conv => whnf)); (simp only [upd_get, start_get, List.getD_cons_zero, List.getD_cons_succ, Nat.reduceEqDiff, reduceIte, Nat.reduceAdd]))))
      refine rem_at (by omega) ?_
      (repeat (first | ((with_reducible apply len_slice)) | ((with_reducible apply add_at); (focus omega); (focus omega)) | (rewrite [g7]) | (rewrite [g11]) | ((with_reducible (conv => whnf)); (simp only [upd_get, start_get, List.getD_cons_zero, List.getD_cons_succ, Nat.reduceEqDiff, reduceIte, Nat.reduceAdd]))))
      refine rem_at (by omega) ?_
      rw [modI_eq]
      generalize hjj : modI (os.getD (i : Int).toNat 0) n = jj at hmod
      obtain ⟨j, rfl⟩ := Int.eq_ofNat_of_zero_le hmod.1
      refine at_ref (st.sl (.tail _ (.head _))).reads hmod.1 hmod.2 fun b3 i3 hrd3 => ?_
      (repeat (first | ((with_reducible apply load_reads); (focus assumption))))
      refine at_ref (j := 0) (st.sl (.tail _ (.head _))).reads (by omega) (by omega) fun b4 i4 hrd4 => ?_
      (repeat (first | ((with_reducible apply load_reads); (focus assumption))))
      by_cases hj0 : j = 0
      · subst hj0
        have ha0 := hT.atP (i := 0) (by omega)
        simp only [Int.natCast_zero, Int.zero_add] at ha0
        refine st.moveNo (t := 2) (f := 2) (.head _) ha0 (by simp [Plain, Wh.zero]) ha0 (by simp [Plain, Wh.zero]) (.inr (.inr (.inl rfl))) fun w st => ?_
        (repeat (first | ((with_reducible apply eql_at)) | (rewrite [g25]) | (rewrite [g1]) | (rewrite [g7]) | (rewrite [g11]) | (simp only [upd_get, start_get, List.getD_cons_zero, List.getD_cons_succ, Nat.reduceEqDiff, reduceIte, Nat.reduceAdd])))
        refine at_ref (j := 0) (st.sl (.tail _ (.head _))).reads (by omega) (by omega) fun b5 i5 hrd5 => ?_
        (repeat (first | ((with_reducible apply neq_at)) | ((with_reducible apply bool_neq)) | ((with_reducible apply cond_f); (focus (first | assumption | rfl | decide | (simp only [bne, Bool.not_eq_true', Bool.not_eq_false', Bool.not_true, Bool.not_false, Bool.not_not]; assumption)))) | ((with_reducible apply add_at); (focus omega); (focus omega)) | ((with_reducible apply load_reads); (focus assumption))))
        exact ⟨os.length - (i + 1), by omega, i + 1, a, qs, rfl, by omega, hT, hn, hsum, by first | trivial | (simp [upd_get, g1]; done), by first | trivial | (simp [upd_get, g7]; done), by first | trivial | (simp [upd_get, g11]; done), by first | trivial | (simp [upd_get, g12]; done), by first | trivial | (simp [upd_get]; done), st⟩
      · refine back_move st hT hn h0 (by omega) hj0 fun w a' qs' hq hT' st => ?_
        (repeat (first | ((with_reducible apply eql_at)) | (rewrite [g25]) | (rewrite [g1]) | (rewrite [g7]) | (rewrite [g11]) | (simp only [upd_get, start_get, List.getD_cons_zero, List.getD_cons_succ, Nat.reduceEqDiff, reduceIte, Nat.reduceAdd])))
        refine at_ref (j := 0) (st.sl (.tail _ (.head _))).reads (by omega) (by omega) fun b5 i5 hrd5 => ?_
        have q5 : (((j : Nat) : Int) + 2 != 0 + 2) = true := by simp; omega
        have q6 : (!(((0 : Int) == 0) == (((j : Nat) : Int) + 2 != 0 + 2))) = false := by rw [q5]; rfl
        (repeat (first | ((with_reducible apply neq_at)) | ((with_reducible apply bool_neq)) | ((with_reducible apply cond_f); (focus (first | assumption | rfl | decide | (simp only [bne, Bool.not_eq_true', Bool.not_eq_false', Bool.not_true, Bool.not_false, Bool.not_not]; assumption)))) | ((with_reducible apply add_at); (focus omega); (focus omega)) | ((with_reducible apply load_reads); (focus assumption))))
        exact ⟨os.length - (i + 1), by omega, i + 1, a', qs', rfl, by omega, hT', by rw [hq]; simpa using hn, by rw [hq, move_take hn h0 (by omega) (by omega)]; exact hsum, by first | trivial | (simp [upd_get, g1]; done), by first | trivial | (simp [upd_get, g7]; done), by first | trivial | (simp [upd_get, g11]; done), by first | trivial | (simp [upd_get, g12]; done), by first | trivial | (simp [upd_get]; done), st⟩
    · have q2 : decide ((i : Int) < 100) = false := by simp; omega
      (repeat (first | ((with_reducible apply lss_at)) | ((with_reducible apply len_slice)) | ((with_reducible apply gop_run); (focus (first | assumption | rfl | decide | (simp only [bne, Bool.not_eq_true', Bool.not_eq_false', Bool.not_true, Bool.not_false, Bool.not_not]; assumption)))) | ((with_reducible apply pick_t); (focus (first | assumption | rfl | decide | (simp only [bne, Bool.not_eq_true', Bool.not_eq_false', Bool.not_true, Bool.not_false, Bool.not_not]; assumption)))) | ((with_reducible apply cond_f); (focus (first | assumption | rfl | decide | (simp only [bne, Bool.not_eq_true', Bool.not_eq_false', Bool.not_true, Bool.not_false, Bool.not_not]; assumption)))) | (rewrite [g25]) | ((with_reducible (conv => whnf)); (simp only [upd_get, start_get, List.getD_cons_zero, List.getD_cons_succ, Nat.reduceEqDiff, reduceIte, Nat.reduceAdd]))))
      exact fin (by first | trivial | (simp [upd_get, g1]; done)) (by first | trivial | (simp [upd_get, g7]; done)) (by first | trivial | (simp [upd_get, g11]; done)) (by first | trivial | (simp [upd_get, g12]; done)) st (by simp [upd_get])
  · have q1 : decide ((i : Int) < (os.length : Int)) = false := by simp; omega
    (repeat (first | ((with_reducible apply lss_at)) | ((with_reducible apply len_slice)) | ((with_reducible apply cond_f); (focus (first | assumption | rfl | decide | (simp only [bne, Bool.not_eq_true', Bool.not_eq_false', Bool.not_true, Bool.not_false, Bool.not_not]; assumption)))) | ((with_reducible apply gop_skip); (focus (first | assumption | rfl | decide | (simp only [bne, Bool.not_eq_true', Bool.not_eq_false', Bool.not_true, Bool.not_false, Bool.not_not]; assumption)))) | ((with_reducible apply pick_f); (focus (first | assumption | rfl | decide | (simp only [bne, Bool.not_eq_true', Bool.not_eq_false', Bool.not_true, Bool.not_false, Bool.not_not]; assumption)))) | (rewrite [g25]) | ((with_reducible (conv => whnf)); (simp only [upd_get, start_get, List.getD_cons_zero, List.getD_cons_succ, Nat.reduceEqDiff, reduceIte, Nat.reduceAdd]))))
    exact fin (by first | trivial | (simp [upd_get, g1]; done)) (by first | trivial | (simp [upd_get, g7]; done)) (by first | trivial | (simp [upd_get, g11]; done)) (by first | trivial | (simp [upd_get, g12]; done)) st (by simp [upd_get])
end
end Go.X
/- The law PurseBack: its call, whole. -/
set_option linter.unusedSimpArgs false
set_option linter.unusedVariables false
set_option maxRecDepth 20000
set_option maxHeartbeats 2000000
namespace Go.X
open Go Go.AW

theorem till_one : Till A10_1 0 [] := ⟨by simp [A10_1], by decide, by decide, by simp [A10_1], by decide, by simp, rfl, by simp, by simp⟩

section
variable {W w : World} {L : Lay} {a : AW} {K : Value → World → Prop} {k : Value → Prop}

theorem sum_u16 {xs : List Int} (hx : ∀ x ∈ xs, 0 ≤ x ∧ x < 65536) : ∀ i, i ≤ xs.length → 0 ≤ (xs.take i).sum ∧ (xs.take i).sum ≤ 65535 * i
  | 0, _ => by simp
  | i + 1, h => by
    have ih := sum_u16 hx i (by omega)
    have hget := hx _ (List.getElem_mem (show i < xs.length by omega))
    rw [List.take_add_one, List.getElem?_eq_getElem (show i < xs.length by omega)]
    simp only [Option.toList_some, List.sum_append, List.sum_cons, List.sum_nil]
    omega

/-- a purse has been split off: all of it goes back -/
theorem back_took {x0 xa : Option Addr} {c0 cap : Nat} {v1 : Value} {xs os : List Int} {n : Int} {e : Env} {a2 : AW} (h0 : ReadsOf W (.slice x0 xs.length c0) (xs.map (.int .u16))) (h1 : ReadsOf W v1 (os.map vi)) (hpos : 0 < xs.length) (h60 : ¬ 60 < xs.length)
    (hx0 : 0 ≤ xs[0] ∧ xs[0] < 65536) (hn1 : ¬ n < 0) (hn2 : ¬ xs[0] < n) (hgd0 : xs.getD (0 : Int).toNat 0 = xs[0]) (hT2 : Till a2 0 (xs.set 0 (xs[0] - n) ++ [n]))
    (g0 : e 0 = .slice x0 xs.length c0) (g1 : e 1 = v1) (g2 : e 2 = vi n) (g7 : e 7 = ptr L.p) (g11 : e 11 = .slice xa xs.length cap) (g12 : e 12 = vi xs.sum)
    (st : State (fun _ => False) W w [.world L a2, .slice (.slice xa xs.length cap) (refsL xs.length)]) (hk : ∀ w', Ext W w' → K (.bool true) w') : F_law10_PurseBack_s26 e (.tuple #[vi ((xs.length : Int) + 2), vi 0]) w K := by
  have q4 : decide (n ≥ 0) = true := by simp; omega
  have q5 : decide (n ≤ xs[0]) = true := by simp; omega
  have q9 : (!(((0 : Int) == 0) == decide (n ≤ xs[0]))) = false := by rw [q5]; rfl
  unfold F_law10_PurseBack_s26
  have hl2 : (xs.set 0 (xs[0] - n) ++ [n]).length = xs.length + 1 := by simp
  have ha2 := hT2.atP (i := 0) (by omega)
  have e0 : (xs.set 0 (xs[0] - n) ++ [n])[0] = xs[0] - n := by rw [List.getElem_append_left (by simpa using hpos)]; simp
  have ek : (xs.set 0 (xs[0] - n) ++ [n])[xs.length] = n := by simp
  simp only [Int.natCast_zero, Int.zero_add, e0] at ha2
  (repeat (first | ((with_reducible apply eql_at)) | ((with_reducible apply geq_at)) | ((with_reducible apply ext_0)) | ((with_reducible apply ext_1)) | ((with_reducible apply gop_run); (focus (first | assumption | rfl | decide | (simp only [bne, Bool.not_eq_true', Bool.not_eq_false', Bool.not_true, Bool.not_false, Bool.not_not]; assumption)))) | (rewrite [g0]) | (rewrite [g2]) | (simp only [upd_get, start_get, List.getD_cons_zero, List.getD_cons_succ, Nat.reduceEqDiff, reduceIte, Nat.reduceAdd])))
  refine at_u16 (j := 0) (h0.ext st.keeps) (by omega) (by omega) fun b2 j2 hrd2 => ?_
  rw [hgd0] at hrd2
  (repeat (first | ((with_reducible apply eql_at)) | ((with_reducible apply leq_at)) | ((with_reducible apply bool_neq)) | ((with_reducible apply cond_t); (focus (first | assumption | rfl | decide | (simp only [bne, Bool.not_eq_true', Bool.not_eq_false', Bool.not_true, Bool.not_false, Bool.not_not]; assumption)))) | ((with_reducible apply gop_run); (focus (first | assumption | rfl | decide | (simp only [bne, Bool.not_eq_true', Bool.not_eq_false', Bool.not_true, Bool.not_false, Bool.not_not]; assumption)))) | ((with_reducible apply pick_t); (focus (first | assumption | rfl | decide | (simp only [bne, Bool.not_eq_true', Bool.not_eq_false', Bool.not_true, Bool.not_false, Bool.not_not]; assumption)))) | ((with_reducible apply cond_f); (focus (first | assumption | rfl | decide | (simp only [bne, Bool.not_eq_true', Bool.not_eq_false', Bool.not_true, Bool.not_false, Bool.not_not]; assumption)))) | ((with_reducible apply conv_64); (focus omega); (focus omega)) | ((with_reducible apply load_reads); (focus assumption)) | (rewrite [g7]) | (rewrite [g11]) | ((with_reducible (conv => whnf)); (simp only [upd_get, start_get, List.getD_cons_zero, List.getD_cons_succ, Nat.reduceEqDiff, reduceIte, Nat.reduceAdd]))))
  refine at_ref (j := 0) (st.sl (.tail _ (.head _))).reads (by omega) (by omega) fun b3 i3 hrd3 => ?_
  (repeat (first | ((with_reducible apply load_reads); (focus assumption))))
  refine st.getYes (.head _) ha2 rfl (by simp [Plain, Wh.zero]) fun w st => ?_
  (repeat (first | ((with_reducible apply ext_0)) | ((with_reducible apply ext_1)) | (rewrite [g7]) | (rewrite [g11]) | (simp only [upd_get, start_get, List.getD_cons_zero, List.getD_cons_succ, Nat.reduceEqDiff, reduceIte, Nat.reduceAdd])))
  refine at_ref (j := 0) (st.sl (.tail _ (.head _))).reads (by omega) (by omega) fun b4 i4 hrd4 => ?_
  (repeat (first | ((with_reducible apply load_reads); (focus assumption))))
  obtain ⟨m1, m2, m3, m4, m5, m6⟩ := hT2.move (i := 0) (j := xs.length) (by omega) (by omega) (by omega)
  have hak := hT2.atP (i := xs.length) (by omega)
  simp only [Int.natCast_zero, Int.zero_add, e0, ek] at m1 m2 m3 m4 m5 m6 hak
  refine State.moveYes (t := 2) (f := (xs.length : Int) + 2) st hT2.good ha2 rfl (by simp [Plain, Wh.zero]) (by simp [Wh.zero]) hak rfl (by simp [Plain, Wh.zero]) (by simp [Wh.zero]) (by omega) rfl m1 m2 m3 m4 m5 fun w st => ?_
  generalize AW.move a2 2 (xs.length + 2) (purseS 0 1 (xs[0] - n)) (purseS 0 1 n) = a3 at m6 st
  have eqs : ((xs.set 0 (xs[0] - n) ++ [n]).set 0 (xs[0] - n + n)).set xs.length 0 = xs ++ [0] := by
    rw [List.set_append_left _ _ (by simpa using hpos), List.set_append_right _ _ (by simp)]
    simp [List.set_set]
  rw [eqs] at m6
  have ha3 := m6.atP (i := 0) (by simp)
  have ha4 := m6.atP (i := xs.length) (by simp)
  have f0 : (xs ++ [0])[0] = xs[0] := List.getElem_append_left hpos
  have fk : (xs ++ [(0 : Int)])[xs.length] = 0 := by simp
  simp only [Int.natCast_zero, Int.zero_add, f0] at ha3
  rw [fk] at ha4
  (repeat (first | (rewrite [g7]) | (rewrite [g11]) | ((with_reducible (conv => whnf)); (simp only [upd_get, start_get, List.getD_cons_zero, List.getD_cons_succ, Nat.reduceEqDiff, reduceIte, Nat.reduceAdd]))))
  refine at_ref (j := 0) (st.sl (.tail _ (.head _))).reads (by omega) (by omega) fun b5 i5 hrd5 => ?_
  (repeat (first | ((with_reducible apply load_reads); (focus assumption))))
  refine st.getYes (.head _) ha3 rfl (by simp [Plain, Wh.zero]) fun w st => ?_
  (repeat (first | ((with_reducible apply ext_0)) | ((with_reducible apply ext_1)) | (rewrite [g7]) | (simp only [upd_get, start_get, List.getD_cons_zero, List.getD_cons_succ, Nat.reduceEqDiff, reduceIte, Nat.reduceAdd])))
  refine st.getYes (.head _) ha4 rfl (by simp [Plain, Wh.zero]) fun w st => ?_
  (repeat (first | ((with_reducible apply ext_0)) | ((with_reducible apply ext_1)) | (rewrite [g0]) | (rewrite [g2]) | (simp only [upd_get, start_get, List.getD_cons_zero, List.getD_cons_succ, Nat.reduceEqDiff, reduceIte, Nat.reduceAdd])))
  refine at_u16 (j := 0) (h0.ext st.keeps) (by omega) (by omega) fun b6 j6 hrd6 => ?_
  rw [hgd0] at hrd6
  have q6 : (xs[0] - n != xs[0] - n) = false := by simp
  have q7 : (xs[0] != xs[0]) = false := by simp
  (repeat (first | ((with_reducible apply neq_at)) | ((with_reducible apply gop_run); (focus (first | assumption | rfl | decide | (simp only [bne, Bool.not_eq_true', Bool.not_eq_false', Bool.not_true, Bool.not_false, Bool.not_not]; assumption)))) | ((with_reducible apply pick_f); (focus (first | assumption | rfl | decide | (simp only [bne, Bool.not_eq_true', Bool.not_eq_false', Bool.not_true, Bool.not_false, Bool.not_not]; assumption)))) | ((with_reducible apply sub_at); (focus omega); (focus omega)) | ((with_reducible apply conv_64); (focus omega); (focus omega)) | ((with_reducible apply load_reads); (focus assumption)) | (rewrite [g0]) | (simp only [upd_get, start_get, List.getD_cons_zero, List.getD_cons_succ, Nat.reduceEqDiff, reduceIte, Nat.reduceAdd])))
  refine at_u16 (j := 0) (h0.ext st.keeps) (by omega) (by omega) fun b7 j7 hrd7 => ?_
  rw [hgd0] at hrd7
  (repeat (first | ((with_reducible apply neq_at)) | ((with_reducible apply gop_run); (focus (first | assumption | rfl | decide | (simp only [bne, Bool.not_eq_true', Bool.not_eq_false', Bool.not_true, Bool.not_false, Bool.not_not]; assumption)))) | ((with_reducible apply cond_f); (focus (first | assumption | rfl | decide | (simp only [bne, Bool.not_eq_true', Bool.not_eq_false', Bool.not_true, Bool.not_false, Bool.not_not]; assumption)))) | ((with_reducible apply pick_f); (focus (first | assumption | rfl | decide | (simp only [bne, Bool.not_eq_true', Bool.not_eq_false', Bool.not_true, Bool.not_false, Bool.not_not]; assumption)))) | ((with_reducible apply conv_64); (focus omega); (focus omega)) | ((with_reducible apply load_reads); (focus assumption)) | (simp only [upd_get, start_get, List.getD_cons_zero, List.getD_cons_succ, Nat.reduceEqDiff, reduceIte, Nat.reduceAdd])))
  exact back_tail (tot := xs.sum) h1 m6 (by simp) hpos (by omega) (by simp) (by simp [upd_get, g1]) (by simp [upd_get, g7]) (by simp [upd_get, g11]) (by simp [upd_get, g12]) st hk

/-- the purses, under way -/
def Back1 (w0 : World) (p : Nat) (v0 v1 : Value) (n : Int) (xs : List Int) (m : Nat) (e : Env) (w : World) : Prop :=
  ∃ (i : Nat) (L : Lay) (a : AW), m = xs.length - i ∧ i ≤ xs.length ∧ Till a 0 (xs.take i) ∧ L.p = p ∧ e 0 = v0 ∧ e 1 = v1 ∧ e 2 = vi n ∧ e 7 = ptr p ∧ e 9 = vi 1 ∧ e 12 = vi (xs.take i).sum ∧ e 13 = vi i ∧
    State (fun _ => False) w0 w [.world L a, .slice (e 11) (refsL i)]

theorem purseBack_c {v0 v1 : Value} {xs os : List Int} {n : Int} (h0 : ReadsOf W v0 (xs.map (.int .u16))) (h1 : ReadsOf W v1 (os.map vi)) (hx : ∀ x ∈ xs, 0 ≤ x ∧ x < 65536) (hn : -9223372036854775808 ≤ n ∧ n ≤ 9223372036854775807) (hk : ∀ w', Ext W w' → K (.bool true) w') :
    callOn prog fn_law10_PurseBack #[v0, v1, vi n] W K := by
  apply F_law10_PurseBack_on
  unfold F_law10_PurseBack
  have st := State.start (S := fun _ => False) W
  obtain ⟨x0, n0, c0, hv0, hn0, _⟩ := h0.first
  have hn0 : n0 = xs.length := by simpa using hn0
  subst hn0
  subst hv0
  refine st.newYes (a := A10_0) (ps := []) (show ReadsOf W (.slice none 0 0) [] from ⟨rfl, rfl, rfl⟩) (by decide) fun w L st => ?_
  (repeat (first | ((with_reducible apply ext_0)) | ((with_reducible apply ext_1))))
  refine st.mintYes G10_0 (by decide) fun w L' hp st => ?_
  rw [A10_1_eq] at st
  rw [← hp, show A10_0.last + 1 = 1 from rfl]
  have st := st.pushNone.perm0 (.swap _ _ _)
  by_cases hz : xs.length = 0
  · have q1 : ((xs.length : Int) == 0) = true := by simp [hz]
    (repeat (first | ((with_reducible apply eql_at)) | ((with_reducible apply neq_at)) | ((with_reducible apply len_slice)) | ((with_reducible apply ext_0)) | ((with_reducible apply ext_1)) | ((with_reducible apply cond_t); (focus (first | assumption | rfl | decide | (simp only [bne, Bool.not_eq_true', Bool.not_eq_false', Bool.not_true, Bool.not_false, Bool.not_not]; assumption)))) | ((with_reducible apply gop_run); (focus (first | assumption | rfl | decide | (simp only [bne, Bool.not_eq_true', Bool.not_eq_false', Bool.not_true, Bool.not_false, Bool.not_not]; assumption)))) | ((with_reducible apply pick_t); (focus (first | assumption | rfl | decide | (simp only [bne, Bool.not_eq_true', Bool.not_eq_false', Bool.not_true, Bool.not_false, Bool.not_not]; assumption)))) | ((with_reducible apply gop_skip); (focus (first | assumption | rfl | decide | (simp only [bne, Bool.not_eq_true', Bool.not_eq_false', Bool.not_true, Bool.not_false, Bool.not_not]; assumption)))) | ((with_reducible apply pick_f); (focus (first | assumption | rfl | decide | (simp only [bne, Bool.not_eq_true', Bool.not_eq_false', Bool.not_true, Bool.not_false, Bool.not_not]; assumption))))))
    refine lives10_c fun w he => ?_
    have st := st.ext he
    (repeat (first | ((with_reducible apply pick_t); (focus (first | assumption | rfl | decide | (simp only [bne, Bool.not_eq_true', Bool.not_eq_false', Bool.not_true, Bool.not_false, Bool.not_not]; assumption))))))
    exact hk w st.keeps
  have q1 : ((xs.length : Int) == 0) = false := beq_eq_false_iff_ne.2 (by omega)
  by_cases h60 : 60 < xs.length
  · have q2 : decide ((xs.length : Int) > 60) = true := by simp; omega
    (repeat (first | ((with_reducible apply eql_at)) | ((with_reducible apply neq_at)) | ((with_reducible apply gtr_at)) | ((with_reducible apply len_slice)) | ((with_reducible apply ext_0)) | ((with_reducible apply ext_1)) | ((with_reducible apply cond_t); (focus (first | assumption | rfl | decide | (simp only [bne, Bool.not_eq_true', Bool.not_eq_false', Bool.not_true, Bool.not_false, Bool.not_not]; assumption)))) | ((with_reducible apply gop_run); (focus (first | assumption | rfl | decide | (simp only [bne, Bool.not_eq_true', Bool.not_eq_false', Bool.not_true, Bool.not_false, Bool.not_not]; assumption)))) | ((with_reducible apply pick_t); (focus (first | assumption | rfl | decide | (simp only [bne, Bool.not_eq_true', Bool.not_eq_false', Bool.not_true, Bool.not_false, Bool.not_not]; assumption)))) | ((with_reducible apply pick_f); (focus (first | assumption | rfl | decide | (simp only [bne, Bool.not_eq_true', Bool.not_eq_false', Bool.not_true, Bool.not_false, Bool.not_not]; assumption))))))
    refine lives10_c fun w he => ?_
    have st := st.ext he
    (repeat (first | ((with_reducible apply pick_t); (focus (first | assumption | rfl | decide | (simp only [bne, Bool.not_eq_true', Bool.not_eq_false', Bool.not_true, Bool.not_false, Bool.not_not]; assumption))))))
    exact hk w st.keeps
  have q2 : decide ((xs.length : Int) > 60) = false := by simp; omega
  (repeat (first | ((with_reducible apply eql_at)) | ((with_reducible apply neq_at)) | ((with_reducible apply gtr_at)) | ((with_reducible apply len_slice)) | ((with_reducible apply ext_0)) | ((with_reducible apply ext_1)) | ((with_reducible apply gop_run); (focus (first | assumption | rfl | decide | (simp only [bne, Bool.not_eq_true', Bool.not_eq_false', Bool.not_true, Bool.not_false, Bool.not_not]; assumption)))) | ((with_reducible apply cond_f); (focus (first | assumption | rfl | decide | (simp only [bne, Bool.not_eq_true', Bool.not_eq_false', Bool.not_true, Bool.not_false, Bool.not_not]; assumption)))) | ((with_reducible apply pick_f); (focus (first | assumption | rfl | decide | (simp only [bne, Bool.not_eq_true', Bool.not_eq_false', Bool.not_true, Bool.not_false, Bool.not_not]; assumption))))))
  refine ⟨Back1 W L'.p (.slice x0 xs.length c0) v1 n xs, xs.length, ⟨0, L', A10_1, by omega, by omega, till_one, rfl, by simp [upd_get, start_get], by simp [upd_get, start_get], by simp [upd_get, start_get], by simp [upd_get], by simp [upd_get], by simp [upd_get], by simp [upd_get], by simpa [upd_get, refsL] using st⟩, ?_⟩
  generalize L'.p = p
  clear st
  rintro m e w ⟨i, L, a, rfl, hi, hT, rfl, g0, g1, g2, g7, g9, g12, g13, st⟩
  simp only [g0, g13]
  have hsm := sum_u16 hx i hi
  have hil' : (xs.take i).length = i := by simp; omega
  by_cases hil : i < xs.length
  · have q3 : decide ((i : Int) < (xs.length : Int)) = true := by simp; omega
    have hget := hx _ (List.getElem_mem hil)
    have hgd : xs.getD (i : Int).toNat 0 = xs[i] := by rw [show ((i : Int)).toNat = i by omega, List.getD_eq_getElem?_getD, List.getElem?_eq_getElem hil]; rfl
    have htk : xs.take i ++ [xs[i]] = xs.take (i + 1) := take_snoc hil
    have htks : (xs.take (i + 1)).sum = (xs.take i).sum + xs[i] := by rw [← htk, List.sum_append, List.sum_cons, List.sum_nil, Int.add_zero]
    obtain ⟨hE, hL, hT'⟩ := hT.ask (n := xs[i]) hget.1 (by omega) (by omega)
    have hlr : a.last + 1 = (i : Int) + 2 := by rw [hT.last, hil']; omega
    rw [htk] at hT'
    (repeat (first | ((with_reducible apply len_slice))))
    unfold F_law10_PurseBack_s28
    rw [g13]
    (repeat (first | ((with_reducible apply lss_at)) | ((with_reducible apply cond_t); (focus (first | assumption | rfl | decide | (simp only [bne, Bool.not_eq_true', Bool.not_eq_false', Bool.not_true, Bool.not_false, Bool.not_not]; assumption)))) | (rewrite [g0]) | (rewrite [g13]) | ((with_reducible (conv => whnf)); (simp only [upd_get, start_get, List.getD_cons_zero, List.getD_cons_succ, Nat.reduceEqDiff, reduceIte, Nat.reduceAdd]))))
    refine at_u16 (h0.ext st.keeps) (by omega) (by omega) fun b j hrd => ?_
    rw [hgd] at hrd
    (repeat (first | ((with_reducible apply conv_64); (focus omega); (focus omega)) | ((with_reducible apply load_reads); (focus assumption)) | (rewrite [g7]) | (rewrite [g9])))
    refine State.askYes (m := 1) (x := mintS 0 (xs.take i).sum 0) st hT.good hT.at1 rfl (by simp [Plain, Wh.zero]) (by simp [Wh.zero]) hget.1 hsm.1 (by simp only; omega) hE hL fun w L2 hp2 st => ?_
    rw [hlr]
    (repeat (first | ((with_reducible apply neq_at)) | ((with_reducible apply ext_0)) | ((with_reducible apply ext_1)) | ((with_reducible apply cond_f); (focus (first | assumption | rfl | decide | (simp only [bne, Bool.not_eq_true', Bool.not_eq_false', Bool.not_true, Bool.not_false, Bool.not_not]; assumption)))) | (rewrite [g0]) | (rewrite [g13]) | ((with_reducible (conv => whnf)); (simp only [upd_get, start_get, List.getD_cons_zero, List.getD_cons_succ, Nat.reduceEqDiff, reduceIte, Nat.reduceAdd]))))
    refine at_u16 (h0.ext st.keeps) (by omega) (by omega) fun b2 j2 hrd2 => ?_
    rw [hgd] at hrd2
    (repeat (first | ((with_reducible apply add_at); (focus omega); (focus omega)) | ((with_reducible apply conv_64); (focus omega); (focus omega)) | ((with_reducible apply load_reads); (focus assumption)) | (rewrite [g12])))
    refine buildL_intro (cs := [vi ((i : Int) + 2)]) (by omega) (by kernel_rfl) rfl fun b3 w3 he3 _ _ _ hs3 => ?_
    have st := st.ext he3
    refine st.append (fun s' => [.world L2 (AW.ask a 1 (mintS 0 (xs.take i).sum 0) xs[i]), .slice s' (refsL i ++ [vi ((i : Int) + 2)])]) (fun s' => .tail .head) hs3.reads (by simp [Value.oneCell']) rfl (by simp [refsL_len]; omega) (by simp [refsL_len]; omega) fun s' w st => ?_
    (repeat (first | ((with_reducible apply add_at); (focus omega); (focus omega))))
    rw [← refsL_succ] at st
    exact ⟨xs.length - (i + 1), by omega, i + 1, L2, _, rfl, by omega, hT', hp2, by simp [upd_get, g0], by simp [upd_get, g1], by simp [upd_get, g2], by simp [upd_get, g7], by simp [upd_get, g9], by simp [upd_get, htks], by simp [upd_get], by simpa [upd_get] using st⟩
  · have q3 : decide ((i : Int) < (xs.length : Int)) = false := by simp; omega
    have hie : i = xs.length := by omega
    subst hie
    rw [List.take_length] at hT g12 hsm
    obtain ⟨xa, n1, cap, g11, hn1, _⟩ := (st.sl (.tail _ (.head _))).first
    rw [refsL_len] at hn1
    subst hn1
    rw [g11] at st
    have hpos : 0 < xs.length := by omega
    have hget0 := hx _ (List.getElem_mem hpos)
    have hgd0 : xs.getD (0 : Int).toNat 0 = xs[0] := by rw [List.getD_eq_getElem?_getD]; simp [hpos]
    have ha0 := hT.atP (i := 0) hpos
    simp only [Int.natCast_zero, Int.zero_add] at ha0
    (repeat (first | ((with_reducible apply len_slice))))
    unfold F_law10_PurseBack_s28
    rw [g13]
    (repeat (first | ((with_reducible apply lss_at)) | ((with_reducible apply cond_f); (focus (first | assumption | rfl | decide | (simp only [bne, Bool.not_eq_true', Bool.not_eq_false', Bool.not_true, Bool.not_false, Bool.not_not]; assumption)))) | (rewrite [g2]) | (rewrite [g7]) | (rewrite [g11]) | ((with_reducible (conv => whnf)); (simp only [upd_get, start_get, List.getD_cons_zero, List.getD_cons_succ, Nat.reduceEqDiff, reduceIte, Nat.reduceAdd]))))
    refine at_ref (j := 0) (st.sl (.tail _ (.head _))).reads (by omega) (by omega) fun b i hrd => ?_
    (repeat (first | ((with_reducible apply load_reads); (focus assumption))))
    by_cases hn1 : n < 0
    · have q4 : decide (n ≥ 0) = false := by simp; omega
      refine State.takeNo (p := 2) (e := 2) st hT.good ha0 rfl (by simp [Plain, Wh.zero]) (by unfold takeE; rw [if_pos hn1]) (by decide) fun w st => ?_
      (repeat (first | ((with_reducible apply eql_at)) | ((with_reducible apply geq_at)) | ((with_reducible apply ext_0)) | ((with_reducible apply ext_1)) | ((with_reducible apply bool_neq)) | ((with_reducible apply cond_f); (focus (first | assumption | rfl | decide | (simp only [bne, Bool.not_eq_true', Bool.not_eq_false', Bool.not_true, Bool.not_false, Bool.not_not]; assumption)))) | ((with_reducible apply gop_skip); (focus (first | assumption | rfl | decide | (simp only [bne, Bool.not_eq_true', Bool.not_eq_false', Bool.not_true, Bool.not_false, Bool.not_not]; assumption)))) | ((with_reducible apply pick_f); (focus (first | assumption | rfl | decide | (simp only [bne, Bool.not_eq_true', Bool.not_eq_false', Bool.not_true, Bool.not_false, Bool.not_not]; assumption)))) | (rewrite [g0]) | (rewrite [g2]) | (simp only [upd_get, start_get, List.getD_cons_zero, List.getD_cons_succ, Nat.reduceEqDiff, reduceIte, Nat.reduceAdd])))
      exact back_tail (tot := xs.sum) h1 hT (Nat.le_refl _) hpos (by omega) (by rw [List.take_length]) (by simp [upd_get, g1]) (by simp [upd_get, g7]) (by simp [upd_get, g11]) (by simp [upd_get, g12]) st hk
    have q4 : decide (n ≥ 0) = true := by simp; omega
    by_cases hn2 : xs[0] < n
    · have q5 : decide (n ≤ xs[0]) = false := by simp; omega
      have q9 : (!(((81 : Int) == 0) == decide (n ≤ xs[0]))) = false := by rw [q5]; rfl
      refine State.takeNo (p := 2) (e := 81) st hT.good ha0 rfl (by simp [Plain, Wh.zero]) (by unfold takeE; rw [if_neg hn1, if_pos hn2]) (by decide) fun w st => ?_
      (repeat (first | ((with_reducible apply eql_at)) | ((with_reducible apply geq_at)) | ((with_reducible apply ext_0)) | ((with_reducible apply ext_1)) | ((with_reducible apply gop_run); (focus (first | assumption | rfl | decide | (simp only [bne, Bool.not_eq_true', Bool.not_eq_false', Bool.not_true, Bool.not_false, Bool.not_not]; assumption)))) | (rewrite [g0]) | (rewrite [g2]) | (simp only [upd_get, start_get, List.getD_cons_zero, List.getD_cons_succ, Nat.reduceEqDiff, reduceIte, Nat.reduceAdd])))
      refine at_u16 (j := 0) (h0.ext st.keeps) (by omega) (by omega) fun b2 j2 hrd2 => ?_
      rw [hgd0] at hrd2
      (repeat (first | ((with_reducible apply eql_at)) | ((with_reducible apply leq_at)) | ((with_reducible apply bool_neq)) | ((with_reducible apply gop_run); (focus (first | assumption | rfl | decide | (simp only [bne, Bool.not_eq_true', Bool.not_eq_false', Bool.not_true, Bool.not_false, Bool.not_not]; assumption)))) | ((with_reducible apply pick_t); (focus (first | assumption | rfl | decide | (simp only [bne, Bool.not_eq_true', Bool.not_eq_false', Bool.not_true, Bool.not_false, Bool.not_not]; assumption)))) | ((with_reducible apply cond_f); (focus (first | assumption | rfl | decide | (simp only [bne, Bool.not_eq_true', Bool.not_eq_false', Bool.not_true, Bool.not_false, Bool.not_not]; assumption)))) | ((with_reducible apply conv_64); (focus omega); (focus omega)) | ((with_reducible apply load_reads); (focus assumption)) | (simp only [upd_get, start_get, List.getD_cons_zero, List.getD_cons_succ, Nat.reduceEqDiff, reduceIte, Nat.reduceAdd])))
      exact back_tail (tot := xs.sum) h1 hT (Nat.le_refl _) hpos (by omega) (by rw [List.take_length]) (by simp [upd_get, g1]) (by simp [upd_get, g7]) (by simp [upd_get, g11]) (by simp [upd_get, g12]) st hk
    have q5 : decide (n ≤ xs[0]) = true := by simp; omega
    obtain ⟨hE, hL, hT2⟩ := hT.take (n := n) (i := 0) hpos (by omega) (by omega) (by omega)
    simp only [Int.natCast_zero, Int.zero_add] at hL hT2
    have hlr : a.last + 1 = (xs.length : Int) + 2 := by rw [hT.last]; omega
    refine State.takeYes (p := 2) (x := purseS 0 1 xs[0]) st hT.good ha0 rfl (by simp [Plain, Wh.zero]) (by simp [Wh.zero]) (by omega) (by simp only; omega) (by simp only; omega) hE hL fun w L2 hp2 st => ?_
    rw [hlr, ← hp2]
    have g7 : e 7 = ptr L2.p := by rw [g7, hp2]
    exact back_took (L := L2) h0 h1 hpos h60 hget0 hn1 hn2 hgd0 hT2 (by simp [upd_get, g0]) (by simp [upd_get, g1]) (by simp [upd_get, g2]) (by simp [upd_get, g7]) (by simp [upd_get, g11]) (by simp [upd_get, g12]) st hk
end
end Go.X
