/- The law WorldMoney: its call. -/
import Derived.Test.YtdjheefbeagcjaaXxC37
import Derived.Test.YtdjheefbeagcjaaXxC36
set_option linter.unusedSimpArgs false
set_option linter.unusedVariables false
set_option maxRecDepth 20000
set_option maxHeartbeats 2000000
namespace Go.X
open Go Go.AW

section
variable {S : Nat → Prop} {w0 w : World} {L : Lay} {a : AW} {R : List Res} {K : Value → World → Prop} {k : Value → Prop}

theorem at_16 {v : Value} {l : List Int} {j : Int} (h : ReadsOf w v (l.map (.int .u16))) (h0 : 0 ≤ j) (h1 : j < l.length) (hk : ∀ b i, Reads w b i (.int .u16 (l.getD j.toNat 0)) → k (.pointer (some ⟨b, i, none⟩))) : indexS 1 v (vi j) k :=
  at_val h h0 (by simpa using h1) fun b i hr => hk b i (by
    have : j.toNat < l.length := by omega
    simpa [this, List.getD_eq_getElem?_getD] using hr)

theorem take_sum {xs : List Int} (hx : ∀ x ∈ xs, 0 ≤ x ∧ x < 65536) : ∀ i, i ≤ xs.length → 0 ≤ (xs.take i).sum ∧ (xs.take i).sum ≤ 65535 * i
  | 0, _ => by simp
  | i + 1, h => by
    have ih := take_sum hx i (by omega)
    have hget := hx _ (List.getElem_mem (show i < xs.length by omega))
    rw [List.take_add_one, List.getElem?_eq_getElem (show i < xs.length by omega)]
    simp only [Option.toList_some, List.sum_append, List.sum_cons, List.sum_nil]
    omega

/-- the sum, under way -/
def Sums (w0 : World) (L : Lay) (v0 v1 : Value) (xs : List Int) (m : Nat) (e : Env) (w : World) : Prop :=
  ∃ i : Nat, m = xs.length - i ∧ i ≤ xs.length ∧ e 0 = v0 ∧ e 1 = v1 ∧ e 5 = ptr L.p ∧ e 7 = vi (xs.take i).sum ∧ e 8 = vi i ∧ State (fun _ => False) w0 w [.world L { parents := [], cut := [false], things := [], last := 0, made := [0] }]

theorem sum_nonneg {l : List Int} (h : ∀ x ∈ l, 0 ≤ x) : 0 ≤ l.sum := by
  induction l with
  | nil => simp
  | cons x l ih => have := h x (by simp); have := ih fun y hy => h y (by simp [hy]); simp only [List.sum_cons]; omega
theorem take_le {xs : List Int} (hx : ∀ x ∈ xs, 0 ≤ x ∧ x < 65536) (i : Nat) : (xs.take i).sum ≤ xs.sum := by
  have h1 : xs.sum = (xs.take i).sum + (xs.drop i).sum := by rw [← List.sum_append, List.take_append_drop]
  have := sum_nonneg (l := xs.drop i) fun x h => (hx x (List.mem_of_mem_drop h)).1
  omega

/-- the purses, under way -/
def Purses (w0 : World) (p : Nat) (v0 v1 : Value) (xs : List Int) (all : Int) (m : Nat) (e : Env) (w : World) : Prop :=
  ∃ (i : Nat) (lost : Int) (ps : List (Int × Int)) (L : Lay) (a : AW), m = xs.length - i ∧ i ≤ xs.length ∧ Bank a all lost ps i ∧ (ps.map (·.1)).Nodup ∧ lost + (ps.map (·.2)).sum = (xs.take i).sum ∧ L.p = p ∧
    e 0 = v0 ∧ e 1 = v1 ∧ e 5 = ptr p ∧ e 7 = vi all ∧ e 9 = vi 1 ∧ e 11 = vi lost ∧ e 12 = vi i ∧ State (fun _ => False) w0 w [.world L a]

theorem worldMoney_c {W : World} {v0 v1 : Value} {xs : List Int} {bs : List Bool} (h0 : ReadsOf W v0 (xs.map (.int .u16))) (h1 : ReadsOf W v1 (bs.map .bool)) (hx : ∀ x ∈ xs, 0 ≤ x ∧ x < 65536) (hk : ∀ w', Ext W w' → K (.bool true) w') :
    callOn prog fn_law07_WorldMoney #[v0, v1] W K := by
  apply F_law07_WorldMoney_on
  unfold F_law07_WorldMoney
  have st := State.start (S := fun _ => False) W
  obtain ⟨x0, n0, c0, hv0, hn0, _⟩ := h0.first
  have hn0 : n0 = xs.length := by simpa using hn0
  subst hn0
  subst hv0
  obtain ⟨x1, n1, c1, hv1, hn1, _⟩ := h1.first
  have hn1 : n1 = bs.length := by simpa using hn1
  subst hn1
  subst hv1
  refine st.newYes (ps := []) (a := { parents := [], cut := [false], things := [], last := 0, made := [0] }) (show ReadsOf W (.slice none 0 0) [] from ⟨rfl, rfl, rfl⟩) rfl fun w L st => ?_
  by_cases h200 : 200 < xs.length
  · have q1 : decide ((200 : Int) < (xs.length : Int)) = true := by simp; omega
    (repeat (first | ((with_reducible apply neq_at)) | ((with_reducible apply gtr_at)) | ((with_reducible apply len_slice)) | ((with_reducible apply ext_0)) | ((with_reducible apply ext_1)) | ((with_reducible apply ptr_eql)) | ((with_reducible apply ptr_neq)) | ((with_reducible apply cond_t); (focus (first | assumption | rfl | decide | (simp only [bne, Bool.not_eq_true', Bool.not_eq_false', Bool.not_true, Bool.not_false, Bool.not_not]; assumption)))) | ((with_reducible apply gop_run); (focus (first | assumption | rfl | decide | (simp only [bne, Bool.not_eq_true', Bool.not_eq_false', Bool.not_true, Bool.not_false, Bool.not_not]; assumption)))) | ((with_reducible apply pick_f); (focus (first | assumption | rfl | decide | (simp only [bne, Bool.not_eq_true', Bool.not_eq_false', Bool.not_true, Bool.not_false, Bool.not_not]; assumption))))))
    refine lives07_c fun w he => ?_
    have st := st.ext he
    (repeat (first | ((with_reducible apply pick_t); (focus (first | assumption | rfl | decide | (simp only [bne, Bool.not_eq_true', Bool.not_eq_false', Bool.not_true, Bool.not_false, Bool.not_not]; assumption))))))
    exact hk w st.keeps
  · have q1 : decide ((200 : Int) < (xs.length : Int)) = false := by simp; omega
    (repeat (first | ((with_reducible apply neq_at)) | ((with_reducible apply gtr_at)) | ((with_reducible apply len_slice)) | ((with_reducible apply ext_0)) | ((with_reducible apply ext_1)) | ((with_reducible apply ptr_eql)) | ((with_reducible apply gop_run); (focus (first | assumption | rfl | decide | (simp only [bne, Bool.not_eq_true', Bool.not_eq_false', Bool.not_true, Bool.not_false, Bool.not_not]; assumption)))) | ((with_reducible apply cond_f); (focus (first | assumption | rfl | decide | (simp only [bne, Bool.not_eq_true', Bool.not_eq_false', Bool.not_true, Bool.not_false, Bool.not_not]; assumption)))) | ((with_reducible apply pick_f); (focus (first | assumption | rfl | decide | (simp only [bne, Bool.not_eq_true', Bool.not_eq_false', Bool.not_true, Bool.not_false, Bool.not_not]; assumption)))) | (simp only [upd_get, start_get, List.getD_cons_zero, List.getD_cons_succ, Nat.reduceEqDiff, reduceIte, Nat.reduceAdd])))
    refine ⟨Sums W L (.slice x0 xs.length c0) (.slice x1 bs.length c1) xs, xs.length, ⟨0, by omega, by omega, by simp [upd_get, start_get], by simp [upd_get, start_get], by simp [upd_get], by simp [upd_get], by simp [upd_get], st⟩, ?_⟩
    clear st
    rintro m e w ⟨i, rfl, hi, g0, g1, g5, g7, g8, st⟩
    simp only [g0, g8]
    have hsum := take_sum hx i hi
    by_cases hil : i < xs.length
    · have q2 : decide ((i : Int) < (xs.length : Int)) = true := by simp; omega
      (repeat (first | ((with_reducible apply lss_at)) | ((with_reducible apply len_slice)) | ((with_reducible apply cond_t); (focus (first | assumption | rfl | decide | (simp only [bne, Bool.not_eq_true', Bool.not_eq_false', Bool.not_true, Bool.not_false, Bool.not_not]; assumption))))))
      refine at_16 (h0.ext st.keeps) (by omega) (by omega) fun b j hrd => ?_
      have hget := hx _ (List.getElem_mem hil)
      have hgd : xs.getD (i : Int).toNat 0 = xs[i] := by rw [show ((i : Int)).toNat = i by omega, List.getD_eq_getElem?_getD, List.getElem?_eq_getElem hil]; rfl
      rw [hgd] at hrd
      (repeat (first | ((with_reducible apply add_at); (focus omega); (focus omega)) | ((with_reducible apply conv_64); (focus omega); (focus omega)) | ((with_reducible apply load_reads); (focus assumption)) | (rewrite [g7])))
      have htk : (xs.take (i + 1)).sum = (xs.take i).sum + xs[i] := by
        rw [List.take_add_one, List.getElem?_eq_getElem hil]
        simp only [Option.toList_some, List.sum_append, List.sum_cons, List.sum_nil]; omega
      exact ⟨xs.length - (i + 1), by omega, i + 1, rfl, hil, by simp [upd_get, g0], by simp [upd_get, g1], by simp [upd_get, g5], by simp [upd_get, htk], by simp [upd_get], st⟩
    · have q2 : decide ((i : Int) < (xs.length : Int)) = false := by simp; omega
      have hie : i = xs.length := by omega
      subst hie
      rw [List.take_length] at g7 hsum
      generalize hall : xs.sum = all at g7 hsum
      obtain ⟨hB, hmE⟩ := Bank.mint (a := { parents := [], cut := [false], things := [], last := 0, made := [0] }) (all := all) ⟨rfl, rfl, rfl, rfl⟩ ⟨hsum.1, by omega⟩
      (repeat (first | ((with_reducible apply lss_at)) | ((with_reducible apply len_slice)) | ((with_reducible apply cond_f); (focus (first | assumption | rfl | decide | (simp only [bne, Bool.not_eq_true', Bool.not_eq_false', Bool.not_true, Bool.not_false, Bool.not_not]; assumption)))) | (rewrite [g7]) | (rewrite [g5])))
      refine build_agg (whCells (mintW all 0)) (by kernel_rfl) ?_
      refine State.make (R' := fun L' => [.world L' (AW.make { parents := [], cut := [false], things := [], last := 0, made := [0] } (mintW all 0))]) st (fun _ => .head) (good_of (by kernel_rfl)) (by simp [Plain, Wh.zero]) (by simp [Wh.zero]) (by simp) hmE fun w L' hp st => ?_
      generalize AW.make { parents := [], cut := [false], things := [], last := 0, made := [0] } (mintW all 0) = a at hB st
      (repeat (first | ((with_reducible apply neq_at)) | ((with_reducible apply ext_0)) | ((with_reducible apply ext_1)) | ((with_reducible apply cond_f); (focus (first | assumption | rfl | decide | (simp only [bne, Bool.not_eq_true', Bool.not_eq_false', Bool.not_true, Bool.not_false, Bool.not_not]; assumption)))) | (simp only [upd_get, start_get, List.getD_cons_zero, List.getD_cons_succ, Nat.reduceEqDiff, reduceIte, Nat.reduceAdd])))
      refine ⟨Purses W L.p (.slice x0 xs.length c0) (.slice x1 bs.length c1) xs all, xs.length, ⟨0, 0, [], L', a, by omega, by omega, hB, by simp, by simp, hp, by simp [upd_get, g0], by simp [upd_get, g1], by simp [upd_get, g5], by simp [upd_get, g7], by simp [upd_get], by simp [upd_get], by simp [upd_get], st⟩, ?_⟩
      clear st g0 g1 g5 g7 g8 hB hmE hp
      rintro m e w ⟨i, lost, ps, L2, a, rfl, hi, hB, hnd, hsm, hp, g0, g1, g5, g7, g9, g11, g12, st⟩
      rw [← hp] at g5
      simp only [g0, g12]
      by_cases hil : i < xs.length
      · have q3 : decide ((i : Int) < (xs.length : Int)) = true := by simp; omega
        (repeat (first | ((with_reducible apply lss_at)) | ((with_reducible apply len_slice)) | ((with_reducible apply cond_t); (focus (first | assumption | rfl | decide | (simp only [bne, Bool.not_eq_true', Bool.not_eq_false', Bool.not_true, Bool.not_false, Bool.not_not]; assumption))))))
        refine at_16 (h0.ext st.keeps) (by omega) (by omega) fun b j hrd => ?_
        have hget := hx _ (List.getElem_mem hil)
        have hgd : xs.getD (i : Int).toNat 0 = xs[i] := by rw [show ((i : Int)).toNat = i by omega, List.getD_eq_getElem?_getD, List.getElem?_eq_getElem hil]; rfl
        rw [hgd] at hrd
        have htk : (xs.take (i + 1)).sum = (xs.take i).sum + xs[i] := by
          rw [List.take_add_one, List.getElem?_eq_getElem hil]
          simp only [Option.toList_some, List.sum_append, List.sum_cons, List.sum_nil]; omega
        (repeat (first | ((with_reducible apply conv_64); (focus omega); (focus omega)) | ((with_reducible apply load_reads); (focus assumption)) | (rewrite [g9]) | (rewrite [g5])))
        refine build_agg (whCells (purseW xs[i])) (by kernel_rfl) ?_
        obtain ⟨hB', hmE⟩ := hB.make (n := xs[i]) ⟨by omega, by omega⟩ (by omega)
        have hlr : a.last + 1 = (i : Int) + 2 := by rw [hB.last]; omega
        have hnd' : ((ps ++ [((i : Int) + 2, xs[i])]).map (·.1)).Nodup := by
          rw [List.map_append, List.nodup_append]
          refine ⟨hnd, by simp, fun x hx y hy e => ?_⟩
          obtain ⟨p, hp, rfl⟩ := List.mem_map.1 hx
          have := hB.nums p hp
          simp at hy; omega
        have hps : 0 ≤ (ps.map (·.2)).sum := sum_nonneg fun x hx => by
          obtain ⟨p, hp, rfl⟩ := List.mem_map.1 hx
          exact (hB.amounts p hp).1
        have hle := take_le hx (i + 1)
        have hll : lost + xs[i] ≤ all := by omega
        have hB0 := hB.money
        refine State.make (R' := fun L' => [.world L' (a.make (purseW xs[i]))]) st (fun _ => .head) hB.good (by simp [Plain, Wh.zero]) (by simp [Wh.zero]) (by simp) hmE fun w L3 hp3 st => ?_
        rw [hlr, ← hp3]
        generalize a.make (purseW xs[i]) = a' at hB' st
        obtain ⟨hdE, hB2⟩ := hB'.dropPurse hnd' hll
        have fin : ∀ {e : Env} {w : World} {L4 : Lay} {a4 : AW} {lost' : Int} {ps' : List (Int × Int)}, L4.p = L3.p → Bank a4 all lost' ps' (i + 1) → (ps'.map (·.1)).Nodup → lost' + (ps'.map (·.2)).sum = (xs.take (i + 1)).sum → State (fun _ => False) W w [.world L4 a4] →
            e 0 = .slice x0 xs.length c0 → e 1 = .slice x1 bs.length c1 → e 5 = ptr L3.p → e 7 = vi all → e 9 = vi 1 → e 11 = vi lost' → e 12 = vi (i + 1) → ∃ m', m' < xs.length - i ∧ Purses W L.p (.slice x0 xs.length c0) (.slice x1 bs.length c1) xs all m' e w := by
          intro e w L4 a4 lost' ps' hp4 hB4 hn4 hs4 st4 j0 j1 j5 j7 j9 j11 j12
          exact ⟨xs.length - (i + 1), by omega, i + 1, lost', ps', L4, a4, rfl, hil, hB4, hn4, hs4, by rw [hp4, hp3, hp], j0, j1, by rw [← hp, ← hp3]; exact j5, j7, j9, j11, j12, st4⟩
        have stay : lost + ((ps ++ [((i : Int) + 2, xs[i])]).map (·.2)).sum = (xs.take (i + 1)).sum := by
          simp only [List.map_append, List.map_cons, List.map_nil, List.sum_append, List.sum_cons, List.sum_nil]; omega
        (repeat (first | ((with_reducible apply neq_at)) | ((with_reducible apply lss_at)) | ((with_reducible apply len_slice)) | ((with_reducible apply ext_0)) | ((with_reducible apply ext_1)) | ((with_reducible apply cond_f); (focus (first | assumption | rfl | decide | (simp only [bne, Bool.not_eq_true', Bool.not_eq_false', Bool.not_true, Bool.not_false, Bool.not_not]; assumption)))) | (rewrite [g1])))
        cases hb : decide ((i : Int) < (bs.length : Int)) with
        | false =>
          (repeat (first | ((with_reducible apply cond_f); (focus (first | assumption | rfl | decide | (simp only [bne, Bool.not_eq_true', Bool.not_eq_false', Bool.not_true, Bool.not_false, Bool.not_not]; assumption)))) | ((with_reducible apply gop_skip); (focus (first | assumption | rfl | decide | (simp only [bne, Bool.not_eq_true', Bool.not_eq_false', Bool.not_true, Bool.not_false, Bool.not_not]; assumption)))) | ((with_reducible apply pick_f); (focus (first | assumption | rfl | decide | (simp only [bne, Bool.not_eq_true', Bool.not_eq_false', Bool.not_true, Bool.not_false, Bool.not_not]; assumption)))) | ((with_reducible apply add_at); (focus omega); (focus omega))))
          refine fin rfl hB' hnd' stay st ?_ ?_ ?_ ?_ ?_ ?_ ?_
          all_goals simp [upd_get, g0, g1, g5, g7, g9, g11, hp3]
        | true =>
          have hbl : (i : Int) < bs.length := by simpa using hb
          (repeat (first | ((with_reducible apply gop_run); (focus (first | assumption | rfl | decide | (simp only [bne, Bool.not_eq_true', Bool.not_eq_false', Bool.not_true, Bool.not_false, Bool.not_not]; assumption)))) | (simp only [upd_get, start_get, List.getD_cons_zero, List.getD_cons_succ, Nat.reduceEqDiff, reduceIte, Nat.reduceAdd])))
          refine at_bool (h1.ext st.keeps) (by omega) hbl fun b2 j2 hrd2 => ?_
          (repeat (first | ((with_reducible apply gop_run); (focus (first | assumption | rfl | decide | (simp only [bne, Bool.not_eq_true', Bool.not_eq_false', Bool.not_true, Bool.not_false, Bool.not_not]; assumption)))) | ((with_reducible apply pick_t); (focus (first | assumption | rfl | decide | (simp only [bne, Bool.not_eq_true', Bool.not_eq_false', Bool.not_true, Bool.not_false, Bool.not_not]; assumption)))) | ((with_reducible apply load_reads); (focus assumption))))
          cases hbv : bs.getD (i : Int).toNat false with
          | false =>
            (repeat (first | ((with_reducible apply cond_f); (focus (first | assumption | rfl | decide | (simp only [bne, Bool.not_eq_true', Bool.not_eq_false', Bool.not_true, Bool.not_false, Bool.not_not]; assumption)))) | ((with_reducible apply add_at); (focus omega); (focus omega))))
            refine fin rfl hB' hnd' stay st ?_ ?_ ?_ ?_ ?_ ?_ ?_
            all_goals simp [upd_get, g0, g1, g5, g7, g9, g11, hp3]
          | true =>
            (repeat (first | ((with_reducible apply cond_t); (focus (first | assumption | rfl | decide | (simp only [bne, Bool.not_eq_true', Bool.not_eq_false', Bool.not_true, Bool.not_false, Bool.not_not]; assumption))))))
            refine at_16 (h0.ext st.keeps) (by omega) (by omega) fun b3 j3 hrd3 => ?_
            rw [hgd] at hrd3
            (repeat (first | ((with_reducible apply add_at); (focus omega); (focus omega)) | ((with_reducible apply conv_64); (focus omega); (focus omega)) | ((with_reducible apply load_reads); (focus assumption)) | (rewrite [g11])))
            refine State.buildL [vi (i + 2)] st (by omega) (by kernel_rfl) rfl fun b4 w st => ?_
            refine drop_c (l := [(i : Int) + 2]) (st.rep (.tail _ (.head _))) hB'.good hB'.ft hB'.sound (SliceOf.reads (st.holds _ (.head _))) (by simp) (fun h => absurd hdE h) fun _ w' L5 g => ?_
            have st := st.grown g (.tail .head)
            (repeat (first | ((with_reducible apply neq_at)) | ((with_reducible apply cond_f); (focus (first | assumption | rfl | decide | (simp only [bne, Bool.not_eq_true', Bool.not_eq_false', Bool.not_true, Bool.not_false, Bool.not_not]; assumption)))) | ((with_reducible apply add_at); (focus omega); (focus omega))))
            refine fin g.p hB2 hnd (by omega) (st.sub (.cons _ (.refl _))) ?_ ?_ ?_ ?_ ?_ ?_ ?_
            all_goals simp [upd_get, g0, g1, g5, g7, g9, g11, hp3]
      · have q3 : decide ((i : Int) < (xs.length : Int)) = false := by simp; omega
        (repeat (first | ((with_reducible apply lss_at)) | ((with_reducible apply len_slice)) | ((with_reducible apply cond_f); (focus (first | assumption | rfl | decide | (simp only [bne, Bool.not_eq_true', Bool.not_eq_false', Bool.not_true, Bool.not_false, Bool.not_not]; assumption)))) | (rewrite [g9]) | (rewrite [g5])))
        refine what_c (st.rep (.head _)) hB.at1 (by simp [Plain, Wh.zero]) fun w he => ?_
        have st := st.ext he
        have d1 : (all == all) = true := by simp
        have d2 : (lost == lost) = true := by simp
        (repeat (first | ((with_reducible apply field_at)) | ((with_reducible apply eql_at)) | ((with_reducible apply ext_0)) | ((with_reducible apply ext_1)) | ((with_reducible apply State.load1 st); (focus ((repeat (first | exact List.Mem.head _ | assumption | refine List.Mem.tail _ ?_)); done)); (focus rfl)) | ((with_reducible apply gop_run); (focus (first | assumption | rfl | decide | (simp only [bne, Bool.not_eq_true', Bool.not_eq_false', Bool.not_true, Bool.not_false, Bool.not_not]; assumption)))) | ((with_reducible apply pick_t); (focus (first | assumption | rfl | decide | (simp only [bne, Bool.not_eq_true', Bool.not_eq_false', Bool.not_true, Bool.not_false, Bool.not_not]; assumption)))) | ((with_reducible apply State.allocAgg st); intro b w st) | ((with_reducible apply State.storeAll st); (focus ((repeat (first | exact Sub.head | apply Sub.tail)); done)); (focus (first | (simp [whCells, valL, over_length, Value.cells]; done) | omega)); (focus (first | (simp [whCells, valL, over_length, Value.cells]; done) | omega)); (focus (first | rfl | assumption | (simp [whCells, valL, Value.oneCell', Value.cells]; done))); intro w st) | (rewrite [g7]) | (rewrite [g11]) | (simp only [upd_get, start_get, List.getD_cons_zero, List.getD_cons_succ, Nat.reduceEqDiff, reduceIte, Nat.reduceAdd])))
        refine State.buildL [vi 1] st (by omega) (by kernel_rfl) rfl fun b4 w st => ?_
        (repeat (first | ((with_reducible apply gop_run); (focus (first | assumption | rfl | decide | (simp only [bne, Bool.not_eq_true', Bool.not_eq_false', Bool.not_true, Bool.not_false, Bool.not_not]; assumption))))))
        have hBs := hB.dropMint
        have st := st.sub (.cons_cons _ (.cons _ (.refl _)))
        have hlen : a.things.length = ps.length + 1 := by rw [hB.things]; simp
        refine drop_c (l := [1]) (st.rep (.tail _ (.head _))) hB.good hB.ft hB.sound (SliceOf.reads (st.holds _ (.head _))) (by simp) (fun hne w' he => ?_) fun he w' L5 g => ?_
        · have st := st.ext he
          have hne2 : ps ≠ [] := fun e => hne (hBs.1 e).1
          rw [hBs.2 hne2]
          have hpos : 0 < ps.length := List.length_pos_iff.2 hne2
          have d3 : decide ((1 : Int) < (a.things.length : Int)) = true := by rw [hlen]; simp; omega
          have d4 : (((72 : Int) == 72) == decide ((a.things.length : Int) > 1)) = true := by rw [show decide ((a.things.length : Int) > 1) = true from d3]; rfl
          (repeat (first | ((with_reducible apply eql_at)) | ((with_reducible apply gtr_at)) | ((with_reducible apply bool_eql)) | ((with_reducible apply gop_run); (focus (first | assumption | rfl | decide | (simp only [bne, Bool.not_eq_true', Bool.not_eq_false', Bool.not_true, Bool.not_false, Bool.not_not]; assumption)))) | ((with_reducible apply pick_t); (focus (first | assumption | rfl | decide | (simp only [bne, Bool.not_eq_true', Bool.not_eq_false', Bool.not_true, Bool.not_false, Bool.not_not]; assumption)))) | ((with_reducible apply len_c); (focus (first | exact st.rep (by ((repeat (first | exact List.Mem.head _ | assumption | refine List.Mem.tail _ ?_)); done)) | exact h.ext st.keeps)))))
          refine lives07_c fun w he => ?_
          have st := st.ext he
          (repeat (first | ((with_reducible apply pick_t); (focus (first | assumption | rfl | decide | (simp only [bne, Bool.not_eq_true', Bool.not_eq_false', Bool.not_true, Bool.not_false, Bool.not_not]; assumption))))))
          exact hk w st.keeps
        · have he2 : ps = [] := by
            cases ps with
            | nil => rfl
            | cons p ps => have := hBs.2 (by simp); rw [this] at he; simp at he
          have hz := (hBs.1 he2).2
          have st := st.grown g (.tail .head)
          rw [← g.p]
          have d3 : decide ((1 : Int) < (((a.drop [1]).things.length : Nat) : Int)) = false := by rw [hz]; rfl
          have d4 : (((0 : Int) == 72) == decide ((((a.drop [1]).things.length : Nat) : Int) > 1)) = true := by rw [show decide ((((a.drop [1]).things.length : Nat) : Int) > 1) = false from d3]; rfl
          (repeat (first | ((with_reducible apply eql_at)) | ((with_reducible apply gtr_at)) | ((with_reducible apply bool_eql)) | ((with_reducible apply gop_run); (focus (first | assumption | rfl | decide | (simp only [bne, Bool.not_eq_true', Bool.not_eq_false', Bool.not_true, Bool.not_false, Bool.not_not]; assumption)))) | ((with_reducible apply pick_t); (focus (first | assumption | rfl | decide | (simp only [bne, Bool.not_eq_true', Bool.not_eq_false', Bool.not_true, Bool.not_false, Bool.not_not]; assumption)))) | ((with_reducible apply len_c); (focus (first | exact st.rep (by ((repeat (first | exact List.Mem.head _ | assumption | refine List.Mem.tail _ ?_)); done)) | exact h.ext st.keeps)))))
          refine lives07_c fun w he => ?_
          have st := st.ext he
          (repeat (first | ((with_reducible apply pick_t); (focus (first | assumption | rfl | decide | (simp only [bne, Bool.not_eq_true', Bool.not_eq_false', Bool.not_true, Bool.not_false, Bool.not_not]; assumption))))))
          exact hk w st.keeps
end
end Go.X
