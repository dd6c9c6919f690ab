/- The law PurseMany: its call. -/
import Derived.Test.YtdjheefbeagcjaaXxC50
set_option linter.unusedSimpArgs false
set_option linter.unusedVariables false
set_option maxRecDepth 20000
set_option maxHeartbeats 2000000
namespace Go.X
open Go Go.AW

def B10_0 : AW := { parents := [0], cut := [false, false], things := [], last := 0, made := [0, 0] }
def B10_1 : AW := { parents := [0], cut := [false, false], things := [(1, mintS 1 0 0)], last := 1, made := [0, 1] }
theorem B10_1_eq : B10_0.make (mintS 1 0 0) = B10_1 := by decide
theorem GB10_0 : Good B10_0 := good_of (by kernel_rfl)
theorem till_two : Till B10_1 1 [] := ⟨by simp [B10_1], by decide, by decide, by simp [B10_1], by decide, by simp, rfl, by simp, by simp⟩

section
variable {W w : World} {L : Lay} {a : AW} {K : Value → World → Prop} {k : Value → Prop}

def Many (w0 : World) (p : Nat) (m : Nat) (e : Env) (w : World) : Prop :=
  ∃ (j : Nat) (L : Lay) (a : AW) (qs : List Int) (x : Int), m = 600 - j ∧ j ≤ 509 ∧ Till a 1 qs ∧ qs.length = 2 + j ∧ qs[0]? = some x ∧ x = 9007199254740992 - (j : Int) ∧ L.p = p ∧ e 1 = ptr p ∧ e 3 = vi 1 ∧ e 5 = vi 2 ∧ e 6 = vi 0 ∧ e 8 = vi 8 ∧ e 10 = vi 0 ∧ e 12 = vi 8 ∧ e 13 = vi 0 ∧
    e 14 = vi 9007199254740992 ∧ e 16 = vi j ∧ State (fun _ => False) w0 w [.world L a]

theorem many_in {j : Nat} {x : Int} {qs : List Int} {e : Env} {p : Nat} (hp : L.p = p) (hj9 : j < 509) (hj : j ≤ 509) (hT : Till a 1 qs) (hlen : qs.length = 2 + j) (hq0 : qs[0]? = some x) (hx : x = 9007199254740992 - (j : Int)) (g1 : e 1 = ptr L.p) (g3 : e 3 = vi 1) (g5 : e 5 = vi 2) (g6 : e 6 = vi 0) (g8 : e 8 = vi 8) (g10 : e 10 = vi 0) (g12 : e 12 = vi 8) (g13 : e 13 = vi 0) (g14 : e 14 = vi 9007199254740992) (g16 : e 16 = vi j) (st : State (fun _ => False) W w [.world L a]) : F_law10_PurseMany_s14 e (fun e w => ∃ m, m < 600 - j ∧ Many W p m e w) w K := by
  unfold F_law10_PurseMany_s14
  rw [g16]
  have hlt : 0 < qs.length := by omega
  have hq : qs[0] = x := by rw [List.getElem?_eq_getElem hlt] at hq0; exact Option.some.inj hq0
  have ha0 := hT.atP (i := 0) hlt
  simp only [Int.natCast_zero, Int.zero_add, hq] at ha0
  have q1 : decide ((j : Int) < 600) = true := by simp; omega
  have hmd := hT.made
  have hsd := hT.side
  have hmade : (if a.side 1 = true then a.made.getD (1 : Int).toNat 0 else 0) = (j : Int) + 3 := by rw [if_pos hsd, hmd, hlen]; omega
  (repeat (first | ((with_reducible apply lss_at)) | ((with_reducible apply gop_run); (focus (first | assumption | rfl | decide | (simp only [bne, Bool.not_eq_true', Bool.not_eq_false', Bool.not_true, Bool.not_false, Bool.not_not]; assumption)))) | (rewrite [g1])))
  refine made_c (st.rep (.head _)) 1 ?_
  rw [hmade]
  simp only [q1]
  clear q1
  obtain ⟨z, hz⟩ : ∃ z : Int, z = (j : Int) + 3 := ⟨_, rfl⟩
  rw [← hz]
  have q2 : decide (z < 512) = true := by simp; omega
  (repeat (first | ((with_reducible apply lss_at)) | ((with_reducible apply cond_t); (focus (first | assumption | rfl | decide | (simp only [bne, Bool.not_eq_true', Bool.not_eq_false', Bool.not_true, Bool.not_false, Bool.not_not]; assumption)))) | ((with_reducible apply gop_run); (focus (first | assumption | rfl | decide | (simp only [bne, Bool.not_eq_true', Bool.not_eq_false', Bool.not_true, Bool.not_false, Bool.not_not]; assumption)))) | ((with_reducible apply pick_t); (focus (first | assumption | rfl | decide | (simp only [bne, Bool.not_eq_true', Bool.not_eq_false', Bool.not_true, Bool.not_false, Bool.not_not]; assumption)))) | (rewrite [g1]) | (rewrite [g5]) | (simp only [upd_get, start_get, List.getD_cons_zero, List.getD_cons_succ, Nat.reduceEqDiff, reduceIte, Nat.reduceAdd])))
  obtain ⟨hE, hL, hT'⟩ := hT.take (n := 1) (i := 0) hlt (by decide) (by omega) (by omega)
  simp only [Int.natCast_zero, Int.zero_add, hq] at hL hT'
  refine State.takeYes (p := 2) (x := purseS 1 1 x) st hT.good ha0 rfl (by simp [Plain, Wh.zero]) (by simp [Wh.zero]) (by decide) (by simp only; omega) (by simp only; omega) hE hL fun w L2 hp2 st => ?_
  (repeat (first | ((with_reducible apply neq_at)) | ((with_reducible apply ext_0)) | ((with_reducible apply ext_1)) | ((with_reducible apply cond_f); (focus (first | assumption | rfl | decide | (simp only [bne, Bool.not_eq_true', Bool.not_eq_false', Bool.not_true, Bool.not_false, Bool.not_not]; assumption)))) | ((with_reducible apply add_at); (focus omega); (focus omega)) | (rewrite [g16]) | (simp only [upd_get, start_get, List.getD_cons_zero, List.getD_cons_succ, Nat.reduceEqDiff, reduceIte, Nat.reduceAdd])))
  refine ⟨600 - (j + 1), by omega, j + 1, L2, _, _, x - 1, rfl, by omega, hT', by simp [hlen]; omega, ?_, by omega, hp2.trans hp, by simp [upd_get, g1, hp], by simp [upd_get, g3], by simp [upd_get, g5], by simp [upd_get, g6], by simp [upd_get, g8], by simp [upd_get, g10], by simp [upd_get, g12], by simp [upd_get, g13], by simp [upd_get, g14], by simp [upd_get], st⟩
  rw [List.getElem?_append_left (by simpa using hlt)]
  simp [hlt]

theorem many_end {j : Nat} {x : Int} {qs : List Int} {e : Env} {k1 : Env → World → Prop} (hj5 : j = 509) (hj : j ≤ 509) (hT : Till a 1 qs) (hlen : qs.length = 2 + j) (hq0 : qs[0]? = some x) (hx : x = 9007199254740992 - (j : Int)) (g1 : e 1 = ptr L.p) (g3 : e 3 = vi 1) (g5 : e 5 = vi 2) (g6 : e 6 = vi 0) (g8 : e 8 = vi 8) (g10 : e 10 = vi 0) (g12 : e 12 = vi 8) (g13 : e 13 = vi 0) (g14 : e 14 = vi 9007199254740992) (g16 : e 16 = vi j) (st : State (fun _ => False) W w [.world L a]) (hk : ∀ w', Ext W w' → K (.bool true) w') : F_law10_PurseMany_s14 e k1 w K := by
  unfold F_law10_PurseMany_s14
  rw [g16]
  have hlt : 0 < qs.length := by omega
  have hq : qs[0] = x := by rw [List.getElem?_eq_getElem hlt] at hq0; exact Option.some.inj hq0
  have ha0 := hT.atP (i := 0) hlt
  simp only [Int.natCast_zero, Int.zero_add, hq] at ha0
  have q1 : decide ((j : Int) < 600) = true := by simp; omega
  have hmd := hT.made
  have hsd := hT.side
  have hmade : (if a.side 1 = true then a.made.getD (1 : Int).toNat 0 else 0) = (j : Int) + 3 := by rw [if_pos hsd, hmd, hlen]; omega
  subst hj5
  have q2 : decide (((509 : Nat) : Int) + 3 < 512) = false := by decide
  (repeat (first | ((with_reducible apply lss_at)) | ((with_reducible apply gop_run); (focus (first | assumption | rfl | decide | (simp only [bne, Bool.not_eq_true', Bool.not_eq_false', Bool.not_true, Bool.not_false, Bool.not_not]; assumption)))) | (rewrite [g1])))
  refine made_c (st.rep (.head _)) 1 ?_
  rw [hmade]
  (repeat (first | ((with_reducible apply lss_at)) | ((with_reducible apply gop_run); (focus (first | assumption | rfl | decide | (simp only [bne, Bool.not_eq_true', Bool.not_eq_false', Bool.not_true, Bool.not_false, Bool.not_not]; assumption)))) | ((with_reducible apply pick_t); (focus (first | assumption | rfl | decide | (simp only [bne, Bool.not_eq_true', Bool.not_eq_false', Bool.not_true, Bool.not_false, Bool.not_not]; assumption)))) | ((with_reducible apply cond_f); (focus (first | assumption | rfl | decide | (simp only [bne, Bool.not_eq_true', Bool.not_eq_false', Bool.not_true, Bool.not_false, Bool.not_not]; assumption)))) | (rewrite [g1]) | (rewrite [g5]) | (simp only [upd_get, start_get, List.getD_cons_zero, List.getD_cons_succ, Nat.reduceEqDiff, reduceIte, Nat.reduceAdd])))
  have hm0 := hT.makeE (n := 0) (by decide) (by decide)
  rw [if_neg (by omega)] at hm0
  have hs0 := hT.sum0
  have htop := hT.top
  refine State.takeNo (p := 2) (x := purseS 1 1 x) (e := 8) st hT.good ha0 rfl (by simp [Plain, Wh.zero]) (by unfold takeE; rw [if_neg (by decide), if_neg (show ¬ x < 0 by omega)]; exact hm0) (by decide) fun w st => ?_
  (repeat (first | ((with_reducible apply ext_0)) | ((with_reducible apply ext_1)) | (rewrite [g1]) | (rewrite [g3]) | (simp only [upd_get, start_get, List.getD_cons_zero, List.getD_cons_succ, Nat.reduceEqDiff, reduceIte, Nat.reduceAdd])))
  refine State.askNo (m := 1) (x := mintS 1 qs.sum 0) (e := 8) st hT.good hT.at1 rfl (by simp [Plain, Wh.zero]) ⟨hs0, htop⟩ (by unfold askE; rw [if_neg (by decide), if_neg (by simp only; omega)]; exact hm0) (by decide) fun w st => ?_
  (repeat (first | ((with_reducible apply ext_0)) | ((with_reducible apply ext_1)) | (rewrite [g1]) | (rewrite [g5]) | (simp only [upd_get, start_get, List.getD_cons_zero, List.getD_cons_succ, Nat.reduceEqDiff, reduceIte, Nat.reduceAdd])))
  refine st.getYes (p := 2) (x := purseS 1 1 x) (.head _) ha0 rfl (by simp [Plain, Wh.zero]) fun w st => ?_
  have q5 : (x == 9007199254740483) = true := by simp; omega
  have hne : a.sides ≠ 0 := by
    have := hsd
    simp only [AW.side, Bool.and_eq_true, decide_eq_true_eq] at this
    omega
  (repeat (first | ((with_reducible apply eql_at)) | ((with_reducible apply ext_0)) | ((with_reducible apply ext_1)) | ((with_reducible apply gop_run); (focus (first | assumption | rfl | decide | (simp only [bne, Bool.not_eq_true', Bool.not_eq_false', Bool.not_true, Bool.not_false, Bool.not_not]; assumption)))) | ((with_reducible apply pick_t); (focus (first | assumption | rfl | decide | (simp only [bne, Bool.not_eq_true', Bool.not_eq_false', Bool.not_true, Bool.not_false, Bool.not_not]; assumption)))) | (rewrite [g1]) | (rewrite [g6]) | (rewrite [g8]) | (rewrite [g10]) | (rewrite [g12]) | (rewrite [g13]) | (rewrite [g14]) | (simp only [upd_get, start_get, List.getD_cons_zero, List.getD_cons_succ, Nat.reduceEqDiff, reduceIte, Nat.reduceAdd])))
  refine st.check (.head _) hT.good hT.bal hne fun w st => ?_
  (repeat (first | ((with_reducible apply eql_at)) | ((with_reducible apply gop_run); (focus (first | assumption | rfl | decide | (simp only [bne, Bool.not_eq_true', Bool.not_eq_false', Bool.not_true, Bool.not_false, Bool.not_not]; assumption)))) | ((with_reducible apply pick_t); (focus (first | assumption | rfl | decide | (simp only [bne, Bool.not_eq_true', Bool.not_eq_false', Bool.not_true, Bool.not_false, Bool.not_not]; assumption))))))
  refine lives10_c fun w he => ?_
  have st := st.ext he
  (repeat (first | ((with_reducible apply pick_t); (focus (first | assumption | rfl | decide | (simp only [bne, Bool.not_eq_true', Bool.not_eq_false', Bool.not_true, Bool.not_false, Bool.not_not]; assumption))))))
  exact hk w st.keeps

theorem purseMany_c (hk : ∀ w', Ext W w' → K (.bool true) w') : callOn prog fn_law10_PurseMany #[] W K := by
  apply F_law10_PurseMany_on
  unfold F_law10_PurseMany
  have st := State.start (S := fun _ => False) W
  refine st.buildL [vi 0] (by decide) (by kernel_rfl) rfl fun b w st => ?_
  refine st.newYes (a := B10_0) (ps := [0]) (State.sl st (l := [vi 0]) (.head _)).reads (by decide) fun w L st => ?_
  have st := st.sub (.cons_cons _ (.cons _ (.refl _)))
  (repeat (first | ((with_reducible apply ext_0)) | ((with_reducible apply ext_1))))
  refine st.mintYes GB10_0 (by decide) fun w L1 hp st => ?_
  rw [B10_1_eq] at st
  rw [← hp, show B10_0.last + 1 = 1 from rfl]
  (repeat (first | ((with_reducible apply neq_at)) | ((with_reducible apply ext_0)) | ((with_reducible apply ext_1)) | ((with_reducible apply gop_run); (focus (first | assumption | rfl | decide | (simp only [bne, Bool.not_eq_true', Bool.not_eq_false', Bool.not_true, Bool.not_false, Bool.not_not]; assumption)))) | ((with_reducible apply cond_f); (focus (first | assumption | rfl | decide | (simp only [bne, Bool.not_eq_true', Bool.not_eq_false', Bool.not_true, Bool.not_false, Bool.not_not]; assumption)))) | ((with_reducible apply pick_f); (focus (first | assumption | rfl | decide | (simp only [bne, Bool.not_eq_true', Bool.not_eq_false', Bool.not_true, Bool.not_false, Bool.not_not]; assumption))))))
  have hT := till_two
  obtain ⟨hE, hL, hT2⟩ := hT.ask (n := 9007199254740989) (by decide) (by decide) (by decide)
  refine State.askYes (m := 1) (x := mintS 1 0 0) st hT.good hT.at1 rfl (by simp [Plain, Wh.zero]) (by simp [Wh.zero]) (by decide) (by decide) (by decide) hE hL fun w L2 hp st => ?_
  rw [← hp, show B10_1.last + 1 = 2 from rfl]
  have hT2 : Till (AW.ask B10_1 1 (mintS 1 0 0) 9007199254740989) 1 [9007199254740989] := hT2
  have hl2 := hT2.last
  generalize AW.ask B10_1 1 (mintS 1 0 0) 9007199254740989 = a2 at hT2 st hl2
  (repeat (first | ((with_reducible apply ext_0)) | ((with_reducible apply ext_1))))
  refine State.askNo (m := 1) (x := mintS 1 9007199254740989 0) (e := 8) st hT2.good hT2.at1 rfl (by simp [Plain, Wh.zero]) (by decide) (by unfold askE; rw [if_neg (by decide), if_pos (by decide)]) (by decide) fun w st => ?_
  (repeat (first | ((with_reducible apply ext_0)) | ((with_reducible apply ext_1))))
  obtain ⟨hE, hL, hT3⟩ := hT2.ask (n := 3) (by decide) (by decide) (by decide)
  refine State.askYes (m := 1) (x := mintS 1 9007199254740989 0) st hT2.good hT2.at1 rfl (by simp [Plain, Wh.zero]) (by simp [Wh.zero]) (by decide) (by decide) (by decide) hE hL fun w L3 hp st => ?_
  rw [← hp, show a2.last + 1 = 3 by rw [hl2]; rfl]
  have hT3 : Till (AW.ask a2 1 (mintS 1 9007199254740989 0) 3) 1 [9007199254740989, 3] := hT3
  generalize AW.ask a2 1 (mintS 1 9007199254740989 0) 3 = a3 at hT3 st
  (repeat (first | ((with_reducible apply ext_0)) | ((with_reducible apply ext_1))))
  refine State.askNo (m := 1) (x := mintS 1 9007199254740992 0) (e := 8) st hT3.good hT3.at1 rfl (by simp [Plain, Wh.zero]) (by decide) (by unfold askE; rw [if_neg (by decide), if_pos (by decide)]) (by decide) fun w st => ?_
  (repeat (first | ((with_reducible apply ext_0)) | ((with_reducible apply ext_1))))
  obtain ⟨m1, m2, m3, m4, m5, hT4⟩ := hT3.move (i := 0) (j := 1) (by decide) (by decide) (by decide)
  refine State.moveYes (t := 2) (f := 3) (x := purseS 1 1 9007199254740989) (y := purseS 1 1 3) st hT3.good (hT3.atP (i := 0) (by decide)) rfl (by simp [Plain, Wh.zero]) (by simp [Wh.zero]) (hT3.atP (i := 1) (by decide)) rfl (by simp [Plain, Wh.zero]) (by simp [Wh.zero]) (by decide) rfl m1 m2 m3 m4 m5 fun w st => ?_
  have hT4 : Till (AW.move a3 2 3 (purseS 1 1 9007199254740989) (purseS 1 1 3)) 1 [9007199254740992, 0] := hT4
  generalize AW.move a3 2 3 (purseS 1 1 9007199254740989) (purseS 1 1 3) = a4 at hT4 st
  skip
  refine st.getYes (p := 2) (x := purseS 1 1 9007199254740992) (.head _) (hT4.atP (i := 0) (by decide)) rfl (by simp [Plain, Wh.zero]) fun w st => ?_
  (repeat (first | ((with_reducible apply ext_0)) | ((with_reducible apply ext_1)) | (simp only [upd_get, start_get, List.getD_cons_zero, List.getD_cons_succ, Nat.reduceEqDiff, reduceIte, Nat.reduceAdd])))
  refine ⟨Many W L3.p, 600, ⟨0, L3, a4, _, 9007199254740992, by omega, by omega, hT4, rfl, rfl, by omega, rfl, by simp [upd_get], by simp [upd_get], by simp [upd_get], by simp [upd_get], by simp [upd_get], by simp [upd_get], by simp [upd_get], by simp [upd_get], by simp [upd_get], by simp [upd_get], st⟩, ?_⟩
  generalize L3.p = p
  clear st hT hT2 hT3 hT4 m1 m2 m3 m4 m5 hp hl2 hE hL
  rintro m e w ⟨j, L, a, qs, x, rfl, hj, hT, hlen, hq0, hx, hp, g1, g3, g5, g6, g8, g10, g12, g13, g14, g16, st⟩
  subst hp
  by_cases hj9 : j < 509
  · exact many_in rfl hj9 hj hT hlen hq0 hx g1 g3 g5 g6 g8 g10 g12 g13 g14 g16 st
  · exact many_end (by omega) hj hT hlen hq0 hx g1 g3 g5 g6 g8 g10 g12 g13 g14 g16 st hk
end
end Go.X
