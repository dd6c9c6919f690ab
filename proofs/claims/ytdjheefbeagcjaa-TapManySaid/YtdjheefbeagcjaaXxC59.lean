/- The law TapMany: its call. -/
import Derived.Test.YtdjheefbeagcjaaXxC58
import Derived.Test.YtdjheefbeagcjaaXxS13
set_option linter.unusedSimpArgs false
set_option linter.unusedVariables false
set_option maxRecDepth 20000
set_option maxHeartbeats 2000000
namespace Go.X
open Go Go.AW

abbrev logS : Wh := { Wh.zero with kind := 2 }

/-- what stands in this law's world -/
inductive Kin (a : AW) (r : Int) : Wh → Prop
  | cell : Kin a r cellS
  | log : Kin a r logS
  | tally (n : Int) : 0 ≤ n → n ≤ 9007199254740992 → Kin a r (tallyS 0 n)
  | tap (o q : Int) : a.is o = true → o < r → Kin a r (tapS 0 o q)

structure Room (a : AW) (n : Nat) : Prop where
  par : a.parents = []
  made : a.made = [(n : Int)]
  last : a.last = n
  lim : n ≤ 512
  len : a.things.length = n
  nums : ∀ t ∈ a.things, t.1 ≤ n
  kinds : ∀ t ∈ a.things, Kin a t.1 t.2
  at1 : a.at 1 = some cellS
  at2 : a.at 2 = some (tallyS 0 9007199254740992)

section
variable {a : AW} {n : Nat}

theorem Room.side (h : Room a n) : a.side 0 = true := by simp [AW.side, AW.sides, h.made]
theorem Room.sides (h : Room a n) : a.sides ≠ 0 := by simp [AW.sides, h.made]

theorem Kin.not14 {r : Int} {x : Wh} (h : Kin a r x) : x.kind ≠ 14 := by cases h <;> simp [Wh.zero]
theorem Kin.not15 {r : Int} {x : Wh} (h : Kin a r x) : x.kind ≠ 15 := by cases h <;> simp [Wh.zero]
theorem Kin.home {r : Int} {x : Wh} (h : Kin a r x) : x.home = 0 := by cases h <;> simp [Wh.zero]

theorem Room.good (h : Room a n) : Good a := by
  refine ⟨⟨fun t ht => ?_, fun t ht _ => ?_, fun t ht hw => ?_, fun t ht k => ?_, fun u hu t ht k => ?_, fun i hi => ?_⟩, fun t ht => ?_, fun m hm => ?_, ?_⟩
  · have hk := h.kinds t ht
    generalize t.2 = x at hk ⊢
    cases hk <;> simp [Wh.zero]
  · rw [(h.kinds t ht).home]; exact h.side
  · have hk := h.kinds t ht
    generalize t.2 = x at hk hw ⊢
    cases hk with
    | cell => simp [AW.wraps] at hw
    | log => simp [AW.wraps] at hw
    | tally n => simp [AW.wraps] at hw
    | tap o q ho hlt => exact ⟨ho, hlt⟩
  · exact absurd k (h.kinds t ht).not15
  · exact absurd k (h.kinds u hu).not14
  · rw [h.par] at hi; simp at hi
  · have hk := h.kinds t ht
    generalize t.2 = x at hk ⊢
    cases hk <;> simp [Plain, Wh.zero]
  · rw [h.made] at hm; simp at hm; omega
  · unfold Few; rw [h.last]; have := h.lim; omega

theorem make_add {x : Wh} (hx : x.kind ≠ 15) : a.make x = a.add x := by unfold AW.make; rw [if_neg hx]

theorem is_add {x : Wh} {r : Int} (h : a.is r = true) : (a.add x).is r = true := by
  unfold AW.is at h ⊢
  rw [AW.at_add]
  cases hr : a.at r with
  | none => rw [hr] at h; simp at h
  | some y => rfl

theorem Room.none (h : Room a n) : a.at (a.last + 1) = none := by
  cases hr : a.at (a.last + 1) with
  | none => rfl
  | some y =>
    have := h.nums _ (lookup_mem hr)
    have := h.last
    simp only at *
    omega

theorem Room.at_last (h : Room a n) (x : Wh) : (a.add x).at (a.last + 1) = some x := by rw [AW.at_add, h.none]; simp

theorem Room.add (h : Room a n) {x : Wh} (hx : Kin a ((n : Int) + 1) x) (hn : n < 512) : Room (a.add x) (n + 1) := by
  have h14 := hx.not14
  refine ⟨h.par, ?_, ?_, by omega, ?_, fun t ht => ?_, fun t ht => ?_, by rw [AW.at_add, h.at1], by rw [AW.at_add, h.at2]⟩
  · show (if x.kind = 14 then a.made else a.made.set x.home.toNat (a.made.getD x.home.toNat 0 + 1)) = _
    rw [if_neg h14, hx.home, h.made]
    simp
  · show a.last + 1 = _
    rw [h.last]; simp
  · show (a.things ++ [(a.last + 1, x)]).length = _
    simp [h.len]
  · have ht : t ∈ a.things ++ [(a.last + 1, x)] := ht
    rcases List.mem_append.1 ht with ht | ht
    · have := h.nums t ht; omega
    · simp at ht; subst ht; simp [h.last]
  · have ht : t ∈ a.things ++ [(a.last + 1, x)] := ht
    have up : ∀ {r : Int} {y : Wh}, Kin a r y → Kin (a.add x) r y := by
      intro r y hy
      cases hy with
      | cell => exact .cell
      | log => exact .log
      | tally m h0 h1 => exact .tally m h0 h1
      | tap o q ho hlt => exact .tap o q (is_add ho) hlt
    rcases List.mem_append.1 ht with ht | ht
    · exact up (h.kinds t ht)
    · simp at ht; subst ht
      have := up hx
      rw [h.last]; exact this

theorem Room.makeE (h : Room a n) {x : Wh} (hx : x = logS ∨ (∃ m, 0 ≤ m ∧ m ≤ 9007199254740992 ∧ x = tallyS 0 m) ∨ ∃ q m, x = tapS 0 1 q ∧ a.at q = some (tallyS 0 m)) : makeE a x = if n < 512 then 0 else 8 := by
  have hs := h.side
  have h1 := h.at1
  have hm : (if 512 ≤ a.made.getD (0 : Int).toNat 0 then (8 : Int) else 0) = if n < 512 then 0 else 8 := by
    rw [h.made]
    by_cases hn : n < 512
    · rw [if_pos hn, if_neg (by simp; omega)]
    · rw [if_neg hn, if_pos (by simp; omega)]
  rcases hx with rfl | ⟨m, m0, m1, rfl⟩ | ⟨q, m, rfl, hq⟩
  · have hf : formB a logS = true := by simp [formB, bareW, blankB, Wh.zero, hs]
    have hfit : fitsB a logS = true := by simp [fitsB, thereB, Wh.zero]
    unfold Go.X.makeE
    rw [if_neg (by simp [hf]), if_neg (by simp [asksOf, asksBy, AW.wraps, Wh.zero]), if_neg (by simp [hfit])]
    exact hm
  · have hf : formB a (tallyS 0 m) = true := by simp [formB, bareW, blankB, Wh.zero, hs, m0, m1]
    have hfit : fitsB a (tallyS 0 m) = true := by simp [fitsB, thereB, Wh.zero]
    unfold Go.X.makeE
    rw [if_neg (by simp [hf]), if_neg (by simp [asksOf, asksBy, AW.wraps, Wh.zero]), if_neg (by simp [hfit])]
    exact hm
  · have hf : formB a (tapS 0 1 q) = true := by simp [formB, bareW, blankB, Wh.zero, hs]
    have i1 : a.is 1 = true := by rw [AW.is, h1]; rfl
    have i2 : a.is q = true := by rw [AW.is, hq]; rfl
    have hfit : fitsB a (tapS 0 1 q) = true := by simp [fitsB, thereB, Wh.zero, hq, h1, i1, i2]
    unfold Go.X.makeE
    rw [if_neg (by simp [hf]), if_neg (by simp [asksOf, asksBy, AW.wraps, Wh.zero, i1, i2]), if_neg (by simp [hfit])]
    exact hm
end

def T13_2 : AW := { parents := [], cut := [false], things := [(1, cellS), (2, tallyS 0 9007199254740991)], last := 2, made := [2] }
def T13_3 : AW := { parents := [], cut := [false], things := [(1, cellS), (2, tallyS 0 9007199254740991), (3, tapS 0 1 2)], last := 3, made := [3] }
def T13_4 : AW := { parents := [], cut := [false], things := [(1, cellS), (2, tallyS 0 9007199254740991), (3, tapS 0 1 2), (4, tapS 0 3 2)], last := 4, made := [4] }
def T13_5 : AW := { parents := [], cut := [false], things := [(1, cellS), (2, tallyS 0 9007199254740992), (3, tapS 0 1 2), (4, tapS 0 3 2)], last := 4, made := [4] }
theorem T13_2_eq : A13_1.make (tallyS 0 9007199254740991) = T13_2 := by kernel_rfl
theorem T13_3_eq : T13_2.make (tapS 0 1 2) = T13_3 := by kernel_rfl
theorem T13_4_eq : T13_3.make (tapS 0 3 2) = T13_4 := by kernel_rfl
theorem T13_5_eq : ticks T13_4 (T13_4.way 4) = T13_5 := by kernel_rfl
theorem GT13_2 : Good T13_2 := good_of (by kernel_rfl)
theorem GT13_3 : Good T13_3 := good_of (by kernel_rfl)
theorem GT13_4 : Good T13_4 := good_of (by kernel_rfl)
theorem room4 : Room T13_5 4 := by
  refine ⟨rfl, rfl, rfl, by omega, rfl, fun t ht => ?_, fun t ht => ?_, by kernel_rfl, by kernel_rfl⟩
  · simp only [T13_5, List.mem_cons, List.not_mem_nil, or_false] at ht
    rcases ht with rfl | rfl | rfl | rfl <;> decide
  · simp only [T13_5, List.mem_cons, List.not_mem_nil, or_false] at ht
    rcases ht with rfl | rfl | rfl | rfl
    · exact .cell
    · exact .tally _ (by omega) (by omega)
    · exact .tap 1 2 (by kernel_rfl) (by decide)
    · exact .tap 3 2 (by kernel_rfl) (by decide)

section
variable {W w : World} {L : Lay} {a : AW} {K : Value → World → Prop}

def TapLoop (w0 : World) (p : Nat) (m : Nat) (e : Env) (w : World) : Prop :=
  ∃ (j : Nat) (L : Lay) (a : AW), m = 600 - j ∧ j ≤ 507 ∧ Room a (4 + j) ∧ L.p = p ∧ e 1 = ptr p ∧ e 3 = vi 1 ∧ e 5 = vi 2 ∧ e 11 = vi 9007199254740992 ∧ e 12 = vi 0 ∧ e 13 = vi j ∧ State (fun _ => False) w0 w [.world L a]

theorem tapMany_in {j : Nat} {e : Env} {p : Nat} (hp : L.p = p) (hj : j < 507) (hR : Room a (4 + j)) (g1 : e 1 = ptr L.p) (g3 : e 3 = vi 1) (g5 : e 5 = vi 2) (g11 : e 11 = vi 9007199254740992) (g12 : e 12 = vi 0) (g13 : e 13 = vi j)
    (st : State (fun _ => False) W w [.world L a]) : F_law13_TapMany_s12 e (fun e w => ∃ m, m < 600 - j ∧ TapLoop W p m e w) w K := by
  unfold F_law13_TapMany_s12
  rw [g13]
  have q1 : decide ((j : Int) < 600) = true := decide_eq_true (by omega)
  (repeat (first | ((with_reducible apply lss_at)) | ((with_reducible apply gop_run); (focus (first | assumption | rfl | decide | (simp only [bne, Bool.not_eq_true', Bool.not_eq_false', Bool.not_true, Bool.not_false, Bool.not_not]; assumption)))) | (rewrite [g1])))
  refine made_c (st.rep (.head _)) 0 ?_
  rw [if_pos hR.side, hR.made]
  simp only [q1]
  clear q1
  obtain ⟨z, hz⟩ : ∃ z : Int, z = ([((4 + j : Nat) : Int)] : List Int).getD (0 : Int).toNat 0 := ⟨_, rfl⟩
  rw [← hz]
  have hz' : z = 4 + (j : Int) := by rw [hz]; simp
  have q2 : decide (z < 511) = true := decide_eq_true (by omega)
  clear hz
  (repeat (first | ((with_reducible apply lss_at)) | ((with_reducible apply cond_t); (focus (first | assumption | rfl | decide | (simp only [bne, Bool.not_eq_true', Bool.not_eq_false', Bool.not_true, Bool.not_false, Bool.not_not]; assumption)))) | ((with_reducible apply gop_run); (focus (first | assumption | rfl | decide | (simp only [bne, Bool.not_eq_true', Bool.not_eq_false', Bool.not_true, Bool.not_false, Bool.not_not]; assumption)))) | ((with_reducible apply pick_t); (focus (first | assumption | rfl | decide | (simp only [bne, Bool.not_eq_true', Bool.not_eq_false', Bool.not_true, Bool.not_false, Bool.not_not]; assumption)))) | (rewrite [g1]) | (simp only [upd_get, start_get, List.getD_cons_zero, List.getD_cons_succ, Nat.reduceEqDiff, reduceIte, Nat.reduceAdd])))
  refine build_agg (whCells logS) (by kernel_rfl) ?_
  skip
  have hE := hR.makeE (x := logS) (.inl rfl)
  rw [if_pos (by omega)] at hE
  refine State.make (x := logS) (R' := fun L' => [.world L' (a.make logS)]) st (fun L' => .head) hR.good (by simp [Plain, Wh.zero]) (by simp [Wh.zero]) (by simp) hE fun w L2 hp2 st => ?_
  rw [make_add (by decide)] at st
  have hR2 := hR.add (x := logS) .log (by omega)
  (repeat (first | ((with_reducible apply neq_at)) | ((with_reducible apply ext_0)) | ((with_reducible apply ext_1)) | ((with_reducible apply cond_f); (focus (first | assumption | rfl | decide | (simp only [bne, Bool.not_eq_true', Bool.not_eq_false', Bool.not_true, Bool.not_false, Bool.not_not]; assumption)))) | ((with_reducible apply add_at); (focus omega); (focus omega)) | (rewrite [g13]) | (simp only [upd_get, start_get, List.getD_cons_zero, List.getD_cons_succ, Nat.reduceEqDiff, reduceIte, Nat.reduceAdd])))
  exact ⟨600 - (j + 1), by omega, j + 1, L2, _, rfl, by omega, hR2, hp2.trans hp, by simp [upd_get, g1, hp], by simp [upd_get, g3], by simp [upd_get, g5], by simp [upd_get, g11], by simp [upd_get, g12], by simp [upd_get], st⟩

theorem tapMany_end {e : Env} {k1 : Env → World → Prop} (hR : Room a 511) (g1 : e 1 = ptr L.p) (g3 : e 3 = vi 1) (g5 : e 5 = vi 2) (g11 : e 11 = vi 9007199254740992) (g12 : e 12 = vi 0) (g13 : e 13 = vi 507)
    (st : State (fun _ => False) W w [.world L a]) (hk : ∀ w', Ext W w' → K (.bool true) w') : F_law13_TapMany_s12 e k1 w K := by
  unfold F_law13_TapMany_s12
  rw [g13]
  (repeat (first | ((with_reducible apply lss_at)) | ((with_reducible apply gop_run); (focus (first | assumption | rfl | decide | (simp only [bne, Bool.not_eq_true', Bool.not_eq_false', Bool.not_true, Bool.not_false, Bool.not_not]; assumption)))) | (rewrite [g1])))
  refine made_c (st.rep (.head _)) 0 ?_
  rw [if_pos hR.side, hR.made, show ([((511 : Nat) : Int)] : List Int).getD (0 : Int).toNat 0 = 511 from rfl]
  (repeat (first | ((with_reducible apply lss_at)) | ((with_reducible apply gop_run); (focus (first | assumption | rfl | decide | (simp only [bne, Bool.not_eq_true', Bool.not_eq_false', Bool.not_true, Bool.not_false, Bool.not_not]; assumption)))) | ((with_reducible apply pick_t); (focus (first | assumption | rfl | decide | (simp only [bne, Bool.not_eq_true', Bool.not_eq_false', Bool.not_true, Bool.not_false, Bool.not_not]; assumption)))) | ((with_reducible apply cond_f); (focus (first | assumption | rfl | decide | (simp only [bne, Bool.not_eq_true', Bool.not_eq_false', Bool.not_true, Bool.not_false, Bool.not_not]; assumption)))) | (rewrite [g1]) | (simp only [upd_get, start_get, List.getD_cons_zero, List.getD_cons_succ, Nat.reduceEqDiff, reduceIte, Nat.reduceAdd])))
  refine len_c (st.rep (.head _)) ?_
  rw [hR.len]
  (repeat (first | (rewrite [g3])))
  have hE1 := hR.makeE (x := tallyS 0 0) (.inr (.inl ⟨0, by omega, by omega, rfl⟩))
  rw [if_pos (by omega)] at hE1
  have hRt := hR.add (x := tallyS 0 0) (.tally 0 (by omega) (by omega)) (by omega)
  have hmk : a.make (tallyS 0 0) = a.add (tallyS 0 0) := make_add (by decide)
  have hE2 := hRt.makeE (x := tapS 0 1 (a.last + 1)) (.inr (.inr ⟨_, 0, rfl, hR.at_last _⟩))
  rw [if_neg (by omega)] at hE2
  have i1 : a.is 1 = true := by rw [AW.is, hR.at1]; rfl
  refine State.tapMakeNo (s := 0) (r := 1) (e := 8) st hR.good hR.side i1 (fun t ht => (hR.kinds t ht).not14) hE1 (by rw [hmk]; exact hRt.good) (by rw [hmk]; exact hE2) (by decide) fun w L2 hp st => ?_
  have g1 : e 1 = ptr L2.p := by rw [hp]; exact g1
  (repeat (first | ((with_reducible apply ext_0)) | ((with_reducible apply ext_1)) | ((with_reducible apply ext_2)) | (rewrite [g1]) | (rewrite [g3]) | (rewrite [g5]) | (simp only [upd_get, start_get, List.getD_cons_zero, List.getD_cons_succ, Nat.reduceEqDiff, reduceIte, Nat.reduceAdd])))
  have hE3 := hR.makeE (x := tapS 0 1 2) (.inr (.inr ⟨_, _, rfl, hR.at2⟩))
  rw [if_pos (by omega)] at hE3
  refine State.with (s := 0) (r := 1) (t := 2) st hR.good hR.side i1 hR.at2 rfl rfl (fun _ w L3 hp3 st => ?_) (fun h => absurd hE3 h)
  have g1 : e 1 = ptr L3.p := by rw [hp3]; exact g1
  have hmk2 : a.make (tapS 0 1 2) = a.add (tapS 0 1 2) := make_add (by decide)
  rw [hmk2] at st
  have hR3 := hR.add (x := tapS 0 1 2) (.tap 1 2 i1 (by omega)) (by omega)
  generalize a.add (tapS 0 1 2) = a3 at hR3 st
  (repeat (first | ((with_reducible apply ext_0)) | ((with_reducible apply ext_1)) | (rewrite [g1]) | (rewrite [g3]) | (rewrite [g5]) | (simp only [upd_get, start_get, List.getD_cons_zero, List.getD_cons_succ, Nat.reduceEqDiff, reduceIte, Nat.reduceAdd])))
  have hE4 := hR3.makeE (x := tapS 0 1 2) (.inr (.inr ⟨_, _, rfl, hR3.at2⟩))
  rw [if_neg (by omega)] at hE4
  have i3 : a3.is 1 = true := by rw [AW.is, hR3.at1]; rfl
  refine State.with (s := 0) (r := 1) (t := 2) st hR3.good hR3.side i3 hR3.at2 rfl rfl (fun h => by rw [hE4] at h; simp at h) (fun _ w st => ?_)
  rw [hE4]
  (repeat (first | ((with_reducible apply eql_at)) | ((with_reducible apply ext_0)) | ((with_reducible apply ext_1)) | ((with_reducible apply gop_run); (focus (first | assumption | rfl | decide | (simp only [bne, Bool.not_eq_true', Bool.not_eq_false', Bool.not_true, Bool.not_false, Bool.not_not]; assumption)))) | ((with_reducible apply pick_t); (focus (first | assumption | rfl | decide | (simp only [bne, Bool.not_eq_true', Bool.not_eq_false', Bool.not_true, Bool.not_false, Bool.not_not]; assumption)))) | (rewrite [g1]) | (rewrite [g11]) | (rewrite [g12]) | (simp only [upd_get, start_get, List.getD_cons_zero, List.getD_cons_succ, Nat.reduceEqDiff, reduceIte, Nat.reduceAdd])))
  refine len_c (st.rep (.head _)) ?_
  rw [hR3.len]
  (repeat (first | ((with_reducible apply eql_at)) | ((with_reducible apply gop_run); (focus (first | assumption | rfl | decide | (simp only [bne, Bool.not_eq_true', Bool.not_eq_false', Bool.not_true, Bool.not_false, Bool.not_not]; assumption)))) | ((with_reducible apply pick_t); (focus (first | assumption | rfl | decide | (simp only [bne, Bool.not_eq_true', Bool.not_eq_false', Bool.not_true, Bool.not_false, Bool.not_not]; assumption)))) | ((with_reducible apply add_at); (focus omega); (focus omega)) | (simp only [upd_get, start_get, List.getD_cons_zero, List.getD_cons_succ, Nat.reduceEqDiff, reduceIte, Nat.reduceAdd])))
  refine lives13_c fun w he => ?_
  have st := st.ext he
  (repeat (first | ((with_reducible apply pick_t); (focus (first | assumption | rfl | decide | (simp only [bne, Bool.not_eq_true', Bool.not_eq_false', Bool.not_true, Bool.not_false, Bool.not_not]; assumption))))))
  exact hk w st.keeps

theorem tapMany_c (hk : ∀ w', Ext W w' → K (.bool true) w') : callOn prog fn_law13_TapMany #[] W K := by
  apply F_law13_TapMany_on
  unfold F_law13_TapMany
  have st := State.start (S := fun _ => False) W
  refine st.newYes (a := A13_0) (ps := []) (show ReadsOf W (.slice none 0 0) [] from ⟨rfl, rfl, rfl⟩) (by decide) fun w L st => ?_
  (repeat (first | ((with_reducible apply ext_0)) | ((with_reducible apply ext_1))))
  refine build_agg (whCells cellS) (by kernel_rfl) ?_
  refine st.make (R' := fun L' => [.world L' (A13_0.make cellS)]) (fun L' => .head) G13_0 (by simp [Plain, Wh.zero]) (by simp [Wh.zero]) (by simp) (by decide) fun w L1 hp st => ?_
  rw [A13_1_eq] at st
  rw [← hp, show A13_0.last + 1 = 1 from rfl]
  (repeat (first | ((with_reducible apply ext_0)) | ((with_reducible apply ext_1))))
  refine build_agg (whCells (tallyS 0 9007199254740991)) (by kernel_rfl) ?_
  refine st.make (R' := fun L' => [.world L' (A13_1.make (tallyS 0 9007199254740991))]) (fun L' => .head) G13_1 (by simp [Plain, Wh.zero]) (by simp [Wh.zero]) (by simp) (by kernel_rfl) fun w L2 hp st => ?_
  rw [T13_2_eq] at st
  rw [← hp, show A13_1.last + 1 = 2 from rfl]
  (repeat (first | ((with_reducible apply ext_0)) | ((with_reducible apply ext_1))))
  refine State.with (s := 0) (r := 1) (t := 2) (y := tallyS 0 9007199254740991) st GT13_2 (by kernel_rfl) (by kernel_rfl) (by kernel_rfl) rfl rfl (fun _ w L3 hp st => ?_) (fun h => absurd (by kernel_rfl) h)
  rw [T13_3_eq] at st
  rw [← hp, show T13_2.last + 1 = 3 from rfl]
  (repeat (first | ((with_reducible apply ext_0)) | ((with_reducible apply ext_1))))
  refine State.with (s := 0) (r := 3) (t := 2) (y := tallyS 0 9007199254740991) st GT13_3 (by kernel_rfl) (by kernel_rfl) (by kernel_rfl) rfl rfl (fun _ w L4 hp st => ?_) (fun h => absurd (by kernel_rfl) h)
  rw [T13_4_eq] at st
  rw [← hp, show T13_3.last + 1 = 4 from rfl]
  (repeat (first | ((with_reducible apply neq_at)) | ((with_reducible apply ext_0)) | ((with_reducible apply ext_1)) | ((with_reducible apply gop_run); (focus (first | assumption | rfl | decide | (simp only [bne, Bool.not_eq_true', Bool.not_eq_false', Bool.not_true, Bool.not_false, Bool.not_not]; assumption)))) | ((with_reducible apply pick_f); (focus (first | assumption | rfl | decide | (simp only [bne, Bool.not_eq_true', Bool.not_eq_false', Bool.not_true, Bool.not_false, Bool.not_not]; assumption))))))
  refine State.pass (r := 4) st GT13_4 (by kernel_rfl) (by simp [T13_4, AW.sides]) (by kernel_rfl) fun w st => ?_
  rw [T13_5_eq] at st
  (repeat (first | ((with_reducible apply neq_at)) | ((with_reducible apply gop_run); (focus (first | assumption | rfl | decide | (simp only [bne, Bool.not_eq_true', Bool.not_eq_false', Bool.not_true, Bool.not_false, Bool.not_not]; assumption)))) | ((with_reducible apply cond_f); (focus (first | assumption | rfl | decide | (simp only [bne, Bool.not_eq_true', Bool.not_eq_false', Bool.not_true, Bool.not_false, Bool.not_not]; assumption)))) | ((with_reducible apply pick_f); (focus (first | assumption | rfl | decide | (simp only [bne, Bool.not_eq_true', Bool.not_eq_false', Bool.not_true, Bool.not_false, Bool.not_not]; assumption))))))
  refine tcount_yes (t := 3) (x := tapS 0 1 2) (y := tallyS 0 9007199254740992) (st.rep (.head _)) (by kernel_rfl) (by simp [Plain, Wh.zero]) rfl (by kernel_rfl) (by simp [Plain, Wh.zero]) fun w he => ?_
  have st := st.ext he
  (repeat (first | ((with_reducible apply ext_0)) | ((with_reducible apply ext_1)) | (simp only [upd_get, start_get, List.getD_cons_zero, List.getD_cons_succ, Nat.reduceEqDiff, reduceIte, Nat.reduceAdd])))
  refine ⟨TapLoop W L4.p, 600, ⟨0, L4, T13_5, by omega, by omega, room4, rfl, by simp [upd_get], by simp [upd_get], by simp [upd_get], by simp [upd_get], by simp [upd_get], by simp [upd_get], st⟩, ?_⟩
  generalize L4.p = p
  clear st
  rintro m e w ⟨j, L, a, rfl, hj, hR, hp, g1, g3, g5, g11, g12, g13, st⟩
  subst hp
  by_cases hj7 : j < 507
  · exact tapMany_in rfl hj7 hR g1 g3 g5 g11 g12 g13 st
  · have hj5 : j = 507 := by omega
    subst hj5
    exact tapMany_end hR g1 g3 g5 g11 g12 g13 st hk
end
end Go.X
