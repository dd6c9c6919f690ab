/- The law PurseApart: its call. -/
import Derived.Test.YtdjheefbeagcjaaXxC47
import Derived.Test.YtdjheefbeagcjaaXxS12
set_option linter.unusedSimpArgs false
set_option linter.unusedVariables false
set_option maxRecDepth 20000
set_option maxHeartbeats 2000000
namespace Go.X
open Go Go.AW

/-- mints and purses on one side -/
structure Duo (a : AW) (s : Int) (k : Nat) (ts : List (Int × Wh)) : Prop where
  tree : ∀ i, i < a.parents.length → 0 ≤ a.parents.getD i 0 ∧ a.parents.getD i 0 ≤ i
  side : a.side s = true
  made : a.made.getD s.toNat 0 = k
  pos : ∀ n ∈ a.made, 0 ≤ n
  last : a.last = k
  lim : k ≤ 10
  things : a.things = ts
  kinds : ∀ t ∈ ts, (∃ n, t.2 = mintS s n 0) ∨ ∃ m n, t.2 = purseS s m n

section
variable {a : AW} {s : Int} {k : Nat} {ts : List (Int × Wh)}

theorem Duo.good (h : Duo a s k ts) : Good a := by
  have hk : ∀ {t}, t ∈ a.things → _ := fun {t} ht => h.kinds t (by rw [h.things] at ht; exact ht)
  refine ⟨⟨fun t ht => ?_, fun t ht _ => ?_, fun t ht hw => ?_, fun t ht k => ?_, fun u hu t ht k => ?_, h.tree⟩, fun t ht => ?_, h.pos, ?_⟩
  · rcases hk ht with ⟨n, e⟩ | ⟨m, n, e⟩ <;> rw [e] <;> simp [Wh.zero]
  · rcases hk ht with ⟨n, e⟩ | ⟨m, n, e⟩ <;> rw [e] <;> exact h.side
  · rcases hk ht with ⟨n, e⟩ | ⟨m, n, e⟩ <;> rw [e] at hw <;> simp [AW.wraps] at hw
  · rcases hk ht with ⟨n, e⟩ | ⟨m, n, e⟩ <;> rw [e] at k <;> simp at k
  · rcases hk hu with ⟨n, e⟩ | ⟨m, n, e⟩ <;> rw [e] at k <;> simp at k
  · rcases hk ht with ⟨n, e⟩ | ⟨m, n, e⟩ <;> rw [e] <;> simp [Plain, Wh.zero]
  · unfold Few; rw [h.last]; have := h.lim; omega

theorem add_side' (a : AW) (x : Wh) (r : Int) : (a.add x).side r = a.side r := by
  have : (a.add x).sides = a.sides := by
    unfold AW.sides AW.add
    simp only
    split <;> simp
  unfold AW.side
  rw [this]

theorem Duo.make (h : Duo a s k ts) {x : Wh} (hl : k < 10) (hx : (∃ n, x = mintS s n 0) ∨ ∃ m n, x = purseS s m n) : a.make x = a.add x ∧ Duo (a.make x) s (k + 1) (ts ++ [((k : Int) + 1, x)]) := by
  have h15 : x.kind ≠ 15 := by rcases hx with ⟨n, e⟩ | ⟨m, n, e⟩ <;> rw [e] <;> simp
  have h14 : x.kind ≠ 14 := by rcases hx with ⟨n, e⟩ | ⟨m, n, e⟩ <;> rw [e] <;> simp
  have hh : x.home = s := by rcases hx with ⟨n, e⟩ | ⟨m, n, e⟩ <;> rw [e]
  have hmk : a.make x = a.add x := by unfold AW.make; rw [if_neg h15]
  have hs := h.side
  simp only [AW.side, Bool.and_eq_true, decide_eq_true_eq] at hs
  unfold AW.sides at hs
  have hsn : s.toNat < a.made.length := by omega
  refine ⟨hmk, ?_⟩
  rw [hmk]
  refine ⟨h.tree, by rw [add_side']; exact h.side, ?_, ?_, ?_, by omega, ?_, ?_⟩
  · show (if x.kind = 14 then a.made else a.made.set x.home.toNat (a.made.getD x.home.toNat 0 + 1)).getD s.toNat 0 = _
    rw [if_neg h14, hh, h.made]
    simp [List.getD_eq_getElem?_getD, hsn]
  · intro m hm
    have hm : m ∈ (if x.kind = 14 then a.made else a.made.set x.home.toNat (a.made.getD x.home.toNat 0 + 1)) := hm
    rw [if_neg h14, hh, h.made] at hm
    rcases mem_set_or hm with hm | rfl
    · exact h.pos m hm
    · omega
  · show a.last + 1 = _
    rw [h.last]; rfl
  · show a.things ++ [(a.last + 1, x)] = _
    rw [h.things, h.last]
  · intro t ht
    rcases List.mem_append.1 ht with ht | ht
    · exact h.kinds t ht
    · simp at ht; subst ht; exact hx

theorem Duo.put (h : Duo a s k ts) {r : Int} {y : Wh} (hy : (∃ n, y = mintS s n 0) ∨ ∃ m n, y = purseS s m n) : Duo (AW.put a r y) s k (ts.map fun t => if t.1 = r then (r, y) else t) := by
  refine ⟨h.tree, h.side, h.made, h.pos, h.last, h.lim, ?_, fun t ht => ?_⟩
  · show a.things.map _ = _
    rw [h.things]
  · obtain ⟨u, hu, rfl⟩ := List.mem_map.1 ht
    split
    · exact hy
    · exact h.kinds u hu

theorem Duo.makeM (h : Duo a s k ts) : makeE a (mintS s 0 0) = 0 := by
  have hs := h.side
  have hf : formB a (mintS s 0 0) = true := by simp [formB, bareW, blankB, Wh.zero, hs]
  have hm := h.made
  have hl := h.lim
  unfold makeE
  rw [if_neg (by simp [hf]), if_neg (by simp [asksOf, asksBy, AW.wraps, Wh.zero]), if_neg (by simp [fitsB, Wh.zero])]
  show (if 512 ≤ a.made.getD s.toNat 0 then (8 : Int) else 0) = _
  rw [hm, if_neg (by omega)]

theorem Duo.makeP (h : Duo a s k ts) {m n l : Int} (hat : a.at m = some (mintS s l 0)) (h0 : 0 ≤ n) (h1 : n ≤ 9007199254740992) : makeE a (purseS s m n) = 0 := by
  have hs := h.side
  have hf : formB a (purseS s m n) = true := by simp [formB, bareW, blankB, Wh.zero, hs, h0, h1]
  have hi : a.is m = true := by rw [AW.is, hat]; rfl
  have hm := h.made
  have hl := h.lim
  unfold makeE
  rw [if_neg (by simp [hf]), if_neg (by simp [asksBy, Wh.zero, hi]), if_neg (by simp [fitsB, thereB, Wh.zero, hat])]
  show (if 512 ≤ a.made.getD s.toNat 0 then (8 : Int) else 0) = _
  rw [hm, if_neg (by omega)]

theorem Duo.layM (h : Duo a s k ts) {m n l : Int} (hat : a.at m = some (mintS s l 0)) (h0 : 0 ≤ n) (h1 : n ≤ 9007199254740992) : layE a m (mintS s n 0) = 0 := by
  have hs := h.side
  have hf : formB a (mintS s n 0) = true := by simp [formB, bareW, blankB, Wh.zero, hs, h0, h1]
  unfold layE
  rw [hat]
  simp only
  rw [if_pos ⟨trivial, trivial, trivial, trivial, trivial, by simp, hf⟩]

theorem Duo.ask (h : Duo a s k ts) {m n : Int} (hat : a.at m = some (mintS s 0 0)) (h0 : 0 ≤ n) (h1 : n ≤ 9007199254740992) (hl : k < 10) :
    makeE a (purseS s m n) = 0 ∧ layE (a.make (purseS s m n)) m (withN (mintS s 0 0) (0 + n)) = 0 ∧ Duo (AW.ask a m (mintS s 0 0) n) s (k + 1) ((ts ++ [((k : Int) + 1, purseS s m n)]).map fun t => if t.1 = m then (m, mintS s n 0) else t) := by
  obtain ⟨hmk, hD⟩ := h.make (x := purseS s m n) hl (.inr ⟨m, n, rfl⟩)
  have hat2 : (a.make (purseS s m n)).at m = some (mintS s 0 0) := by rw [hmk, AW.at_add, hat]
  have e0 : withN (mintS s 0 0) (0 + n) = mintS s n 0 := by simp [withN]
  refine ⟨h.makeP hat h0 h1, ?_, ?_⟩
  · rw [e0]; exact hD.layM hat2 h0 h1
  · have := hD.put (r := m) (y := mintS s n 0) (.inl ⟨n, rfl⟩)
    unfold AW.ask
    show Duo (AW.put (a.make (purseS s m n)) m (withN (mintS s 0 0) (0 + n))) s (k + 1) _
    rw [e0]; exact this
end

def C10_0 : AW := { parents := [0, 1], cut := [false, false, false], things := [], last := 0, made := [0, 0, 0] }

section
variable {W w : World} {K : Value → World → Prop}

theorem purseApart_c {x y d : Int} (hx : 0 ≤ x ∧ x < 65536) (hy : 0 ≤ y ∧ y < 65536) (hd : 0 ≤ d ∧ d < 256) (hk : ∀ w', Ext W w' → K (.bool true) w') : callOn prog fn_law10_PurseApart #[.int .u16 x, .int .u16 y, .int .u8 d] W K := by
  apply F_law10_PurseApart_on
  unfold F_law10_PurseApart
  have hs : 0 ≤ d.tmod 3 ∧ d.tmod 3 < 3 := ⟨Int.tmod_nonneg _ hd.1, Int.tmod_lt_of_pos _ (by omega)⟩
  have st := State.start (S := fun _ => False) W
  refine st.buildL [vi 0, vi 1] (by decide) (by kernel_rfl) rfl fun b w st => ?_
  refine st.newYes (a := C10_0) (ps := [0, 1]) (State.sl st (l := [vi 0, vi 1]) (.head _)).reads (by decide) fun w L st => ?_
  have st := st.sub (.cons_cons _ (.cons _ (.refl _)))
  (repeat (first | ((with_reducible apply ext_0)) | ((with_reducible apply ext_1))))
  refine rem_at (by decide) ?_
  generalize d.tmod 3 = s at hs ⊢
  have hD0 : Duo C10_0 s 0 [] := by
    refine ⟨by decide, ?_, ?_, by decide, rfl, by omega, rfl, by simp⟩
    · simp [C10_0, AW.side, AW.sides]; omega
    · have : s = 0 ∨ s = 1 ∨ s = 2 := by omega
      rcases this with rfl | rfl | rfl <;> rfl
  (repeat (first | ((with_reducible apply conv_64); (focus omega); (focus omega))))
  obtain ⟨_, hD1⟩ := hD0.make (x := mintS s 0 0) (by omega) (.inl ⟨0, rfl⟩)
  refine st.mintYes hD0.good hD0.makeM fun w L1 hp st => ?_
  rw [← hp, show C10_0.last + 1 = 1 from rfl]
  generalize C10_0.make (mintS s 0 0) = a1 at hD1 st
  (repeat (first | ((with_reducible apply ext_0)) | ((with_reducible apply ext_1))))
  obtain ⟨_, hD2⟩ := hD1.make (x := mintS s 0 0) (by omega) (.inl ⟨0, rfl⟩)
  refine st.mintYes hD1.good hD1.makeM fun w L2 hp st => ?_
  rw [← hp, hD1.last]
  generalize a1.make (mintS s 0 0) = a2 at hD2 st
  have hD2 : Duo a2 s 2 [(1, mintS s 0 0), (2, mintS s 0 0)] := hD2
  have ha1 : a2.at 1 = some (mintS s 0 0) := by unfold AW.at; rw [hD2.things]; simp [lookup]
  (repeat (first | ((with_reducible apply neq_at)) | ((with_reducible apply ext_0)) | ((with_reducible apply ext_1)) | ((with_reducible apply gop_run); (focus (first | assumption | rfl | decide | (simp only [bne, Bool.not_eq_true', Bool.not_eq_false', Bool.not_true, Bool.not_false, Bool.not_not]; assumption)))) | ((with_reducible apply cond_f); (focus (first | assumption | rfl | decide | (simp only [bne, Bool.not_eq_true', Bool.not_eq_false', Bool.not_true, Bool.not_false, Bool.not_not]; assumption)))) | ((with_reducible apply pick_f); (focus (first | assumption | rfl | decide | (simp only [bne, Bool.not_eq_true', Bool.not_eq_false', Bool.not_true, Bool.not_false, Bool.not_not]; assumption)))) | ((with_reducible apply conv_64); (focus omega); (focus omega)) | (simp only [upd_get, start_get, List.getD_cons_zero, List.getD_cons_succ, Nat.reduceEqDiff, reduceIte, Nat.reduceAdd])))
  obtain ⟨hE, hL, hD3⟩ := hD2.ask (m := 1) (n := x) ha1 hx.1 (by omega) (by omega)
  refine State.askYes (m := 1) (x := mintS s 0 0) st hD2.good ha1 rfl (by simp [Plain, Wh.zero]) (by simp [Wh.zero]) hx.1 (show (0 : Int) ≤ 0 by decide) (by simp only; omega) hE hL fun w L3 hp st => ?_
  rw [← hp, hD2.last]
  generalize AW.ask a2 1 (mintS s 0 0) x = a3 at hD3 st
  have hD3 : Duo a3 s 3 [(1, mintS s x 0), (2, mintS s 0 0), (3, purseS s 1 x)] := hD3
  have ha2 : a3.at 2 = some (mintS s 0 0) := by unfold AW.at; rw [hD3.things]; simp [lookup]
  (repeat (first | ((with_reducible apply ext_0)) | ((with_reducible apply ext_1)) | ((with_reducible apply conv_64); (focus omega); (focus omega))))
  obtain ⟨hE, hL, hD4⟩ := hD3.ask (m := 2) (n := y) ha2 hy.1 (by omega) (by omega)
  refine State.askYes (m := 2) (x := mintS s 0 0) st hD3.good ha2 rfl (by simp [Plain, Wh.zero]) (by simp [Wh.zero]) hy.1 (show (0 : Int) ≤ 0 by decide) (by simp only; omega) hE hL fun w L4 hp st => ?_
  rw [← hp, hD3.last]
  generalize AW.ask a3 2 (mintS s 0 0) y = a4 at hD4 st
  have hD4 : Duo a4 s 4 [(1, mintS s x 0), (2, mintS s y 0), (3, purseS s 1 x), (4, purseS s 2 y)] := hD4
  have b1 : a4.at 1 = some (mintS s x 0) := by unfold AW.at; rw [hD4.things]; simp [lookup]
  have b3 : a4.at 3 = some (purseS s 1 x) := by unfold AW.at; rw [hD4.things]; simp [lookup]
  have b4 : a4.at 4 = some (purseS s 2 y) := by unfold AW.at; rw [hD4.things]; simp [lookup]
  (repeat (first | ((with_reducible apply ext_0)) | ((with_reducible apply ext_1))))
  refine st.ofPurse (p := 3) (.head _) b3 rfl (by simp [Plain, Wh.zero]) fun w st => ?_
  (repeat (first | ((with_reducible apply ext_0)) | ((with_reducible apply ext_1)) | (simp only [upd_get, start_get, List.getD_cons_zero, List.getD_cons_succ, Nat.reduceEqDiff, reduceIte, Nat.reduceAdd])))
  refine st.ofPurse (p := 4) (.head _) b4 rfl (by simp [Plain, Wh.zero]) fun w st => ?_
  (repeat (first | ((with_reducible apply ext_0)) | ((with_reducible apply ext_1)) | (simp only [upd_get, start_get, List.getD_cons_zero, List.getD_cons_succ, Nat.reduceEqDiff, reduceIte, Nat.reduceAdd])))
  refine st.ofMint (m := 1) (.head _) b1 rfl (by simp [Plain, Wh.zero]) fun w st => ?_
  (repeat (first | ((with_reducible apply neq_at)) | ((with_reducible apply ext_0)) | ((with_reducible apply ext_1)) | ((with_reducible apply gop_run); (focus (first | assumption | rfl | decide | (simp only [bne, Bool.not_eq_true', Bool.not_eq_false', Bool.not_true, Bool.not_false, Bool.not_not]; assumption)))) | ((with_reducible apply pick_f); (focus (first | assumption | rfl | decide | (simp only [bne, Bool.not_eq_true', Bool.not_eq_false', Bool.not_true, Bool.not_false, Bool.not_not]; assumption))))))
  refine st.moveNo (t := 3) (f := 4) (.head _) b3 (by simp [Plain, Wh.zero]) b4 (by simp [Plain, Wh.zero]) (.inr (.inr (.inr (show (1 : Int) ≠ 2 by decide)))) fun w st => ?_
  (repeat (first | ((with_reducible apply neq_at)) | ((with_reducible apply gop_run); (focus (first | assumption | rfl | decide | (simp only [bne, Bool.not_eq_true', Bool.not_eq_false', Bool.not_true, Bool.not_false, Bool.not_not]; assumption)))) | ((with_reducible apply pick_f); (focus (first | assumption | rfl | decide | (simp only [bne, Bool.not_eq_true', Bool.not_eq_false', Bool.not_true, Bool.not_false, Bool.not_not]; assumption))))))
  refine st.moveNo (t := 3) (f := 3) (.head _) b3 (by simp [Plain, Wh.zero]) b3 (by simp [Plain, Wh.zero]) (.inr (.inr (.inl rfl))) fun w st => ?_
  (repeat (first | ((with_reducible apply neq_at)) | ((with_reducible apply gop_run); (focus (first | assumption | rfl | decide | (simp only [bne, Bool.not_eq_true', Bool.not_eq_false', Bool.not_true, Bool.not_false, Bool.not_not]; assumption)))) | ((with_reducible apply pick_f); (focus (first | assumption | rfl | decide | (simp only [bne, Bool.not_eq_true', Bool.not_eq_false', Bool.not_true, Bool.not_false, Bool.not_not]; assumption))))))
  refine st.moveNo (t := 3) (f := 1) (.head _) b3 (by simp [Plain, Wh.zero]) b1 (by simp [Plain, Wh.zero]) (.inr (.inl (by simp))) fun w st => ?_
  (repeat (first | ((with_reducible apply neq_at)) | ((with_reducible apply gop_run); (focus (first | assumption | rfl | decide | (simp only [bne, Bool.not_eq_true', Bool.not_eq_false', Bool.not_true, Bool.not_false, Bool.not_not]; assumption)))) | ((with_reducible apply cond_f); (focus (first | assumption | rfl | decide | (simp only [bne, Bool.not_eq_true', Bool.not_eq_false', Bool.not_true, Bool.not_false, Bool.not_not]; assumption)))) | ((with_reducible apply pick_f); (focus (first | assumption | rfl | decide | (simp only [bne, Bool.not_eq_true', Bool.not_eq_false', Bool.not_true, Bool.not_false, Bool.not_not]; assumption))))))
  refine home_c (st.rep (.head _)) 3 ?_
  rw [b3]
  (repeat (first | ((with_reducible apply ext_0)) | ((with_reducible apply ext_1)) | (simp only [upd_get, start_get, List.getD_cons_zero, List.getD_cons_succ, Nat.reduceEqDiff, reduceIte, Nat.reduceAdd])))
  refine st.getYes (p := 3) (.head _) b3 rfl (by simp [Plain, Wh.zero]) fun w st => ?_
  (repeat (first | ((with_reducible apply ext_0)) | ((with_reducible apply ext_1)) | (simp only [upd_get, start_get, List.getD_cons_zero, List.getD_cons_succ, Nat.reduceEqDiff, reduceIte, Nat.reduceAdd])))
  refine st.getYes (p := 4) (.head _) b4 rfl (by simp [Plain, Wh.zero]) fun w st => ?_
  have q1 : (s == s) = true := by simp
  have q2 : (x == x) = true := by simp
  have q3 : (y == y) = true := by simp
  (repeat (first | ((with_reducible apply eql_at)) | ((with_reducible apply ext_0)) | ((with_reducible apply ext_1)) | ((with_reducible apply gop_run); (focus (first | assumption | rfl | decide | (simp only [bne, Bool.not_eq_true', Bool.not_eq_false', Bool.not_true, Bool.not_false, Bool.not_not]; assumption)))) | ((with_reducible apply pick_t); (focus (first | assumption | rfl | decide | (simp only [bne, Bool.not_eq_true', Bool.not_eq_false', Bool.not_true, Bool.not_false, Bool.not_not]; assumption)))) | ((with_reducible apply conv_64); (focus omega); (focus omega)) | (simp only [upd_get, start_get, List.getD_cons_zero, List.getD_cons_succ, Nat.reduceEqDiff, reduceIte, Nat.reduceAdd])))
  refine lives10_c fun w he => ?_
  have st := st.ext he
  (repeat (first | ((with_reducible apply pick_t); (focus (first | assumption | rfl | decide | (simp only [bne, Bool.not_eq_true', Bool.not_eq_false', Bool.not_true, Bool.not_false, Bool.not_not]; assumption))))))
  exact hk w st.keeps
end
end Go.X
