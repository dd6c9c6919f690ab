/- A world with one mint and purses of it. No program in it. -/
import Derived.Test.YtdjheefbeagcjaaXxC35
set_option linter.unusedSimpArgs false
set_option linter.unusedVariables false
set_option maxRecDepth 20000
namespace Go.X
open Go Go.AW

abbrev mintW (n lost : Int) : Wh := { Wh.zero with kind := 8, n := n, lost := lost }
abbrev purseW (n : Int) : Wh := { Wh.zero with kind := 9, of := 1, n := n }
/-- the mint is 1; i things have been made behind it; those of ps are left -/
structure Bank (a : AW) (all lost : Int) (ps : List (Int × Int)) (i : Nat) : Prop where
  parents : a.parents = []
  made : ∃ m, a.made = [m] ∧ 0 ≤ m ∧ m ≤ i + 1
  last : a.last = i + 1
  lim : i ≤ 200
  things : a.things = (1, mintW all lost) :: ps.map fun p => (p.1, purseW p.2)
  nums : ∀ p ∈ ps, 2 ≤ p.1 ∧ p.1 ≤ i + 1
  amounts : ∀ p ∈ ps, 0 ≤ p.2 ∧ p.2 ≤ 65535
  money : 0 ≤ lost ∧ lost ≤ all ∧ all ≤ 20000000

variable {a : AW} {i : Nat} {all lost : Int} {ps : List (Int × Int)}
theorem Bank.mem (h : Bank a all lost ps i) {t : Int × Wh} : t ∈ a.things ↔ t = (1, mintW all lost) ∨ ∃ p ∈ ps, t = (p.1, purseW p.2) := by
  rw [h.things]
  simp [eq_comm]
theorem Bank.side (h : Bank a all lost ps i) : a.side 0 = true := by
  obtain ⟨m, hm, _⟩ := h.made
  simp [AW.side, AW.sides, hm]
theorem Bank.at1 (h : Bank a all lost ps i) : a.at 1 = some (mintW all lost) := by
  unfold AW.at
  rw [h.things]; simp [lookup]
theorem Bank.is1 (h : Bank a all lost ps i) : a.is 1 = true := by rw [AW.is, h.at1]; rfl
theorem Bank.kinds (h : Bank a all lost ps i) {t : Int × Wh} (ht : t ∈ a.things) : t.2.kind = 8 ∨ t.2.kind = 9 := by
  rcases h.mem.1 ht with rfl | ⟨p, _, rfl⟩
  · exact .inl rfl
  · exact .inr rfl
theorem Bank.good (h : Bank a all lost ps i) : Good a := by
  have hk := fun {t} ht => h.kinds (t := t) ht
  refine ⟨⟨fun t ht => ?_, fun t ht _ => ?_, fun t ht hw => ?_, fun t ht k => ?_, fun s hs t ht k => ?_, ?_⟩, fun t ht => ?_, fun n hn => ?_, ?_⟩
  · rcases h.mem.1 ht with rfl | ⟨p, _, rfl⟩ <;> simp [Wh.zero]
  · rcases h.mem.1 ht with rfl | ⟨p, _, rfl⟩ <;> exact h.side
  · have := hk ht
    unfold AW.wraps at hw
    simp at hw; omega
  · have := hk ht; omega
  · have := hk hs; omega
  · rw [h.parents]; simp
  · rcases h.mem.1 ht with rfl | ⟨p, _, rfl⟩ <;> simp [Plain, Wh.zero]
  · obtain ⟨m, hm, h0, _⟩ := h.made
    rw [hm] at hn; simp at hn; omega
  · unfold Few; rw [h.last]; have := h.lim; omega
theorem Bank.ft (h : Bank a all lost ps i) : FT a := fun t ht hk => by
  have := h.kinds ht; omega
theorem Bank.sound (h : Bank a all lost ps i) : Sound a := by
  have hm := h.money
  refine ⟨fun t ht hk => ?_, fun t ht hk => ?_, fun t ht hk => ?_⟩
  · rcases h.mem.1 ht with rfl | ⟨p, hp, rfl⟩
    · simp at hk
    · have := h.amounts p hp
      exact ⟨⟨_, h.at1, rfl⟩, this.1, by simp only; omega⟩
  · rcases h.mem.1 ht with rfl | ⟨p, hp, rfl⟩
    · simp only; omega
    · simp at hk
  · have := h.kinds ht; omega
theorem Bank.gone (h : Bank a all lost ps i) (l : List Int) (q : Int) : a.gone l q = l.contains q := gone_plain fun e => by
  unfold AW.kind at e
  split at e
  · rename_i x hx
    have := h.kinds (lookup_mem hx)
    simp only at this; omega
  · omega
theorem Bank.make (h : Bank a all lost ps i) {n : Int} (hn : 0 ≤ n ∧ n ≤ 65535) (hi : i < 200) : Bank (a.make (purseW n)) all lost (ps ++ [((i : Int) + 2, n)]) (i + 1) ∧ makeE a (purseW n) = 0 := by
  have hmk : a.make (purseW n) = a.add (purseW n) := by
    unfold AW.make
    rw [if_neg]; show ¬ (9 : Int) = 15; decide
  obtain ⟨m, hm, hm0, hm1⟩ := h.made
  refine ⟨?_, ?_⟩
  · rw [hmk]
    refine ⟨h.parents, ⟨m + 1, ?_, by omega, by omega⟩, ?_, by omega, ?_, fun p hp => ?_, fun p hp => ?_, h.money⟩
    · show (if (9 : Int) = 14 then a.made else a.made.set (0 : Int).toNat (a.made.getD (0 : Int).toNat 0 + 1)) = _
      rw [if_neg (by decide), hm]; rfl
    · show a.last + 1 = _
      rw [h.last]; omega
    · show a.things ++ [(a.last + 1, purseW n)] = _
      rw [h.things, h.last]
      simp; omega
    · rcases List.mem_append.1 hp with hp | hp
      · have := h.nums p hp; omega
      · simp at hp; subst hp; simp only; omega
    · rcases List.mem_append.1 hp with hp | hp
      · exact h.amounts p hp
      · simp at hp; subst hp; exact hn
  · unfold makeE
    have h512 : ¬ 512 ≤ m := by omega
    have his := h.is1
    have hs := h.side
    have h1 := h.at1
    simp [formB, bareW, blankB, asksOf, asksBy, AW.wraps, fitsB, thereB, Wh.zero, hs, his, h1, hm, h512]
    exact ⟨hn.1, by omega, decide_eq_true hn.1⟩
theorem Bank.worth (h : Bank a all lost ps i) (hnd : (ps.map (·.1)).Nodup) {p : Int × Int} (hp : p ∈ ps) : a.worth 1 p.1 = p.2 := by
  have hat : a.at p.1 = some (purseW p.2) := by
    cases hh : a.at p.1 with
    | none => exact absurd (lookup_none hh _ (h.mem.2 (.inr ⟨p, hp, rfl⟩))) (by simp)
    | some x =>
      rcases h.mem.1 (lookup_mem hh) with e | ⟨q, hq, e⟩
      · have := h.nums p hp
        simp only [Prod.mk.injEq] at e
        omega
      · simp only [Prod.mk.injEq] at e
        rw [e.2]
        have : q = p := by
          exact nodup_map_inj hnd hq hp e.1.symm
        rw [this]
  simp [AW.worth, hat]
theorem Bank.turned (h : Bank a all lost ps i) (r p : Int) : a.turned r p = false := by
  unfold AW.turned
  split
  · rename_i y hy
    have := h.kinds (lookup_mem hy)
    simp only at this
    have : (y.kind == 15) = false := by simp; omega
    rw [this]; rfl
  · rfl
theorem Bank.after_purse (h : Bank a all lost ps i) (l V : List Int) {p : Int × Int} : a.after l V p.1 (purseW p.2) = purseW p.2 := by
  unfold AW.after
  have ha : V.any (a.turned p.1) = false := by simp [h.turned]
  rw [ha]
  split
  · rfl
  · rw [if_neg (show ¬ (purseW p.2).kind = 8 by simp [purseW]), if_neg (by decide)]
theorem Bank.dropPurse {r n : Int} (h : Bank a all lost (ps ++ [(r, n)]) i) (hnd : ((ps ++ [(r, n)]).map (·.1)).Nodup) (hl : lost + n ≤ all) : a.dropE [r] = 0 ∧ Bank (a.drop [r]) all (lost + n) ps i := by
  have hr := h.nums (r, n) (by simp)
  have hn := h.amounts (r, n) (by simp)
  have hne : ∀ p ∈ ps, p.1 ≠ r := fun p hp e => by
    rw [List.map_append, List.nodup_append] at hnd
    exact hnd.2.2 p.1 (List.mem_map_of_mem hp) r (by simp) e
  have hw : a.worth 1 r = n := h.worth hnd (p := (r, n)) (by simp)
  simp only at hr hn
  have hg1 : a.gone [r] 1 = false := by rw [h.gone]; simp; omega
  have hg0 : a.gone [r] 0 = false := by rw [h.gone]; simp; omega
  have hgr : a.gone [r] r = true := by rw [h.gone]; simp
  have hgp : ∀ p ∈ ps, a.gone [r] p.1 = false := fun p hp => by rw [h.gone]; simp [hne p hp]
  have hgl : a.goneL [r] = [r] := by
    unfold AW.goneL
    rw [h.things]
    simp only [List.map_cons, List.map_map, List.map_append, List.map_nil, Function.comp_def, List.filter_cons, hg1, List.filter_append, hgr, List.filter_nil, if_true]
    have : (ps.map fun x => x.1).filter (a.gone [r]) = [] := by
      rw [List.filter_eq_nil_iff]
      intro q hq
      obtain ⟨p, hp, rfl⟩ := List.mem_map.1 hq
      rw [hgp p hp]; simp
    rw [this]; simp
  refine ⟨?_, ?_⟩
  · have his : a.is r = true := by
      cases hh : a.at r with
      | none => exact absurd (lookup_none hh _ (h.mem.2 (.inr ⟨(r, n), by simp, rfl⟩))) (by simp)
      | some x => simp [AW.is, hh]
    unfold AW.dropE
    rw [if_neg (by simp [his]), if_neg, if_neg]
    · rw [List.any_eq_true]
      rintro ⟨t, ht, hh⟩
      rcases h.mem.1 ht with rfl | ⟨p, hp, rfl⟩
      · simp [AW.holds, hg0, Wh.zero] at hh
      · simp [AW.holds, hg0, hg1, Wh.zero] at hh
    · unfold AW.apart
      rw [List.any_eq_true]
      rintro ⟨t, ht, hh⟩
      have := h.kinds ht
      have : (t.2.kind == 14) = false := by simp; omega
      rw [this] at hh; simp at hh
  · have hm := h.money
    refine ⟨h.parents, h.made, h.last, h.lim, ?_, fun p hp => h.nums p (by simp [hp]), fun p hp => h.amounts p (by simp [hp]), by omega⟩
    show (a.left [r] (a.goneL [r])).filter (fun t => !a.gone [r] t.1) = _
    rw [hgl]
    unfold AW.left
    rw [h.things]
    have hmint : a.after [r] [r] 1 (mintW all lost) = mintW all (lost + n) := by
      unfold AW.after
      rw [if_neg (by rw [hg1]; simp), if_pos rfl]
      simp only [List.map_cons, List.map_nil, List.sum_cons, List.sum_nil, hw]
      have : min all (lost + (n + 0)) = lost + n := by omega
      rw [this]
    simp only [List.map_cons, List.map_append, List.map_map, List.map_nil, List.filter_cons, List.filter_append, hg1, hgr, hmint, Bool.not_false, Bool.not_true, if_true, List.filter_nil, List.append_nil]
    simp only [Function.comp_def, h.after_purse, Bool.false_eq_true, if_false, List.append_nil]
    congr 1
    rw [List.filter_eq_self]
    intro t ht
    obtain ⟨p, hp, rfl⟩ := List.mem_map.1 ht
    rw [hgp p hp]; rfl
theorem Bank.dropMint (h : Bank a all lost ps i) : (ps = [] → a.dropE [1] = 0 ∧ (a.drop [1]).things = []) ∧ (ps ≠ [] → a.dropE [1] = 72) := by
  have hg1 : a.gone [1] 1 = true := by rw [h.gone]; rfl
  have hg0 : a.gone [1] 0 = false := by rw [h.gone]; rfl
  have h0 : ¬ (([1] : List Int).any fun r => !a.is r) = true := by simp [h.is1]
  have hap : ¬ a.apart [1] = true := by
    unfold AW.apart
    rw [List.any_eq_true]
    rintro ⟨t, ht, hh⟩
    have := h.kinds ht
    have : (t.2.kind == 14) = false := by simp; omega
    rw [this] at hh; simp at hh
  refine ⟨fun e => ?_, fun e => ?_⟩
  · subst e
    refine ⟨?_, ?_⟩
    · unfold AW.dropE
      rw [if_neg h0, if_neg hap, if_neg]
      rw [List.any_eq_true]
      rintro ⟨t, ht, hh⟩
      rcases h.mem.1 ht with rfl | ⟨p, hp, rfl⟩
      · simp [AW.holds, hg1] at hh
      · simp at hp
    · show (a.left [1] (a.goneL [1])).filter (fun t => !a.gone [1] t.1) = _
      unfold AW.left
      rw [h.things]
      simp [hg1]
  · unfold AW.dropE
    rw [if_neg h0, if_neg hap, if_pos]
    rw [List.any_eq_true]
    obtain ⟨p, hp⟩ := List.exists_mem_of_ne_nil _ e
    have := h.nums p hp
    have hgp : a.gone [1] p.1 = false := by rw [h.gone]; simp; omega
    exact ⟨(p.1, purseW p.2), h.mem.2 (.inr ⟨p, hp, rfl⟩), by simp [AW.holds, hg1, hgp]⟩
theorem Bank.mint (h : a.parents = [] ∧ a.made = [0] ∧ a.last = 0 ∧ a.things = []) (ha : 0 ≤ all ∧ all ≤ 20000000) : Bank (a.make (mintW all 0)) all 0 [] 0 ∧ makeE a (mintW all 0) = 0 := by
  obtain ⟨h1, h2, h3, h4⟩ := h
  have hmk : a.make (mintW all 0) = a.add (mintW all 0) := by
    unfold AW.make
    rw [if_neg]; show ¬ (8 : Int) = 15; decide
  have hs : a.side 0 = true := by simp [AW.side, AW.sides, h2]
  refine ⟨?_, ?_⟩
  · rw [hmk]
    refine ⟨h1, ⟨1, ?_, by omega, by omega⟩, ?_, by omega, ?_, by simp, by simp, by omega⟩
    · show (if (8 : Int) = 14 then a.made else a.made.set (0 : Int).toNat (a.made.getD (0 : Int).toNat 0 + 1)) = _
      rw [if_neg (by decide), h2]; rfl
    · show a.last + 1 = _
      rw [h3]; rfl
    · show a.things ++ [(a.last + 1, mintW all 0)] = _
      rw [h4, h3]; rfl
  · unfold makeE
    simp [formB, bareW, blankB, asksOf, asksBy, AW.wraps, fitsB, thereB, Wh.zero, hs, h2]
    omega
end Go.X
