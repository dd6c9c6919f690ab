/- Texts of this family, put together. -/
import Derived.Test.YtdjheefbeagcjaaXxC33
/- The contract of Drop. -/
set_option linter.unusedSimpArgs false
set_option linter.unusedVariables false
set_option maxRecDepth 20000
set_option maxHeartbeats 2000000
namespace Go.X
open Go Go.AW

section
variable {S : Nat → Prop} {w0 w : World} {L : Lay} {a : AW} {R : List Res} {K : Value → World → Prop}

theorem drop_c {v : Value} {l : List Int} (h : WRep w L a) (hg : Good a) (hF : FT a) (hs : Sound a) (h1 : ReadsOf w v (l.map vi)) (hlen : l.length ≤ 1000000) (hno : a.dropE l ≠ 0 → ∀ w', Ext w w' → K (vi (a.dropE l)) w')
    (hyes : a.dropE l = 0 → ∀ w' L', Grown w w' L L' a (a.drop l) → K (vi 0) w') : callOn prog fn_World_Drop #[ptr L.p, v] w K := by
  apply F_World_Drop_on
  unfold F_World_Drop
  have st := State.start (S := fun _ => False) w
  simp only [F_World_Drop_s29]
  (repeat (first | ((with_reducible apply cond_f); (focus (first | assumption | rfl | decide | (simp only [bne, Bool.not_eq_true', Bool.not_eq_false', Bool.not_true, Bool.not_false, Bool.not_not]; assumption)))) | ((with_reducible apply none_c); (focus (first | exact st.rep (by ((repeat (first | exact List.Mem.head _ | assumption | refine List.Mem.tail _ ?_)); done)) | exact h.ext st.keeps)))))
  refine makeMap_at (n := 0) (f := fun t18 w => allocZ (.map none) 122 w fun t5 w => F_World_Drop_s28 v (upd (upd (upd (upd (upd (start [ptr L.p, v]) 4 (.int .i64 0)) 16 (ptr L.p)) 17 (.bool false)) 18 t18) 5 t5) t5 t18 w K) st fun bg w1 st => ?_
  refine State.alloc st fun b5 w2 st => ?_
  have e5 : ∀ {b : Bool}, (l.any fun r => !a.is r) = b → b = true → a.dropE l = 5 := fun h h' => by unfold AW.dropE; rw [if_pos (h.trans h')]
  refine drop_p1 h h1 hlen st (by simp [upd_get, start_get]) (by simp [upd_get]) (fun hb w' he => ?_) fun hb q w es c G g0 g5 hG hl st => ?_
  · have := hno (by rw [e5 hb rfl]; decide) w' he
    rwa [e5 hb rfl] at this
  refine drop_p2 h hF hG hl st g0 g5 (fun hb2 w' he => ?_) fun hb2 q w es c G g0 g5 hG hgone st => ?_
  · have e : a.dropE l = 72 := by unfold AW.dropE; rw [if_neg (by rw [hb]; simp), if_pos hb2]
    have := hno (by rw [e]; decide) w' he
    rwa [e] at this
  refine drop_p3 h hg.plain hG hgone st (.tail _ (.head _)) (.head _) g0 g5 (fun hb3 w' he => ?_) fun hb3 q w g0 g5 st => ?_
  · have e : a.dropE l = 72 := by unfold AW.dropE; rw [if_neg (by rw [hb]; simp), if_neg (by rw [hb2]; simp), if_pos hb3]
    have := hno (by rw [e]; decide) w' he
    rwa [e] at this
  have e0 : a.dropE l = 0 := by unfold AW.dropE; rw [if_neg (by rw [hb]; simp), if_neg (by rw [hb2]; simp), if_neg (by rw [hb3]; simp)]
  have hall : ∀ q ∈ G, a.is q = true := fun q hq => by
    have := (hgone q).1 hq
    unfold AW.gone at this
    rcases Bool.or_eq_true_iff.1 this with h2 | h2
    · have := List.any_eq_false.1 hb q (by simpa using h2)
      simpa using this
    · cases hat : a.at q with
      | none => rw [hat] at h2; simp at h2
      | some y => simp [AW.is, hat]
  have st := (st.own_world h).open_world
  have st : State (fun b => b ∈ foot L a) _ w (.map bg es c :: .cells b5 [.map (some bg)] :: mid L a L.fs a.things []) := st.perm (by
    show (pieces L a a.things ++ [Res.map bg es c, Res.cells b5 [.map (some bg)]]).Perm _
    have : mid L a L.fs a.things [] = pieces L a a.things := by simp [mid, pieces]
    rw [this]
    exact List.perm_append_comm)
  refine drop_p4 h hs hg.wf.one hG hgone hall st g0 g5 fun q w fs V g0 g5 hV hFs st => ?_
  refine drop_p5 h hG hall st g0 g5 fun w es' V' hV' hE st => ?_
  have hn : (a.things.map (·.1)).Nodup := List.Pairwise.imp (fun h => by omega) (List.pairwise_map.2 h.sorted)
  have hfit := drop_fit h hs hgone hG.nodup hall hV hFs hV' hE
  rw [left_perm (goneL_perm hn hG.nodup hgone hall hV)] at st
  have st : State (fun b => b ∈ foot L a) _ w (pieces { L with es := es', fs := fs } (a.drop l) (a.drop l).things ++ []) := st.sub (by
    simp only [mid, pieces, List.append_nil]
    refine .cons_cons _ (.cons_cons _ (.cons_cons _ (.cons_cons _ (.cons_cons _ (.cons_cons _ ?_)))))
    exact List.Sublist.map _ List.filter_sublist)
  exact hyes e0 w { L with es := es', fs := fs } ((st.close_world hfit).toGrown (.head _) rfl)
end
end Go.X
/- Worlds of things that stand alone. No program in it. -/
set_option linter.unusedSimpArgs false
set_option linter.unusedVariables false
set_option maxRecDepth 20000
namespace Go.X
open Go Go.AW

abbrev bareWh (k s : Int) : Wh := { Wh.zero with kind := k, home := s }
def easyKind (k : Int) : Prop := k = 1 ∨ k = 2 ∨ k = 3 ∨ k = 8 ∨ k = 13
structure Easy (a : AW) (i : Nat) : Prop where
  tree : ∀ i, i < a.parents.length → 0 ≤ a.parents.getD i 0 ∧ a.parents.getD i 0 ≤ i
  last : a.last = i
  lim : i ≤ 300
  things : ∀ t ∈ a.things, ∃ k s, t.2 = bareWh k s ∧ easyKind k ∧ a.side s = true
  nums : ∀ t ∈ a.things, 1 ≤ t.1 ∧ t.1 ≤ i
  made : ∀ n ∈ a.made, 0 ≤ n ∧ n ≤ i

variable {a : AW} {i : Nat}
theorem Easy.kinds (h : Easy a i) {t : Int × Wh} (ht : t ∈ a.things) : easyKind t.2.kind := by
  obtain ⟨k, s, e, hk, _⟩ := h.things t ht
  rw [e]; exact hk
theorem Easy.good (h : Easy a i) : Good a := by
  have hk := fun {t} ht => h.kinds (t := t) ht
  refine ⟨⟨fun t ht => ?_, fun t ht _ => ?_, fun t ht hw => ?_, fun t ht k => ?_, fun s hs t ht k => ?_, h.tree⟩, fun t ht => ?_, fun n hn => (h.made n hn).1, ?_⟩
  · obtain ⟨k, s, e, hk, _⟩ := h.things t ht
    rw [e]; unfold easyKind at hk; simp [Wh.zero]; omega
  · obtain ⟨k, s, e, hk, hs⟩ := h.things t ht
    rw [e]; exact hs
  · have := hk ht
    unfold easyKind at this; unfold AW.wraps at hw
    simp at hw; omega
  · have := hk ht
    unfold easyKind at this; omega
  · have := hk hs
    unfold easyKind at this; omega
  · obtain ⟨k, s, e, hk, hs⟩ := h.things t ht
    rw [e]; simp [Plain, Wh.zero]
  · unfold Few; rw [h.last]; have := h.lim; omega
theorem Easy.ft (h : Easy a i) : FT a := fun t ht hk => by
  have := h.kinds ht
  unfold easyKind at this; omega
theorem Easy.sound (h : Easy a i) : Sound a := by
  refine ⟨fun t ht hk => ?_, fun t ht hk => ?_, fun t ht hk => ?_⟩
  · have := h.kinds ht
    unfold easyKind at this; omega
  · obtain ⟨k, s, e, _, _⟩ := h.things t ht
    rw [e]; simp [Wh.zero]
  · have := h.kinds ht
    unfold easyKind at this; omega
theorem Easy.no {q k : Int} (h : Easy a i) (hk : ¬ easyKind k) (hk0 : k ≠ 0) : a.kind q ≠ k := fun e => by
  unfold AW.kind at e
  split at e
  · rename_i x hx
    have := h.kinds (lookup_mem hx)
    rw [e] at this; exact hk this
  · exact hk0 e.symm
theorem Easy.gone (h : Easy a i) (l : List Int) (q : Int) : a.gone l q = l.contains q := gone_plain (h.no (by unfold easyKind; omega) (by omega))
theorem Easy.worth (h : Easy a i) (r p : Int) : a.worth r p = 0 := by
  unfold AW.worth
  split
  · rename_i y hy
    have := h.kinds (lookup_mem hy)
    simp only at this
    unfold easyKind at this
    rw [if_neg (by omega)]
  · rfl
theorem Easy.turned (h : Easy a i) (r p : Int) : a.turned r p = false := by
  unfold AW.turned
  split
  · rename_i y hy
    have := h.kinds (lookup_mem hy)
    simp only at this
    unfold easyKind at this
    have : (y.kind == 15) = false := by simp; omega
    rw [this]; rfl
  · rfl
theorem Easy.after (h : Easy a i) (l V : List Int) {t : Int × Wh} (ht : t ∈ a.things) : a.after l V t.1 t.2 = t.2 := by
  unfold AW.after
  have hs : (V.map (a.worth t.1)).sum = 0 := by
    induction V with
    | nil => rfl
    | cons p V ih => simp [ih, h.worth]
  have ha : V.any (a.turned t.1) = false := by simp [h.turned]
  rw [hs, ha]
  split
  · rfl
  split
  · obtain ⟨k, s, e, _, _⟩ := h.things t ht
    rw [e]; simp [Wh.zero]
  · rfl
theorem Easy.drop_things (h : Easy a i) (l : List Int) : (a.drop l).things = a.things.filter fun t => !l.contains t.1 := by
  show (a.left l (a.goneL l)).filter _ = _
  have : a.left l (a.goneL l) = a.things := by
    unfold AW.left
    conv => rhs; rw [← List.map_id a.things]
    exact List.map_congr_left fun t ht => by rw [h.after _ _ ht]; rfl
  rw [this]
  exact List.filter_congr fun t _ => by rw [h.gone]
theorem Easy.drop (h : Easy a i) (l : List Int) : Easy (a.drop l) i := by
  have hm : ∀ t ∈ (a.drop l).things, t ∈ a.things := fun t ht => by
    rw [h.drop_things] at ht
    exact (List.mem_filter.1 ht).1
  exact ⟨h.tree, h.last, h.lim, fun t ht => h.things t (hm t ht), fun t ht => h.nums t (hm t ht), h.made⟩
theorem Easy.drop_is (h : Easy a i) {l : List Int} {r : Int} (hr : l.contains r = true) : (a.drop l).is r = false := by
  cases hh : (a.drop l).at r with
  | none => simp [AW.is, hh]
  | some x =>
    have := lookup_mem hh
    rw [h.drop_things] at this
    have := (List.mem_filter.1 this).2
    simp only [hr] at this; simp at this
theorem Easy.dropE (h : Easy a i) {r : Int} (hr : a.is r = true) : a.dropE [r] = 0 := by
  obtain ⟨y, hy⟩ := Option.isSome_iff_exists.1 hr
  have h1 := (h.nums _ (lookup_mem hy)).1
  unfold AW.dropE
  rw [if_neg (by simp [hr]), if_neg, if_neg]
  · rw [List.any_eq_true]
    rintro ⟨t, ht, hh⟩
    obtain ⟨k, s, e, _, _⟩ := h.things t ht
    have h0 : ([r] : List Int).contains 0 = false := by simp at h1 ⊢; omega
    simp only [AW.holds, h.gone, e, bareWh, Wh.zero, h0] at hh
    simp at hh
  · unfold AW.apart
    rw [List.any_eq_true]
    rintro ⟨t, ht, hh⟩
    have := h.kinds ht
    unfold easyKind at this
    have : (t.2.kind == 14) = false := by simp; omega
    rw [this] at hh; simp at hh
theorem Easy.dropNo {r : Int} (hr : a.is r = false) : a.dropE [r] = 5 := by
  unfold AW.dropE
  rw [if_pos (by simp [hr])]
theorem Easy.make (h : Easy a i) {k s : Int} (hk : easyKind k) (hs : a.side s = true) (hi : i < 300) : Easy (a.make (bareWh k s)) (i + 1) ∧ makeE a (bareWh k s) = 0 ∧ (a.make (bareWh k s)).is (i + 1) = true ∧ (a.make (bareWh k s)).kind (i + 1) = k := by
  have hmk : a.make (bareWh k s) = a.add (bareWh k s) := by
    unfold AW.make
    rw [if_neg]; show ¬ k = 15
    unfold easyKind at hk; omega
  have h14 : ¬ k = 14 := by unfold easyKind at hk; omega
  have hs' : 0 ≤ s ∧ s < (a.made.length : Int) := by
    have h1 := hs
    unfold AW.side at h1
    rw [Bool.and_eq_true, decide_eq_true_eq, decide_eq_true_eq] at h1
    exact h1
  have hnone : a.at (i + 1) = none := by
    cases hh : a.at (i + 1) with
    | none => rfl
    | some x => have := h.nums _ (lookup_mem hh); simp only at this; omega
  have hat : (a.add (bareWh k s)).at (i + 1) = some (bareWh k s) := by
    rw [AW.at_add, hnone, h.last]; simp
  have hget : 0 ≤ a.made.getD s.toNat 0 ∧ a.made.getD s.toNat 0 ≤ i := by
    have : s.toNat < a.made.length := by omega
    rw [List.getD_eq_getElem?_getD, List.getElem?_eq_getElem this]
    exact h.made _ (List.getElem_mem this)
  rw [hmk]
  refine ⟨⟨h.tree, ?_, by omega, fun t ht => ?_, fun t ht => ?_, fun n hn => ?_⟩, ?_, by simp [AW.is, hat], by simp [AW.kind, hat]⟩
  · show a.last + 1 = _
    rw [h.last]; rfl
  · have hside : ∀ x, (a.add (bareWh k s)).side x = a.side x := fun x => by
      have : (a.add (bareWh k s)).sides = a.sides := by
        unfold AW.sides AW.add
        simp only
        split <;> simp
      unfold AW.side
      rw [this]
    have ht : t ∈ a.things ++ [(a.last + 1, bareWh k s)] := ht
    rcases List.mem_append.1 ht with ht | ht
    · obtain ⟨k', s', e, h1, h2⟩ := h.things t ht
      exact ⟨k', s', e, h1, by rw [hside]; exact h2⟩
    · simp at ht; subst ht
      exact ⟨k, s, rfl, hk, by rw [hside]; exact hs⟩
  · have ht : t ∈ a.things ++ [(a.last + 1, bareWh k s)] := ht
    rcases List.mem_append.1 ht with ht | ht
    · have := h.nums t ht; omega
    · simp at ht; subst ht
      rw [h.last]; simp only; omega
  · have hn : n ∈ (if k = 14 then a.made else a.made.set s.toNat (a.made.getD s.toNat 0 + 1)) := hn
    rw [if_neg h14] at hn
    rcases List.mem_or_eq_of_mem_set hn with hn | hn
    · have := h.made n hn; omega
    · omega
  · unfold makeE
    have h512 : ¬ 512 ≤ a.made[s.toNat]?.getD 0 := by rw [← List.getD_eq_getElem?_getD]; omega
    rcases hk with rfl | rfl | rfl | rfl | rfl <;> simp [formB, bareW, blankB, asksOf, asksBy, AW.wraps, fitsB, Wh.zero, hs, h512] <;> omega
end Go.X
