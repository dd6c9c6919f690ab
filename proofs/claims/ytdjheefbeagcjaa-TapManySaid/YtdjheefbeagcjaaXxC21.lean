/- Worlds that are in order; what a call of each kind leaves, as steps of a walk. -/
import Derived.Test.YtdjheefbeagcjaaXxC18
import Derived.Test.YtdjheefbeagcjaaXxC19
import Derived.Test.YtdjheefbeagcjaaXxC20
set_option linter.unusedSimpArgs false
set_option linter.unusedVariables false
set_option maxRecDepth 20000
set_option maxHeartbeats 1000000
namespace Go.X
open Go Go.AW

structure Good (a : AW) : Prop where
  wf : WF a
  plain : ∀ t ∈ a.things, Plain t.2
  made : ∀ n ∈ a.made, 0 ≤ n
  few : Few a

def plainB (x : Wh) : Bool := ((x.vk == 0 && x.vn == 0) || x.vk == 1) && x.vr == 0
theorem plainB_iff {x : Wh} : plainB x = true ↔ Plain x := by simp [plainB, Plain]

def goodB (a : AW) : Bool :=
  (a.things.all fun t => decide (0 ≤ t.2.set) && decide (t.2.set < 256) && decide (0 ≤ t.2.kind) && decide (t.2.kind < 256) && (t.2.kind == 14 || a.side t.2.home) &&
    (!AW.wraps t.2.kind || (a.is t.2.of && decide (t.2.of < t.1))) && (!(t.2.kind == 15) || a.is t.2.by_) && plainB t.2) &&
  (a.things.all fun s => a.things.all fun t => !(s.2.kind == 14) || !(t.2.kind == 14) || !(s.2.of == t.2.of) || !(s.2.set == t.2.set) || decide (s = t)) &&
  ((List.range a.parents.length).all fun i => decide (0 ≤ a.parents.getD i 0) && decide (a.parents.getD i 0 ≤ i)) && (a.made.all fun n => decide (0 ≤ n)) && decide (a.last < 8796093022208)

theorem good_of {a : AW} (h : goodB a = true) : Good a := by
  simp only [goodB, Bool.and_eq_true, List.all_eq_true, decide_eq_true_eq, Bool.or_eq_true, Bool.not_eq_true', beq_iff_eq, beq_eq_false_iff_ne] at h
  obtain ⟨⟨⟨⟨h1, h2⟩, h3⟩, h4⟩, h5⟩ := h
  refine ⟨⟨fun t ht => ?_, fun t ht hk => ?_, fun t ht hw => ?_, fun t ht hk => ?_, fun s hs t ht k1 k2 e1 e2 => ?_, fun i hi => ?_⟩, fun t ht => ?_, h4, h5⟩
  · obtain ⟨⟨⟨⟨⟨⟨⟨a1, a2⟩, a3⟩, a4⟩, a5⟩, a6⟩, a7⟩, a8⟩ := h1 t ht; exact ⟨a1, a2, a3, a4⟩
  · obtain ⟨⟨⟨⟨⟨⟨⟨a1, a2⟩, a3⟩, a4⟩, a5⟩, a6⟩, a7⟩, a8⟩ := h1 t ht; exact a5.resolve_left hk
  · obtain ⟨⟨⟨⟨⟨⟨⟨a1, a2⟩, a3⟩, a4⟩, a5⟩, a6⟩, a7⟩, a8⟩ := h1 t ht
    rcases a6 with a6 | a6
    · rw [hw] at a6; simp at a6
    · exact a6
  · obtain ⟨⟨⟨⟨⟨⟨⟨a1, a2⟩, a3⟩, a4⟩, a5⟩, a6⟩, a7⟩, a8⟩ := h1 t ht; exact a7.resolve_left (fun h => h hk)
  · have := h2 s hs t ht
    simp only [k1, k2, e1, e2, ne_eq, not_true_eq_false, false_or] at this
    exact this
  · exact h3 i (List.mem_range.2 hi)
  · obtain ⟨⟨⟨⟨⟨⟨⟨a1, a2⟩, a3⟩, a4⟩, a5⟩, a6⟩, a7⟩, a8⟩ := h1 t ht; exact plainB_iff.1 a8

section
variable {S : Nat → Prop} {w0 w : World} {L : Lay} {a : AW} {R : List Res} {K : Value → World → Prop}

theorem State.newYes {v : Value} {ps : List Int} {a : AW} (st : State S w0 w R) (h : ReadsOf w v (ps.map vi)) (hn : new ps = some a) (hk : ∀ w L, State S w0 w (.world L a :: R) → K (.tuple #[ptr L.p, vi 0]) w) :
    callOn prog fn_world_New #[v] w K := by
  refine new_c h (fun e => by rw [hn] at e; simp at e) fun a' w' L he hx hr hf => ?_
  rw [hn] at he
  obtain rfl := Option.some.inj he
  exact hk w' L (st.push hx hr hr.apart hf)

theorem State.newNo {v : Value} {ps : List Int} (st : State S w0 w R) (h : ReadsOf w v (ps.map vi)) (hn : new ps = none) (hk : ∀ w, State S w0 w R → K (.tuple #[.pointer none, vi 71]) w) :
    callOn prog fn_world_New #[v] w K := by
  refine new_c h (fun _ => hk w st) fun a' w' L he _ _ _ => ?_
  rw [hn] at he; simp at he

theorem State.make {x : Wh} {R' : Lay → List Res} (st : State S w0 w R) (hs : ∀ L', Sub (.world L a) (.world L' (a.make x)) R (R' L')) (hg : Good a) (hp : Plain x) (hk0 : 0 ≤ x.kind ∧ 0 ≤ x.set ∧ x.set < 256) (hop : x.kind = 6 ∨ x.kind = 11 → a.is x.of = false) (hE : makeE a x = 0)
    (hk : ∀ w L', L'.p = L.p → State S w0 w (R' L') → K (.tuple #[vi (a.last + 1), vi 0]) w) : callOn prog fn_World_Make #[ptr L.p, whV x] w K :=
  make_c (st.rep (hs L).mem) hp hk0.1 hk0.2 hop hg.few hg.made (fun _ _ h => absurd hE h) fun w' L' _ g => hk w' L' g.p (st.grown g (hs L'))

theorem State.makeNo {x : Wh} {e : Int} (st : State S w0 w R) (hm : .world L a ∈ R) (hg : Good a) (hp : Plain x) (hk0 : 0 ≤ x.kind ∧ 0 ≤ x.set ∧ x.set < 256) (hop : x.kind = 6 ∨ x.kind = 11 → a.is x.of = false) (hE : makeE a x = e) (he : e ≠ 0)
    (hk : ∀ w, State S w0 w R → K (.tuple #[vi 0, vi e]) w) : callOn prog fn_World_Make #[ptr L.p, whV x] w K := by
  subst hE
  exact make_c (st.rep hm) hp hk0.1 hk0.2 hop hg.few hg.made (fun w' hx _ => hk w' (st.ext hx)) fun w' L' h _ => absurd h he

theorem State.facetNew {t s : Int} {R' : Lay → List Res} (st : State S w0 w R) (hs : ∀ L', Sub (.world L a) (.world L' (a.add (facetW t s))) R (R' L')) (hg : Good a) (hs0 : 0 ≤ s ∧ s < 256) (hE : facetE a t s = 0) (hf : a.find t s = none)
    (hk : ∀ w L', L'.p = L.p → State S w0 w (R' L') → K (.tuple #[vi (a.last + 1), vi 0]) w) : callOn prog fn_World_Facet #[ptr L.p, vi t, vb s] w K :=
  facet_c (st.rep (hs L).mem) hg.wf hg.few hs0 (fun _ _ h => absurd hE h) (fun _ r _ _ h => by rw [hf] at h; simp at h) fun w' L' _ _ g => hk w' L' g.p (st.grown g (hs L'))

theorem State.facetOld {t s r : Int} (st : State S w0 w R) (hm : .world L a ∈ R) (hg : Good a) (hs0 : 0 ≤ s ∧ s < 256) (hE : facetE a t s = 0) (hf : a.find t s = some r)
    (hk : ∀ w, State S w0 w R → K (.tuple #[vi r, vi 0]) w) : callOn prog fn_World_Facet #[ptr L.p, vi t, vb s] w K :=
  facet_c (st.rep hm) hg.wf hg.few hs0 (fun _ _ h => absurd hE h) (fun w' r' hx _ h => by rw [hf] at h; obtain rfl := Option.some.inj h; exact hk w' (st.ext hx)) fun w' L' _ h _ => by rw [hf] at h; simp at h

theorem State.facetNo {t s e : Int} (st : State S w0 w R) (hm : .world L a ∈ R) (hg : Good a) (hs0 : 0 ≤ s ∧ s < 256) (hE : facetE a t s = e) (he : e ≠ 0)
    (hk : ∀ w, State S w0 w R → K (.tuple #[vi 0, vi e]) w) : callOn prog fn_World_Facet #[ptr L.p, vi t, vb s] w K := by
  subst hE
  exact facet_c (st.rep hm) hg.wf hg.few hs0 (fun w' hx _ => hk w' (st.ext hx)) (fun w' r' hx h _ => absurd h he) fun w' L' h _ _ => absurd h he

theorem State.cutYes {n : Int} {R' : List Res} (st : State S w0 w R) (hs : Sub (.world L a) (.world L (AW.cutEdge a n)) R R') (he : AW.edge a n = true) (hk : ∀ w, State S w0 w R' → K (vi 0) w) :
    callOn prog fn_World_CutEdge #[ptr L.p, vi n] w K :=
  cutEdge_yes (st.rep hs.mem) n he fun w' hkp hr => hk w' (st.change hs (hkp.mono fun b _ hb => by simp [Res.blks, foot, hb]) hr hr.apart (fun b hb => .inl hb))

theorem State.buildL {e n : Nat} {z : Value} {parts : List (Nat × Value)} (cs : List Value) (st : State S w0 w R) (hn : n ≤ 16777216) (hf : Instr.fill (fun j => some (j * 1, 1)) (zerosOf (if n * 1 = 0 then #[] else z.cells) (n * 1)) parts = some cs.toArray) (hl : cs.length = n)
    (hk : ∀ b w, State S w0 w (.slice (.slice (some ⟨b, 0, none⟩) n n) cs :: R) → K (.slice (some ⟨b, 0, none⟩) n n) w) : Go.X.buildL e 1 z n parts w K :=
  buildL_intro hn hf hl fun b w' he hb _ _ hs => hk b w' (st.push he hs (by simp [Res.blks, sliceBlk]) (by simp [Res.blks, sliceBlk]; omega))

/-- what a thing has -/
theorem what_c {r : Int} {x : Wh} (h : WRep w L a) (hr : a.at r = some x) (hv : Plain x) (hk : ∀ w', Ext w w' → K (.tuple #[whV x, vi 0]) w') : callOn prog fn_World_What #[ptr L.p, vi r] w K := by
  apply F_World_What_on
  unfold F_World_What
  have st := State.start (S := fun _ => False) w
  have qi : a.is r = true := by rw [AW.is, hr]; rfl
  (repeat (first | ((with_reducible apply field_at)) | ((with_reducible apply not_at)) | ((with_reducible apply nil_ptr)) | ((with_reducible apply cond_f); (focus (first | assumption | rfl | decide | (simp only [bne, Bool.not_eq_true', Bool.not_eq_false', Bool.not_true, Bool.not_false, Bool.not_not]; assumption)))) | ((with_reducible apply State.allocAgg st); intro b w st) | ((with_reducible apply load_top); (focus (first | exact st.rep (by ((repeat (first | exact List.Mem.head _ | assumption | refine List.Mem.tail _ ?_)); done)) | exact h.ext st.keeps)); (focus rfl)) | ((with_reducible apply look_at); (focus (first | exact st.rep (by ((repeat (first | exact List.Mem.head _ | assumption | refine List.Mem.tail _ ?_)); done)) | exact h.ext st.keeps)); (focus assumption)) | ((with_reducible apply none_c); (focus (first | exact st.rep (by ((repeat (first | exact List.Mem.head _ | assumption | refine List.Mem.tail _ ?_)); done)) | exact h.ext st.keeps))) | ((with_reducible apply is_c); (focus (first | exact st.rep (by ((repeat (first | exact List.Mem.head _ | assumption | refine List.Mem.tail _ ?_)); done)) | exact h.ext st.keeps)))))
  refine loadN_intro ((h.ext st.keeps).cell hr) (by simp [whCells]) ?_
  refine ownWhat_c hv fun w he => ?_
  have st := st.ext he
  (repeat (first | ((with_reducible apply State.loadAll st); (focus ((repeat (first | exact List.Mem.head _ | assumption | refine List.Mem.tail _ ?_)); done)); (focus (first | (simp [whCells, valL, over_length, Value.cells]; done) | omega))) | ((with_reducible apply State.storeAll st); (focus ((repeat (first | exact Sub.head | apply Sub.tail)); done)); (focus (first | (simp [whCells, valL, over_length, Value.cells]; done) | omega)); (focus (first | (simp [whCells, valL, over_length, Value.cells]; done) | omega)); (focus (first | rfl | assumption | (simp [whCells, valL, Value.oneCell', Value.cells]; done))); intro w st)))
  exact hk w st.keeps

theorem what_no {r : Int} (h : WRep w L a) (hr : a.at r = none) (hk : ∀ w', Ext w w' → K (.tuple #[whV Wh.zero, vi 5]) w') : callOn prog fn_World_What #[ptr L.p, vi r] w K := by
  apply F_World_What_on
  unfold F_World_What
  have st := State.start (S := fun _ => False) w
  have qi : a.is r = false := by rw [AW.is, hr]; rfl
  (repeat (first | ((with_reducible apply not_at)) | ((with_reducible apply cond_t); (focus (first | assumption | rfl | decide | (simp only [bne, Bool.not_eq_true', Bool.not_eq_false', Bool.not_true, Bool.not_false, Bool.not_not]; assumption)))) | ((with_reducible apply cond_f); (focus (first | assumption | rfl | decide | (simp only [bne, Bool.not_eq_true', Bool.not_eq_false', Bool.not_true, Bool.not_false, Bool.not_not]; assumption)))) | ((with_reducible apply State.allocAgg st); intro b w st) | ((with_reducible apply none_c); (focus (first | exact st.rep (by ((repeat (first | exact List.Mem.head _ | assumption | refine List.Mem.tail _ ?_)); done)) | exact h.ext st.keeps))) | ((with_reducible apply is_c); (focus (first | exact st.rep (by ((repeat (first | exact List.Mem.head _ | assumption | refine List.Mem.tail _ ?_)); done)) | exact h.ext st.keeps)))))
  refine build_agg (whCells Wh.zero) (by kernel_rfl) ?_
  (repeat (first | ((with_reducible apply State.loadAll st); (focus ((repeat (first | exact List.Mem.head _ | assumption | refine List.Mem.tail _ ?_)); done)); (focus (first | (simp [whCells, valL, over_length, Value.cells]; done) | omega))) | ((with_reducible apply State.storeAll st); (focus ((repeat (first | exact Sub.head | apply Sub.tail)); done)); (focus (first | (simp [whCells, valL, over_length, Value.cells]; done) | omega)); (focus (first | (simp [whCells, valL, over_length, Value.cells]; done) | omega)); (focus (first | rfl | assumption | (simp [whCells, valL, Value.oneCell', Value.cells]; done))); intro w st)))
  exact hk w st.keeps
end
end Go.X
