/- Contract: Copy (of a world without facets). -/
import Derived.Test.YtdjheefbeagcjaaXxC54
import Derived.Test.YtdjheefbeagcjaaXxC27
set_option linter.unusedSimpArgs false
set_option linter.unusedVariables false
set_option maxRecDepth 20000
set_option maxHeartbeats 2000000
namespace Go.X
open Go Go.AW

theorem map_inj {α β : Type} {f : α → β} : ∀ {l : List α}, (l.map f).Nodup → ∀ {x y : α}, x ∈ l → y ∈ l → f x = f y → x = y
  | [], _, _, _, h, _, _ => by simp at h
  | z :: l, hn, x, y, hx, hy, hf => by
    simp only [List.map_cons, List.nodup_cons, List.mem_map, not_exists, not_and] at hn
    rcases List.mem_cons.1 hx with h1 | h1 <;> rcases List.mem_cons.1 hy with h2 | h2
    · rw [h1, h2]
    · subst h1; exact absurd hf.symm (hn.1 y h2)
    · subst h2; exact absurd hf (hn.1 x h1)
    · exact map_inj hn.2 h1 h2 hf

theorem perm_of_mem {α : Type} : ∀ {l m : List α}, l.Nodup → m.Nodup → (∀ x, x ∈ l ↔ x ∈ m) → l.Perm m
  | [], m, _, _, h => by
    cases m with
    | nil => exact .refl _
    | cons x m => exact absurd ((h x).2 (by simp)) (by simp)
  | x :: l, m, hl, hm, h => by
    obtain ⟨A, B, rfl⟩ := List.append_of_mem ((h x).1 (by simp))
    have hp : (A ++ x :: B).Perm (x :: (A ++ B)) := List.perm_middle
    have hn := hp.nodup_iff.1 hm
    rw [List.nodup_cons] at hl hn
    refine (List.Perm.cons x (perm_of_mem hl.2 hn.2 fun y => ?_)).trans hp.symm
    constructor
    · intro hy
      have h1 := hp.mem_iff.1 ((h y).1 (by simp [hy]))
      rcases List.mem_cons.1 h1 with rfl | h1
      · exact absurd hy hl.1
      · exact h1
    · intro hy
      have h1 := (h y).2 (hp.mem_iff.2 (by simp [hy]))
      rcases List.mem_cons.1 h1 with rfl | h1
      · exact absurd hy hn.1
      · exact h1

theorem sorted_nodup {ts : List (Int × Wh)} (h : ts.Pairwise fun s t => s.1 < t.1) : (ts.map (·.1)).Nodup := by
  induction ts with
  | nil => simp
  | cons t ts ih =>
    rw [List.pairwise_cons] at h
    simp only [List.map_cons, List.nodup_cons, List.mem_map, not_exists, not_and]
    exact ⟨fun s hs => by have := h.1 s hs; omega, ih h.2⟩

section
variable {w0 w : World} {L : Lay} {a : AW} {k : Value → World → Prop}

theorem WRep.keys (h : WRep w L a) : (L.es.map (·.key)).Nodup := by
  have h1 : (L.es.map (·.key)).Perm (a.things.map fun t => vi t.1) := by
    have := h.ents.map Prod.fst
    simpa [kv, Function.comp_def] using this
  refine h1.nodup_iff.2 ?_
  have h2 := sorted_nodup h.sorted
  have : (a.things.map fun t => vi t.1) = (a.things.map (·.1)).map vi := by simp [Function.comp_def]
  rw [this]
  clear this h1
  generalize a.things.map (·.1) = l at h2
  induction l with
  | nil => simp
  | cons x l ih =>
    rw [List.nodup_cons] at h2
    simp only [List.map_cons, List.nodup_cons, List.mem_map, not_exists, not_and]
    exact ⟨fun y hy e => by simp at e; subst e; exact h2.1 hy, ih h2.2⟩

def CopyR (L : Lay) (a : AW) (it b b6 b7 : Nat) (v1 v2 v3 : Value) (vis es : List MapEntry) (c : Nat) (bk : Int → Nat) (vs : List (Int × Wh)) : List Res :=
  .obj it (iterO L.bm L.cm vis) :: .map b6 es c :: .cells b [v1, v2, .map (some b6), .map (some b7), vi a.last, v3] :: .slice v1 (a.parents.map vi) :: .slice v2 (a.cut.map .bool) :: .slice v3 (a.made.map vi) :: .map b7 [] 0 ::
    vs.map fun t => .cells (bk t.1) (whCells t.2)

structure CopyF (a : AW) (vis es : List MapEntry) (c : Nat) (bk : Int → Nat) (vs : List (Int × Wh)) : Prop where
  keys : vis.map (·.key) = vs.map fun t => vi t.1
  sub : ∀ t ∈ vs, t ∈ a.things
  nodup : (vs.map (·.1)).Nodup
  ents : es.map kv = vs.map fun t => (vi t.1, ptr (bk t.1))
  born : Born es c

def CopyJ (w0 : World) (L : Lay) (a : AW) (it b b6 b7 : Nat) (v1 v2 v3 : Value) (m : Nat) (e : Env) (w : World) : Prop :=
  ∃ vis es c bk vs, m = L.es.length - vis.length ∧ Vis L.es vis ∧ e 0 = ptr L.p ∧ e 3 = ptr b ∧ e 36 = ptr it ∧ CopyF a vis es c bk vs ∧ State (fun _ => False) w0 w (CopyR L a it b b6 b7 v1 v2 v3 vis es c bk vs)

theorem CopyF.snoc {vis es : List MapEntry} {c : Nat} {bk : Int → Nat} {vs : List (Int × Wh)} {x : MapEntry} {t : Int × Wh} {b' : Nat} (h : CopyF a vis es c bk vs) (ht : t ∈ a.things) (hx : x.key = vi t.1) (hn : ∀ s ∈ vs, s.1 ≠ t.1) :
    CopyF a (vis ++ [x]) (es ++ [⟨vi t.1, ptr b', c⟩]) (c + 1) (fun r => if r = t.1 then b' else bk r) (vs ++ [t]) := by
  refine ⟨by simp [h.keys, hx], fun s hs => ?_, ?_, ?_, ?_, fun e he => ?_⟩
  · rcases List.mem_append.1 hs with hs | hs
    · exact h.sub s hs
    · simp at hs; subst hs; exact ht
  · simp only [List.map_append, List.map_cons, List.map_nil]
    refine List.nodup_append.2 ⟨h.nodup, by simp, fun y hy z hz e => ?_⟩
    simp at hz; subst hz; subst e
    obtain ⟨s, hs, hst⟩ := List.mem_map.1 hy
    exact hn s hs hst
  · simp only [List.map_append, List.map_cons, List.map_nil, h.ents, kv, if_true]
    congr 1
    refine List.map_congr_left fun s hs => ?_
    rw [if_neg (hn s hs)]
  · simp only [List.map_append, List.map_cons, List.map_nil]
    refine List.nodup_append.2 ⟨h.born.nodup, by simp, fun y hy z hz e => ?_⟩
    simp at hz; subst hz; subst e
    obtain ⟨s, hs, hst⟩ := List.mem_map.1 hy
    have := h.born.lt s hs; omega
  · rcases List.mem_append.1 he with he | he
    · have := h.born.lt e he; omega
    · simp at he; subst he; simp

theorem CopyF.find_no {vis es : List MapEntry} {c : Nat} {bk : Int → Nat} {vs : List (Int × Wh)} {r : Int} (h : CopyF a vis es c bk vs) (hn : ∀ s ∈ vs, s.1 ≠ r) : findK (vi r) es 0 = some none := by
  refine findK_miss fun e he => ?_
  have : kv e ∈ vs.map fun t => (vi t.1, ptr (bk t.1)) := by rw [← h.ents]; exact List.mem_map_of_mem he
  obtain ⟨s, hs, hse⟩ := List.mem_map.1 this
  have h1 : e.key = vi s.1 := by simp only [kv, Prod.mk.injEq] at hse; exact hse.1.symm
  rw [h1, keyEq_vi]
  have := hn s hs
  simp; omega

theorem copy_done {it b b6 b7 : Nat} {v1 v2 v3 : Value} {vis es : List MapEntry} {c : Nat} {bk : Int → Nat} {vs : List (Int × Wh)} (h : WRep w0 L a) (hnf : ∀ t ∈ a.things, t.2.kind ≠ 14) (hF : CopyF a vis es c bk vs) (hall : ∀ e ∈ L.es, e ∈ vis)
    (st : State (fun _ => False) w0 w (CopyR L a it b b6 b7 v1 v2 v3 vis es c bk vs)) : ∃ L', L'.p = b ∧ WRep w L' a ∧ ∀ x ∈ foot L' a, w0.heap.size ≤ x := by
  have hperm : vs.Perm a.things := by
    refine perm_of_mem (nodup_of_map hF.nodup) (nodup_of_map (sorted_nodup h.sorted)) fun t => ⟨hF.sub t, fun ht => ?_⟩
    obtain ⟨e, he, hkey, _⟩ := h.ent_of ht
    have : e.key ∈ vis.map (·.key) := List.mem_map_of_mem (hall e he)
    rw [hF.keys, hkey] at this
    obtain ⟨s, hs, hst⟩ := List.mem_map.1 this
    have hst : s.1 = t.1 := by simpa using hst
    have := map_inj (sorted_nodup h.sorted) (hF.sub s hs) ht hst
    rw [← this]; exact hs
  let L' : Lay := ⟨b, b6, b7, v1, v2, v3, es, [], c, 0, bk⟩
  have hf : Fit L' a := by
    have f := h.fit
    refine ⟨?_, ?_, ⟨hF.born.nodup, hF.born.lt⟩, f.sorted, f.len1, f.len2, f.len3, f.nums, f.low, f.high⟩
    · show (es.map kv).Perm _
      rw [hF.ents]
      exact hperm.map _
    · have : a.things.filter (fun t => t.2.kind == 14) = [] := List.filter_eq_nil_iff.2 fun t ht => by have := hnf t ht; simpa using this
      rw [this]
      exact .refl _
  have st2 : State (fun _ => False) w0 w (pieces L' a a.things ++ [.obj it (iterO L.bm L.cm vis)]) := by
    refine st.perm0 ?_
    unfold CopyR pieces things
    have hp : (vs.map fun t => Res.cells (bk t.1) (whCells t.2)).Perm (a.things.map fun t => Res.cells (bk t.1) (whCells t.2)) := hperm.map _
    have e1 : (Res.obj it (iterO L.bm L.cm vis) :: Res.map b6 es c :: Res.cells b [v1, v2, .map (some b6), .map (some b7), vi a.last, v3] :: Res.slice v1 (a.parents.map vi) :: Res.slice v2 (a.cut.map .bool) :: Res.slice v3 (a.made.map vi) :: Res.map b7 [] 0 :: vs.map fun t => Res.cells (bk t.1) (whCells t.2)).Perm
        (Res.obj it (iterO L.bm L.cm vis) :: (Res.cells b [v1, v2, .map (some b6), .map (some b7), vi a.last, v3] :: Res.map b6 es c :: Res.map b7 [] 0 :: Res.slice v1 (a.parents.map vi) :: Res.slice v2 (a.cut.map .bool) :: Res.slice v3 (a.made.map vi) :: a.things.map fun t => Res.cells (bk t.1) (whCells t.2))) := by
      refine List.Perm.cons _ ((List.Perm.swap _ _ _).trans (List.Perm.cons _ (List.Perm.cons _ ?_)))
      have e2 : ∀ (x1 x2 x3 x4 : Res) (l : List Res), (x1 :: x2 :: x3 :: x4 :: l).Perm (x4 :: x1 :: x2 :: x3 :: l) := fun x1 x2 x3 x4 l => by
        have : (x1 :: x2 :: x3 :: x4 :: l) = [x1, x2, x3] ++ x4 :: l := rfl
        rw [this]
        exact List.perm_middle
      exact (e2 _ _ _ _ _).trans (List.Perm.cons _ (List.Perm.cons _ (List.Perm.cons _ (List.Perm.cons _ hp))))
    refine e1.trans ?_
    exact (List.perm_append_singleton _ _).symm
  have st3 := st2.close_world hf
  refine ⟨L', rfl, st3.rep (.head _), fun x hx => ?_⟩
  have := st3.own x (by simp only [blksOf, List.flatMap_cons, Res.blks]; exact List.mem_append_left _ hx)
  rcases this with h | h
  · exact h.elim
  · exact h

theorem copy_c (h : WRep w0 L a) (hp : ∀ t ∈ a.things, Plain t.2) (hnf : ∀ t ∈ a.things, t.2.kind ≠ 14) (hk : ∀ w' L', Ext w0 w' → WRep w' L' a → (∀ x ∈ foot L' a, w0.heap.size ≤ x) → k (ptr L'.p) w') : callOn prog fn_World_Copy #[ptr L.p] w0 k := by
  apply F_World_Copy_on
  unfold F_World_Copy
  have st := State.start (S := fun _ => False) w0
  (repeat (first | ((with_reducible apply cond_f); (focus (first | assumption | rfl | decide | (simp only [bne, Bool.not_eq_true', Bool.not_eq_false', Bool.not_true, Bool.not_false, Bool.not_not]; assumption)))) | ((with_reducible apply none_c); (focus (first | exact st.rep (by ((repeat (first | exact List.Mem.head _ | assumption | refine List.Mem.tail _ ?_)); done)) | exact h.ext st.keeps)))))
  refine copy_region h st.drew (by simp [upd_get, start_get]) fun e w v1 v2 v3 b6 b7 bc g0 g3 st => ?_
  simp only [g0]
  (repeat (first | ((with_reducible apply field_at)) | ((with_reducible apply nil_ptr)) | ((with_reducible apply load_top); (focus (first | exact st.rep (by ((repeat (first | exact List.Mem.head _ | assumption | refine List.Mem.tail _ ?_)); done)) | exact h.ext st.keeps)); (focus rfl)) | (simp only [upd_get, start_get, List.getD_cons_zero, List.getD_cons_succ, Nat.reduceEqDiff, reduceIte, Nat.reduceAdd])))
  refine st.range (h.ext st.keeps).things fun it w st => ?_
  have st := st.perm0 (R' := CopyR L a it bc b6 b7 v1 v2 v3 [] [] 0 (fun _ => 0) []) (by
    unfold CopyR
    refine List.Perm.cons _ ?_
    have e2 : ∀ (x1 x2 x3 x4 x5 x6 : Res), [x1, x2, x3, x4, x5, x6].Perm [x4, x6, x1, x2, x3, x5] := fun x1 x2 x3 x4 x5 x6 => by
      have h1 : [x1, x2, x3, x4, x5, x6].Perm (x4 :: [x1, x2, x3, x5, x6]) := (List.perm_middle (l₁ := [x1, x2, x3]) (l₂ := [x5, x6]))
      have h2 : [x1, x2, x3, x5, x6].Perm (x6 :: [x1, x2, x3, x5]) := (List.perm_middle (l₁ := [x1, x2, x3, x5]) (l₂ := []))
      exact h1.trans (h2.cons x4)
    exact e2 _ _ _ _ _ _)
  refine ⟨CopyJ w0 L a it bc b6 b7 v1 v2 v3, L.es.length, ⟨[], [], 0, fun _ => 0, [], by simp, .nil _, by simp [upd_get, g0], by simp [upd_get, g3], by simp [upd_get], ⟨rfl, by simp, by simp, rfl, by simp, by simp⟩, st⟩, ?_⟩
  clear st g0 g3
  rintro m e w ⟨vis, es, c, bk, vs, rfl, hv, g0, g3, g36, hF, st⟩
  have hx := h.ext st.keeps
  simp only [g36]
  refine State.next (fun vis' => CopyR L a it bc b6 b7 v1 v2 v3 vis' es c bk vs) st (fun _ => .head) hx.things h.bornL hv.sub (fun x hxm hnv w st => ?_) fun hall w st => ?_
  · obtain ⟨t, ht, hkey, hval⟩ := h.ent hxm
    have hx := h.ext st.keeps
    have hat := h.at_mem ht
    have hn : ∀ s ∈ vs, s.1 ≠ t.1 := by
      intro s hs e
      have : vi s.1 ∈ vis.map (·.key) := by rw [hF.keys]; exact List.mem_map_of_mem hs
      obtain ⟨y, hy, hyk⟩ := List.mem_map.1 this
      have := map_inj h.keys (hv.sub y hy) hxm (by rw [hyk, hkey, e])
      exact hnv (this ▸ hy)
    have hno := hF.find_no hn
    (repeat (first | ((with_reducible apply ext_0)) | ((with_reducible apply cond_t); (focus (first | assumption | rfl | decide | (simp only [bne, Bool.not_eq_true', Bool.not_eq_false', Bool.not_true, Bool.not_false, Bool.not_not]; assumption))))))
    refine st.entry (vis := vis) (e := x) (.head _) (h.ext st.keeps).things h.bornL hxm ?_
    rw [hkey, hval]
    (repeat (first | ((with_reducible apply nil_ptr)) | ((with_reducible apply ext_0)) | ((with_reducible apply ext_1))))
    refine loadN_intro ((h.ext st.keeps).cell hat) (by simp [whCells]) ?_
    refine ownWhat_c (hp t ht) fun w he => ?_
    have st := st.ext he
    unfold CopyR at st
    (repeat (first | ((with_reducible apply field_at)) | ((with_reducible apply nil_ptr)) | ((with_reducible apply State.load1 st); (focus ((repeat (first | exact List.Mem.head _ | assumption | refine List.Mem.tail _ ?_)); done)); (focus rfl)) | ((with_reducible apply State.allocAgg st); intro b w st) | ((with_reducible apply State.storeAll st); (focus ((repeat (first | exact Sub.head | apply Sub.tail)); done)); (focus (first | (simp [whCells, valL, over_length, Value.cells]; done) | omega)); (focus (first | (simp [whCells, valL, over_length, Value.cells]; done) | omega)); (focus (first | rfl | assumption | (simp [whCells, valL, Value.oneCell', Value.cells]; done))); intro w st) | (rewrite [g3]) | (simp only [upd_get, start_get, List.getD_cons_zero, List.getD_cons_succ, Nat.reduceEqDiff, reduceIte, Nat.reduceAdd])))
    refine st.entryNew (.tail (.tail .head)) rfl hno fun w st => ?_
    refine index_no (st.cell (l := [v1, v2, .map (some b6), .map (some b7), vi a.last, v3]) (by simp)) (st.holds (.map b6 (es ++ [⟨vi t.1, ptr b, c⟩]) (c + 1)) (by simp)) (findK_append hno (by rw [keyEq_vi]; simp)) (st.cell (.head _)) (hnf t ht) ?_
    obtain ⟨hv', hlen⟩ := hv.snoc h.bornL hxm hnv
    refine ⟨L.es.length - (vis ++ [x]).length, by simp; omega, vis ++ [x], _, _, _, vs ++ [t], rfl, hv', by simp [upd_get, g0], by simp [upd_get, g3], by simp [upd_get, g36], hF.snoc (b' := b) ht hkey hn, st.perm0 ?_⟩
    unfold CopyR
    have e1 : ((vs ++ [t]).map fun s => Res.cells (if s.1 = t.1 then b else bk s.1) (whCells s.2)) = (vs.map fun s => Res.cells (bk s.1) (whCells s.2)) ++ [Res.cells b (whCells t.2)] := by
      simp only [List.map_append, List.map_cons, List.map_nil, if_true]
      congr 1
      refine List.map_congr_left fun s hs => ?_
      rw [if_neg (hn s hs)]
    rw [e1]
    exact (List.perm_append_singleton _ (_ :: _ :: _ :: _ :: _ :: _ :: _ :: _)).symm
  · obtain ⟨L', hp', hr, hfresh⟩ := copy_done h hnf hF hall st
    (repeat (first | ((with_reducible apply ext_0)) | ((with_reducible apply cond_f); (focus (first | assumption | rfl | decide | (simp only [bne, Bool.not_eq_true', Bool.not_eq_false', Bool.not_true, Bool.not_false, Bool.not_not]; assumption)))) | (rewrite [g3])))
    rw [← hp']
    exact hk _ L' st.keeps hr hfresh
end
end Go.X
