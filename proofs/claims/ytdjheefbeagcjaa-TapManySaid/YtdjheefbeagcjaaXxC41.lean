/- Contract: all numbers of a world, in order; the iterator over its things. -/
import Derived.Test.YtdjheefbeagcjaaXxC25
import Derived.Test.YtdjheefbeagcjaaXxC39
import Derived.Test.YtdjheefbeagcjaaXxC6
import Derived.Test.YtdjheefbeagcjaaXxS9
set_option linter.unusedSimpArgs false
set_option linter.unusedVariables false
set_option maxRecDepth 20000
namespace Go.X
open Go Go.AW

/-- all numbers of a world -/
abbrev numsOf (a : AW) : List Int := a.things.map fun t => t.1

theorem nodup_of_map {α β : Type} {f : α → β} : ∀ {l : List α}, (l.map f).Nodup → l.Nodup
  | [], _ => by simp
  | x :: l, h => by
    rw [List.map_cons, List.nodup_cons] at h
    exact List.nodup_cons.2 ⟨fun hx => h.1 (List.mem_map_of_mem hx), nodup_of_map h.2⟩

theorem Vis.all {es vis : List MapEntry} {c : Nat} (h : Vis es vis) (hb : Born es c) (hall : ∀ e ∈ es, e ∈ vis) : vis.Perm es := by
  have h1 : (vis.map (·.born)).Nodup := h.nodup
  have n1 : vis.Nodup := nodup_of_map h1
  have n2 : es.Nodup := nodup_of_map hb.nodup
  exact (List.perm_ext_iff_of_nodup n1 n2).2 fun e => ⟨h.sub e, hall e⟩

theorem sort_eq {zs l : List Int} (hp : zs.Perm l) (hs : l.Pairwise (· < ·)) : (zs.mergeSort fun x y => decide (x ≤ y)) = l := by
  have h1 : (zs.mergeSort fun x y => decide (x ≤ y)).Perm l := (List.mergeSort_perm _ _).trans hp
  have h2 : (zs.mergeSort fun x y => decide (x ≤ y)).Pairwise (fun x y => decide (x ≤ y) = true) :=
    List.pairwise_mergeSort (fun a b c h1 h2 => by simp at h1 h2 ⊢; omega) (fun a b => by simp; omega) zs
  refine List.Perm.eq_of_pairwise (le := fun x y => decide (x ≤ y) = true) (fun a b _ _ h1 h2 => by simp at h1 h2; omega) h2 (hs.imp fun h => by simp; omega) h1

section
variable {S : Nat → Prop} {w0 w : World} {L : Lay} {a : AW} {R : List Res} {K : Value → World → Prop} {k : Value → Prop}

theorem things_few (h : WRep w L a) (hfew : Few a) : a.things.length ≤ 8796093022208 := by
  have hn := h.nums
  have hs := h.sorted
  unfold Few at hfew
  have key : ∀ (l : List (Int × Wh)) (m : Int), l.Pairwise (fun s t => s.1 < t.1) → (∀ t ∈ l, m < t.1 ∧ t.1 ≤ a.last) → (l.length : Int) ≤ a.last - m ∨ l = [] := by
    intro l
    induction l with
    | nil => intro m _ _; exact .inr rfl
    | cons t l ih =>
      intro m hp hb
      have h1 := hb t (by simp)
      rcases ih t.1 hp.of_cons (fun s hs => ⟨List.rel_of_pairwise_cons hp hs, (hb s (by simp [hs])).2⟩) with h2 | h2
      · left; simp only [List.length_cons]; omega
      · left; subst h2; simp; omega
  rcases key a.things 0 hs (fun t ht => by have := hn t ht; omega) with h1 | h1
  · omega
  · rw [h1]; simp

theorem refs_all_c (h : WRep w L a) (hfew : Few a) (hk : ∀ v w', Ext w w' → SliceOf w' v ((numsOf a).map vi) → (∀ b ∈ sliceBlk v, w.heap.size ≤ b) → K v w') : callOn prog fn_World_refs #[ptr L.p] w K := by
  apply F_World_refs_on
  unfold F_World_refs
  have hlen := things_few h hfew
  have hlenE : L.es.length = a.things.length := by simpa using h.ents.length_eq
  have hborn : Born L.es L.cm := ⟨h.born.1, h.born.2⟩
  have st := State.start (S := fun _ => False) w
  (repeat (first | ((with_reducible apply field_at)) | ((with_reducible apply nil_ptr)) | ((with_reducible apply load_top); (focus (first | exact st.rep (by ((repeat (first | exact List.Mem.head _ | assumption | refine List.Mem.tail _ ?_)); done)) | exact h.ext st.keeps)); (focus rfl)) | ((with_reducible apply lenM_at); (focus (first | exact st.rep (by ((repeat (first | exact List.Mem.head _ | assumption | refine List.Mem.tail _ ?_)); done)) | exact h.ext st.keeps))) | (simp only [upd_get, start_get, List.getD_cons_zero, List.getD_cons_succ, Nat.reduceEqDiff, reduceIte, Nat.reduceAdd])))
  refine makeCap rfl (by omega) (by omega) fun v w1 he hs hb => ?_
  have st := st.push he (r := .slice v []) hs (sliceBlk_nodup v) hb
  (repeat (first | ((with_reducible apply field_at)) | ((with_reducible apply nil_ptr)) | ((with_reducible apply load_top); (focus (first | exact st.rep (by ((repeat (first | exact List.Mem.head _ | assumption | refine List.Mem.tail _ ?_)); done)) | exact h.ext st.keeps)); (focus rfl)) | (simp only [upd_get, start_get, List.getD_cons_zero, List.getD_cons_succ, Nat.reduceEqDiff, reduceIte, Nat.reduceAdd])))
  refine st.range ((h.ext st.keeps).things) fun it w st => ?_
  refine ⟨fun m e w' => ∃ vis zs, m = L.es.length - vis.length ∧ Vis L.es vis ∧ vis.map (·.key) = zs.map vi ∧ e 0 = ptr L.p ∧ e 15 = ptr it ∧ State (fun _ => False) _ w' [.obj it (iterO L.bm L.cm vis), .slice (e 3) (zs.map vi)], L.es.length,
    ⟨[], [], by simp, Vis.nil _, rfl, by simp [upd_get, start_get], by simp [upd_get], st⟩, ?_⟩
  clear st hs hb he
  rintro m e w1 ⟨vis, zs, rfl, hv, hkz, g0, g15, st⟩
  simp only [g0, g15]
  have hzl : zs.length = vis.length := by have := congrArg List.length hkz; simpa using this.symm
  refine st.next (fun vis' => [.obj it (iterO L.bm L.cm vis'), .slice (e 3) (zs.map vi)]) (fun _ => .head) ((h.ext st.keeps).things) hborn hv.sub (fun en he hn w st => ?_) (fun hall w st => ?_)
  · obtain ⟨t, ht, hkey, hval⟩ := h.ent he
    obtain ⟨hv', hlt⟩ := hv.snoc hborn he hn
    (repeat (first | ((with_reducible apply ext_0)) | ((with_reducible apply cond_t); (focus (first | assumption | rfl | decide | (simp only [bne, Bool.not_eq_true', Bool.not_eq_false', Bool.not_true, Bool.not_false, Bool.not_not]; assumption)))) | (simp only [upd_get, start_get, List.getD_cons_zero, List.getD_cons_succ, Nat.reduceEqDiff, reduceIte, Nat.reduceAdd])))
    refine st.entry (.head _) ((h.ext st.keeps).things) hborn he ?_
    rw [hkey]
    (repeat (first | ((with_reducible apply ext_0))))
    refine buildL_intro (cs := [vi t.1]) (by omega) (by kernel_rfl) rfl fun b w2 he2 hb2 _ _ hs2 => ?_
    have st := st.ext he2
    refine st.append (fun s' => [.obj it (iterO L.bm L.cm (vis ++ [en])), .slice s' (zs.map vi ++ [vi t.1])]) (fun s' => .tail .head) hs2.reads (by simp [Value.oneCell']) rfl (by simp; omega) (by simp; omega) fun s' w st => ?_
    refine ⟨L.es.length - (vis ++ [en]).length, by simp; omega, vis ++ [en], zs ++ [t.1], rfl, hv', by simp [hkz, hkey], by simp [upd_get, g0], by simp [upd_get, g15], by simpa [upd_get] using st⟩
  · (repeat (first | ((with_reducible apply ext_0)) | ((with_reducible apply cond_f); (focus (first | assumption | rfl | decide | (simp only [bne, Bool.not_eq_true', Bool.not_eq_false', Bool.not_true, Bool.not_false, Bool.not_not]; assumption))))))
    have hp : zs.Perm (numsOf a) := by
      have h1 := (hv.all hborn hall).map (·.key)
      rw [hkz] at h1
      have h2 : (L.es.map (·.key)).Perm ((numsOf a).map vi) := by
        have := h.ents.map Prod.fst
        simpa [List.map_map, Function.comp_def, kv] using this
      have h3 := (h1.trans h2).map (fun v => match v with | .int _ n => n | _ => 0)
      simpa [List.map_map, Function.comp_def] using h3
    have hse := sort_eq hp (List.pairwise_map.2 h.sorted)
    refine st.sort (R' := [.obj it (iterO L.bm L.cm vis), .slice (e 3) ((zs.mergeSort fun x y => decide (x ≤ y)).map vi)]) (.tail .head) (by have := hp.length_eq; simp at this; omega) fun w st => ?_
    rw [hse] at st
    refine hk _ _ st.keeps (st.sl (.tail _ (.head _))) fun b hb => ?_
    rcases st.own b (blksOf_mem (r := .slice (e 3) ((numsOf a).map vi)) (.tail _ (.head _)) hb) with h | h
    · exact h.elim
    · exact h
end
end Go.X
