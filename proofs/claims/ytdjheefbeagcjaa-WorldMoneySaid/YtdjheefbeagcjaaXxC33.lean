/- Texts of this family, put together. -/
import Derived.Test.YtdjheefbeagcjaaXxC31
/- Drop: the fourth and the fifth look. -/
set_option linter.unusedSimpArgs false
set_option linter.unusedVariables false
set_option maxRecDepth 20000
set_option maxHeartbeats 2000000
namespace Go.X
open Go Go.AW

section
variable {S : Nat → Prop} {w0 w : World} {L : Lay} {a : AW} {R : List Res} {K : Value → World → Prop}

/-- the facets that stand when those of V have left -/
def FacsOf (a : AW) (V : List Int) (fs : List MapEntry) : Prop :=
  (fs.map kv).Perm ((a.things.filter fun t => t.2.kind == 14 && !V.contains t.1).map fun t => (fkey t.2.of t.2.set, vi t.1))

theorem FacsOf.same {V : List Int} {fs : List MapEntry} {r : Int} (h : FacsOf a V fs) (hr : ∀ t ∈ a.things, t.1 = r → t.2.kind ≠ 14) : FacsOf a (V ++ [r]) fs := by
  have : (a.things.filter fun t => t.2.kind == 14 && !(V ++ [r]).contains t.1) = a.things.filter fun t => t.2.kind == 14 && !V.contains t.1 := List.filter_congr fun t ht => by
    by_cases e : t.1 = r
    · have := hr t ht e
      have : (t.2.kind == 14) = false := by simpa using this
      rw [this]; rfl
    · simp [e]
  unfold FacsOf
  rw [this]
  exact h

theorem FacsOf.drop {V : List Int} {fs : List MapEntry} {t : Int × Wh} (h : FacsOf a V fs) (hn : (a.things.map (·.1)).Nodup) (ho : OneFacet a) (ht : t ∈ a.things) (hk : t.2.kind = 14) (hV : t.1 ∉ V) :
    ∃ j, findK (fkey t.2.of t.2.set) fs 0 = some (some (j, vi t.1)) ∧ FacsOf a (V ++ [t.1]) (fs.eraseIdx j) := by
  obtain ⟨j, h1, h2, _⟩ := leave (t := t) (p' := fun s => s.2.kind == 14 && !(V ++ [t.1]).contains s.1) h hn ht (by simp [hk, hV]) (fun s => by
    by_cases e : s.1 = t.1 <;> simp [e]) (fun s hs hp => by
    refine ⟨_, fkey_eq _ _ _ _, ?_⟩
    simp only [Bool.and_eq_true, beq_iff_eq] at hp ⊢
    exact ⟨fun h => (ho t ht s hs hk hp.1 h.1 h.2).symm, fun e => by rw [e]; exact ⟨rfl, rfl⟩⟩)
  exact ⟨j, h1, h2⟩

def Seen4 (S : Nat → Prop) (w0 : World) (L : Lay) (a : AW) (l : List Int) (es : List MapEntry) (c b5 bg it : Nat) (R : List Res) (m : Nat) (e : Env) (w : World) : Prop :=
  ∃ (vis : List MapEntry) (V : List Int) (fs : List MapEntry), m = es.length - vis.length ∧ Vis es vis ∧ e 0 = ptr L.p ∧ e 5 = ptr b5 ∧ e 115 = ptr it ∧ vis.map (·.key) = V.map vi ∧ FacsOf a V fs ∧
    State S w0 w (.obj it (iterO bg c vis) :: .map bg es c :: .cells b5 [.map (some bg)] :: mid L a fs (a.left l V) R)

theorem look_mid {r : Int} {x : Wh} {z : Value} {w1 : World} {k : Value → Prop} (h : WRep w1 L a) (st : State S w0 w R) (hm : .map L.bm L.es L.cm ∈ R) (hr : a.at r = some x) (hk : k (ptr (L.bk r))) : lookM false z (.map (some L.bm)) (vi r) false w k := by
  have hmap : mapOf w L.bm = some (L.es, L.cm) := st.holds _ hm
  obtain ⟨j, e, hf, _⟩ := h.find_some hr
  simpa [lookM, hmap, hf, foundM, keyShape] using hk

theorem nodup_map_inj {α β : Type} {f : α → β} : ∀ {l : List α}, (l.map f).Nodup → ∀ {x y : α}, x ∈ l → y ∈ l → f x = f y → x = y
  | [], _, _, _, h, _, _ => by simp at h
  | z :: l, hn, x, y, hx, hy, e => by
    simp only [List.map_cons, List.nodup_cons, List.mem_map, not_exists, not_and] at hn
    rcases List.mem_cons.1 hx with h1 | h1 <;> rcases List.mem_cons.1 hy with h2 | h2
    · rw [h1, h2]
    · exact absurd (by rw [← e, h1]) (hn.1 y h2)
    · exact absurd (by rw [e, h2]) (hn.1 x h1)
    · exact nodup_map_inj hn.2 h1 h2 e

theorem Marks.keys {es : List MapEntry} {c : Nat} {G : List Int} (h : Marks es c G) : es.map (·.key) = G.map vi := by
  have := congrArg (List.map Prod.fst) h.ents
  simpa [List.map_map, Function.comp_def, kv] using this

theorem Marks.keys_nodup {es : List MapEntry} {c : Nat} {G : List Int} (h : Marks es c G) : (es.map (·.key)).Nodup := by
  rw [h.keys]
  exact List.pairwise_map.2 (h.nodup.imp fun hab e => hab (by simpa using e))

theorem sum_worth (hs : Sound a) (V : List Int) (r : Int) : 0 ≤ (V.map (a.worth r)).sum := by
  induction V with
  | nil => simp
  | cons p V ih =>
    have : 0 ≤ a.worth r p := by
      unfold AW.worth
      split
      · rename_i y hy
        split
        · rename_i h; exact (hs.purse _ (lookup_mem hy) h.1).2.1
        · omega
      · omega
    simp only [List.map_cons, List.sum_cons]; omega

theorem drop_p4 {w1 : World} {l G : List Int} {b5 bg c : Nat} {es : List MapEntry} {q : Env} (h : WRep w1 L a) (hs : Sound a) (ho : OneFacet a) (hG : Marks es c G) (hgone : ∀ q, q ∈ G ↔ a.gone l q = true) (hall : ∀ q ∈ G, a.is q = true)
    (st : State S w0 w (.map bg es c :: .cells b5 [.map (some bg)] :: mid L a L.fs a.things R)) (g0 : q 0 = ptr L.p) (g5 : q 5 = ptr b5)
    (hgood : ∀ q w fs V, q 0 = ptr L.p → q 5 = ptr b5 → V.Perm G → FacsOf a V fs → State S w0 w (.map bg es c :: .cells b5 [.map (some bg)] :: mid L a fs (a.left l V) R) → F_World_Drop_s20 q w K) : F_World_Drop_s22 q w K := by
  simp only [F_World_Drop_s22, g5]
  (repeat (first | ((with_reducible apply State.load1 st); (focus ((repeat (first | exact List.Mem.head _ | assumption | refine List.Mem.tail _ ?_)); done)); (focus rfl))))
  refine st.range (st.holds (.map bg es c) (.head _)) fun it w st => ?_
  refine ⟨Seen4 S w0 L a l es c b5 bg it R, es.length, ⟨[], [], L.fs, by simp, .nil _, by simp [upd_get, g0], by simp [upd_get, g5], by simp [upd_get], rfl, by simpa [FacsOf] using h.facs, by rw [left_nil hs]; exact st⟩, ?_⟩
  clear st g0 g5
  rintro m e w ⟨vis, V, fs, rfl, hv, g0, g5, g115, hV, hF, st⟩
  have hn : (a.things.map (·.1)).Nodup := List.Pairwise.imp (fun h => by omega) (List.pairwise_map.2 h.sorted)
  simp only [F_World_Drop_s21, g115]
  refine State.next (fun vis' => .obj it (iterO bg c vis') :: .map bg es c :: .cells b5 [.map (some bg)] :: mid L a fs (a.left l V) R) st (fun _ => .head) (st.holds (.map bg es c) (.tail _ (.head _))) hG.born hv.sub (fun x hxm hnv w st => ?_) fun hall w st => ?_
  · obtain ⟨r, hr, hkey, hval⟩ := hG.ent hxm
    have his := hall r hr
    have hg : a.gone l r = true := (hgone r).1 hr
    obtain ⟨y, hat⟩ := Option.isSome_iff_exists.1 his
    have hmem : (r, y) ∈ a.things := lookup_mem hat
    have hrV : r ∉ V := fun hin => by
      have : vi r ∈ vis.map (·.key) := by rw [hV]; exact List.mem_map_of_mem hin
      obtain ⟨z, hz, hzk⟩ := List.mem_map.1 this
      have := nodup_map_inj hG.keys_nodup (hv.sub z hz) hxm (hzk.trans hkey.symm)
      exact hnv (this ▸ hz)
    obtain ⟨hv', hlen⟩ := hv.snoc hG.born hxm hnv
    have hV' : (vis ++ [x]).map (·.key) = (V ++ [r]).map vi := by simp [hV, hkey]
    have hcell : Res.cells (L.bk r) (whCells y) ∈ things L (a.left l V) ++ R := by
      have := mem_things (L := L) (R := R) (l := l) (V := V) hat
      rwa [after_gone hg] at this
    simp only [F_World_Drop_s17]
    (repeat (first | ((with_reducible apply ext_0)) | ((with_reducible apply cond_t); (focus (first | assumption | rfl | decide | (simp only [bne, Bool.not_eq_true', Bool.not_eq_false', Bool.not_true, Bool.not_false, Bool.not_not]; assumption)))) | (rewrite [g115]) | (simp only [upd_get, start_get, List.getD_cons_zero, List.getD_cons_succ, Nat.reduceEqDiff, reduceIte, Nat.reduceAdd])))
    refine st.entry (vis := vis) (e := x) (.head _) (st.holds (.map bg es c) (.tail _ (.head _))) hG.born hxm ?_
    rw [hkey, hval]
    have done : ∀ {fs' : List MapEntry} {ts' : List (Int × Wh)} {e : Env} {w : World}, e 0 = ptr L.p → e 5 = ptr b5 → e 115 = ptr it → FacsOf a (V ++ [r]) fs' → a.left l (V ++ [r]) = ts' →
        State S w0 w (.obj it (iterO bg c (vis ++ [x])) :: .map bg es c :: .cells b5 [.map (some bg)] :: mid L a fs' ts' R) → ∃ m', m' < es.length - vis.length ∧ Seen4 S w0 L a l es c b5 bg it R m' e w := by
      intro fs' ts' e w g0 g5 g115 hF ht st
      subst ht
      exact ⟨es.length - (vis ++ [x]).length, by simp; omega, vis ++ [x], V ++ [r], fs', rfl, hv', g0, g5, g115, hV', hF, st⟩
    unfold mid at st
    have same : y.kind ≠ 9 → y.kind ≠ 15 → a.left l (V ++ [r]) = a.left l V := fun h9 h15 => left_snoc_same fun t ht hgt => ⟨worth_facet hat h9, turned_no hat h15⟩
    (repeat (first | ((with_reducible apply field_0)) | ((with_reducible apply field_at)) | ((with_reducible apply eql_at)) | ((with_reducible apply nil_ptr)) | ((with_reducible apply ext_0)) | ((with_reducible apply State.load1 st); (focus ((repeat (first | exact List.Mem.head _ | assumption | refine List.Mem.tail _ ?_)); done)); (focus rfl)) | (rewrite [g0]) | ((with_reducible apply look_mid h st); (focus ((repeat (first | exact List.Mem.head _ | assumption | refine List.Mem.tail _ ?_)); done)); (focus assumption)) | (simp only [upd_get, start_get, List.getD_cons_zero, List.getD_cons_succ, Nat.reduceEqDiff, reduceIte, Nat.reduceAdd])))
    by_cases k14 : y.kind = 14
    · have q14 : (y.kind == 14) = true := by simpa using k14
      obtain ⟨j, hj, hF'⟩ := hF.drop hn ho hmem k14 hrV
      simp only [F_World_Drop_s9]
      (repeat (first | ((with_reducible apply field_at)) | ((with_reducible apply nil_ptr)) | ((with_reducible apply State.load1 st); (focus ((repeat (first | exact List.Mem.head _ | assumption | refine List.Mem.tail _ ?_)); done)); (focus rfl)) | ((with_reducible apply cond_t); (focus (first | assumption | rfl | decide | (simp only [bne, Bool.not_eq_true', Bool.not_eq_false', Bool.not_true, Bool.not_false, Bool.not_not]; assumption)))) | (rewrite [g0]) | (simp only [upd_get, start_get, List.getD_cons_zero, List.getD_cons_succ, Nat.reduceEqDiff, reduceIte, Nat.reduceAdd]) | ((with_reducible apply State.atDrew st); intro w st)))
      refine build_agg [vi y.of, vb y.set] (by kernel_rfl) ?_
      refine State.delAt st (.tail (.tail (.tail (.tail (.tail .head))))) rfl hj fun w st => ?_
      refine done ?_ ?_ ?_ hF' (same (by omega) (by omega)) st
      all_goals simp only [upd_get, Nat.reduceEqDiff, if_false, g0, g5, g115]
    have hFs := hF.same (r := r) fun t ht e => by
      have := h.at_mem ht
      rw [e, hat] at this
      rw [← Option.some.inj this]; exact k14
    have q14 : (y.kind == 14) = false := by simpa using k14
    by_cases k9 : y.kind = 9
    · have q9 : (y.kind == 9) = true := by simpa using k9
      obtain ⟨⟨m, hm, hmk⟩, hn0, hn1⟩ := hs.purse _ hmem k9
      simp only [F_World_Drop_s16, F_World_Drop_s12]
      (repeat (first | ((with_reducible apply field_at)) | ((with_reducible apply eql_at)) | ((with_reducible apply nil_ptr)) | ((with_reducible apply State.load1 st); (focus ((repeat (first | exact List.Mem.head _ | assumption | refine List.Mem.tail _ ?_)); done)); (focus rfl)) | ((with_reducible apply cond_t); (focus (first | assumption | rfl | decide | (simp only [bne, Bool.not_eq_true', Bool.not_eq_false', Bool.not_true, Bool.not_false, Bool.not_not]; assumption)))) | ((with_reducible apply cond_f); (focus (first | assumption | rfl | decide | (simp only [bne, Bool.not_eq_true', Bool.not_eq_false', Bool.not_true, Bool.not_false, Bool.not_not]; assumption)))) | (rewrite [g0]) | (rewrite [g5]) | ((with_reducible apply look_mid h st); (focus ((repeat (first | exact List.Mem.head _ | assumption | refine List.Mem.tail _ ?_)); done)); (focus assumption)) | ((with_reducible apply State.markLook st); (focus ((repeat (first | exact List.Mem.head _ | assumption | refine List.Mem.tail _ ?_)); done)); (focus assumption)) | (simp only [upd_get, start_get, List.getD_cons_zero, List.getD_cons_succ, Nat.reduceEqDiff, reduceIte, Nat.reduceAdd]) | ((with_reducible apply State.atDrew st); intro w st)))
      have hc2 := mem_things (L := L) (R := R) (l := l) (V := V) hm
      by_cases hin : y.of ∈ G
      · have c1 : ((if y.of ∈ G then 1 else 0 : Int) == 0) = false := by rw [if_pos hin]; rfl
        (repeat (first | ((with_reducible apply cond_f); (focus (first | assumption | rfl | decide | (simp only [bne, Bool.not_eq_true', Bool.not_eq_false', Bool.not_true, Bool.not_false, Bool.not_not]; assumption))))))
        refine done ?_ ?_ ?_ hFs (left_snoc_same fun t ht hgt => ⟨?_, turned_no hat (by omega)⟩) st
        all_goals first | (simp only [upd_get, Nat.reduceEqDiff, if_false, g0, g5, g115]; done) | skip
        simp only [AW.worth, hat]
        refine if_neg fun h => ?_
        rw [← h.2, (hgone _).1 hin] at hgt
        simp at hgt
      · have c1 : ((if y.of ∈ G then 1 else 0 : Int) == 0) = true := by rw [if_neg hin]; rfl
        have hsum := sum_worth hs V y.of
        have hlost : (a.after l V y.of m).lost = min m.n (m.lost + (V.map (a.worth y.of)).sum) := by
          unfold AW.after
          rw [if_neg (fun h => hin ((hgone _).2 h)), if_pos hmk]
        obtain ⟨m1, m2, m3⟩ := hs.mint _ (lookup_mem hm) hmk
        have hb : 0 ≤ (a.after l V y.of m).lost ∧ (a.after l V y.of m).lost ≤ 9007199254740992 := by rw [hlost]; simp only at m1 m2 m3; omega
        have hn' : (a.after l V y.of m).n = m.n := after_n _ _ _ _ _
        simp only at hn0 hn1
        simp only [F_World_Drop_s11, F_World_Drop_s10]
        (repeat (first | ((with_reducible apply field_at)) | ((with_reducible apply nil_ptr)) | ((with_reducible apply State.load1 st); (focus ((repeat (first | exact List.Mem.head _ | assumption | refine List.Mem.tail _ ?_)); done)); (focus rfl)) | ((with_reducible apply cond_t); (focus (first | assumption | rfl | decide | (simp only [bne, Bool.not_eq_true', Bool.not_eq_false', Bool.not_true, Bool.not_false, Bool.not_not]; assumption)))) | ((with_reducible apply add_at); (focus omega); (focus omega)) | (simp only [upd_get, start_get, List.getD_cons_zero, List.getD_cons_succ, Nat.reduceEqDiff, reduceIte, Nat.reduceAdd]) | ((with_reducible apply State.atDrew st); intro w st)))
        unfold minK
        (repeat (first | ((with_reducible apply field_at)) | ((with_reducible apply nil_ptr)) | (simp only [upd_get, start_get, List.getD_cons_zero, List.getD_cons_succ, Nat.reduceEqDiff, reduceIte, Nat.reduceAdd])))
        have hv : (if (a.after l V y.of m).lost + y.n < (a.after l V y.of m).n then (a.after l V y.of m).lost + y.n else (a.after l V y.of m).n) = min m.n (m.lost + ((V ++ [r]).map (a.worth y.of)).sum) := by
          have : a.worth y.of r = y.n := by simp [AW.worth, hat, k9]
          rw [hn', hlost, List.map_append, List.sum_append]
          simp only [List.map_cons, List.map_nil, List.sum_cons, List.sum_nil, this]
          simp only at m1 m2 m3
          split <;> omega
        rw [hv]
        have hsub : Sub (.cells (L.bk y.of) (whCells (a.after l V y.of m))) (.cells (L.bk y.of) ((whCells (a.after l V y.of m)).set 9 (vi (min m.n (m.lost + ((V ++ [r]).map (a.worth y.of)).sum))))) (things L (a.left l V) ++ R)
            (things L ((a.left l V).map fun t => if t.1 = y.of then (y.of, { a.after l V y.of m with lost := min m.n (m.lost + ((V ++ [r]).map (a.worth y.of)).sum) }) else t) ++ R) :=
          things_sub (L := L) (R := R) (r := y.of) (ts := a.left l V) (y := { a.after l V y.of m with lost := min m.n (m.lost + ((V ++ [r]).map (a.worth y.of)).sum) }) (lookup_left hm) (left_fst a l V ▸ hn)
        refine State.store1 st (.tail (.tail (.tail (.tail (.tail (.tail (.tail (.tail (.tail hsub))))))))) (by simp [whCells]) rfl fun w st => ?_
        refine done ?_ ?_ ?_ hFs (left_snoc (fun t ht e => ?_) fun t ht hne => ⟨?_, turned_no hat (by omega)⟩) st
        all_goals first | (simp only [upd_get, Nat.reduceEqDiff, if_false, g0, g5, g115]; done) | skip
        · have ht2 : t.2 = m := by
            have := h.at_mem ht
            rw [e, hm] at this
            exact (Option.some.inj this).symm
          rw [ht2]
          unfold AW.after
          simp only [if_neg (fun h => hin ((hgone _).2 h)), if_pos hmk]
        · simp only [AW.worth, hat]
          exact if_neg fun h => hne h.2.symm
    have q9 : (y.kind == 9) = false := by simpa using k9
    by_cases k15 : y.kind = 15
    · have q15 : (y.kind == 15) = true := by simpa using k15
      obtain ⟨s, hss, hsk⟩ := hs.gate _ hmem k15
      simp only [F_World_Drop_s16, F_World_Drop_s15, F_World_Drop_s14]
      (repeat (first | ((with_reducible apply field_at)) | ((with_reducible apply eql_at)) | ((with_reducible apply nil_ptr)) | ((with_reducible apply State.load1 st); (focus ((repeat (first | exact List.Mem.head _ | assumption | refine List.Mem.tail _ ?_)); done)); (focus rfl)) | ((with_reducible apply cond_t); (focus (first | assumption | rfl | decide | (simp only [bne, Bool.not_eq_true', Bool.not_eq_false', Bool.not_true, Bool.not_false, Bool.not_not]; assumption)))) | ((with_reducible apply cond_f); (focus (first | assumption | rfl | decide | (simp only [bne, Bool.not_eq_true', Bool.not_eq_false', Bool.not_true, Bool.not_false, Bool.not_not]; assumption)))) | (rewrite [g5]) | ((with_reducible apply State.markLook st); (focus ((repeat (first | exact List.Mem.head _ | assumption | refine List.Mem.tail _ ?_)); done)); (focus assumption)) | (simp only [upd_get, start_get, List.getD_cons_zero, List.getD_cons_succ, Nat.reduceEqDiff, reduceIte, Nat.reduceAdd]) | ((with_reducible apply State.atDrew st); intro w st)))
      have hc2 := mem_things (L := L) (R := R) (l := l) (V := V) hss
      by_cases hin : y.by_ ∈ G
      · have c1 : ((if y.by_ ∈ G then 1 else 0 : Int) == 0) = false := by rw [if_pos hin]; rfl
        (repeat (first | ((with_reducible apply cond_f); (focus (first | assumption | rfl | decide | (simp only [bne, Bool.not_eq_true', Bool.not_eq_false', Bool.not_true, Bool.not_false, Bool.not_not]; assumption))))))
        refine done ?_ ?_ ?_ hFs (left_snoc_same fun t ht hgt => ⟨worth_facet hat k9, ?_⟩) st
        all_goals first | (simp only [upd_get, Nat.reduceEqDiff, if_false, g0, g5, g115]; done) | skip
        simp only [AW.turned, hat, k15]
        have : y.by_ ≠ t.1 := fun h => by
          rw [← h, (hgone _).1 hin] at hgt
          simp at hgt
        simpa using this
      · have c1 : ((if y.by_ ∈ G then 1 else 0 : Int) == 0) = true := by rw [if_neg hin]; rfl
        simp only [F_World_Drop_s13]
        (repeat (first | ((with_reducible apply field_at)) | ((with_reducible apply nil_ptr)) | ((with_reducible apply State.load1 st); (focus ((repeat (first | exact List.Mem.head _ | assumption | refine List.Mem.tail _ ?_)); done)); (focus rfl)) | ((with_reducible apply cond_t); (focus (first | assumption | rfl | decide | (simp only [bne, Bool.not_eq_true', Bool.not_eq_false', Bool.not_true, Bool.not_false, Bool.not_not]; assumption)))) | (rewrite [g0]) | ((with_reducible apply look_mid h st); (focus ((repeat (first | exact List.Mem.head _ | assumption | refine List.Mem.tail _ ?_)); done)); (focus assumption)) | (simp only [upd_get, start_get, List.getD_cons_zero, List.getD_cons_succ, Nat.reduceEqDiff, reduceIte, Nat.reduceAdd]) | ((with_reducible apply State.atDrew st); intro w st)))
        have hsub : Sub (.cells (L.bk y.by_) (whCells (a.after l V y.by_ s))) (.cells (L.bk y.by_) ((whCells (a.after l V y.by_ s)).set 10 (vi 0))) (things L (a.left l V) ++ R) (things L ((a.left l V).map fun t => if t.1 = y.by_ then (y.by_, { a.after l V y.by_ s with of := 0 }) else t) ++ R) :=
          things_sub (L := L) (R := R) (r := y.by_) (ts := a.left l V) (y := { a.after l V y.by_ s with of := 0 }) (lookup_left hss) (left_fst a l V ▸ hn)
        refine State.store1 st (.tail (.tail (.tail (.tail (.tail (.tail (.tail (.tail (.tail hsub))))))))) (by simp [whCells]) rfl fun w st => ?_
        refine done ?_ ?_ ?_ hFs (left_snoc (fun t ht e => ?_) fun t ht hne => ⟨worth_facet hat k9, ?_⟩) st
        all_goals first | (simp only [upd_get, Nat.reduceEqDiff, if_false, g0, g5, g115]; done) | skip
        · have ht2 : t.2 = s := by
            have := h.at_mem ht
            rw [e, hss] at this
            exact (Option.some.inj this).symm
          have ht : a.turned y.by_ r = true := by simp [AW.turned, hat, k15]
          rw [ht2]
          unfold AW.after
          simp only [if_neg (fun h => hin ((hgone _).2 h)), if_neg (show ¬ s.kind = 8 by omega), List.any_append, List.any_cons, ht, Bool.true_or, Bool.or_true, if_true]
          split <;> rfl
        · simp only [AW.turned, hat, k15]
          have : y.by_ ≠ t.1 := fun h => hne h.symm
          simpa using this
    have q15 : (y.kind == 15) = false := by simpa using k15
    simp only [F_World_Drop_s16, F_World_Drop_s15]
    (repeat (first | ((with_reducible apply eql_at)) | ((with_reducible apply cond_f); (focus (first | assumption | rfl | decide | (simp only [bne, Bool.not_eq_true', Bool.not_eq_false', Bool.not_true, Bool.not_false, Bool.not_not]; assumption))))))
    refine done ?_ ?_ ?_ hFs (same k9 k15) st
    all_goals simp only [upd_get, Nat.reduceEqDiff, if_false, g0, g5, g115]
  · have hVG : V.Perm G := perm_vi (by rw [← hV, ← hG.keys]; exact (hv.perm hG.born hall).map _)
    (repeat (first | ((with_reducible apply ext_0)) | ((with_reducible apply cond_f); (focus (first | assumption | rfl | decide | (simp only [bne, Bool.not_eq_true', Bool.not_eq_false', Bool.not_true, Bool.not_false, Bool.not_not]; assumption)))) | ((with_reducible (conv => whnf)); (simp only [upd_get, start_get, List.getD_cons_zero, List.getD_cons_succ, Nat.reduceEqDiff, reduceIte, Nat.reduceAdd]))))
    exact hgood (upd (upd e 116 (.tuple #[.bool false])) 117 (.bool false)) _ fs V (by simp [upd_get, g0]) (by simp [upd_get, g5]) hVG hF (show State S w0 w (.obj it (iterO bg c vis) :: .map bg es c :: .cells b5 [.map (some bg)] :: mid L a fs (a.left l V) R) from st).drop1
end
end Go.X
/- Drop: the fifth look; the contract of Drop. -/
set_option linter.unusedSimpArgs false
set_option linter.unusedVariables false
set_option maxRecDepth 20000
set_option maxHeartbeats 2000000
namespace Go.AW
def AW.goneL (a : AW) (l : List Int) : List Int := (a.things.map (·.1)).filter (a.gone l)
/-- what is left when those of l are dropped -/
def AW.drop (a : AW) (l : List Int) : AW := { a with things := (a.left l (a.goneL l)).filter fun t => !a.gone l t.1 }

theorem perm_sum {l m : List Int} (h : l.Perm m) : l.sum = m.sum := by
  induction h with
  | nil => rfl
  | cons x _ ih => simp [ih]
  | swap x y l => simp only [List.sum_cons]; omega
  | trans _ _ h1 h2 => rw [h1, h2]
theorem after_perm {a : AW} {l V V' : List Int} (h : V.Perm V') (r : Int) (x : Wh) : a.after l V r x = a.after l V' r x := by
  unfold AW.after
  rw [perm_sum (h.map (a.worth r)), h.any_eq]
theorem left_perm {a : AW} {l V V' : List Int} (h : V.Perm V') : a.left l V = a.left l V' := by
  unfold AW.left
  exact List.map_congr_left fun t _ => by rw [after_perm h]
theorem turned_facet {a : AW} (hs : Sound a) {r g : Int} {x : Wh} (h : a.at r = some x) (hk : x.kind = 14) : a.turned r g = false := by
  unfold AW.turned
  split
  · rename_i y hy
    cases e : (y.kind == 15 && y.by_ == r) with
    | false => rfl
    | true =>
      simp only [Bool.and_eq_true, beq_iff_eq] at e
      obtain ⟨s, h1, h2⟩ := hs.gate _ (Go.X.lookup_mem hy) e.1
      simp only [e.2, h] at h1
      rw [← Option.some.inj h1] at h2
      omega
  · rfl
theorem after_facet {a : AW} (hs : Sound a) {l V : List Int} {r : Int} {x : Wh} (h : a.at r = some x) (hk : x.kind = 14) : a.after l V r x = x := by
  unfold AW.after
  split
  · rfl
  · rw [if_neg (by omega), if_neg]
    rw [List.any_eq_true]
    rintro ⟨g, _, hg⟩
    rw [turned_facet hs h hk] at hg; simp at hg
end Go.AW
namespace Go.X
open Go Go.AW

section
variable {S : Nat → Prop} {w0 w : World} {L : Lay} {a : AW} {R : List Res} {K : Value → World → Prop}

/-- the things that stand when those of V have left -/
structure EntsOf (L : Lay) (a : AW) (V : List Int) (es : List MapEntry) : Prop where
  perm : (es.map kv).Perm ((a.things.filter fun t => !V.contains t.1).map fun t => (vi t.1, ptr (L.bk t.1)))
  sub : es.Sublist L.es

theorem EntsOf.drop {V : List Int} {es : List MapEntry} {t : Int × Wh} (h : EntsOf L a V es) (hn : (a.things.map (·.1)).Nodup) (ht : t ∈ a.things) (hV : t.1 ∉ V) :
    ∃ j, findK (vi t.1) es 0 = some (some (j, ptr (L.bk t.1))) ∧ EntsOf L a (V ++ [t.1]) (es.eraseIdx j) := by
  obtain ⟨j, h1, h2, _⟩ := leave (t := t) (p' := fun s => !(V ++ [t.1]).contains s.1) h.perm hn ht (by simp [hV]) (fun s => by
    by_cases e : s.1 = t.1 <;> simp [e]) (fun s hs hp => by
    refine ⟨_, keyEq_vi _ _, ?_⟩
    simp only [beq_iff_eq]
    exact ⟨fun e => (nodup_map_inj hn ht hs e).symm, fun e => by rw [e]⟩)
  exact ⟨j, h1, h2, (List.eraseIdx_sublist _ _).trans h.sub⟩

def Seen5 (S : Nat → Prop) (w0 : World) (L : Lay) (a : AW) (fs : List MapEntry) (ts : List (Int × Wh)) (es : List MapEntry) (c b5 bg it : Nat) (R : List Res) (m : Nat) (e : Env) (w : World) : Prop :=
  ∃ (vis : List MapEntry) (V : List Int) (es' : List MapEntry), m = es.length - vis.length ∧ Vis es vis ∧ e 0 = ptr L.p ∧ e 5 = ptr b5 ∧ e 201 = ptr it ∧ vis.map (·.key) = V.map vi ∧ EntsOf L a V es' ∧
    State S w0 w (.obj it (iterO bg c vis) :: .map bg es c :: .cells b5 [.map (some bg)] :: mid { L with es := es' } a fs ts R)

theorem drop_p5 {w1 : World} {G : List Int} {b5 bg c : Nat} {es fs : List MapEntry} {ts : List (Int × Wh)} {q : Env} (h : WRep w1 L a) (hG : Marks es c G) (hall : ∀ q ∈ G, a.is q = true)
    (st : State S w0 w (.map bg es c :: .cells b5 [.map (some bg)] :: mid L a fs ts R)) (g0 : q 0 = ptr L.p) (g5 : q 5 = ptr b5)
    (hgood : ∀ w es' V, V.Perm G → EntsOf L a V es' → State S w0 w (mid { L with es := es' } a fs ts R) → K (vi 0) w) : F_World_Drop_s20 q w K := by
  simp only [F_World_Drop_s20, g5]
  (repeat (first | ((with_reducible apply State.load1 st); (focus ((repeat (first | exact List.Mem.head _ | assumption | refine List.Mem.tail _ ?_)); done)); (focus rfl))))
  refine st.range (st.holds (.map bg es c) (.head _)) fun it w st => ?_
  refine ⟨Seen5 S w0 L a fs ts es c b5 bg it R, es.length, ⟨[], [], L.es, by simp, .nil _, by simp [upd_get, g0], by simp [upd_get, g5], by simp [upd_get], rfl, ⟨by rw [List.filter_eq_self.2 (by simp)]; exact h.ents, .refl _⟩, st⟩, ?_⟩
  clear st g0 g5
  rintro m e w ⟨vis, V, es', rfl, hv, g0, g5, g201, hV, hE, st⟩
  have hn : (a.things.map (·.1)).Nodup := List.Pairwise.imp (fun h => by omega) (List.pairwise_map.2 h.sorted)
  simp only [F_World_Drop_s19, g201]
  refine State.next (fun vis' => .obj it (iterO bg c vis') :: .map bg es c :: .cells b5 [.map (some bg)] :: mid { L with es := es' } a fs ts R) st (fun _ => .head) (st.holds (.map bg es c) (.tail _ (.head _))) hG.born hv.sub (fun x hxm hnv w st => ?_) fun hall w st => ?_
  · obtain ⟨r, hr, hkey, hval⟩ := hG.ent hxm
    obtain ⟨y, hat⟩ := Option.isSome_iff_exists.1 (hall r hr)
    have hmem : (r, y) ∈ a.things := lookup_mem hat
    have hrV : r ∉ V := fun hin => by
      have : vi r ∈ vis.map (·.key) := by rw [hV]; exact List.mem_map_of_mem hin
      obtain ⟨z, hz, hzk⟩ := List.mem_map.1 this
      have := nodup_map_inj hG.keys_nodup (hv.sub z hz) hxm (hzk.trans hkey.symm)
      exact hnv (this ▸ hz)
    obtain ⟨hv', hlen⟩ := hv.snoc hG.born hxm hnv
    have hV' : (vis ++ [x]).map (·.key) = (V ++ [r]).map vi := by simp [hV, hkey]
    obtain ⟨j, hj, hE'⟩ := hE.drop hn hmem hrV
    simp only [F_World_Drop_s18]
    (repeat (first | ((with_reducible apply ext_0)) | ((with_reducible apply cond_t); (focus (first | assumption | rfl | decide | (simp only [bne, Bool.not_eq_true', Bool.not_eq_false', Bool.not_true, Bool.not_false, Bool.not_not]; assumption)))) | (rewrite [g201]) | (simp only [upd_get, start_get, List.getD_cons_zero, List.getD_cons_succ, Nat.reduceEqDiff, reduceIte, Nat.reduceAdd])))
    refine st.entry (vis := vis) (e := x) (.head _) (st.holds (.map bg es c) (.tail _ (.head _))) hG.born hxm ?_
    rw [hkey, hval]
    unfold mid at st
    (repeat (first | ((with_reducible apply field_at)) | ((with_reducible apply nil_ptr)) | ((with_reducible apply ext_0)) | ((with_reducible apply State.load1 st); (focus ((repeat (first | exact List.Mem.head _ | assumption | refine List.Mem.tail _ ?_)); done)); (focus rfl)) | (rewrite [g0]) | (simp only [upd_get, start_get, List.getD_cons_zero, List.getD_cons_succ, Nat.reduceEqDiff, reduceIte, Nat.reduceAdd])))
    refine State.delAt st (.tail (.tail (.tail (.tail .head)))) rfl hj fun w st => ?_
    refine ⟨es.length - (vis ++ [x]).length, by simp; omega, vis ++ [x], V ++ [r], es'.eraseIdx j, rfl, hv', ?_, ?_, ?_, hV', hE', st⟩
    all_goals simp only [upd_get, Nat.reduceEqDiff, if_false, g0, g5, g201]
  · have hVG : V.Perm G := perm_vi (by rw [← hV, ← hG.keys]; exact (hv.perm hG.born hall).map _)
    (repeat (first | ((with_reducible apply ext_0)) | ((with_reducible apply cond_f); (focus (first | assumption | rfl | decide | (simp only [bne, Bool.not_eq_true', Bool.not_eq_false', Bool.not_true, Bool.not_false, Bool.not_not]; assumption))))))
    exact hgood _ es' V hVG hE (show State S w0 w (.obj it (iterO bg c vis) :: .map bg es c :: .cells b5 [.map (some bg)] :: mid { L with es := es' } a fs ts R) from st).drop1.drop1.drop1

theorem goneL_perm {l G : List Int} {V : List Int} (hn : (a.things.map (·.1)).Nodup) (hG : G.Nodup) (hgone : ∀ q, q ∈ G ↔ a.gone l q = true) (hall : ∀ q ∈ G, a.is q = true) (hV : V.Perm G) : V.Perm (a.goneL l) := by
  refine hV.trans ((List.perm_ext_iff_of_nodup hG (hn.filter _)).2 fun q => ?_)
  rw [List.mem_filter, hgone]
  refine ⟨fun h => ⟨?_, h⟩, (·.2)⟩
  obtain ⟨y, hat⟩ := Option.isSome_iff_exists.1 (hall q ((hgone q).2 h))
  exact List.mem_map_of_mem (f := (·.1)) (lookup_mem hat)

theorem drop_things (l V : List Int) : (a.left l V).filter (fun t => !a.gone l t.1) = (a.things.filter fun t => !a.gone l t.1).map fun t => (t.1, a.after l V t.1 t.2) := by
  unfold AW.left
  rw [List.filter_map]; rfl

theorem drop_fit {w1 : World} {l G V : List Int} {es fs : List MapEntry} (h : WRep w1 L a) (hs : Sound a) (hgone : ∀ q, q ∈ G ↔ a.gone l q = true) (hG : G.Nodup) (hall : ∀ q ∈ G, a.is q = true) (hV : V.Perm G) (hF : FacsOf a V fs) {V' : List Int} (hV' : V'.Perm G) (hE : EntsOf L a V' es) :
    Fit { L with es := es, fs := fs } (a.drop l) := by
  have hn : (a.things.map (·.1)).Nodup := List.Pairwise.imp (fun h => by omega) (List.pairwise_map.2 h.sorted)
  have hc : ∀ {W : List Int}, W.Perm G → ∀ q, W.contains q = a.gone l q := fun hW q => by
    rw [Bool.eq_iff_iff, ← hgone, ← hW.mem_iff]; simp
  have hth : (a.drop l).things = (a.things.filter fun t => !a.gone l t.1).map fun t => (t.1, a.after l (a.goneL l) t.1 t.2) := drop_things l _
  refine ⟨?_, ?_, ⟨?_, ?_⟩, ?_, h.len1, h.len2, h.len3, ?_, h.low, h.high⟩
  · rw [hth, List.map_map]
    have := hE.perm
    simp only [hc hV'] at this
    exact this
  · rw [hth, List.filter_map, List.map_map, List.filter_filter]
    have := hF
    simp only [FacsOf, hc hV] at this
    refine this.trans (.of_eq ?_)
    have e1 : (a.things.filter fun t => ((fun t : Int × Wh => t.2.kind == 14) ∘ fun t : Int × Wh => (t.1, a.after l (a.goneL l) t.1 t.2)) t && !a.gone l t.1) = a.things.filter fun t => t.2.kind == 14 && !a.gone l t.1 := List.filter_congr fun t _ => by
      simp only [Function.comp, after_kind]
    rw [e1]
    refine List.map_congr_left fun t ht => ?_
    obtain ⟨h1, h2⟩ := List.mem_filter.1 ht
    simp only [Bool.and_eq_true, beq_iff_eq] at h2
    simp only [Function.comp, after_facet hs (h.at_mem h1) h2.1]
  · exact h.born.1.sublist (hE.sub.map _)
  · exact fun e he => h.born.2 e (hE.sub.subset he)
  · rw [hth]
    refine List.pairwise_map.2 ?_
    exact (h.sorted.filter _).imp id
  · intro t ht
    rw [hth] at ht
    obtain ⟨s, hs', rfl⟩ := List.mem_map.1 ht
    exact h.nums s (List.mem_filter.1 hs').1
end
end Go.X
