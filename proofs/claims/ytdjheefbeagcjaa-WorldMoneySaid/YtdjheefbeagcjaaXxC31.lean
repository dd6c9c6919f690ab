/- Texts of this family, put together. -/
import Derived.Test.YtdjheefbeagcjaaXxC29
/- Drop: what is left of the things that stay; facets leave their table. -/
set_option linter.unusedSimpArgs false
set_option linter.unusedVariables false
set_option maxRecDepth 20000
set_option maxHeartbeats 2000000
namespace Go.AW
/-- what p, a purse of r, has -/
def AW.worth (a : AW) (r p : Int) : Int := match a.at p with | some y => if y.kind = 9 ∧ y.of = r then y.n else 0 | none => 0
/-- is g a gate that r turns? -/
def AW.turned (a : AW) (r g : Int) : Bool := match a.at g with | some y => y.kind == 15 && y.by_ == r | none => false
/-- what is left of a thing when those of V have gone -/
def AW.after (a : AW) (l V : List Int) (r : Int) (x : Wh) : Wh :=
  if a.gone l r = true then x
  else if x.kind = 8 then { x with lost := min x.n (x.lost + (V.map (a.worth r)).sum) }
  else if V.any (a.turned r) = true then { x with of := 0 } else x
def AW.left (a : AW) (l V : List Int) : List (Int × Wh) := a.things.map fun t => (t.1, a.after l V t.1 t.2)
/-- money and gates are in order -/
structure Sound (a : AW) : Prop where
  purse : ∀ t ∈ a.things, t.2.kind = 9 → (∃ m, a.at t.2.of = some m ∧ m.kind = 8) ∧ 0 ≤ t.2.n ∧ t.2.n ≤ 9007199254740992
  mint : ∀ t ∈ a.things, t.2.kind = 8 → 0 ≤ t.2.lost ∧ t.2.lost ≤ t.2.n ∧ t.2.n ≤ 9007199254740992
  gate : ∀ t ∈ a.things, t.2.kind = 15 → ∃ s, a.at t.2.by_ = some s ∧ s.kind = 13

theorem after_kind (a : AW) (l V : List Int) (r : Int) (x : Wh) : (a.after l V r x).kind = x.kind := by
  unfold AW.after; split; · rfl
  split; · rfl
  split <;> rfl
theorem after_n (a : AW) (l V : List Int) (r : Int) (x : Wh) : (a.after l V r x).n = x.n := by
  unfold AW.after; split; · rfl
  split; · rfl
  split <;> rfl
theorem after_gone {a : AW} {l : List Int} {r : Int} (h : a.gone l r = true) (V : List Int) (x : Wh) : a.after l V r x = x := if_pos h
theorem after_nil {a : AW} (hs : Sound a) {l : List Int} {t : Int × Wh} (ht : t ∈ a.things) : a.after l [] t.1 t.2 = t.2 := by
  unfold AW.after
  split
  · rfl
  split
  · rename_i h
    obtain ⟨h1, h2, _⟩ := hs.mint t ht h
    have : min t.2.n (t.2.lost + (([] : List Int).map (a.worth t.1)).sum) = t.2.lost := by simp; omega
    rw [this]
  · rfl
theorem left_nil {a : AW} (hs : Sound a) (l : List Int) : a.left l [] = a.things := by
  unfold AW.left
  conv => rhs; rw [← List.map_id a.things]
  exact List.map_congr_left fun t ht => by rw [after_nil hs ht]; rfl
theorem after_snoc_same {a : AW} {l V : List Int} {r q : Int} {x : Wh} (h1 : a.worth q r = 0) (h2 : a.turned q r = false) : a.after l (V ++ [r]) q x = a.after l V q x := by
  unfold AW.after
  have e1 : ((V ++ [r]).map (a.worth q)).sum = (V.map (a.worth q)).sum := by simp [h1]
  have e2 : (V ++ [r]).any (a.turned q) = V.any (a.turned q) := by simp [h2]
  rw [e1, e2]
theorem left_snoc_same {a : AW} {l V : List Int} {r : Int} (h : ∀ t ∈ a.things, a.gone l t.1 = false → a.worth t.1 r = 0 ∧ a.turned t.1 r = false) : a.left l (V ++ [r]) = a.left l V := by
  unfold AW.left
  refine List.map_congr_left fun t ht => ?_
  cases hg : a.gone l t.1 with
  | true => rw [after_gone hg, after_gone hg]
  | false => rw [after_snoc_same (h t ht hg).1 (h t ht hg).2]
theorem left_snoc {a : AW} {l V : List Int} {r o : Int} {y : Wh} (hy : ∀ t ∈ a.things, t.1 = o → a.after l (V ++ [r]) o t.2 = y) (h : ∀ t ∈ a.things, t.1 ≠ o → a.worth t.1 r = 0 ∧ a.turned t.1 r = false) :
    a.left l (V ++ [r]) = (a.left l V).map fun t => if t.1 = o then (o, y) else t := by
  unfold AW.left
  rw [List.map_map]
  refine List.map_congr_left fun t ht => ?_
  simp only [Function.comp]
  by_cases e : t.1 = o
  · rw [if_pos e, ← hy t ht e, e]
  · rw [if_neg e, after_snoc_same (h t ht e).1 (h t ht e).2]
theorem left_fst (a : AW) (l V : List Int) : (a.left l V).map (·.1) = a.things.map (·.1) := by simp [AW.left, List.map_map, Function.comp_def]
theorem worth_facet {a : AW} {r q : Int} {x : Wh} (h : a.at r = some x) (hk : x.kind ≠ 9) : a.worth q r = 0 := by simp [AW.worth, h, hk]
theorem turned_no {a : AW} {r q : Int} {x : Wh} (h : a.at r = some x) (hk : x.kind ≠ 15) : a.turned q r = false := by simp [AW.turned, h, hk]
end Go.AW
namespace Go.X
open Go Go.AW

theorem things_sub {L : Lay} {R : List Res} {r : Int} {x y : Wh} : ∀ {ts : List (Int × Wh)}, lookup ts r = some x → (ts.map (·.1)).Nodup → Sub (.cells (L.bk r) (whCells x)) (.cells (L.bk r) (whCells y)) (things L ts ++ R) (things L (ts.map fun t => if t.1 = r then (r, y) else t) ++ R)
  | [], h, _ => by simp [lookup] at h
  | t :: ts, h, hn => by
    simp only [lookup] at h
    simp only [List.map_cons, List.nodup_cons, List.mem_map, not_exists, not_and] at hn
    simp only [things, List.map_cons, List.cons_append]
    by_cases e : t.1 = r
    · rw [if_pos e] at h ⊢
      have hx : t.2 = x := Option.some.inj h
      have : (ts.map fun t => if t.1 = r then (r, y) else t) = ts := by
        conv => rhs; rw [← List.map_id ts]
        refine List.map_congr_left fun s hs => ?_
        have : s.1 ≠ r := fun e' => hn.1 s hs (e'.trans e.symm)
        rw [if_neg this]; rfl
      rw [this, hx, e]
      exact .head
    · rw [if_neg e] at h ⊢
      exact .tail (things_sub h hn.2)

theorem lookup_left {a : AW} {l V : List Int} {r : Int} {x : Wh} (h : a.at r = some x) : lookup (a.left l V) r = some (a.after l V r x) := by
  unfold AW.left
  unfold AW.at at h
  generalize a.things = ts at h
  induction ts with
  | nil => simp [lookup] at h
  | cons t ts ih =>
    simp only [lookup, List.map_cons] at h ⊢
    split
    · rename_i e
      rw [if_pos e] at h
      have := Option.some.inj h
      rw [this, e]
    · rename_i e
      rw [if_neg e] at h
      exact ih h

theorem mem_things {L : Lay} {R : List Res} {a : AW} {l V : List Int} {r : Int} {x : Wh} (h : a.at r = some x) : Res.cells (L.bk r) (whCells (a.after l V r x)) ∈ things L (a.left l V) ++ R := by
  refine List.mem_append_left _ ?_
  have := lookup_mem (lookup_left (l := l) (V := V) h)
  exact List.mem_map_of_mem (f := fun t : Int × Wh => Res.cells (L.bk t.1) (whCells t.2)) this

/-- a world whose facets leave -/
def mid (L : Lay) (a : AW) (fs : List MapEntry) (ts : List (Int × Wh)) (R : List Res) : List Res :=
  .cells L.p (tops L a.last) :: .map L.bm L.es L.cm :: .map L.bf fs L.cf :: .slice L.par (a.parents.map vi) :: .slice L.cut (a.cut.map .bool) :: .slice L.made (a.made.map vi) :: (things L ts ++ R)

section
variable {S : Nat → Prop} {w0 w : World} {L : Lay} {a : AW} {R R' : List Res} {K : Value → World → Prop} {k : Value → Prop}

theorem eraseIdx_perm {α : Type} : ∀ {l : List α} {j : Nat} {x : α}, l[j]? = some x → l.Perm (x :: l.eraseIdx j)
  | [], _, _, h => by simp at h
  | y :: l, 0, x, h => by simp at h; subst h; simp
  | y :: l, j + 1, x, h => by
    simp at h
    simp only [List.eraseIdx_cons_succ]
    exact ((eraseIdx_perm h).cons y).trans (.swap _ _ _)

theorem State.delAt {b c j : Nat} {key v : Value} {pair : Bool} {es : List MapEntry} {f : World → Prop} (st : State S w0 w R) (hs : Sub (.map b es c) (.map b (es.eraseIdx j) c) R R') (hp : keyShape pair key = true) (hf : findK key es 0 = some (some (j, v)))
    (hk : ∀ w, State S w0 w R' → f w) : delM pair (.map (some b)) key w f := by
  have hmap : mapOf w b = some (es, c) := st.holds _ hs.mem
  simp only [delM, hmap, hf]
  exact ⟨hp, hk _ (st.change hs ((Keeps.setMap w b _ _).mono fun x _ hx => by simp [Res.blks, hx]) (mapOf_setMap hmap _ _) (by simp [Res.blks]) (by simp [Res.blks]))⟩
end
end Go.X
/- Drop: what goes leaves the tables, and what is left is told to what it stood behind. -/
set_option linter.unusedSimpArgs false
set_option linter.unusedVariables false
set_option maxRecDepth 20000
set_option maxHeartbeats 2000000
namespace Go.X
open Go Go.AW

theorem filter_perm {ts : List (Int × Wh)} {t : Int × Wh} {p p' : Int × Wh → Bool} (hn : (ts.map (·.1)).Nodup) (ht : t ∈ ts) (h1 : p t = true) (h2 : ∀ s, p' s = (p s && s.1 != t.1)) : (ts.filter p).Perm (t :: ts.filter p') := by
  induction ts with
  | nil => simp at ht
  | cons s ts ih =>
    simp only [List.map_cons, List.nodup_cons, List.mem_map, not_exists, not_and] at hn
    by_cases e : s.1 = t.1
    · have hst : t = s := by
        rcases List.mem_cons.1 ht with h | h
        · exact h
        · exact absurd e.symm (hn.1 t h)
      subst hst
      have hp' : p' t = false := by rw [h2]; simp
      have : ts.filter p = ts.filter p' := List.filter_congr fun u hu => by
        have : u.1 ≠ t.1 := hn.1 u hu
        rw [h2]; simp [this]
      rw [List.filter_cons_of_pos h1, List.filter_cons_of_neg (by simp [hp']), this]
    · have ht' : t ∈ ts := (List.mem_cons.1 ht).resolve_left fun h => e (by rw [h])
      have ih := ih hn.2 ht'
      have hps : p' s = p s := by rw [h2]; simp [e]
      cases h : p s with
      | true =>
        rw [List.filter_cons_of_pos h, List.filter_cons_of_pos (by rw [hps, h])]
        exact (ih.cons s).trans (.swap _ _ _)
      | false =>
        rw [List.filter_cons_of_neg (by simp [h]), List.filter_cons_of_neg (by simp [hps, h])]
        exact ih

/-- one entry leaves -/
theorem leave {es : List MapEntry} {ts : List (Int × Wh)} {t : Int × Wh} {p p' : Int × Wh → Bool} {g : Int × Wh → Value × Value} (hes : (es.map kv).Perm ((ts.filter p).map g)) (hn : (ts.map (·.1)).Nodup) (ht : t ∈ ts) (h1 : p t = true) (h2 : ∀ s, p' s = (p s && s.1 != t.1))
    (hk : ∀ s ∈ ts, p s = true → ∃ b, keyEq (g t).1 (g s).1 = some b ∧ (b = true ↔ s = t)) :
    ∃ j, findK (g t).1 es 0 = some (some (j, (g t).2)) ∧ ((es.eraseIdx j).map kv).Perm ((ts.filter p').map g) ∧ j < es.length := by
  have hall : ∀ e ∈ es, ∃ s ∈ ts, p s = true ∧ kv e = g s := fun e he => by
    obtain ⟨s, hs, hkv⟩ := List.mem_map.1 (hes.subset (List.mem_map_of_mem he))
    obtain ⟨h3, h4⟩ := List.mem_filter.1 hs
    exact ⟨s, h3, h4, hkv.symm⟩
  obtain ⟨e, he, hkv⟩ := List.mem_map.1 (hes.symm.subset (List.mem_map_of_mem (f := g) (List.mem_filter.2 ⟨ht, h1⟩)))
  have hkey : ∀ e : MapEntry, ∀ s, kv e = g s → e.key = (g s).1 ∧ e.val = (g s).2 := fun e s h => by rw [← h]; exact ⟨rfl, rfl⟩
  obtain ⟨j, e2, h3, h4, h5, h6⟩ := findK_hit (key := (g t).1) (es := es) (i := 0) (fun e he => by
    obtain ⟨s, hs, hp, hkv⟩ := hall e he
    obtain ⟨b, hb, _⟩ := hk s hs hp
    rw [(hkey e s hkv).1, hb]; rfl) ⟨e, he, by
      obtain ⟨b, hb, hb'⟩ := hk t ht h1
      rw [(hkey e t hkv).1, hb, hb'.2 rfl]⟩
  simp only [Nat.sub_zero] at h5
  obtain ⟨s, hs, hp, hkv2⟩ := hall e2 (List.mem_of_getElem? h5)
  obtain ⟨b, hb, hb'⟩ := hk s hs hp
  have hb1 : b = true := by
    rw [(hkey e2 s hkv2).1, hb] at h6
    exact Option.some.inj h6
  obtain rfl := hb'.1 hb1
  refine ⟨j, by rw [h3, (hkey e2 s hkv2).2], ?_, (List.getElem?_eq_some_iff.1 h5).1⟩
  have p1 := (eraseIdx_perm h5).map kv
  have p2 := (filter_perm hn ht h1 h2).map g
  simp only [List.map_cons] at p1 p2
  rw [hkv2] at p1
  exact ((p1.symm.trans hes).trans p2).cons_inv

theorem Vis.perm {es vis : List MapEntry} {c : Nat} (h : Vis es vis) (hb : Born es c) (hall : ∀ e ∈ es, e ∈ vis) : vis.Perm es := by
  have n1 : vis.Nodup := List.Pairwise.of_map (·.born) (fun a b h e => h (by rw [e])) h.nodup
  have n2 : es.Nodup := List.Pairwise.of_map (·.born) (fun a b h e => h (by rw [e])) hb.nodup
  exact (List.perm_ext_iff_of_nodup n1 n2).2 fun e => ⟨h.sub e, hall e⟩

theorem perm_vi {V G : List Int} (h : (V.map vi).Perm (G.map vi)) : V.Perm G := by
  have := h.map fun v => match v with | .int _ i => i | _ => 0
  simpa [List.map_map, Function.comp_def] using this
end Go.X
