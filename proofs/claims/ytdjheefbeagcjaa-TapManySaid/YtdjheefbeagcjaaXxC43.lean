/- Texts of this family, put together. -/
import Derived.Test.YtdjheefbeagcjaaXxC21
import Derived.Test.YtdjheefbeagcjaaXxS3
import Derived.Test.YtdjheefbeagcjaaXxC41
/- Small steps that the laws' texts share: modulo, elements of slices and arrays. -/
set_option linter.unusedSimpArgs false
set_option linter.unusedVariables false
set_option maxRecDepth 20000
namespace Go.X
open Go Go.AW

section
variable {S : Nat → Prop} {w0 w : World} {L : Lay} {a : AW} {R : List Res} {K : Value → World → Prop} {k : Value → Prop}

theorem rem_at {q : IntKind} {a b : Int} (hb : b ≠ 0) (h : k (.int q (a.tmod b))) : binI .rem (.int q a) (.int q b) k := by
  simp only [binI, if_true, binInt, if_neg hb]; exact h

theorem index_arr {len size b i : Nat} {q : IntKind} {j : Int} (h0 : 0 ≤ j) (h1 : j < len) (h : k (.pointer (some ⟨b, i + j.toNat * size, none⟩))) : indexA len size (.pointer (some ⟨b, i, none⟩)) (.int q j) k := by
  unfold indexA
  refine ⟨h0, h1, ?_⟩
  rw [add_off]; exact h

theorem at_int {v : Value} {l : List Int} {j : Int} (h : ReadsOf w v (l.map vi)) (h0 : 0 ≤ j) (h1 : j < l.length) (hk : ∀ b i, Reads w b i (vi (l.getD j.toNat 0)) → k (.pointer (some ⟨b, i, none⟩))) : indexS 1 v (vi j) k := by
  obtain ⟨b, i, c, hix, hc, hci⟩ := h.at (j := j) h0 (by simpa using h1)
  rw [hix]
  refine hk b i ⟨c, hc, ?_⟩
  have : j.toNat < l.length := by omega
  rw [hci]; simp [this, List.getD_eq_getElem?_getD]

def modI (s n : Int) : Int := (s.tmod n + n).tmod n
theorem modI_range (s : Int) {n : Int} (hn : 0 < n) : 0 ≤ modI s n ∧ modI s n < n := by
  unfold modI
  have h1 := Int.tmod_lt_of_pos s hn
  have h2 : -n < s.tmod n := by
    have := Int.tmod_lt_of_pos (-s) hn
    rw [Int.neg_tmod] at this
    omega
  have h3 : 0 ≤ s.tmod n + n := by omega
  exact ⟨Int.tmod_nonneg n h3, Int.tmod_lt_of_pos _ hn⟩

theorem mod_c {s n : Int} (hn : 0 < n ∧ n < 4611686018427387904) (hk : K (vi (modI s n)) w) : callOn prog fn_law07_mod #[vi s, vi n] w K := by
  apply F_law07_mod_on
  unfold F_law07_mod
  have h1 := Int.tmod_lt_of_pos s hn.1
  have h2 : -n < s.tmod n := by
    have := Int.tmod_lt_of_pos (-s) hn.1
    rw [Int.neg_tmod] at this
    omega
  refine rem_at (by omega) (add_at (by omega) (by omega) (rem_at (by omega) ?_))
  exact hk

theorem buildA_agg {z : Value} {size : Nat} {q : List (Nat × Value)} (c : List Value) (hf : Instr.fill (fun j => some (j * size, size)) z.cells q = some c.toArray) (h : k (.agg c.toArray)) : buildA z size q k := by
  unfold buildA; simp only [hf]; exact h


end
end Go.X
/- Contract: the iterator over a world's things: its rounds. -/
set_option linter.unusedSimpArgs false
set_option linter.unusedVariables false
set_option maxRecDepth 20000
namespace Go.X
open Go Go.AW

section
variable {S : Nat → Prop} {w0 w : World} {L : Lay} {a : AW} {R : List Res} {K : Value → World → Prop} {k : Value → Prop}

theorem at_val' {v : Value} {l : List Value} {j : Int} (h : ReadsOf w v l) (h0 : 0 ≤ j) (h1 : j < l.length) (hk : ∀ b i, Reads w b i (l.getD j.toNat undef) → k (.pointer (some ⟨b, i, none⟩))) : indexS 1 v (vi j) k := by
  obtain ⟨b, i, c, hix, hc, hci⟩ := h.at (j := j) h0 h1
  rw [hix]
  refine hk b i ⟨c, hc, ?_⟩
  have : j.toNat < l.length := by omega
  rw [hci]; simp [this, List.getD_eq_getElem?_getD]

theorem take_snoc {α : Type} {l : List α} {i : Nat} (h : i < l.length) : l.take i ++ [l[i]] = l.take (i + 1) := by
  rw [List.take_add_one, List.getElem?_eq_getElem h]; rfl

theorem things_1_c {bt : Nat} {y : Value} (hct : cellsOf w bt = some [ptr L.p]) (h : WRep w L a) (hfew : Few a) (J : World → Nat → World → Prop) (h0 : ∀ w1, Ext w w1 → J w1 0 w1)
    (hkeep : ∀ w1 i w2, J w1 i w2 → Keeps (fun b => b < w.heap.size) w1 w2)
    (hy : ∀ w1 i w2 t, Ext w w1 → a.things[i]? = some t → J w1 i w2 → callY prog y [vi t.1, vb t.2.kind] w2 (fun v w3 => (v = .bool true ∧ J w1 (i + 1) w3) ∨ (v = .bool false ∧ K (.tuple #[]) w3)))
    (hd : ∀ w1 w2, J w1 a.things.length w2 → K (.tuple #[]) w2) : callOn prog fn_World_Things_1 #[y, ptr bt] w K := by
  apply F_World_Things_1_on
  unfold F_World_Things_1
  have hlen := things_few h hfew
  have st := State.start (S := fun _ => False) w
  have hread : ∀ {w' R}, State (fun _ => False) w w' R → Reads w' bt 0 (ptr L.p) := fun st => ⟨_, Rd_of_cells (st.keeps.cells hct id), rfl⟩
  refine load_reads (hread st) ?_
  (repeat (first | ((with_reducible apply cond_f); (focus (first | assumption | rfl | decide | (simp only [bne, Bool.not_eq_true', Bool.not_eq_false', Bool.not_true, Bool.not_false, Bool.not_not]; assumption)))) | ((with_reducible apply none_c); (focus (first | exact st.rep (by ((repeat (first | exact List.Mem.head _ | assumption | refine List.Mem.tail _ ?_)); done)) | exact h.ext st.keeps)))))
  refine load_reads (hread st) ?_
  refine refs_all_c (h.ext st.keeps) hfew fun v w1 he hs hb => ?_
  have st := st.push he (r := .slice v ((numsOf a).map vi)) hs (sliceBlk_nodup v) hb
  have hvb : ∀ b ∈ sliceBlk v, w.heap.size ≤ b := hb
  rw [hs.lenL]
  have st := st.pushNone.pushNone
  refine ⟨fun m ds e w' => ∃ i : Nat, m = a.things.length - i ∧ i ≤ a.things.length ∧ ds = [] ∧ e 0 = y ∧ e 1 = ptr bt ∧ e 12 = v ∧ e 13 = vi a.things.length ∧ e 14 = vi i ∧
    State (fun _ => False) w w' [.slice (e 4) ((a.things.map fun t => vb t.2.kind).take i), .slice (e 3) (((numsOf a).map vi).take i), .slice v ((numsOf a).map vi)], a.things.length,
    ⟨0, by omega, by omega, rfl, by simp [upd_get, start_get], by simp [upd_get, start_get], by simp [upd_get], by simp [upd_get], by simp [upd_get], by simpa [upd_get] using st⟩, ?_⟩
  clear st hs hb he
  rintro m ds e w1 ⟨i, rfl, hi, rfl, g0, g1, g12, g13, g14, st⟩
  simp only [g12, g13, g14]
  by_cases hil : i < a.things.length
  · have q1 : decide ((i : Int) < (a.things.length : Int)) = true := by simp; omega
    have hti : a.things[i]? = some a.things[i] := List.getElem?_eq_getElem hil
    have hat : a.at a.things[i].1 = some a.things[i].2 := h.at_mem (List.getElem_mem hil)
    (repeat (first | ((with_reducible apply lss_at)) | ((with_reducible apply cond_t); (focus (first | assumption | rfl | decide | (simp only [bne, Bool.not_eq_true', Bool.not_eq_false', Bool.not_true, Bool.not_false, Bool.not_not]; assumption)))) | (simp only [upd_get, start_get, List.getD_cons_zero, List.getD_cons_succ, Nat.reduceEqDiff, reduceIte, Nat.reduceAdd])))
    refine at_val' (st.sl (.tail _ (.tail _ (.head _)))).reads (by omega) (by simp; omega) fun b j hrd => ?_
    have hg : ((numsOf a).map vi).getD ((i : Int)).toNat undef = vi a.things[i].1 := by simp [List.getD_eq_getElem?_getD, hil]
    rw [hg] at hrd
    refine load_reads hrd ?_
    refine buildL_intro (cs := [vi a.things[i].1]) (by omega) (by kernel_rfl) rfl fun b w2 he2 hb2 _ _ hs2 => ?_
    have st := st.ext he2
    have e3 : ((numsOf a).map vi).take i ++ [vi a.things[i].1] = ((numsOf a).map vi).take (i + 1) := by
      have := take_snoc (l := (numsOf a).map vi) (i := i) (by simpa using hil)
      simpa using this
    have e4 : ((a.things.map fun t => vb t.2.kind)).take i ++ [vb a.things[i].2.kind] = (a.things.map fun t => vb t.2.kind).take (i + 1) := by
      have := take_snoc (l := a.things.map fun t => vb t.2.kind) (i := i) (by simpa using hil)
      simpa using this
    refine st.append (fun s' => [.slice (e 4) ((a.things.map fun t => vb t.2.kind).take i), .slice s' (((numsOf a).map vi).take (i + 1)), .slice v ((numsOf a).map vi)]) (fun s' => by rw [← e3]; exact .tail .head) hs2.reads (by simp [Value.oneCell']) rfl
      (by simp; omega) (by simp; omega) fun s3 w st => ?_
    simp only [g1]
    refine load_reads (hread st) ?_
    (repeat (first | ((with_reducible apply field_0)) | ((with_reducible apply field_at)) | ((with_reducible apply nil_ptr)) | ((with_reducible apply load_top); (focus (first | exact st.rep (by ((repeat (first | exact List.Mem.head _ | assumption | refine List.Mem.tail _ ?_)); done)) | exact h.ext st.keeps)); (focus rfl)) | ((with_reducible apply look_at); (focus (first | exact st.rep (by ((repeat (first | exact List.Mem.head _ | assumption | refine List.Mem.tail _ ?_)); done)) | exact h.ext st.keeps)); (focus assumption)) | ((with_reducible apply load_thing); (focus (first | exact st.rep (by ((repeat (first | exact List.Mem.head _ | assumption | refine List.Mem.tail _ ?_)); done)) | exact h.ext st.keeps)); (focus assumption); (focus rfl))))
    refine buildL_intro (cs := [vb a.things[i].2.kind]) (by omega) (by kernel_rfl) rfl fun b w3 he3 hb3 _ _ hs3 => ?_
    have st := st.ext he3
    refine st.append (fun s' => [.slice s' ((a.things.map fun t => vb t.2.kind).take (i + 1)), .slice s3 (((numsOf a).map vi).take (i + 1)), .slice v ((numsOf a).map vi)]) (fun s' => by rw [← e4]; exact .head) hs3.reads (by simp [Value.oneCell']) rfl
      (by simp; omega) (by simp; omega) fun s4 w st => ?_
    (repeat (first | ((with_reducible apply add_at); (focus omega); (focus omega))))
    exact ⟨a.things.length - (i + 1), by omega, i + 1, rfl, by omega, by trivial, by simp [upd_get, g0], by simp [upd_get, g1], by simp [upd_get, g12], by simp [upd_get, g13], by simp [upd_get], by simpa [upd_get] using st⟩
  · have q1 : decide ((i : Int) < (a.things.length : Int)) = false := by simp; omega
    have hie : i = a.things.length := by omega
    subst hie
    have ht3 : ((numsOf a).map vi).take a.things.length = (numsOf a).map vi := List.take_of_length_le (by simp)
    have ht4 : (a.things.map fun t => vb t.2.kind).take a.things.length = a.things.map fun t => vb t.2.kind := List.take_of_length_le (by simp)
    rw [ht3, ht4] at st
    (repeat (first | ((with_reducible apply lss_at)) | ((with_reducible apply cond_f); (focus (first | assumption | rfl | decide | (simp only [bne, Bool.not_eq_true', Bool.not_eq_false', Bool.not_true, Bool.not_false, Bool.not_not]; assumption))))))
    have hs3 := st.sl (.tail _ (.head _))
    have hs4 := st.sl (.head _)
    have hb3 : ∀ b ∈ sliceBlk (e 3), w.heap.size ≤ b := fun b hb => (st.own b (blksOf_mem (r := .slice (e 3) _) (.tail _ (.head _)) hb)).resolve_left id
    have hb4 : ∀ b ∈ sliceBlk (e 4), w.heap.size ≤ b := fun b hb => (st.own b (blksOf_mem (r := .slice (e 4) _) (.head _) hb)).resolve_left id
    have hew := st.keeps
    rw [hs3.lenL]
    refine ⟨fun m ds e' w' => ∃ i : Nat, m = a.things.length - i ∧ i ≤ a.things.length ∧ ds = [] ∧ e' 0 = y ∧ e' 4 = e 4 ∧ e' 35 = e 3 ∧ e' 36 = vi a.things.length ∧ e' 37 = vi i ∧ J w1 i w', a.things.length,
      ⟨0, by omega, by omega, rfl, by simp [upd_get, g0], by simp [upd_get], by simp [upd_get], by simp [upd_get], by simp [upd_get], h0 w1 hew⟩, ?_⟩
    rintro m ds e' w2 ⟨i, rfl, hi, rfl, f0, f4, f35, f36, f37, hJ⟩
    simp only [f0, f4, f35, f36, f37]
    have hk2 := hkeep _ _ _ hJ
    by_cases hil : i < a.things.length
    · have q2 : decide ((i : Int) < (a.things.length : Int)) = true := by simp; omega
      have hti : a.things[i]? = some a.things[i] := List.getElem?_eq_getElem hil
      refine lss_at (cond_t q2 ?_)
      refine at_val' (hs3.keeps hk2 fun b hb h => by have := hb3 b hb; omega).reads (by omega) (by simp; omega) fun b j hrd => ?_
      have hg : ((numsOf a).map vi).getD ((i : Int)).toNat undef = vi a.things[i].1 := by simp [List.getD_eq_getElem?_getD, hil]
      rw [hg] at hrd
      refine load_reads hrd ?_
      refine at_val' (hs4.keeps hk2 fun b hb h => by have := hb4 b hb; omega).reads (by omega) (by simp; omega) fun b4 j4 hrd4 => ?_
      have hg4 : (a.things.map fun t => vb t.2.kind).getD ((i : Int)).toNat undef = vb a.things[i].2.kind := by simp [List.getD_eq_getElem?_getD, hil]
      rw [hg4] at hrd4
      refine load_reads hrd4 ?_
      refine callY_mono (hy w1 i w2 _ hew hti hJ) fun v w3 hv => ?_
      rcases hv with ⟨rfl, hJ'⟩ | ⟨rfl, hK⟩
      · refine not_at (cond_f rfl (add_at (by omega) (by omega) ?_))
        exact ⟨a.things.length - (i + 1), by omega, i + 1, rfl, by omega, by trivial, by simp [upd_get, f0], by simp [upd_get, f4], by simp [upd_get, f35], by simp [upd_get, f36], by simp [upd_get], hJ'⟩
      · exact not_at (cond_t rfl hK)
    · have q2 : decide ((i : Int) < (a.things.length : Int)) = false := by simp; omega
      have hie : i = a.things.length := by omega
      subst hie
      exact lss_at (cond_f q2 (hd _ _ hJ))
end
end Go.X
/- A range over a world's things, as a step of a walk. -/
set_option linter.unusedSimpArgs false
set_option linter.unusedVariables false
set_option maxRecDepth 20000
namespace Go.X
open Go Go.AW

section
variable {S : Nat → Prop} {w0 w w' : World} {L : Lay} {a : AW} {R R' : List Res} {K : Value → World → Prop} {k : Value → Prop}

theorem State.rebase (st : State S w0 w R) : State (fun b => b ∈ blksOf R) w w R := ⟨.refl, st.holds, st.apart, fun b hb => .inl hb⟩

theorem State.compose (st : State S w0 w R) (st' : State (fun b => b ∈ blksOf R) w w' R') : State S w0 w' R' := by
  refine ⟨st.keeps.trans' st'.keeps fun b hb hR => ?_, st'.holds, st'.apart, fun b hb => ?_⟩
  · rcases st.own b hR with h | h
    · exact h
    · omega
  · rcases st'.own b hb with h | h
    · exact st.own b h
    · have := st.keeps.size
      exact .inr (by omega)

theorem things_c (st : State S w0 w R) {p : Value} (hk : ∀ bt w, State S w0 w (.cells bt p.cells.toList :: R) → K (.func (.func fn_World_Things_1) #[] #[ptr bt]) w) : callOn prog fn_World_Things #[p] w K := by
  apply F_World_Things_on
  unfold F_World_Things
  exact st.box fun b w st => hk b w st

theorem State.things {bt : Nat} {B : Nat → Obj → Obj → (Code → Obj) → (Value → World → Prop) → List Value → World → Prop} {KN KR : Kont} {KE : List (Nat × Kont)} {ds : List Deferred} (st : State S w0 w R) (hbt : .cells bt [ptr L.p] ∈ R) (hm : .world L a ∈ R) (hfew : Few a)
    (I : Nat → List Res → Prop) (X : List Res → Prop) (h0 : I 0 R)
    (hround : ∀ (i : Nat) (t : Int × Wh) (Ri : List Res) (l D : Nat) (oR oB : Obj) (oD : Code → Obj) (ky : Value → World → Prop) (S' : Nat → Prop) (w0' w2 : World), a.things[i]? = some t → I i Ri → State S' w0' w2 (.obj l oR :: .obj D (.deferred (some [])) :: Ri) →
      (∀ w3 R', I (i + 1) R' → State S' w0' w3 (.obj l oB :: .obj D (.deferred (some [])) :: R') → ky (.bool true) (w3.putObj l oR)) →
      (∀ w3 R', X R' → State S' w0' w3 (.obj l oB :: .obj D (.deferred (some [])) :: R') → ky (.bool false) (w3.putObj l (oD .ret))) → B l oR oB oD ky [vi t.1, vb t.2.kind] w2)
    (hdone : ∀ D w' R', I a.things.length R' → State S w0 w' (.obj D (.deferred (some [])) :: R') → KN (mark D :: ds) w') (hstop : ∀ D w' R', X R' → State S w0 w' (.obj D (.deferred (some [])) :: R') → KR (mark D :: ds) w') :
    Go.X.rangeX prog (.func (.func fn_World_Things_1) #[] #[ptr bt]) 2 B KN KR KE ds w := by
  refine st.rangeX (by kernel_rfl) fun l D oR oB oE oD w st hyield => ?_
  have hy2 : ∀ v0 v1 w1 k, w1.heap[l]? = some oR → B l oR oB oD k [v0, v1] w1 → yieldOn prog l [v0, v1] w1 k := fun v0 v1 => hyield v0 v1
  show callOn prog fn_World_Things_1 #[.func (.yield l) #[] #[], ptr bt] w _
  have hr : WRep w L a := st.rep (.tail _ (.tail _ hm))
  refine things_1_c (st.cell (.tail _ (.tail _ hbt))) hr hfew (fun w1 i w2 => ∃ Ri, I i Ri ∧ State S w0 w2 (.obj l oR :: .obj D (.deferred (some [])) :: Ri) ∧ State (fun b => b < w.heap.size) w1 w2 (.obj l oR :: .obj D (.deferred (some [])) :: Ri)) ?_ ?_ ?_ ?_
  · intro w1 he
    exact ⟨R, h0, st.ext he, ⟨.refl, (st.ext he).holds, st.apart, fun b hb => .inl (st.lt hb)⟩⟩
  · rintro w1 i w2 ⟨Ri, _, _, s2⟩
    exact s2.keeps
  · rintro w1 i w2 t hew hti ⟨Ri, hI, s1, s2⟩
    show yieldOn prog l [vi t.1, vb t.2.kind] w2 _
    refine hy2 _ _ w2 _ (s1.holds _ (.head _)) ?_
    refine hround i t Ri l D oR oB oD _ _ w2 w2 hti hI s1.rebase (fun w3 R' hI' s3 => ?_) (fun w3 R' hX s3 => ?_)
    · have s3' := s3.putObj (o' := oR) .head
      exact .inl ⟨rfl, R', hI', s1.compose s3', s2.compose s3'⟩
    · have s3' := s3.putObj (o' := oD .ret) .head
      have s4 := s1.compose s3'
      exact .inr ⟨rfl, .inr (.inl ⟨s4.holds _ (.head _), hstop D _ R' hX ((s4.putObj .head).drop1)⟩)⟩
  · rintro w1 w2 ⟨Ri, hI, s1, _⟩
    exact .inl ⟨s1.holds _ (.head _), hdone D _ Ri hI ((s1.putObj .head).drop1)⟩
end
end Go.X
