/- Texts of this family, put together. -/
import Derived.Test.YtdjheefbeagcjaaXxC21
import Derived.Test.YtdjheefbeagcjaaXxS3
import Derived.Test.YtdjheefbeagcjaaXxC41
/- Small steps that the laws' texts share: modulo, elements of slices and arrays. -/
set_option linter.unusedSimpArgs false
set_option linter.unusedVariables false
set_option maxRecDepth 20000
namespace Go.X
open Go Go.AW

section
variable {S : Nat → Prop} {w0 w : World} {L : Lay} {a : AW} {R : List Res} {K : Value → World → Prop} {k : Value → Prop}

theorem rem_at {q : IntKind} {a b : Int} (hb : b ≠ 0) (h : k (.int q (a.tmod b))) : binI .rem (.int q a) (.int q b) k := by
  simp only [binI, if_true, binInt, if_neg hb]; exact h

theorem index_arr {len size b i : Nat} {q : IntKind} {j : Int} (h0 : 0 ≤ j) (h1 : j < len) (h : k (.pointer (some ⟨b, i + j.toNat * size, none⟩))) : indexA len size (.pointer (some ⟨b, i, none⟩)) (.int q j) k := by
  unfold indexA
  refine ⟨h0, h1, ?_⟩
  rw [add_off]; exact h

theorem at_int {v : Value} {l : List Int} {j : Int} (h : ReadsOf w v (l.map vi)) (h0 : 0 ≤ j) (h1 : j < l.length) (hk : ∀ b i, Reads w b i (vi (l.getD j.toNat 0)) → k (.pointer (some ⟨b, i, none⟩))) : indexS 1 v (vi j) k := by
  obtain ⟨b, i, c, hix, hc, hci⟩ := h.at (j := j) h0 (by simpa using h1)
  rw [hix]
  refine hk b i ⟨c, hc, ?_⟩
  have : j.toNat < l.length := by omega
  rw [hci]; simp [this, List.getD_eq_getElem?_getD]

def modI (s n : Int) : Int := (s.tmod n + n).tmod n
theorem modI_range (s : Int) {n : Int} (hn : 0 < n) : 0 ≤ modI s n ∧ modI s n < n := by
  unfold modI
  have h1 := Int.tmod_lt_of_pos s hn
  have h2 : -n < s.tmod n := by
    have := Int.tmod_lt_of_pos (-s) hn
    rw [Int.neg_tmod] at this
    omega
  have h3 : 0 ≤ s.tmod n + n := by omega
  exact ⟨Int.tmod_nonneg n h3, Int.tmod_lt_of_pos _ hn⟩

theorem mod_c {s n : Int} (hn : 0 < n ∧ n < 4611686018427387904) (hk : K (vi (modI s n)) w) : callOn prog fn_law07_mod #[vi s, vi n] w K := by
  apply F_law07_mod_on
  unfold F_law07_mod
  have h1 := Int.tmod_lt_of_pos s hn.1
  have h2 : -n < s.tmod n := by
    have := Int.tmod_lt_of_pos (-s) hn.1
    rw [Int.neg_tmod] at this
    omega
  refine rem_at (by omega) (add_at (by omega) (by omega) (rem_at (by omega) ?_))
  exact hk

theorem buildA_agg {z : Value} {size : Nat} {q : List (Nat × Value)} (c : List Value) (hf : Instr.fill (fun j => some (j * size, size)) z.cells q = some c.toArray) (h : k (.agg c.toArray)) : buildA z size q k := by
  unfold buildA; simp only [hf]; exact h


end
end Go.X
/- Contract: the iterator over a world's things: its rounds. -/
set_option linter.unusedSimpArgs false
set_option linter.unusedVariables false
set_option maxRecDepth 20000
namespace Go.X
open Go Go.AW

section
variable {S : Nat → Prop} {w0 w : World} {L : Lay} {a : AW} {R : List Res} {K : Value → World → Prop} {k : Value → Prop}

theorem at_val' {v : Value} {l : List Value} {j : Int} (h : ReadsOf w v l) (h0 : 0 ≤ j) (h1 : j < l.length) (hk : ∀ b i, Reads w b i (l.getD j.toNat undef) → k (.pointer (some ⟨b, i, none⟩))) : indexS 1 v (vi j) k := by
  obtain ⟨b, i, c, hix, hc, hci⟩ := h.at (j := j) h0 h1
  rw [hix]
  refine hk b i ⟨c, hc, ?_⟩
  have : j.toNat < l.length := by omega
  rw [hci]; simp [this, List.getD_eq_getElem?_getD]

theorem take_snoc {α : Type} {l : List α} {i : Nat} (h : i < l.length) : l.take i ++ [l[i]] = l.take (i + 1) := by
  rw [List.take_add_one, List.getElem?_eq_getElem h]; rfl

theorem things_1_c {bt : Nat} {y : Value} (hct : cellsOf w bt = some [ptr L.p]) (h : WRep w L a) (hfew : Few a) (J : World → Nat → World → Prop) (h0 : ∀ w1, Ext w w1 → J w1 0 w1)
    (hkeep : ∀ w1 i w2, J w1 i w2 → Keeps (fun b => b < w.heap.size) w1 w2)
    (hy : ∀ w1 i w2 t, Ext w w1 → a.things[i]? = some t → J w1 i w2 → callY prog y [vi t.1, vb t.2.kind] w2 (fun v w3 => (v = .bool true ∧ J w1 (i + 1) w3) ∨ (v = .bool false ∧ K (.tuple #[]) w3)))
    (hd : ∀ w1 w2, J w1 a.things.length w2 → K (.tuple #[]) w2) : callOn prog fn_World_Things_1 #[y, ptr bt] w K := by
  apply F_World_Things_1_on
  unfold F_World_Things_1
  have hlen := things_few h hfew
  have st := State.start (S := fun _ => False) w
  have hread : ∀ {w' R}, State (fun _ => False) w w' R → Reads w' bt 0 (ptr L.p) := fun st => ⟨_, Rd_of_cells (st.keeps.cells hct id), rfl⟩
  refine load_reads (hread st) ?_
  (repeat (first | ((with_reducible apply cond_f); (focus (first | assumption | rfl | decide | (simp only [bne, Bool.not_eq_true', Bool.not_eq_false', Bool.not_true, Bool.not_false, Bool.not_not]; assumption)))) | ((with_reducible apply none_c); (focus (first | exact st.rep (by ((repeat (first | exact List.Mem.head _ | assumption | refine List.Mem.tail _ ?_)); done)) | exact h.ext st.keeps)))))
  refine load_reads (hread st) ?_
  refine refs_all_c (h.ext st.keeps) hfew fun v w1 he hs hb => ?_
  have st := st.push he (r := .slice v ((numsOf a).map vi)) hs (sliceBlk_nodup v) hb
  have hvb : ∀ b ∈ sliceBlk v, w.heap.size ≤ b := hb
  rw [hs.lenL]
  have st := st.pushNone.pushNone
  refine ⟨fun m ds e w' => ∃ i : Nat, m = a.things.length - i ∧ i ≤ a.things.length ∧ ds = [] ∧ e 0 = y ∧ e 1 = ptr bt ∧ e 12 = v ∧ e 13 = vi a.things.length ∧ e 14 = vi i ∧
    State (fun _ => False) w w' [.slice (e 4) ((a.things.map fun t => vb t.2.kind).take i), .slice (e 3) (((numsOf a).map vi).take i), .slice v ((numsOf a).map vi)], a.things.length,
    ⟨0, by omega, by omega, rfl, by simp [upd_get, start_get], by simp [upd_get, start_get], by simp [upd_get], by simp [upd_get], by simp [upd_get], by simpa [upd_get] using st⟩, ?_⟩
  clear st hs hb he
  rintro m ds e w1 ⟨i, rfl, hi, rfl, g0, g1, g12, g13, g14, st⟩
  simp only [g12, g13, g14]
  by_cases hil : i < a.things.length
  · have q1 : decide ((i : Int) < (a.things.length : Int)) = true := by simp; omega
    have hti : a.things[i]? = some a.things[i] := List.getElem?_eq_getElem hil
    have hat : a.at a.things[i].1 = some a.things[i].2 := h.at_mem (List.getElem_mem hil)
    (repeat (first | ((with_reducible apply lss_at)) | ((with_reducible apply cond_t); (focus (first | assumption | rfl | decide | (simp only [bne, Bool.not_eq_true', Bool.not_eq_false', Bool.not_true, Bool.not_false, Bool.not_not]; assumption)))) | (simp only [upd_get, start_get, List.getD_cons_zero, List.getD_cons_succ, Nat.reduceEqDiff, reduceIte, Nat.reduceAdd])))
    refine at_val' (st.sl (.tail _ (.tail _ (.head _)))).reads (by omega) (by simp; omega) fun b j hrd => ?_
    have hg : ((numsOf a).map vi).getD ((i : Int)).toNat undef = vi a.things[i].1 := by simp [List.getD_eq_getElem?_getD, hil]
    rw [hg] at hrd
    refine load_reads hrd ?_
    refine buildL_intro (cs := [vi a.things[i].1]) (by omega) (by kernel_rfl) rfl fun b w2 he2 hb2 _ _ hs2 => ?_
    have st := st.ext he2
    have e3 : ((numsOf a).map vi).take i ++ [vi a.things[i].1] = ((numsOf a).map vi).take (i + 1) := by
      have := take_snoc (l := (numsOf a).map vi) (i := i) (by simpa using hil)
      simpa using this
    have e4 : ((a.things.map fun t => vb t.2.kind)).take i ++ [vb a.things[i].2.kind] = (a.things.map fun t => vb t.2.kind).take (i + 1) := by
      have := take_snoc (l := a.things.map fun t => vb t.2.kind) (i := i) (by simpa using hil)
      simpa using this
    refine st.append (fun s' => [.slice (e 4) ((a.things.map fun t => vb t.2.kind).take i), .slice s' (((numsOf a).map vi).take (i + 1)), .slice v ((numsOf a).map vi)]) (fun s' => by rw [← e3]; exact .tail .head) hs2.reads (by simp [Value.oneCell']) rfl
      (by simp; omega) (by simp; omega) fun s3 w st => ?_
    simp only [g1]
    refine load_reads (hread st) ?_
    (repeat (first | ((with_reducible apply field_0)) | ((with_reducible apply field_at)) | ((with_reducible apply nil_ptr)) | ((with_reducible apply load_top); (focus (first | exact st.rep (by ((repeat (first | exact List.Mem.head _ | assumption | refine List.Mem.tail _ ?_)); done)) | exact h.ext st.keeps)); (focus rfl)) | ((with_reducible apply look_at); (focus (first | exact st.rep (by ((repeat (first | exact List.Mem.head _ | assumption | refine List.Mem.tail _ ?_)); done)) | exact h.ext st.keeps)); (focus assumption)) | ((with_reducible apply load_thing); (focus (first | exact st.rep (by ((repeat (first | exact List.Mem.head _ | assumption | refine List.Mem.tail _ ?_)); done)) | exact h.ext st.keeps)); (focus assumption); (focus rfl))))
    refine buildL_intro (cs := [vb a.things[i].2.kind]) (by omega) (by kernel_rfl) rfl fun b w3 he3 hb3 _ _ hs3 => ?_
    have st := st.ext he3
    refine st.append (fun s' => [.slice s' ((a.things.map fun t => vb t.2.kind).take (i + 1)), .slice s3 (((numsOf a).map vi).take (i + 1)), .slice v ((numsOf a).map vi)]) (fun s' => by rw [← e4]; exact .head) hs3.reads (by simp [Value.oneCell']) rfl
      (by simp; omega) (by simp; omega) fun s4 w st => ?_
    (repeat (first | ((with_reducible apply add_at); (focus omega); (focus omega))))
    exact ⟨a.things.length - (i + 1), by omega, i + 1, rfl, by omega, by trivial, by simp [upd_get, g0], by simp [upd_get, g1], by simp [upd_get, g12], by simp [upd_get, g13], by simp [upd_get], by simpa [upd_get] using st⟩
  · have q1 : decide ((i : Int) < (a.things.length : Int)) = false := by simp; omega
    have hie : i = a.things.length := by omega
    subst hie
    have ht3 : ((numsOf a).map vi).take a.things.length = (numsOf a).map vi := List.take_of_length_le (by simp)
    have ht4 : (a.things.map fun t => vb t.2.kind).take a.things.length = a.things.map fun t => vb t.2.kind := List.take_of_length_le (by simp)
    rw [ht3, ht4] at st
    (repeat (first | ((with_reducible apply lss_at)) | ((with_reducible apply cond_f); (focus (first | assumption | rfl | decide | (simp only [bne, Bool.not_eq_true', Bool.not_eq_false', Bool.not_true, Bool.not_false, Bool.not_not]; assumption))))))
    have hs3 := st.sl (.tail _ (.head _))
    have hs4 := st.sl (.head _)
    have hb3 : ∀ b ∈ sliceBlk (e 3), w.heap.size ≤ b := fun b hb => (st.own b (blksOf_mem (r := .slice (e 3) _) (.tail _ (.head _)) hb)).resolve_left id
    have hb4 : ∀ b ∈ sliceBlk (e 4), w.heap.size ≤ b := fun b hb => (st.own b (blksOf_mem (r := .slice (e 4) _) (.head _) hb)).resolve_left id
    have hew := st.keeps
    rw [hs3.lenL]
    refine ⟨fun m ds e' w' => ∃ i : Nat, m = a.things.length - i ∧ i ≤ a.things.length ∧ ds = [] ∧ e' 0 = y ∧ e' 4 = e 4 ∧ e' 35 = e 3 ∧ e' 36 = vi a.things.length ∧ e' 37 = vi i ∧ J w1 i w', a.things.length,
      ⟨0, by omega, by omega, rfl, by simp [upd_get, g0], by simp [upd_get], by simp [upd_get], by simp [upd_get], by simp [upd_get], h0 w1 hew⟩, ?_⟩
    rintro m ds e' w2 ⟨i, rfl, hi, rfl, f0, f4, f35, f36, f37, hJ⟩
    simp only [f0, f4, f35, f36, f37]
    have hk2 := hkeep _ _ _ hJ
    by_cases hil : i < a.things.length
    · have q2 : decide ((i : Int) < (a.things.length : Int)) = true := by simp; omega
      have hti : a.things[i]? = some a.things[i] := List.getElem?_eq_getElem hil
      refine lss_at (cond_t q2 ?_)
      refine at_val' (hs3.keeps hk2 fun b hb h => by have := hb3 b hb; omega).reads (by omega) (by simp; omega) fun b j hrd => ?_
      have hg : ((numsOf a).map vi).getD ((i : Int)).toNat undef = vi a.things[i].1 := by simp [List.getD_eq_getElem?_getD, hil]
      rw [hg] at hrd
      refine load_reads hrd ?_
      refine at_val' (hs4.keeps hk2 fun b hb h => by have := hb4 b hb; omega).reads (by omega) (by simp; omega) fun b4 j4 hrd4 => ?_
      have hg4 : (a.things.map fun t => vb t.2.kind).getD ((i : Int)).toNat undef = vb a.things[i].2.kind := by simp [List.getD_eq_getElem?_getD, hil]
      rw [hg4] at hrd4
      refine load_reads hrd4 ?_
      refine callY_mono (hy w1 i w2 _ hew hti hJ) fun v w3 hv => ?_
      rcases hv with ⟨rfl, hJ'⟩ | ⟨rfl, hK⟩
      · refine not_at (cond_f rfl (add_at (by omega) (by omega) ?_))
        exact ⟨a.things.length - (i + 1), by omega, i + 1, rfl, by omega, by trivial, by simp [upd_get, f0], by simp [upd_get, f4], by simp [upd_get, f35], by simp [upd_get, f36], by simp [upd_get], hJ'⟩
      · exact not_at (cond_t rfl hK)
    · have q2 : decide ((i : Int) < (a.things.length : Int)) = false := by simp; omega
      have hie : i = a.things.length := by omega
      subst hie
      exact lss_at (cond_f q2 (hd _ _ hJ))
end
end Go.X
