/- Texts of this family, put together. -/
import Derived.Test.YtdjheefbeagcjaaXxC21
import Derived.Test.YtdjheefbeagcjaaXxS3
import Derived.Test.YtdjheefbeagcjaaXxC28
/- Small steps that the laws' texts share: modulo, elements of slices and arrays. -/
set_option linter.unusedSimpArgs false
set_option linter.unusedVariables false
set_option maxRecDepth 20000
namespace Go.X
open Go Go.AW

section
variable {S : Nat → Prop} {w0 w : World} {L : Lay} {a : AW} {R : List Res} {K : Value → World → Prop} {k : Value → Prop}

theorem rem_at {q : IntKind} {a b : Int} (hb : b ≠ 0) (h : k (.int q (a.tmod b))) : binI .rem (.int q a) (.int q b) k := by
  simp only [binI, if_true, binInt, if_neg hb]; exact h

theorem index_arr {len size b i : Nat} {q : IntKind} {j : Int} (h0 : 0 ≤ j) (h1 : j < len) (h : k (.pointer (some ⟨b, i + j.toNat * size, none⟩))) : indexA len size (.pointer (some ⟨b, i, none⟩)) (.int q j) k := by
  unfold indexA
  refine ⟨h0, h1, ?_⟩
  rw [add_off]; exact h

theorem at_int {v : Value} {l : List Int} {j : Int} (h : ReadsOf w v (l.map vi)) (h0 : 0 ≤ j) (h1 : j < l.length) (hk : ∀ b i, Reads w b i (vi (l.getD j.toNat 0)) → k (.pointer (some ⟨b, i, none⟩))) : indexS 1 v (vi j) k := by
  obtain ⟨b, i, c, hix, hc, hci⟩ := h.at (j := j) h0 (by simpa using h1)
  rw [hix]
  refine hk b i ⟨c, hc, ?_⟩
  have : j.toNat < l.length := by omega
  rw [hci]; simp [this, List.getD_eq_getElem?_getD]

def modI (s n : Int) : Int := (s.tmod n + n).tmod n
theorem modI_range (s : Int) {n : Int} (hn : 0 < n) : 0 ≤ modI s n ∧ modI s n < n := by
  unfold modI
  have h1 := Int.tmod_lt_of_pos s hn
  have h2 : -n < s.tmod n := by
    have := Int.tmod_lt_of_pos (-s) hn
    rw [Int.neg_tmod] at this
    omega
  have h3 : 0 ≤ s.tmod n + n := by omega
  exact ⟨Int.tmod_nonneg n h3, Int.tmod_lt_of_pos _ hn⟩

theorem mod_c {s n : Int} (hn : 0 < n ∧ n < 4611686018427387904) (hk : K (vi (modI s n)) w) : callOn prog fn_law07_mod #[vi s, vi n] w K := by
  apply F_law07_mod_on
  unfold F_law07_mod
  have h1 := Int.tmod_lt_of_pos s hn.1
  have h2 : -n < s.tmod n := by
    have := Int.tmod_lt_of_pos (-s) hn.1
    rw [Int.neg_tmod] at this
    omega
  refine rem_at (by omega) (add_at (by omega) (by omega) (rem_at (by omega) ?_))
  exact hk

theorem buildA_agg {z : Value} {size : Nat} {q : List (Nat × Value)} (c : List Value) (hf : Instr.fill (fun j => some (j * size, size)) z.cells q = some c.toArray) (h : k (.agg c.toArray)) : buildA z size q k := by
  unfold buildA; simp only [hf]; exact h


end
end Go.X
/- Drop: the first look, and what is dropped. -/
set_option linter.unusedSimpArgs false
set_option linter.unusedVariables false
set_option maxRecDepth 20000
set_option maxHeartbeats 2000000
namespace Go.X
open Go Go.AW

section
variable {w0 w : World} {L : Lay} {a : AW} {R : List Res} {K : Value → World → Prop}

theorem State.perm {S : Nat → Prop} {R' : List Res} (st : State S w0 w R) (h : R.Perm R') : State S w0 w R' := by
  have hb : (blksOf R).Perm (blksOf R') := h.flatMap_right _
  exact ⟨st.keeps, fun r hr => st.holds r (h.mem_iff.2 hr), hb.nodup_iff.1 st.apart, fun b hb' => st.own b (hb.mem_iff.2 hb')⟩

/-- the first look, under way -/
def Look1 (w0 : World) (L : Lay) (a : AW) (l : List Int) (xv : Option Addr) (cv b5 bg : Nat) (R : List Res) (m : Nat) (e : Env) (w : World) : Prop :=
  ∃ (i : Nat) (es : List MapEntry) (c : Nat) (G : List Int), m = l.length - i ∧ i ≤ l.length ∧ e 0 = ptr L.p ∧ e 5 = ptr b5 ∧ e 19 = .slice xv l.length cv ∧ e 20 = vi l.length ∧ e 21 = vi i ∧ Marks es c G ∧
    State (fun _ => False) w0 w (.map bg es c :: .cells b5 [.map (some bg)] :: R) ∧ (∀ q, q ∈ G ↔ q ∈ l.take i) ∧ ((l.take i).any fun r => !a.is r) = false

/-- the first look: each reference must be a thing's -/
theorem drop_p1 {v : Value} {l : List Int} {b5 bg : Nat} {q : Env} (h : WRep w0 L a) (h1 : ReadsOf w0 v (l.map vi)) (hlen : l.length ≤ 1000000)
    (st : State (fun _ => False) w0 w (.cells b5 [.map none] :: .map bg [] 0 :: R)) (g0 : q 0 = ptr L.p) (g5 : q 5 = ptr b5)
    (hbad : (l.any fun r => !a.is r) = true → ∀ w', Ext w0 w' → K (vi 5) w')
    (hgood : (l.any fun r => !a.is r) = false → ∀ q w es c G, q 0 = ptr L.p → q 5 = ptr b5 → Marks es c G → (∀ q, q ∈ G ↔ l.contains q = true) → State (fun _ => False) w0 w (.map bg es c :: .cells b5 [.map (some bg)] :: R) → F_World_Drop_s26 q w K) :
    F_World_Drop_s28 v q (ptr b5) (.map (some bg)) w K := by
  obtain ⟨xv, n, cv, hv, hn, _⟩ := h1.first
  have hn : n = l.length := by simpa using hn
  subst hn
  subst hv
  simp only [F_World_Drop_s28]
  (repeat (first | ((with_reducible apply len_slice)) | ((with_reducible apply State.store1 st); (focus ((repeat (first | exact Sub.head | apply Sub.tail)); done)); (focus (first | (simp [whCells, valL, over_length, Value.cells]; done) | omega)); (focus (first | rfl | assumption | (simp [whCells, valL, Value.oneCell', Value.cells]; done))); intro w st)))
  refine ⟨Look1 w0 L a l xv cv b5 bg R, l.length, ⟨0, [], 0, [], by omega, by omega, by simp [upd_get, g0], by simp [upd_get, g5], by simp [upd_get], by simp [upd_get], by simp [upd_get], .nil, st.perm (.swap _ _ _) , by simp, by simp⟩, ?_⟩
  clear st g0 g5
  rintro m e w ⟨i, es, c, G, rfl, hi, g0, g5, g19, g20, g21, hG, st, hin, hok⟩
  have hx := h.ext st.keeps
  simp only [F_World_Drop_s27, g20, g21]
  by_cases hil : i < l.length
  · have q1 : decide ((i : Int) < (l.length : Int)) = true := by simpa using hil
    have hlt : ((i : Int)).toNat = i := by omega
    have htk : l.take (i + 1) = l.take i ++ [l.getD i 0] := by
      rw [List.take_add_one, List.getD_eq_getElem?_getD, List.getElem?_eq_getElem hil]; rfl
    simp only [F_World_Drop_s3, F_World_Drop_s2, F_World_Drop_s1]
    cases his : a.is (l.getD i 0) with
    | false =>
      (repeat (first | ((with_reducible apply lss_at)) | ((with_reducible apply not_at)) | ((with_reducible apply cond_t); (focus (first | assumption | rfl | decide | (simp only [bne, Bool.not_eq_true', Bool.not_eq_false', Bool.not_true, Bool.not_false, Bool.not_not]; assumption)))) | ((with_reducible apply load_reads); (focus assumption)) | (rewrite [g19]) | (rewrite [g21]) | (rewrite [g0]) | ((with_reducible apply at_int (ReadsOf.ext h1 st.keeps)); (focus omega); (focus omega); intro b j hrd) | ((with_reducible apply is_c); (focus (first | exact st.rep (by ((repeat (first | exact List.Mem.head _ | assumption | refine List.Mem.tail _ ?_)); done)) | exact h.ext st.keeps))) | (simp only [upd_get, start_get, List.getD_cons_zero, List.getD_cons_succ, Nat.reduceEqDiff, reduceIte, Nat.reduceAdd])))
      exact hbad (List.any_eq_true.2 ⟨l.getD i 0, by rw [List.getD_eq_getElem?_getD, List.getElem?_eq_getElem hil]; exact List.getElem_mem hil, by rw [his]; rfl⟩) _ st.keeps
    | true =>
      (repeat (first | ((with_reducible apply lss_at)) | ((with_reducible apply not_at)) | ((with_reducible apply cond_t); (focus (first | assumption | rfl | decide | (simp only [bne, Bool.not_eq_true', Bool.not_eq_false', Bool.not_true, Bool.not_false, Bool.not_not]; assumption)))) | ((with_reducible apply cond_f); (focus (first | assumption | rfl | decide | (simp only [bne, Bool.not_eq_true', Bool.not_eq_false', Bool.not_true, Bool.not_false, Bool.not_not]; assumption)))) | ((with_reducible apply load_reads); (focus assumption)) | (rewrite [g19]) | (rewrite [g21]) | (rewrite [g0]) | ((with_reducible apply at_int (ReadsOf.ext h1 st.keeps)); (focus omega); (focus omega); intro b j hrd) | ((with_reducible apply is_c); (focus (first | exact st.rep (by ((repeat (first | exact List.Mem.head _ | assumption | refine List.Mem.tail _ ?_)); done)) | exact h.ext st.keeps))) | (simp only [upd_get, start_get, List.getD_cons_zero, List.getD_cons_succ, Nat.reduceEqDiff, reduceIte, Nat.reduceAdd])))
      simp only [upd_get, Nat.reduceEqDiff, if_false, g5, hlt]
      (repeat (first | ((with_reducible apply State.load1 st); (focus ((repeat (first | exact List.Mem.head _ | assumption | refine List.Mem.tail _ ?_)); done)); (focus rfl))))
      refine State.mark (fun es' c' => .map bg es' c' :: .cells b5 [.map (some bg)] :: R) st (fun _ _ => .head) hG fun es' c' w hG' st => ?_
      (repeat (first | ((with_reducible apply add_at); (focus omega); (focus omega))))
      refine ⟨l.length - (i + 1), by omega, i + 1, es', c', _, rfl, hil, by simp [upd_get, g0], by simp [upd_get, g5], by simp [upd_get, g19], by simp [upd_get, g20], by simp [upd_get], hG', st, fun q => ?_, ?_⟩
      · rw [mem_addTo, hin, htk]; simp
      · rw [htk, List.any_append, hok]; simp only [List.any_cons, his]; rfl
  · have q1 : decide ((i : Int) < (l.length : Int)) = false := by simpa using hil
    have hie : i = l.length := by omega
    subst hie
    rw [List.take_length] at hin hok
    (repeat (first | ((with_reducible apply lss_at)) | ((with_reducible apply cond_f); (focus (first | assumption | rfl | decide | (simp only [bne, Bool.not_eq_true', Bool.not_eq_false', Bool.not_true, Bool.not_false, Bool.not_not]; assumption)))) | ((with_reducible (conv => whnf)); (simp only [upd_get, start_get, List.getD_cons_zero, List.getD_cons_succ, Nat.reduceEqDiff, reduceIte, Nat.reduceAdd]))))
    exact hgood hok (upd e 22 (.bool (decide ((l.length : Int) < (l.length : Int))))) _ es c G (by simp [upd_get, g0]) (by simp [upd_get, g5]) hG (fun q => by rw [hin]; simp) st
end
end Go.X
