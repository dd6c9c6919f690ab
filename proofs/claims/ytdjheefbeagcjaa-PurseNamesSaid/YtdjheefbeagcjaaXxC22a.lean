/- Small steps that the laws' texts share: modulo, elements of slices and arrays. -/
import Derived.Test.YtdjheefbeagcjaaXxC21
import Derived.Test.YtdjheefbeagcjaaXxS3
set_option linter.unusedSimpArgs false
set_option linter.unusedVariables false
set_option maxRecDepth 20000
namespace Go.X
open Go Go.AW

section
variable {S : Nat → Prop} {w0 w : World} {L : Lay} {a : AW} {R : List Res} {K : Value → World → Prop} {k : Value → Prop}

theorem rem_at {q : IntKind} {a b : Int} (hb : b ≠ 0) (h : k (.int q (a.tmod b))) : binI .rem (.int q a) (.int q b) k := by
  simp only [binI, if_true, binInt, if_neg hb]; exact h

theorem index_arr {len size b i : Nat} {q : IntKind} {j : Int} (h0 : 0 ≤ j) (h1 : j < len) (h : k (.pointer (some ⟨b, i + j.toNat * size, none⟩))) : indexA len size (.pointer (some ⟨b, i, none⟩)) (.int q j) k := by
  unfold indexA
  refine ⟨h0, h1, ?_⟩
  rw [add_off]; exact h

theorem at_int {v : Value} {l : List Int} {j : Int} (h : ReadsOf w v (l.map vi)) (h0 : 0 ≤ j) (h1 : j < l.length) (hk : ∀ b i, Reads w b i (vi (l.getD j.toNat 0)) → k (.pointer (some ⟨b, i, none⟩))) : indexS 1 v (vi j) k := by
  obtain ⟨b, i, c, hix, hc, hci⟩ := h.at (j := j) h0 (by simpa using h1)
  rw [hix]
  refine hk b i ⟨c, hc, ?_⟩
  have : j.toNat < l.length := by omega
  rw [hci]; simp [this, List.getD_eq_getElem?_getD]

def modI (s n : Int) : Int := (s.tmod n + n).tmod n
theorem modI_range (s : Int) {n : Int} (hn : 0 < n) : 0 ≤ modI s n ∧ modI s n < n := by
  unfold modI
  have h1 := Int.tmod_lt_of_pos s hn
  have h2 : -n < s.tmod n := by
    have := Int.tmod_lt_of_pos (-s) hn
    rw [Int.neg_tmod] at this
    omega
  have h3 : 0 ≤ s.tmod n + n := by omega
  exact ⟨Int.tmod_nonneg n h3, Int.tmod_lt_of_pos _ hn⟩

theorem mod_c {s n : Int} (hn : 0 < n ∧ n < 4611686018427387904) (hk : K (vi (modI s n)) w) : callOn prog fn_law07_mod #[vi s, vi n] w K := by
  apply F_law07_mod_on
  unfold F_law07_mod
  have h1 := Int.tmod_lt_of_pos s hn.1
  have h2 : -n < s.tmod n := by
    have := Int.tmod_lt_of_pos (-s) hn.1
    rw [Int.neg_tmod] at this
    omega
  refine rem_at (by omega) (add_at (by omega) (by omega) (rem_at (by omega) ?_))
  exact hk

theorem buildA_agg {z : Value} {size : Nat} {q : List (Nat × Value)} (c : List Value) (hf : Instr.fill (fun j => some (j * size, size)) z.cells q = some c.toArray) (h : k (.agg c.toArray)) : buildA z size q k := by
  unfold buildA; simp only [hf]; exact h


end
end Go.X
