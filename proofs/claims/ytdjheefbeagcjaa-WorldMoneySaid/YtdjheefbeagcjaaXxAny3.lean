/- Regions in every order with one op that changes things: all others come before it or behind it. -/
import Derived.Test.YtdjheefbeagcjaaXxAny2
set_option linter.unusedSimpArgs false
set_option linter.unusedVariables false
namespace Go.X
open Go

/-- does i wait for j? -/
def reachB (pre : List (List Nat)) : Nat → Nat → Nat → Bool
  | 0, _, _ => false
  | f + 1, i, j => (pre.getD i []).any fun k => Nat.beq k j || reachB pre f k j

theorem reachB_of {pre : List (List Nat)} {L : Nat → Bool} (hL : ∀ i, L i = true → ∀ j ∈ pre.getD i [], L j = true) : ∀ {f i j : Nat}, L i = true → reachB pre f i j = true → L j = true
  | 0, _, _, _, h => by simp [reachB] at h
  | f + 1, i, j, hi, h => by
    obtain ⟨k, hk, h⟩ := List.any_eq_true.1 h
    have hLk := hL i hi k hk
    rcases Bool.or_eq_true_iff.1 h with h | h
    · rw [← Nat.eq_of_beq_eq_true h]; exact hLk
    · exact reachB_of hL hLk h

def pivotOk (ops : Array Oper) (pre : List (List Nat)) (p : Nat) : Bool :=
  (List.range ops.size).all fun i => (Nat.blt i p && reachB pre ops.size p i) || Nat.beq i p || (Nat.blt p i && reachB pre ops.size i p)

theorem anyK_pivot {P : Program} {ops : Array Oper} {k : Env → World → Prop} {e0 : Env} {w0 : World} (pre : List (List Nat)) (p : Nat) (C1 C2 : World → Prop) (G : Nat → Value → Prop)
    (hpre : factsOk ops pre = true) (hap : apartOk ops = true) (hpv : pivotOk ops pre p = true) (h0 : C1 w0)
    (hstep : ∀ i o, ops[i]? = some o → ∀ e w, (i ≤ p → C1 w) → (p < i → C2 w) → (∀ t, (∀ j, j < ops.size → t ≠ dstN ops j) → e t = e0 t) → (∀ j ∈ pre.getD i [], G j (e (dstN ops j))) →
      ∀ K : Env → World → Prop, (∀ e' w', (i < p → C1 w') → (p ≤ i → C2 w') → (∀ t, t ≠ dstN ops i → e' t = e t) → G i (e' (dstN ops i)) → K e' w') → opsK P ops.toList [o] e w K)
    (hk : ∀ e w, (p < ops.size → C2 w) → (∀ t, (∀ j, j < ops.size → t ≠ dstN ops j) → e t = e0 t) → (∀ j, j < ops.size → G j (e (dstN ops j))) → k e w) :
    anyK P ops k ops.size (Array.replicate ops.size false) e0 w0 := by
  refine anyK_inv pre (fun L e w => (∀ i, L i = true → ∀ j ∈ pre.getD i [], L j = true) ∧ (∀ t, (∀ j, j < ops.size → t ≠ dstN ops j) → e t = e0 t) ∧ (∀ j, j < ops.size → L j = true → G j (e (dstN ops j))) ∧ (L p = false → C1 w) ∧ (L p = true → C2 w)) hpre
    ⟨by simp, fun _ _ => rfl, by simp, fun _ => h0, by simp⟩ ?_ ?_ ?_
  · intro L L' e w h hI
    have : L = L' := funext h
    subst this; exact hI
  · rintro i o ho L e w ⟨h1, h2, h3, h4, h5⟩ hLi hpi K hK
    have hlt : i < ops.size := (Array.getElem?_eq_some_iff.1 ho).1
    have hp := List.all_eq_true.1 hpv i (List.mem_range.2 hlt)
    have hle : i ≤ p → L p = false := fun hip => by
      cases hLp : L p with
      | false => rfl
      | true =>
        rcases Nat.lt_or_eq_of_le hip with hip | rfl
        · have n1 : Nat.beq i p = false := by
            cases hb : Nat.beq i p with
            | false => rfl
            | true => have := Nat.eq_of_beq_eq_true hb; omega
          have n2 : Nat.blt p i = false := by
            cases hb : Nat.blt p i with
            | false => rfl
            | true => have := Nat.le_of_ble_eq_true hb; omega
          simp only [n1, n2, Bool.false_and, Bool.or_false, Bool.and_eq_true] at hp
          have := reachB_of h1 hLp hp.2
          rw [this] at hLi; simp at hLi
        · rw [hLp] at hLi; simp at hLi
    have hgt : p < i → L p = true := fun hip => by
      have n1 : Nat.beq i p = false := by
        cases hb : Nat.beq i p with
        | false => rfl
        | true => have := Nat.eq_of_beq_eq_true hb; omega
      have n2 : Nat.blt i p = false := by
        cases hb : Nat.blt i p with
        | false => rfl
        | true => have := Nat.le_of_ble_eq_true hb; omega
      simp only [n1, n2, Bool.false_and, Bool.false_or, Bool.and_eq_true] at hp
      have hf : ops.size = (ops.size - 1) + 1 := by omega
      have hr := hp.2
      rw [hf] at hr
      obtain ⟨q, hq, hr⟩ := List.any_eq_true.1 hr
      have hLq := hpi q hq
      rcases Bool.or_eq_true_iff.1 hr with hr | hr
      · rw [← Nat.eq_of_beq_eq_true hr]; exact hLq
      · exact reachB_of h1 hLq hr
    have hdst : ∀ j, j < ops.size → j ≠ i → dstN ops j ≠ dstN ops i := fun j hj hne e => by
      have := List.all_eq_true.1 (List.all_eq_true.1 hap j (List.mem_range.2 hj)) i (List.mem_range.2 hlt)
      have n1 : Nat.beq j i = false := by
        cases hb : Nat.beq j i with
        | false => rfl
        | true => exact absurd (Nat.eq_of_beq_eq_true hb) hne
      rw [n1, e] at this
      simp at this
    have hsz : ∀ j ∈ pre.getD i [], j < ops.size := fun j hj => by
      have := List.all_eq_true.1 hpre i (List.mem_range.2 hlt)
      simp only [ho, Bool.and_eq_true] at this
      obtain ⟨g1, g2⟩ := this
      have := List.all_eq_true.1 g2 j hj
      simp only [Array.any_eq_true'] at this
      obtain ⟨ed, hed, hb⟩ := this
      simp only [Bool.and_eq_true] at hb
      have h3 := (Array.all_eq_true_iff_forall_mem.1 g1) ed hed
      simp only [hb.1, Bool.not_true, Bool.false_or] at h3
      have h4 : ed.on + 1 ≤ i := Nat.le_of_ble_eq_true h3
      have := Nat.eq_of_beq_eq_true hb.2
      omega
    refine hstep i o ho e w (fun h => h4 (hle h)) (fun h => h5 (hgt h)) h2 (fun j hj => h3 j (hsz j hj) (hpi j hj)) K fun e' w' c1 c2 hkeep hG => hK e' w' ⟨?_, ?_, ?_, ?_, ?_⟩
    · intro a ha j hj
      have hor : ∀ x, L x = true → (Nat.beq x i || L x) = true := fun x hx => by rw [hx]; simp
      rcases Bool.or_eq_true_iff.1 ha with ha | ha
      · rw [Nat.eq_of_beq_eq_true ha] at hj
        exact hor j (hpi j hj)
      · exact hor j (h1 a ha j hj)
    · intro t ht
      rw [hkeep t (ht i hlt)]; exact h2 t ht
    · intro j hj ha
      by_cases e : j = i
      · subst e; exact hG
      · rcases Bool.or_eq_true_iff.1 ha with ha | ha
        · exact absurd (Nat.eq_of_beq_eq_true ha) e
        · rw [hkeep _ (hdst j hj e)]
          exact h3 j hj ha
    · intro h
      obtain ⟨n1, n2⟩ := Bool.or_eq_false_iff.1 h
      have hne : p ≠ i := fun e => by rw [e] at n1; simp at n1
      rcases Nat.lt_or_ge i p with h | h
      · exact c1 h
      · have := hgt (by omega)
        rw [n2] at this; simp at this
    · intro h
      rcases Bool.or_eq_true_iff.1 h with h | h
      · exact c2 (by rw [Nat.eq_of_beq_eq_true h]; exact Nat.le_refl _)
      · rcases Nat.lt_or_ge i p with h' | h'
        · rw [hle (by omega)] at h; simp at h
        · exact c2 h'
  · rintro L e w hall ⟨h1, h2, h3, h4, h5⟩
    exact hk e w (fun h => h5 (hall p h)) h2 fun j hj => h3 j hj (hall j hj)
end Go.X
