/- Regions in every order: an invariant of what has been done. -/
import Derived.Test.YtdjheefbeagcjaaXxAny
set_option linter.unusedSimpArgs false
set_option linter.unusedVariables false
namespace Go.X
open Go

/-- what follows a draw -/
def atDrew (w : World) (f : World → Prop) : Prop := f w.drew
theorem atDrew_eq (w : World) (f : World → Prop) : atDrew w f = f w.drew := rfl

theorem anyK_inv {P : Program} {ops : Array Oper} {k : Env → World → Prop} {e0 : Env} {w0 : World} (pre : List (List Nat)) (I : (Nat → Bool) → Env → World → Prop)
    (hpre : factsOk ops pre = true) (h0 : I (fun _ => false) e0 w0) (hI : ∀ (L L' : Nat → Bool) e w, (∀ j, L j = L' j) → I L e w → I L' e w)
    (hstep : ∀ i o, ops[i]? = some o → ∀ L e w, I L e w → L i = false → (∀ j ∈ pre.getD i [], L j = true) →
      ∀ K : Env → World → Prop, (∀ e' w', I (fun j => Nat.beq j i || L j) e' w' → K e' w') → opsK P ops.toList [o] e w K)
    (hk : ∀ L e w, (∀ j, j < ops.size → L j = true) → I L e w → k e w) :
    anyK P ops k ops.size (Array.replicate ops.size false) e0 w0 := by
  suffices H : ∀ (fuel : Nat) (listed : Array Bool) (e : Env) (w : World), listed.size = ops.size → listed.toList.count false = fuel → I (fun j => listed.getD j false) e w → anyK P ops k fuel listed e w by
    refine H _ _ _ _ (by simp) (by simp) ?_
    refine hI _ _ _ _ (fun j => ?_) h0
    simp only [Array.getD_eq_getD_getElem?, Array.getElem?_replicate]
    split <;> rfl
  have hok : ∀ i o, ops[i]? = some o → (∀ e ∈ o.after, Region.binds .any e = true → e.on < i) ∧ ∀ j ∈ pre.getD i [], ∃ e ∈ o.after, Region.binds .any e = true ∧ e.on = j := by
    intro i o ho
    have hlt : i < ops.size := (Array.getElem?_eq_some_iff.1 ho).1
    have := List.all_eq_true.1 hpre i (List.mem_range.2 hlt)
    simp only [ho, Bool.and_eq_true] at this
    obtain ⟨h1, h2⟩ := this
    refine ⟨fun e he hb => ?_, fun j hj => ?_⟩
    · have := (Array.all_eq_true_iff_forall_mem.1 h1) e he
      simp only [hb, Bool.not_true, Bool.false_or] at this
      exact Nat.lt_of_lt_of_le (Nat.lt_succ_self _) (Nat.le_of_ble_eq_true this)
    · have := List.all_eq_true.1 h2 j hj
      simp only [Array.any_eq_true'] at this
      obtain ⟨e, he, hb⟩ := this
      simp only [Bool.and_eq_true] at hb
      exact ⟨e, he, hb.1, Nat.eq_of_beq_eq_true hb.2⟩
  have hdone : ∀ listed : Array Bool, listed.size = ops.size → Region.ready .any ops listed = [] → ∀ j, j < ops.size → listed.getD j false = true := by
    intro listed hs hr j
    induction j using Nat.strongRecOn with
    | ind j ih =>
      intro hj
      cases hl : listed.getD j false with
      | true => rfl
      | false =>
        exfalso
        have hjl : j < listed.size := by omega
        have ho : ops[j]? = some ops[j] := Array.getElem?_eq_getElem hj
        have : j ∈ Region.ready .any ops listed := mem_ready.2 ⟨by
          simp [Array.getD, hjl] at hl ⊢; exact hl, ops[j], ho, fun e he hb => by
            have hlt := (hok j _ ho).1 e he hb
            exact ih e.on hlt (by omega)⟩
        rw [hr] at this; simp at this
  intro fuel
  induction fuel with
  | zero =>
    intro listed e w hs hc hB
    have hall : ∀ j, j < ops.size → listed.getD j false = true := by
      intro j hj
      have hjl : j < listed.size := by omega
      cases hl : listed[j] with
      | true => simp [Array.getD, hjl, hl]
      | false =>
        have : listed.toList[j]? = some false := by simp [hjl, hl]
        have := count_false_pos this
        omega
    simp only [anyK]
    split
    · exact hk _ e w hall hB
    · rename_i i l hr
      exfalso
      have hm := (mem_ready (md := .any) (ops := ops) (listed := listed) (j := i)).1 (by rw [hr]; simp)
      obtain ⟨h1, o, ho, _⟩ := hm
      have hlt : i < ops.size := (Array.getElem?_eq_some_iff.1 ho).1
      have := hall i hlt
      have hil : i < listed.size := by omega
      simp [Array.getD, hil] at h1 this
      rw [h1] at this; simp at this
  | succ fuel ih =>
    intro listed e w hs hc hB
    simp only [anyK]
    split
    · rename_i hr; exact hk _ e w (hdone listed hs hr) hB
    rename_i i0 l0 hr
    refine allL_of fun i hi => ?_
    rw [← hr] at hi
    split
    case h_2 => trivial
    rename_i o ho
    obtain ⟨h1, o', ho', hpr⟩ := (mem_ready (md := .any) (ops := ops) (listed := listed) (j := i)).1 hi
    rw [ho] at ho'; obtain rfl := Option.some.inj ho'
    have hlt : i < ops.size := (Array.getElem?_eq_some_iff.1 ho).1
    have hil : i < listed.size := by omega
    have hli : listed[i] = false := by simpa [Array.getD, hil] using h1
    refine hstep i o ho _ e w hB (by simp [Array.getD, hil, hli]) (fun j hj => ?_) _ fun e' w' hB' => ?_
    · obtain ⟨ed, hed, hb, rfl⟩ := (hok i o ho).2 j hj
      exact hpr ed hed hb
    · refine ih _ e' w' (by simpa using hs) ?_ (hI _ _ _ _ (fun j => ?_) hB')
      · have := count_set (l := listed.toList) (i := i) (by simp [hil, hli])
        rw [Array.toList_setIfInBounds]
        omega
      · by_cases hji : j = i
        · subst hji
          simp [Array.getD, hil]
        · have : Nat.beq j i = false := by
            cases hb : Nat.beq j i with
            | false => rfl
            | true => exact absurd (Nat.eq_of_beq_eq_true hb) hji
          simp only [this, Bool.false_or, Array.getD_eq_getD_getElem?, Array.getElem?_setIfInBounds_ne (Ne.symm hji)]
end Go.X
