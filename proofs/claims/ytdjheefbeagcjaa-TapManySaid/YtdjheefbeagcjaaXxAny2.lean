/- Texts of this family, put together. -/
import Derived.Test.YtdjheefbeagcjaaXxSound
/- Regions in every order: a word that can be read out, and a proof by facts that nothing later undoes. -/
set_option linter.unusedSimpArgs false
set_option linter.unusedVariables false
namespace Go.X
open Go

def dstN (ops : Array Oper) (j : Nat) : Nat := match ops[j]? with | some o => o.dst.getD (1000000 + j) | none => 1000000 + j

/-- Is each operation behind those of the table, all that bind it ahead of it, and does each have a place of its own? -/
def factsOk (ops : Array Oper) (pre : List (List Nat)) : Bool :=
  (List.range ops.size).all fun i => match ops[i]? with
    | none => false
    | some o => (o.after.all fun e => !Region.binds .any e || Nat.blt e.on i) && (pre.getD i []).all fun j => o.after.any fun e => Region.binds .any e && Nat.beq e.on j

def apartOk (ops : Array Oper) : Bool := (List.range ops.size).all fun i => (List.range ops.size).all fun j => Nat.beq i j || !Nat.beq (dstN ops i) (dstN ops j)

theorem count_false_pos {l : List Bool} {i : Nat} (h : l[i]? = some false) : 0 < l.count false := List.count_pos_iff.2 (List.mem_of_getElem? h)

theorem count_set {l : List Bool} : ∀ {i : Nat}, l[i]? = some false → (l.set i true).count false + 1 = l.count false := by
  induction l with
  | nil => intro i h; simp at h
  | cons b l ih =>
    intro i h
    cases i with
    | zero => simp at h; subst h; simp
    | succ i =>
      simp at h
      have := ih h
      simp only [List.set_cons_succ, List.count_cons]
      omega

theorem anyK_facts {P : Program} {ops : Array Oper} {k : Env → World → Prop} {e0 : Env} {w0 : World} (pre : List (List Nat)) (G : Nat → Value → World → Prop) (B : World → Prop)
    (hpre : factsOk ops pre = true) (hap : apartOk ops = true) (h0 : B w0)
    (hstep : ∀ i o, ops[i]? = some o → ∀ e w, B w → (∀ t, (∀ j, j < ops.size → t ≠ dstN ops j) → e t = e0 t) → (∀ j ∈ pre.getD i [], G j (e (dstN ops j)) w) →
      ∀ K : Env → World → Prop, (∀ e' w', B w' → (∀ t, t ≠ dstN ops i → e' t = e t) → G i (e' (dstN ops i)) w' → (∀ j v, j ≠ i → G j v w → G j v w') → K e' w') → opsK P ops.toList [o] e w K)
    (hk : ∀ e w, B w → (∀ t, (∀ j, j < ops.size → t ≠ dstN ops j) → e t = e0 t) → (∀ j, j < ops.size → G j (e (dstN ops j)) w) → k e w) :
    anyK P ops k ops.size (Array.replicate ops.size false) e0 w0 := by
  suffices H : ∀ (fuel : Nat) (listed : Array Bool) (e : Env) (w : World), listed.size = ops.size → listed.toList.count false = fuel → B w → (∀ t, (∀ j, j < ops.size → t ≠ dstN ops j) → e t = e0 t) →
      (∀ j, listed.getD j false = true → G j (e (dstN ops j)) w) → anyK P ops k fuel listed e w by
    refine H _ _ _ _ (by simp) (by simp) h0 (fun _ _ => rfl) fun j hj => ?_
    simp [Array.getElem?_replicate] at hj
    split at hj <;> simp at hj
  have hok : ∀ i o, ops[i]? = some o → (∀ e ∈ o.after, Region.binds .any e = true → e.on < i) ∧ ∀ j ∈ pre.getD i [], ∃ e ∈ o.after, Region.binds .any e = true ∧ e.on = j := by
    intro i o ho
    have hlt : i < ops.size := (Array.getElem?_eq_some_iff.1 ho).1
    have := List.all_eq_true.1 hpre i (List.mem_range.2 hlt)
    simp only [ho, Bool.and_eq_true] at this
    obtain ⟨h1, h2⟩ := this
    refine ⟨fun e he hb => ?_, fun j hj => ?_⟩
    · have := (Array.all_eq_true_iff_forall_mem.1 h1) e he
      simp only [hb, Bool.not_true, Bool.false_or] at this
      exact Nat.lt_of_lt_of_le (Nat.lt_succ_self _) (Nat.le_of_ble_eq_true this)
    · have := List.all_eq_true.1 h2 j hj
      simp only [Array.any_eq_true'] at this
      obtain ⟨e, he, hb⟩ := this
      simp only [Bool.and_eq_true] at hb
      exact ⟨e, he, hb.1, Nat.eq_of_beq_eq_true hb.2⟩
  have hdone : ∀ listed : Array Bool, listed.size = ops.size → Region.ready .any ops listed = [] → ∀ j, j < ops.size → listed.getD j false = true := by
    intro listed hs hr j
    induction j using Nat.strongRecOn with
    | ind j ih =>
      intro hj
      cases hl : listed.getD j false with
      | true => rfl
      | false =>
        exfalso
        have hjl : j < listed.size := by omega
        have ho : ops[j]? = some ops[j] := Array.getElem?_eq_getElem hj
        have : j ∈ Region.ready .any ops listed := mem_ready.2 ⟨by
          simp [Array.getD, hjl] at hl ⊢; exact hl, ops[j], ho, fun e he hb => by
            have hlt := (hok j _ ho).1 e he hb
            exact ih e.on hlt (by omega)⟩
        rw [hr] at this; simp at this
  intro fuel
  induction fuel with
  | zero =>
    intro listed e w hs hc hB he hG
    have hall : ∀ j, j < ops.size → listed.getD j false = true := by
      intro j hj
      have hjl : j < listed.size := by omega
      cases hl : listed[j] with
      | true => simp [Array.getD, hjl, hl]
      | false =>
        have : listed.toList[j]? = some false := by simp [hjl, hl]
        have := count_false_pos this
        omega
    simp only [anyK]
    split
    · exact hk e w hB he fun j hj => hG j (hall j hj)
    · rename_i i l hr
      exfalso
      have hm := (mem_ready (md := .any) (ops := ops) (listed := listed) (j := i)).1 (by rw [hr]; simp)
      obtain ⟨h1, o, ho, _⟩ := hm
      have hlt : i < ops.size := (Array.getElem?_eq_some_iff.1 ho).1
      have := hall i hlt
      have hil : i < listed.size := by omega
      simp [Array.getD, hil] at h1 this
      rw [h1] at this; simp at this
  | succ fuel ih =>
    intro listed e w hs hc hB he hG
    simp only [anyK]
    split
    · rename_i hr; exact hk e w hB he fun j hj => hG j (hdone listed hs hr j hj)
    rename_i i0 l0 hr
    refine allL_of fun i hi => ?_
    rw [← hr] at hi
    split
    case h_2 => trivial
    rename_i o ho
    obtain ⟨h1, o', ho', hpr⟩ := (mem_ready (md := .any) (ops := ops) (listed := listed) (j := i)).1 hi
    rw [ho] at ho'; obtain rfl := Option.some.inj ho'
    have hlt : i < ops.size := (Array.getElem?_eq_some_iff.1 ho).1
    have hil : i < listed.size := by omega
    have hli : listed[i] = false := by simpa [Array.getD, hil] using h1
    refine hstep i o ho e w hB he (fun j hj => ?_) _ fun e' w' hB' he' hGi hst => ?_
    rotate_left
    · refine ih _ e' w' (by simpa using hs) ?_ hB' ?_ ?_
      · have := count_set (l := listed.toList) (i := i) (by simp [hil, hli])
        rw [Array.toList_setIfInBounds]
        omega
      · intro t ht
        rw [he' t (ht i hlt)]
        exact he t ht
      · intro j hj
        by_cases hji : j = i
        · subst hji; exact hGi
        · have hjl : listed.getD j false = true := by
            simp only [Array.getD_eq_getD_getElem?, Array.getElem?_setIfInBounds_ne (Ne.symm hji)] at hj ⊢
            exact hj
          have hjs : j < ops.size := by
            by_cases h : j < listed.size
            · omega
            · simp [Array.getD, h] at hjl
          have hne : dstN ops j ≠ dstN ops i := by
            have := List.all_eq_true.1 (List.all_eq_true.1 hap j (List.mem_range.2 hjs)) i (List.mem_range.2 hlt)
            intro heq
            rw [heq] at this
            simp only [Bool.or_eq_true] at this
            rcases this with h | h
            · exact hji (Nat.eq_of_beq_eq_true h)
            · simp at h
          rw [he' _ hne]
          exact hst j _ hji (hG j hjl)
    · obtain ⟨ed, hed, hb, rfl⟩ := (hok i o ho).2 j hj
      exact hG _ (hpr ed hed hb)
end Go.X
/- Regions in every order: an invariant of what has been done. -/
set_option linter.unusedSimpArgs false
set_option linter.unusedVariables false
namespace Go.X
open Go

/-- what follows a draw -/
def atDrew (w : World) (f : World → Prop) : Prop := f w.drew
theorem atDrew_eq (w : World) (f : World → Prop) : atDrew w f = f w.drew := rfl

theorem anyK_inv {P : Program} {ops : Array Oper} {k : Env → World → Prop} {e0 : Env} {w0 : World} (pre : List (List Nat)) (I : (Nat → Bool) → Env → World → Prop)
    (hpre : factsOk ops pre = true) (h0 : I (fun _ => false) e0 w0) (hI : ∀ (L L' : Nat → Bool) e w, (∀ j, L j = L' j) → I L e w → I L' e w)
    (hstep : ∀ i o, ops[i]? = some o → ∀ L e w, I L e w → L i = false → (∀ j ∈ pre.getD i [], L j = true) →
      ∀ K : Env → World → Prop, (∀ e' w', I (fun j => Nat.beq j i || L j) e' w' → K e' w') → opsK P ops.toList [o] e w K)
    (hk : ∀ L e w, (∀ j, j < ops.size → L j = true) → I L e w → k e w) :
    anyK P ops k ops.size (Array.replicate ops.size false) e0 w0 := by
  suffices H : ∀ (fuel : Nat) (listed : Array Bool) (e : Env) (w : World), listed.size = ops.size → listed.toList.count false = fuel → I (fun j => listed.getD j false) e w → anyK P ops k fuel listed e w by
    refine H _ _ _ _ (by simp) (by simp) ?_
    refine hI _ _ _ _ (fun j => ?_) h0
    simp only [Array.getD_eq_getD_getElem?, Array.getElem?_replicate]
    split <;> rfl
  have hok : ∀ i o, ops[i]? = some o → (∀ e ∈ o.after, Region.binds .any e = true → e.on < i) ∧ ∀ j ∈ pre.getD i [], ∃ e ∈ o.after, Region.binds .any e = true ∧ e.on = j := by
    intro i o ho
    have hlt : i < ops.size := (Array.getElem?_eq_some_iff.1 ho).1
    have := List.all_eq_true.1 hpre i (List.mem_range.2 hlt)
    simp only [ho, Bool.and_eq_true] at this
    obtain ⟨h1, h2⟩ := this
    refine ⟨fun e he hb => ?_, fun j hj => ?_⟩
    · have := (Array.all_eq_true_iff_forall_mem.1 h1) e he
      simp only [hb, Bool.not_true, Bool.false_or] at this
      exact Nat.lt_of_lt_of_le (Nat.lt_succ_self _) (Nat.le_of_ble_eq_true this)
    · have := List.all_eq_true.1 h2 j hj
      simp only [Array.any_eq_true'] at this
      obtain ⟨e, he, hb⟩ := this
      simp only [Bool.and_eq_true] at hb
      exact ⟨e, he, hb.1, Nat.eq_of_beq_eq_true hb.2⟩
  have hdone : ∀ listed : Array Bool, listed.size = ops.size → Region.ready .any ops listed = [] → ∀ j, j < ops.size → listed.getD j false = true := by
    intro listed hs hr j
    induction j using Nat.strongRecOn with
    | ind j ih =>
      intro hj
      cases hl : listed.getD j false with
      | true => rfl
      | false =>
        exfalso
        have hjl : j < listed.size := by omega
        have ho : ops[j]? = some ops[j] := Array.getElem?_eq_getElem hj
        have : j ∈ Region.ready .any ops listed := mem_ready.2 ⟨by
          simp [Array.getD, hjl] at hl ⊢; exact hl, ops[j], ho, fun e he hb => by
            have hlt := (hok j _ ho).1 e he hb
            exact ih e.on hlt (by omega)⟩
        rw [hr] at this; simp at this
  intro fuel
  induction fuel with
  | zero =>
    intro listed e w hs hc hB
    have hall : ∀ j, j < ops.size → listed.getD j false = true := by
      intro j hj
      have hjl : j < listed.size := by omega
      cases hl : listed[j] with
      | true => simp [Array.getD, hjl, hl]
      | false =>
        have : listed.toList[j]? = some false := by simp [hjl, hl]
        have := count_false_pos this
        omega
    simp only [anyK]
    split
    · exact hk _ e w hall hB
    · rename_i i l hr
      exfalso
      have hm := (mem_ready (md := .any) (ops := ops) (listed := listed) (j := i)).1 (by rw [hr]; simp)
      obtain ⟨h1, o, ho, _⟩ := hm
      have hlt : i < ops.size := (Array.getElem?_eq_some_iff.1 ho).1
      have := hall i hlt
      have hil : i < listed.size := by omega
      simp [Array.getD, hil] at h1 this
      rw [h1] at this; simp at this
  | succ fuel ih =>
    intro listed e w hs hc hB
    simp only [anyK]
    split
    · rename_i hr; exact hk _ e w (hdone listed hs hr) hB
    rename_i i0 l0 hr
    refine allL_of fun i hi => ?_
    rw [← hr] at hi
    split
    case h_2 => trivial
    rename_i o ho
    obtain ⟨h1, o', ho', hpr⟩ := (mem_ready (md := .any) (ops := ops) (listed := listed) (j := i)).1 hi
    rw [ho] at ho'; obtain rfl := Option.some.inj ho'
    have hlt : i < ops.size := (Array.getElem?_eq_some_iff.1 ho).1
    have hil : i < listed.size := by omega
    have hli : listed[i] = false := by simpa [Array.getD, hil] using h1
    refine hstep i o ho _ e w hB (by simp [Array.getD, hil, hli]) (fun j hj => ?_) _ fun e' w' hB' => ?_
    · obtain ⟨ed, hed, hb, rfl⟩ := (hok i o ho).2 j hj
      exact hpr ed hed hb
    · refine ih _ e' w' (by simpa using hs) ?_ (hI _ _ _ _ (fun j => ?_) hB')
      · have := count_set (l := listed.toList) (i := i) (by simp [hil, hli])
        rw [Array.toList_setIfInBounds]
        omega
      · by_cases hji : j = i
        · subst hji
          simp [Array.getD, hil]
        · have : Nat.beq j i = false := by
            cases hb : Nat.beq j i with
            | false => rfl
            | true => exact absurd (Nat.eq_of_beq_eq_true hb) hji
          simp only [this, Bool.false_or, Array.getD_eq_getD_getElem?, Array.getElem?_setIfInBounds_ne (Ne.symm hji)]
end Go.X
