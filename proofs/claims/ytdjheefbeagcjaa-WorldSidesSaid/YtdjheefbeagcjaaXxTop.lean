/- Sides that reach one another, by the topmost side that each reaches. Plain data. -/
import Derived.Test.YtdjheefbeagcjaaXxAW
namespace Go.AW

def top (par : List Int) (cut : List Bool) : Nat → Int → Int
  | 0, x => x
  | n + 1, x => if x = 0 ∨ cut.getD x.toNat false = true then x else top par cut n (par.getD (x.toNat - 1) 0)

def Tree (par : List Int) : Prop := ∀ i, i < par.length → 0 ≤ par.getD i 0 ∧ par.getD i 0 ≤ i

section
variable {par : List Int} {cut cut' : List Bool}

theorem top_range (ht : Tree par) : ∀ (n : Nat) (x : Int), 0 ≤ x → x ≤ par.length → 0 ≤ top par cut n x ∧ top par cut n x ≤ x
  | 0, x, h0, _ => by simp [top, h0]
  | n + 1, x, h0, h1 => by
    simp only [top]
    split
    · exact ⟨h0, Int.le_refl _⟩
    · rename_i h
      have hx : x ≠ 0 := fun e => h (.inl e)
      have := ht (x.toNat - 1) (by omega)
      have ih := top_range ht n (par.getD (x.toNat - 1) 0) this.1 (by omega)
      omega

theorem top_fuel (ht : Tree par) : ∀ (n m : Nat) (x : Int), 0 ≤ x → x ≤ par.length → x.toNat ≤ n → x.toNat ≤ m → top par cut n x = top par cut m x
  | 0, 0, _, _, _, _, _ => rfl
  | 0, m + 1, x, h0, h1, hn, _ => by
    have : x = 0 := by omega
    subst this
    simp [top]
  | n + 1, 0, x, h0, h1, _, hm => by
    have : x = 0 := by omega
    subst this
    simp [top]
  | n + 1, m + 1, x, h0, h1, hn, hm => by
    simp only [top]
    split
    · rfl
    · rename_i h
      have hx : x ≠ 0 := fun e => h (.inl e)
      have := ht (x.toNat - 1) (by omega)
      exact top_fuel ht n m _ this.1 (by omega) (by omega) (by omega)

def topOf (par : List Int) (cut : List Bool) (x : Int) : Int := top par cut x.toNat x

def Root (cut : List Bool) (x : Int) : Prop := x = 0 ∨ cut.getD x.toNat false = true

theorem topOf_step (ht : Tree par) {x : Int} (h0 : 0 ≤ x) (h1 : x ≤ par.length) (h : ¬ Root cut x) : topOf par cut x = topOf par cut (par.getD (x.toNat - 1) 0) := by
  have hx : x ≠ 0 := fun e => h (.inl e)
  have hp := ht (x.toNat - 1) (by omega)
  unfold topOf
  obtain ⟨n, hn⟩ : ∃ n, x.toNat = n + 1 := ⟨x.toNat - 1, by omega⟩
  rw [hn]
  simp only [top]
  have h' : ¬ (x = 0 ∨ cut.getD x.toNat false = true) := h
  rw [if_neg h', hn]
  simp only [Nat.add_sub_cancel]
  have e : n = x.toNat - 1 := by omega
  rw [e]
  exact top_fuel ht _ _ _ hp.1 (by omega) (by omega) (by omega)

theorem topOf_root {x : Int} (h : Root cut x) : topOf par cut x = x := by
  unfold topOf
  cases x.toNat with
  | zero => rfl
  | succ n => simp only [top]; exact if_pos h

theorem topOf_range (ht : Tree par) {x : Int} (h0 : 0 ≤ x) (h1 : x ≤ par.length) : 0 ≤ topOf par cut x ∧ topOf par cut x ≤ x := top_range ht _ _ h0 h1

theorem root_topOf (ht : Tree par) : ∀ (n : Nat) {x : Int}, x.toNat ≤ n → 0 ≤ x → x ≤ par.length → Root cut (topOf par cut x)
  | 0, x, hn, h0, h1 => by
    have : x = 0 := by omega
    subst this
    rw [topOf_root (.inl rfl)]; exact .inl rfl
  | n + 1, x, hn, h0, h1 => by
    by_cases h : Root cut x
    · rw [topOf_root h]; exact h
    · have hx : x ≠ 0 := fun e => h (.inl e)
      have hp := ht (x.toNat - 1) (by omega)
      rw [topOf_step ht h0 h1 h]
      exact root_topOf ht n (by omega) hp.1 (by omega)

theorem topOf_self (ht : Tree par) {x : Int} (h0 : 0 ≤ x) (h1 : x ≤ par.length) : topOf par cut x = x ↔ Root cut x :=
  ⟨fun h => by have := root_topOf (cut := cut) ht _ (Nat.le_refl _) h0 h1; rwa [h] at this, topOf_root⟩

/-- more edges cut: the elder top is the elder top of the later one -/
theorem topOf_more (ht : Tree par) (hc : ∀ i, cut.getD i false = true → cut'.getD i false = true) : ∀ (n : Nat) {x : Int}, x.toNat ≤ n → 0 ≤ x → x ≤ par.length → topOf par cut x = topOf par cut (topOf par cut' x)
  | 0, x, hn, h0, h1 => by
    have : x = 0 := by omega
    subst this
    rw [topOf_root (cut := cut') (.inl rfl)]
  | n + 1, x, hn, h0, h1 => by
    by_cases h : Root cut' x
    · rw [topOf_root h]
    · have h' : ¬ Root cut x := fun hr => h (hr.imp id (hc _))
      have hx : x ≠ 0 := fun e => h (.inl e)
      have hp := ht (x.toNat - 1) (by omega)
      rw [topOf_step ht h0 h1 h, topOf_step ht h0 h1 h']
      exact topOf_more ht hc n (by omega) hp.1 (by omega)

theorem open_top {a : AW} (ht : Tree a.parents) : ∀ (n : Nat) (x y : Int), 0 ≤ x → 0 ≤ y → x ≤ a.parents.length → y ≤ a.parents.length → x.toNat + y.toNat < n →
    open_ a n x y = decide (topOf a.parents a.cut x = topOf a.parents a.cut y)
  | 0, _, _, _, _, _, _, h => by omega
  | n + 1, x, y, hx, hy, hx1, hy1, hn => by
    have key : ∀ hi lo : Int, 0 ≤ lo → lo < hi → hi ≤ a.parents.length → hi.toNat + lo.toNat < n + 1 → (if a.cut.getD hi.toNat false then false else open_ a n (a.parents.getD (hi.toNat - 1) 0) lo) = decide (topOf a.parents a.cut hi = topOf a.parents a.cut lo) := by
      intro hi lo h0 hlt hle hfu
      have hl := topOf_range (cut := a.cut) ht h0 (by omega)
      cases hcut : a.cut.getD hi.toNat false with
      | true =>
        rw [if_pos rfl, topOf_root (.inr hcut)]
        symm; rw [decide_eq_false_iff_not]; omega
      | false =>
        have hr : ¬ Root a.cut hi := by rintro (h | h); omega; rw [hcut] at h; simp at h
        have hp := ht (hi.toNat - 1) (by omega)
        rw [if_neg (by simp), topOf_step ht (by omega) hle hr]
        exact open_top ht n _ _ hp.1 h0 (by omega) (by omega) (by omega)
    simp only [open_]
    by_cases hxy : x = y
    · subst hxy; simp
    · rw [if_neg hxy]
      by_cases hlt : x < y
      · rw [show max x y = y by omega, show min x y = x by omega, key y x hx hlt hy1 (by omega)]
        simp only [eq_comm]
      · rw [show max x y = x by omega, show min x y = y by omega]
        exact key x y hy (by omega) hx1 (by omega)

/-- how many sides below n are the top of their half -/
def roots (cut : List Bool) (n : Nat) : Nat := ((List.range n).filter fun k => k == 0 || cut.getD k false).length

theorem roots_succ (cut : List Bool) (n : Nat) : roots cut (n + 1) = roots cut n + if (n == 0 || cut.getD n false) = true then 1 else 0 := by
  simp only [roots, List.range_succ, List.filter_append, List.length_append]
  congr 1
  rw [List.filter_cons]
  cases h : (n == 0 || cut.getD n false) with
  | true => rfl
  | false => rfl

theorem roots_set {c : Nat} (hc : 1 ≤ c) (hl : c < cut.length) (hf : cut.getD c false = false) : ∀ n, roots (cut.set c true) n = roots cut n + if c < n then 1 else 0
  | 0 => by simp [roots]
  | n + 1 => by
    rw [roots_succ, roots_succ, roots_set hc hl hf n]
    by_cases h : n = c
    · subst h
      have e1 : (cut.set n true).getD n false = true := by simp [List.getD_eq_getElem?_getD, hl]
      have e2 : (n == 0) = false := by simp; omega
      rw [e1, hf, e2]
      simp
    · have e1 : (cut.set c true).getD n false = cut.getD n false := by
        simp only [List.getD_eq_getElem?_getD]
        rw [List.getElem?_set_ne (fun e => h e.symm)]
      rw [e1]
      have : (c < n + 1) = (c < n) := propext ⟨fun h' => by omega, fun h' => by omega⟩
      simp only [this]
      omega

theorem roots_none (m : Nat) : ∀ n, roots (List.replicate m false) (n + 1) = 1
  | 0 => rfl
  | n + 1 => by
    rw [roots_succ, roots_none m n]
    have : (List.replicate m false).getD (n + 1) false = false := by
      simp only [List.getD_eq_getElem?_getD, List.getElem?_replicate]
      split <;> rfl
    rw [this]
    simp
end
end Go.AW
