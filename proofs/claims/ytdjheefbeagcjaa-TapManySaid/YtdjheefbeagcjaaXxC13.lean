/- Contracts: what a kind names, and no more. -/
import Derived.Test.YtdjheefbeagcjaaXxC12
set_option linter.unusedSimpArgs false
set_option linter.unusedVariables false
set_option maxRecDepth 20000
namespace Go.X
open Go Go.AW

section
variable {w : World} {L : Lay} {a : AW} {k : Value → World → Prop}

theorem fieldA_intro {o b i : Nat} {k : Value → Prop} (h : k (.pointer (some ⟨b, i + o, none⟩))) : fieldA o (.pointer (some ⟨b, i, none⟩)) k := by rw [fieldA_at]; exact h
theorem load1_intro {b i : Nat} {l : List Value} {v : Value} {k : Value → Prop} (hl : cellsOf w b = some l) (hi : l[i]? = some v) (h : k v) : load1 (.pointer (some ⟨b, i, none⟩)) w k := by
  rw [load_place hl hi]; exact h

theorem put1 {w0 : World} {b c i : Nat} {v : Value} {l m : List Value} {k : World → Prop} (hK : Keeps (· = b) w0 w) (hc : cellsOf w c = some m) (hl : cellsOf w b = some l) (hne : c ≠ b) (hi : i < l.length) (hv : v.oneCell' = true)
    (h : ∀ w', Keeps (· = b) w0 w' → cellsOf w' c = some m → cellsOf w' b = some (l.set i v) → k w') : storeN 1 (.pointer (some ⟨b, i, none⟩)) v w k :=
  store1_intro hl hi hv fun w' hk hb _ => h w' (hK.trans hk) (hk.cells hc hne) hb

theorem putN {w0 : World} {n b c i : Nat} {cs : List Value} {l m : List Value} {k : World → Prop} (hK : Keeps (· = b) w0 w) (hc : cellsOf w c = some m) (hl : cellsOf w b = some l) (hne : c ≠ b) (hn : cs.length = n) (hi : i + n ≤ l.length) (hv : ∀ v ∈ cs, v.oneCell' = true)
    (h : ∀ w', Keeps (· = b) w0 w' → cellsOf w' c = some m → cellsOf w' b = some (over l i cs) → k w') : storeN n (.pointer (some ⟨b, i, none⟩)) (.agg cs.toArray) w k :=
  storeN_intro hl hn hi hv fun w' hk hb _ => h w' (hK.trans hk) (hk.cells hc hne) hb

theorem bare_R14 {x y : Wh} {b1 b3 : Nat} {K : Env → World → Prop} {e : Env} (g1 : e 1 = ptr b1) (g3 : e 3 = ptr b3) (h1 : cellsOf w b1 = some (whCells x)) (h3 : cellsOf w b3 = some (whCells y)) (hne : b1 ≠ b3)
    (hk : ∀ e' w', e' 1 = e 1 → e' 2 = e 2 → e' 3 = e 3 → Keeps (· = b3) w w' → cellsOf w' b3 = some (whCells { y with of := x.of, vk := x.vk, vn := x.vn, vr := x.vr }) → K e' w') : A_world_bare_R14 K e w := by
  unfold A_world_bare_R14
  simp only [g1, g3]
  have hK : Keeps (· = b3) w w := .refl
  repeat' (first
    | refine And.intro ?_ ?_
    | refine fieldA_intro ?_
    | refine load1_intro (l := whCells x) (by assumption) rfl ?_
    | refine loadN_intro (l := whCells x) (by assumption) (by simp [whCells]) ?_
    | refine put1 (w0 := w) (c := b1) (b := b3) (by assumption) (by assumption) (by assumption) hne (by simp [whCells]) rfl fun w' hK hc1 hc3 => ?_
    | refine putN (w0 := w) (c := b1) (b := b3) (by assumption) (by assumption) (by assumption) hne rfl (by simp [whCells]) (by simp [whCells, Value.oneCell']) fun w' hK hc1 hc3 => ?_)
  all_goals
    exact hk _ _ rfl rfl rfl hK hc3

theorem bare_R16 {x y : Wh} {b1 b3 : Nat} {K : Env → World → Prop} {e : Env} (g1 : e 1 = ptr b1) (g3 : e 3 = ptr b3) (h1 : cellsOf w b1 = some (whCells x)) (h3 : cellsOf w b3 = some (whCells y)) (hne : b1 ≠ b3)
    (hk : ∀ e' w', e' 1 = e 1 → e' 2 = e 2 → e' 3 = e 3 → Keeps (· = b3) w w' → cellsOf w' b3 = some (whCells { y with n := x.n, lost := x.lost }) → K e' w') : A_world_bare_R16 K e w := by
  unfold A_world_bare_R16
  simp only [g1, g3]
  have hK : Keeps (· = b3) w w := .refl
  repeat' (first
    | refine And.intro ?_ ?_
    | refine fieldA_intro ?_
    | refine load1_intro (l := whCells x) (by assumption) rfl ?_
    | refine loadN_intro (l := whCells x) (by assumption) (by simp [whCells]) ?_
    | refine put1 (w0 := w) (c := b1) (b := b3) (by assumption) (by assumption) (by assumption) hne (by simp [whCells]) rfl fun w' hK hc1 hc3 => ?_
    | refine putN (w0 := w) (c := b1) (b := b3) (by assumption) (by assumption) (by assumption) hne rfl (by simp [whCells]) (by simp [whCells, Value.oneCell']) fun w' hK hc1 hc3 => ?_)
  all_goals
    exact hk _ _ rfl rfl rfl hK hc3

theorem bare_R18 {x y : Wh} {b1 b3 : Nat} {K : Env → World → Prop} {e : Env} (g1 : e 1 = ptr b1) (g3 : e 3 = ptr b3) (h1 : cellsOf w b1 = some (whCells x)) (h3 : cellsOf w b3 = some (whCells y)) (hne : b1 ≠ b3)
    (hk : ∀ e' w', e' 1 = e 1 → e' 2 = e 2 → e' 3 = e 3 → Keeps (· = b3) w w' → cellsOf w' b3 = some (whCells { y with of := x.of, n := x.n }) → K e' w') : A_world_bare_R18 K e w := by
  unfold A_world_bare_R18
  simp only [g1, g3]
  have hK : Keeps (· = b3) w w := .refl
  repeat' (first
    | refine And.intro ?_ ?_
    | refine fieldA_intro ?_
    | refine load1_intro (l := whCells x) (by assumption) rfl ?_
    | refine loadN_intro (l := whCells x) (by assumption) (by simp [whCells]) ?_
    | refine put1 (w0 := w) (c := b1) (b := b3) (by assumption) (by assumption) (by assumption) hne (by simp [whCells]) rfl fun w' hK hc1 hc3 => ?_
    | refine putN (w0 := w) (c := b1) (b := b3) (by assumption) (by assumption) (by assumption) hne rfl (by simp [whCells]) (by simp [whCells, Value.oneCell']) fun w' hK hc1 hc3 => ?_)
  all_goals
    exact hk _ _ rfl rfl rfl hK hc3

theorem bare_R20 {x y : Wh} {b1 b3 : Nat} {K : Env → World → Prop} {e : Env} (g1 : e 1 = ptr b1) (g3 : e 3 = ptr b3) (h1 : cellsOf w b1 = some (whCells x)) (h3 : cellsOf w b3 = some (whCells y)) (hne : b1 ≠ b3)
    (hk : ∀ e' w', e' 1 = e 1 → e' 2 = e 2 → e' 3 = e 3 → Keeps (· = b3) w w' → cellsOf w' b3 = some (whCells { y with full := x.full, vk := x.vk, vn := x.vn, vr := x.vr }) → K e' w') : A_world_bare_R20 K e w := by
  unfold A_world_bare_R20
  simp only [g1, g3]
  have hK : Keeps (· = b3) w w := .refl
  repeat' (first
    | refine And.intro ?_ ?_
    | refine fieldA_intro ?_
    | refine load1_intro (l := whCells x) (by assumption) rfl ?_
    | refine loadN_intro (l := whCells x) (by assumption) (by simp [whCells]) ?_
    | refine put1 (w0 := w) (c := b1) (b := b3) (by assumption) (by assumption) (by assumption) hne (by simp [whCells]) rfl fun w' hK hc1 hc3 => ?_
    | refine putN (w0 := w) (c := b1) (b := b3) (by assumption) (by assumption) (by assumption) hne rfl (by simp [whCells]) (by simp [whCells, Value.oneCell']) fun w' hK hc1 hc3 => ?_)
  all_goals
    exact hk _ _ rfl rfl rfl hK hc3

theorem bare_R22 {x y : Wh} {b1 b3 : Nat} {K : Env → World → Prop} {e : Env} (g1 : e 1 = ptr b1) (g3 : e 3 = ptr b3) (h1 : cellsOf w b1 = some (whCells x)) (h3 : cellsOf w b3 = some (whCells y)) (hne : b1 ≠ b3)
    (hk : ∀ e' w', e' 1 = e 1 → e' 2 = e 2 → e' 3 = e 3 → Keeps (· = b3) w w' → cellsOf w' b3 = some (whCells { y with n := y.n }) → K e' w') : A_world_bare_R22 K e w := by
  unfold A_world_bare_R22
  simp only [g1, g3]
  have hK : Keeps (· = b3) w w := .refl
  repeat' (first
    | refine And.intro ?_ ?_
    | refine fieldA_intro ?_
    | refine load1_intro (l := whCells x) (by assumption) rfl ?_
    | refine loadN_intro (l := whCells x) (by assumption) (by simp [whCells]) ?_
    | refine put1 (w0 := w) (c := b1) (b := b3) (by assumption) (by assumption) (by assumption) hne (by simp [whCells]) rfl fun w' hK hc1 hc3 => ?_
    | refine putN (w0 := w) (c := b1) (b := b3) (by assumption) (by assumption) (by assumption) hne rfl (by simp [whCells]) (by simp [whCells, Value.oneCell']) fun w' hK hc1 hc3 => ?_)
  all_goals
    exact hk _ _ rfl rfl rfl hK hc3

theorem bare_R24 {x y : Wh} {b1 b3 : Nat} {K : Env → World → Prop} {e : Env} (g1 : e 1 = ptr b1) (g3 : e 3 = ptr b3) (h1 : cellsOf w b1 = some (whCells x)) (h3 : cellsOf w b3 = some (whCells y)) (hne : b1 ≠ b3)
    (hk : ∀ e' w', e' 1 = e 1 → e' 2 = e 2 → e' 3 = e 3 → Keeps (· = b3) w w' → cellsOf w' b3 = some (whCells { y with full := x.full, of := x.of }) → K e' w') : A_world_bare_R24 K e w := by
  unfold A_world_bare_R24
  simp only [g1, g3]
  have hK : Keeps (· = b3) w w := .refl
  repeat' (first
    | refine And.intro ?_ ?_
    | refine fieldA_intro ?_
    | refine load1_intro (l := whCells x) (by assumption) rfl ?_
    | refine loadN_intro (l := whCells x) (by assumption) (by simp [whCells]) ?_
    | refine put1 (w0 := w) (c := b1) (b := b3) (by assumption) (by assumption) (by assumption) hne (by simp [whCells]) rfl fun w' hK hc1 hc3 => ?_
    | refine putN (w0 := w) (c := b1) (b := b3) (by assumption) (by assumption) (by assumption) hne rfl (by simp [whCells]) (by simp [whCells, Value.oneCell']) fun w' hK hc1 hc3 => ?_)
  all_goals
    exact hk _ _ rfl rfl rfl hK hc3

theorem bare_R27 {x y : Wh} {b1 b3 : Nat} {K : Env → World → Prop} {e : Env} (g1 : e 1 = ptr b1) (g3 : e 3 = ptr b3) (h1 : cellsOf w b1 = some (whCells x)) (h3 : cellsOf w b3 = some (whCells y)) (hne : b1 ≠ b3)
    (hk : ∀ e' w', e' 1 = e 1 → e' 2 = e 2 → e' 3 = e 3 → Keeps (· = b3) w w' → cellsOf w' b3 = some (whCells { y with of := x.of, by_ := x.by_ }) → K e' w') : A_world_bare_R27 K e w := by
  unfold A_world_bare_R27
  simp only [g1, g3]
  have hK : Keeps (· = b3) w w := .refl
  repeat' (first
    | refine And.intro ?_ ?_
    | refine fieldA_intro ?_
    | refine load1_intro (l := whCells x) (by assumption) rfl ?_
    | refine loadN_intro (l := whCells x) (by assumption) (by simp [whCells]) ?_
    | refine put1 (w0 := w) (c := b1) (b := b3) (by assumption) (by assumption) (by assumption) hne (by simp [whCells]) rfl fun w' hK hc1 hc3 => ?_
    | refine putN (w0 := w) (c := b1) (b := b3) (by assumption) (by assumption) (by assumption) hne rfl (by simp [whCells]) (by simp [whCells, Value.oneCell']) fun w' hK hc1 hc3 => ?_)
  all_goals
    exact hk _ _ rfl rfl rfl hK hc3

end
end Go.X
