/- Contract: New. -/
import Derived.Test.YtdjheefbeagcjaaXxAny2
import Derived.Test.YtdjheefbeagcjaaXxC25
import Derived.Test.YtdjheefbeagcjaaXxS2
import Derived.Test.YtdjheefbeagcjaaXxS5
set_option linter.unusedSimpArgs false
set_option linter.unusedVariables false
set_option maxRecDepth 20000
set_option maxHeartbeats 2000000
namespace Go.X
open Go Go.AW

section
variable {w0 w : World} {L : Lay} {a : AW} {k : Value → World → Prop}

theorem zeros_one (z : Value) (n : Nat) : (zerosOf #[z] n).toList = List.replicate n z := by
  simp only [zerosOf, Array.toList_map, Array.toList_range]
  rw [List.eq_replicate_iff]
  refine ⟨by simp, fun b hb => ?_⟩
  obtain ⟨i, hi, rfl⟩ := List.mem_map.1 hb
  simp [Nat.mod_one]

theorem makeS_intro {e bytes : Nat} {z : Value} {n : Nat} (hz : z.cells = #[z]) (hn : (bytes : Int) * n ≤ 281474976710656) (hn' : n ≤ 281474976710656) (h : ∀ v w', Ext w w' → SliceOf w' v (List.replicate n z) → (∀ b ∈ sliceBlk v, w.heap.size ≤ b) → k v w') :
    makeS e 1 bytes z (vi n) (vi n) w k := by
  unfold makeS
  refine ⟨by omega, by omega, ?_, hn, ?_⟩
  · have : IntKind.i64.max = 9223372036854775807 := by decide
    rw [this]; omega
  · have h1 : (if (n : Int).toNat * 1 = 0 then #[] else z.cells) = if n = 0 then #[] else #[z] := by simp [hz]
    rw [h1]
    have h2 : ∀ m, (zerosOf (if m = 0 then #[] else #[z]) m).toList = List.replicate m z := by
      intro m
      by_cases hm : m = 0
      · subst hm; simp [zerosOf]
      · rw [if_neg hm]; exact zeros_one z m
    have h3 := cellsOf_new w (zerosOf (if n = 0 then #[] else #[z]) n) e
    rw [h2] at h3
    simp only [Int.toNat_natCast, Nat.mul_one]
    refine h _ _ (Ext.alloc _ _) ⟨Nat.le_refl _, _, h3, by simp, by simp, by simp⟩ (by simp [sliceBlk])

theorem ReadsOf.at {w : World} {v : Value} {l : List Value} (h : ReadsOf w v l) {j : Int} (h0 : 0 ≤ j) (h1 : j < l.length) :
    ∃ b i c, (∀ (q : IntKind) (k : Value → Prop), indexS 1 v (.int q j) k = k (.pointer (some ⟨b, i, none⟩))) ∧ cellsRd w b = some c ∧ c[i]? = l[j.toNat]? := by
  unfold ReadsOf at h
  split at h
  · obtain ⟨_, _, rfl⟩ := h; simp at h1; omega
  · rename_i a n cap
    rcases h with ⟨_, _, rfl⟩ | ⟨b, i, c, rfl, hn, hc, hl, ht, hle⟩
    · simp at h1; omega
    obtain ⟨m, rfl⟩ := Int.eq_ofNat_of_zero_le h0
    have hm : m < l.length := by omega
    refine ⟨b, i + m, c, fun q k => ?_, hc, ?_⟩
    · simp only [indexS, Int.toNat_natCast, Nat.mul_one, add_off]
      apply propext
      constructor
      · exact fun h => h.2.2
      · exact fun h => ⟨by omega, by omega, h⟩
    · simp only [Int.toNat_natCast]
      rw [← ht, List.getElem?_take_of_lt (by omega), List.getElem?_drop]
  · exact h.elim

theorem ReadsOf.lenL {w : World} {v : Value} {l : List Value} (h : ReadsOf w v l) (q : Value → Prop) : lenL v q = q (vi l.length) := by
  obtain ⟨a, n, c, rfl, rfl, _⟩ := h.first
  rfl

theorem clone_Side_c {v : Value} {l : List Value} (h : ReadsOf w v l) (ho : ∀ y ∈ l, y.oneCell' = true) (hl : l.length ≤ 1000000) (hk : ∀ v' w', Ext w w' → SliceOf w' v' l → (∀ b ∈ sliceBlk v', w.heap.size ≤ b) → k v' w') :
    callOn prog fn_slices_Clone_Side #[v] w k := by
  apply F_slices_Clone_Side_on
  unfold F_slices_Clone_Side
  have h0 := h
  unfold ReadsOf at h0
  split at h0
  · obtain ⟨rfl, rfl, rfl⟩ := h0
    refine slice_eql (cond_t rfl (hk _ w .refl ⟨rfl, rfl, rfl⟩ (by simp [sliceBlk])))
  · rename_i a n cap
    refine slice_eql (cond_f rfl ?_)
    unfold buildL
    refine ⟨by simp, ?_⟩
    have hz : zerosOf (if 0 * 1 = 0 then #[] else (Value.int IntKind.i64 0).cells) (0 * 1) = #[] := by simp [zerosOf]
    rw [hz]
    simp only [Instr.fill]
    have hnew := cellsOf_new w #[] 25
    have he := Ext.alloc w (.cells #[] 25)
    refine append_rd (l := []) (ys := l) (s := .slice (some ⟨w.heap.size, 0, none⟩) 0 0) ⟨Nat.le_refl _, [], hnew, rfl, rfl, by simp⟩ (h.ext he) ho rfl (by simp; omega) (by simp; omega) fun s' w' hkp hs hb => ?_
    refine hk s' w' (he.trans' hkp fun x hx hin => by simp [sliceBlk] at hin; omega) (by simpa using hs) fun x hx => ?_
    rcases hb x hx with h1 | h1
    · simp [sliceBlk] at h1; omega
    · have := he.size; omega
  · exact h0.elim

abbrev ph : Res := .slice noList []

/-- what a step of the making leaves: a piece in its place once it is done -/
def Put (done : Bool) (r : Res) (good : Res → Prop) : Prop := (done = true → good r) ∧ (done = false → r = ph)

def NewI (w0 : World) (par : Value) (ps : List Value) (n : Nat) (e0 : Env) (D : Nat → Bool) (e : Env) (w : World) : Prop :=
  ∃ r1 r3 r5 r6 r7 r9, State (fun _ => False) w0 w [r1, r3, r5, r6, r7, r9] ∧ e 0 = par ∧ e 6 = vi n ∧
    (D 0 = true → e 28 = par) ∧ (D 2 = true → e 30 = vi n) ∧ (D 4 = true → e 32 = vi n) ∧
    Put (D 1) r1 (fun r => r = .slice (e 29) ps) ∧ Put (D 3) r3 (fun r => r = .slice (e 31) (List.replicate n (.bool false))) ∧ Put (D 5) r5 (fun r => r = .slice (e 33) (List.replicate n (vi 0))) ∧
    Put (D 6) r6 (fun r => ∃ b, e 34 = .map (some b) ∧ r = .map b [] 0) ∧ Put (D 7) r7 (fun r => ∃ b, e 35 = .map (some b) ∧ r = .map b [] 0) ∧
    (D 8 = true → (D 1 = true ∧ D 3 = true ∧ D 5 = true ∧ D 6 = true ∧ D 7 = true) ∧ e 36 = .agg [e 29, e 31, e 34, e 35, vi 0, e 33].toArray) ∧
    Put (D 9) r9 (fun r => ∃ b, e 37 = ptr b ∧ r = .cells b [e 29, e 31, e 34, e 35, vi 0, e 33]) ∧ (D 10 = true → e 2 = e 37) ∧ (D 11 = true → e 3 = vi 0) ∧ (D 9 = true → D 8 = true) ∧ (D 10 = true → D 9 = true)

theorem Put.keep {d d' : Bool} {r : Res} {g g' : Res → Prop} (h : Put d r g) (hd : d' = d) (hg : ∀ r, g r → g' r) : Put d' r g' := by
  subst hd
  exact ⟨fun h1 => hg _ (h.1 h1), h.2⟩
theorem Put.of {d : Bool} {r : Res} {g : Res → Prop} (hd : d = true) (hg : g r) : Put d r g := ⟨fun _ => hg, fun h => by rw [hd] at h; simp at h⟩
theorem Put.no {d : Bool} {r : Res} {g g' : Res → Prop} (h : Put d r g) (hd : d = false) : Put d r g' := ⟨fun h1 => by rw [hd] at h1; simp at h1, h.2⟩

theorem blk_nodup (v : Value) : (sliceBlk v).Nodup := by unfold sliceBlk; split <;> simp

theorem new_region {par : Value} {ps : List Value} {n : Nat} {e0 : Env} {K : Env → World → Prop} (hp : ReadsOf w0 par ps) (hps : ∀ y ∈ ps, y.oneCell' = true) (hn : n ≤ 1000) (hl : ps.length ≤ 1000) (st : State (fun _ => False) w0 w [])
    (h0 : e0 0 = par) (h6 : e0 6 = vi n)
    (hk : ∀ e w' v29 v31 v33 b6 b7 b, e 2 = ptr b → e 3 = vi 0 →
      State (fun _ => False) w0 w' [.slice v29 ps, .slice v31 (List.replicate n (.bool false)), .slice v33 (List.replicate n (vi 0)), .map b6 [] 0, .map b7 [] 0, .cells b [v29, v31, .map (some b6), .map (some b7), vi 0, v33]] → K e w') :
    drawK prog world_New_R10 e0 w K := by
  refine .inr (anyK_inv world_New_R10_pre (NewI w0 par ps n e0) world_New_R10_ok ?_ ?_ ?_ ?_)
  · refine ⟨ph, ph, ph, ph, ph, ph, ?_, h0, h6, by simp, by simp, by simp, ⟨by simp, by simp⟩, ⟨by simp, by simp⟩, ⟨by simp, by simp⟩, ⟨by simp, by simp⟩, ⟨by simp, by simp⟩, by simp, ⟨by simp, by simp⟩, by simp, by simp, by simp, by simp⟩
    refine ⟨st.keeps, fun r hr => ?_, by simp [blksOf, Res.blks, sliceBlk], by simp [blksOf, Res.blks, sliceBlk]⟩
    simp at hr
    subst hr
    exact ⟨rfl, rfl, rfl⟩
  · intro D D' e w hD h
    have : D = D' := funext hD
    rw [← this]; exact h
  · rintro i o ho D e w ⟨r1, r3, r5, r6, r7, r9, st, g0, g6, i0, i2, i4, p1, p3, p5, p6, p7, i8, p9, i10, i11, i9, i13⟩ hD hpre K hK
    have hp' := hp.ext st.keeps
    have no8 : (D 1 = false ∨ D 3 = false ∨ D 5 = false ∨ D 6 = false ∨ D 7 = false) → D 8 = false := by
      intro h
      cases hc : D 8 with
      | false => rfl
      | true => have := (i8 hc).1; simp_all
    have no9 : D 8 = false → D 9 = false := by
      intro h
      cases hc : D 9 with
      | false => rfl
      | true => have := i9 hc; simp_all
    have f8 : ∀ {P : Prop}, D 8 = false → D 8 = true → P := fun h h' => by rw [h] at h'; simp at h'
    match i, ho, hD, hpre, hK with
    | 0, ho, hD, hpre, hK =>
      refine O_world_New_R10_0_on ho ?_
      exact hK _ _ ⟨r1, r3, r5, r6, r7, r9, st, g0, g6, fun _ => g0, i2, i4, p1, p3, p5, p6, p7, i8, p9, i10, i11, i9, i13⟩
    | 1, ho, hD, hpre, hK =>
      refine O_world_New_R10_1_on ho ?_
      have q8 := no8 (.inl hD)
      simp only [O_world_New_R10_1, i0 (hpre 0 (by simp [world_New_R10_pre]))]
      refine clone_Side_c hp' hps (by omega) fun v w' he hs hb => ?_
      obtain rfl := p1.2 hD
      have st' := st.change (r := ph) (r' := .slice v ps) .head (Keeps.of_ext he) hs (blk_nodup v) (fun b hb' => .inr (hb b hb'))
      exact hK _ _ ⟨_, r3, r5, r6, r7, r9, st', g0, g6, i0, i2, i4, .of rfl rfl, p3, p5, p6, p7, fun h => f8 q8 h, p9.no (no9 q8), i10, i11, i9, i13⟩
    | 2, ho, hD, hpre, hK =>
      refine O_world_New_R10_2_on ho ?_
      exact hK _ _ ⟨r1, r3, r5, r6, r7, r9, st, g0, g6, i0, fun _ => g6, i4, p1, p3, p5, p6, p7, i8, p9, i10, i11, i9, i13⟩
    | 3, ho, hD, hpre, hK =>
      refine O_world_New_R10_3_on ho ?_
      have q8 := no8 (.inr (.inl hD))
      simp only [O_world_New_R10_3, i2 (hpre 2 (by simp [world_New_R10_pre]))]
      refine makeS_intro rfl (by omega) (by omega) fun v w' he hs hb => ?_
      obtain rfl := p3.2 hD
      have st' := st.change (r := ph) (r' := .slice v (List.replicate n (.bool false))) (.tail .head) (Keeps.of_ext he) hs (blk_nodup v) (fun b hb' => .inr (hb b hb'))
      exact hK _ _ ⟨r1, _, r5, r6, r7, r9, st', g0, g6, i0, i2, i4, p1, .of rfl rfl, p5, p6, p7, fun h => f8 q8 h, p9.no (no9 q8), i10, i11, i9, i13⟩
    | 4, ho, hD, hpre, hK =>
      refine O_world_New_R10_4_on ho ?_
      exact hK _ _ ⟨r1, r3, r5, r6, r7, r9, st, g0, g6, i0, i2, fun _ => g6, p1, p3, p5, p6, p7, i8, p9, i10, i11, i9, i13⟩
    | 5, ho, hD, hpre, hK =>
      refine O_world_New_R10_5_on ho ?_
      have q8 := no8 (.inr (.inr (.inl hD)))
      simp only [O_world_New_R10_5, i4 (hpre 4 (by simp [world_New_R10_pre]))]
      refine makeS_intro rfl (by omega) (by omega) fun v w' he hs hb => ?_
      obtain rfl := p5.2 hD
      have st' := st.change (r := ph) (r' := .slice v (List.replicate n (vi 0))) (.tail (.tail .head)) (Keeps.of_ext he) hs (blk_nodup v) (fun b hb' => .inr (hb b hb'))
      exact hK _ _ ⟨r1, r3, _, r6, r7, r9, st', g0, g6, i0, i2, i4, p1, p3, .of rfl rfl, p6, p7, fun h => f8 q8 h, p9.no (no9 q8), i10, i11, i9, i13⟩
    | 6, ho, hD, hpre, hK =>
      refine O_world_New_R10_6_on ho ?_
      have q8 := no8 (.inr (.inr (.inr (.inl hD))))
      refine ⟨trivial, ?_⟩
      obtain rfl := p6.2 hD
      have st' := st.change (r := ph) (r' := .map w.heap.size [] 0) (.tail (.tail (.tail .head))) (Keeps.of_ext (Ext.alloc w (.map #[] 0))) (mapOf_new _ _ _) (by simp [Res.blks]) (by simp [Res.blks])
      exact hK _ _ ⟨r1, r3, r5, _, r7, r9, st', g0, g6, i0, i2, i4, p1, p3, p5, .of rfl ⟨_, rfl, rfl⟩, p7, fun h => f8 q8 h, p9.no (no9 q8), i10, i11, i9, i13⟩
    | 7, ho, hD, hpre, hK =>
      refine O_world_New_R10_7_on ho ?_
      have q8 := no8 (.inr (.inr (.inr (.inr hD))))
      refine ⟨trivial, ?_⟩
      obtain rfl := p7.2 hD
      have st' := st.change (r := ph) (r' := .map w.heap.size [] 0) (.tail (.tail (.tail (.tail .head)))) (Keeps.of_ext (Ext.alloc w (.map #[] 0))) (mapOf_new _ _ _) (by simp [Res.blks]) (by simp [Res.blks])
      exact hK _ _ ⟨r1, r3, r5, r6, _, r9, st', g0, g6, i0, i2, i4, p1, p3, p5, p6, .of rfl ⟨_, rfl, rfl⟩, fun h => f8 q8 h, p9.no (no9 q8), i10, i11, i9, i13⟩
    | 8, ho, hD, hpre, hK =>
      refine O_world_New_R10_8_on ho ?_
      have d1 := hpre 1 (by simp [world_New_R10_pre])
      have d3 := hpre 3 (by simp [world_New_R10_pre])
      have d5 := hpre 5 (by simp [world_New_R10_pre])
      have d6 := hpre 6 (by simp [world_New_R10_pre])
      have d7 := hpre 7 (by simp [world_New_R10_pre])
      have s1 : SliceOf w (e 29) ps := by have := st.holds r1 (by simp); rwa [p1.1 d1] at this
      have s3 : SliceOf w (e 31) (List.replicate n (.bool false)) := by have := st.holds r3 (by simp); rwa [p3.1 d3] at this
      have s5 : SliceOf w (e 33) (List.replicate n (vi 0)) := by have := st.holds r5 (by simp); rwa [p5.1 d5] at this
      obtain ⟨a1, n1, c1, h1, _⟩ := s1.first
      obtain ⟨a3, n3, c3, h3, _⟩ := s3.first
      obtain ⟨a5, n5, c5, h5, _⟩ := s5.first
      obtain ⟨b6, h6, _⟩ := p6.1 d6
      obtain ⟨b7, h7, _⟩ := p7.1 d7
      have hb : ∀ q : Value → Prop, q (.agg [e 29, e 31, e 34, e 35, vi 0, e 33].toArray) → buildS (Value.agg #[Value.slice none 0 0, Value.slice none 0 0, Value.map none, Value.map none, Value.int IntKind.i64 0, Value.slice none 0 0])
          [(0, 1), (1, 1), (2, 1), (3, 1), (4, 1), (5, 1)] [(0, e 29), (1, e 31), (5, e 33), (2, e 34), (3, e 35)] q := by
        intro q hq
        rw [h1, h3, h5, h6, h7] at hq ⊢
        exact hq
      refine hb _ ?_
      have no9' : D 9 = false := by
        cases hc : D 9 with
        | false => rfl
        | true => have := i9 hc; rw [hD] at this; simp at this
      exact hK _ _ ⟨r1, r3, r5, r6, r7, r9, st, g0, g6, i0, i2, i4, p1, p3, p5, p6, p7, fun _ => ⟨⟨d1, d3, d5, d6, d7⟩, rfl⟩, p9, i10, i11, fun _ => rfl, i13⟩
    | 9, ho, hD, hpre, hK =>
      refine O_world_New_R10_9_on ho ?_
      have d8 := hpre 8 (by simp [world_New_R10_pre])
      have h36 := (i8 d8).2
      simp only [O_world_New_R10_9, h36]
      obtain rfl := p9.2 hD
      have st' := st.change (r := ph) (r' := .cells w.heap.size [e 29, e 31, e 34, e 35, vi 0, e 33]) (.tail (.tail (.tail (.tail (.tail .head))))) (Keeps.of_ext (Ext.alloc w _)) (cellsOf_new w _ 107) (by simp [Res.blks]) (by simp [Res.blks])
      exact hK _ _ ⟨r1, r3, r5, r6, r7, _, st', g0, g6, i0, i2, i4, p1, p3, p5, p6, p7, i8, .of rfl ⟨_, rfl, rfl⟩, fun h => by have := i13 h; rw [hD] at this; simp at this, i11, fun _ => d8, fun _ => rfl⟩
    | 10, ho, hD, hpre, hK =>
      refine O_world_New_R10_10_on ho ?_
      exact hK _ _ ⟨r1, r3, r5, r6, r7, r9, st, g0, g6, i0, i2, i4, p1, p3, p5, p6, p7, i8, p9, fun _ => rfl, i11, i9, fun _ => hpre 9 (by simp [world_New_R10_pre])⟩
    | 11, ho, hD, hpre, hK =>
      refine O_world_New_R10_11_on ho ?_
      exact hK _ _ ⟨r1, r3, r5, r6, r7, r9, st, g0, g6, i0, i2, i4, p1, p3, p5, p6, p7, i8, p9, i10, fun _ => rfl, i9, i13⟩
    | n + 12, ho, hD, hpre, hK =>
      have : world_New_R10.size = 12 := by kernel_rfl
      have := (Array.getElem?_eq_some_iff.1 ho).1
      omega
  · rintro D e w hall ⟨r1, r3, r5, r6, r7, r9, st, g0, g6, i0, i2, i4, p1, p3, p5, p6, p7, i8, p9, i10, i11, i9, i13⟩
    have hs : world_New_R10.size = 12 := by kernel_rfl
    have d : ∀ j, j < 12 → D j = true := fun j hj => hall j (by omega)
    obtain rfl := p1.1 (d 1 (by omega))
    obtain rfl := p3.1 (d 3 (by omega))
    obtain rfl := p5.1 (d 5 (by omega))
    obtain ⟨b6, h6, rfl⟩ := p6.1 (d 6 (by omega))
    obtain ⟨b7, h7, rfl⟩ := p7.1 (d 7 (by omega))
    obtain ⟨b, h9, rfl⟩ := p9.1 (d 9 (by omega))
    rw [h6, h7] at st
    exact hk e w _ _ _ _ _ _ ((i10 (d 10 (by omega))).trans h9) (i11 (d 11 (by omega))) st

theorem new_eq (ps : List Int) : new ps = if ps.length < 16 ∧ ∀ i, i < ps.length → 0 ≤ ps.getD i 0 ∧ ps.getD i 0 ≤ i then
    some { parents := ps, cut := List.replicate (ps.length + 1) false, things := [], last := 0, made := List.replicate (ps.length + 1) 0 } else none := by
  unfold new
  by_cases h16 : ps.length < 16
  · rw [if_neg (by omega)]
    have : (ps.zipIdx.all fun (p, i) => decide (0 ≤ p) && decide (p ≤ i)) = true ↔ ∀ i, i < ps.length → 0 ≤ ps.getD i 0 ∧ ps.getD i 0 ≤ i := by
      rw [List.all_eq_true]
      constructor
      · intro h i hi
        have := h (ps[i], i) (List.mem_zipIdx_iff_getElem?.2 (by simp [hi]))
        simpa [hi, List.getD_eq_getElem?_getD] using this
      · rintro h ⟨x, i⟩ hm
        have hm := List.mem_zipIdx_iff_getElem?.1 hm
        simp only at hm
        have hi : i < ps.length := (List.getElem?_eq_some_iff.1 hm).1
        have := h i hi
        rw [List.getD_eq_getElem?_getD, hm] at this
        simpa using this
    by_cases hall : ∀ i, i < ps.length → 0 ≤ ps.getD i 0 ∧ ps.getD i 0 ≤ i
    · rw [if_pos (this.2 hall), if_pos ⟨h16, hall⟩]
    · rw [if_neg (fun h => hall (this.1 h)), if_neg (fun h => hall h.2)]
  · rw [if_pos (by omega), if_neg (fun h => h16 h.1)]

theorem new_rep {ps : List Int} {w' : World} {v29 v31 v33 : Value} {b6 b7 b : Nat} (hl : ps.length < 16)
    (st : State (fun _ => False) w w' [.slice v29 (ps.map vi), .slice v31 (List.replicate (ps.length + 1) (.bool false)), .slice v33 (List.replicate (ps.length + 1) (vi 0)), .map b6 [] 0, .map b7 [] 0, .cells b [v29, v31, .map (some b6), .map (some b7), vi 0, v33]]) :
    ∃ L, L.p = b ∧ WRep w' L { parents := ps, cut := List.replicate (ps.length + 1) false, things := [], last := 0, made := List.replicate (ps.length + 1) 0 } ∧
      ∀ c ∈ foot L { parents := ps, cut := List.replicate (ps.length + 1) false, things := [], last := 0, made := List.replicate (ps.length + 1) 0 }, w.heap.size ≤ c := by
  have hap := st.apart
  have hown := st.own
  simp only [blksOf, List.flatMap_cons, List.flatMap_nil, Res.blks, List.append_nil] at hap hown
  have hperm : (b :: b6 :: b7 :: (sliceBlk v29 ++ (sliceBlk v31 ++ (sliceBlk v33 ++ [])))).Perm (sliceBlk v29 ++ (sliceBlk v31 ++ (sliceBlk v33 ++ ([b6] ++ ([b7] ++ [b]))))) := by
    have h1 : (b :: b6 :: b7 :: (sliceBlk v29 ++ (sliceBlk v31 ++ (sliceBlk v33 ++ [])))).Perm ([b6, b7, b] ++ (sliceBlk v29 ++ (sliceBlk v31 ++ sliceBlk v33))) := by
      simp only [List.append_nil]
      exact (List.Perm.swap b6 b _).trans ((List.Perm.swap b7 b _).cons b6)
    refine h1.trans ?_
    refine List.perm_append_comm.trans ?_
    simp
  have hfoot : foot ⟨b, b6, b7, v29, v31, v33, [], [], 0, 0, fun _ => 0⟩ ({ parents := ps, cut := List.replicate (ps.length + 1) false, things := [], last := 0, made := List.replicate (ps.length + 1) 0 } : AW) =
      b :: b6 :: b7 :: (sliceBlk v29 ++ (sliceBlk v31 ++ (sliceBlk v33 ++ []))) := rfl
  refine ⟨⟨b, b6, b7, v29, v31, v33, [], [], 0, 0, fun _ => 0⟩, rfl, ?_, ?_⟩
  · exact { top := st.cell (by simp), par := st.sl (by simp), cut := by have := st.sl (v := v31) (l := List.replicate (ps.length + 1) (.bool false)) (by simp); simpa using this,
            made := by have := st.sl (v := v33) (l := List.replicate (ps.length + 1) (vi 0)) (by simp); simpa using this,
            things := st.holds (.map b6 [] 0) (by simp), facets := st.holds (.map b7 [] 0) (by simp), ents := .refl _, facs := .refl _, cells := by simp, born := by simp,
            apart := by rw [hfoot]; exact hperm.nodup_iff.2 hap, sorted := by simp, len1 := by simp, len2 := by simp, len3 := by simp; omega, nums := by simp, low := by simp, high := by simp }
  · intro c hc
    rw [hfoot] at hc
    have := hown c (hperm.mem_iff.1 hc)
    rcases this with h | h
    · exact h.elim
    · exact h

theorem new_c {v : Value} {ps : List Int} (h : ReadsOf w v (ps.map vi))
    (hno : new ps = none → k (.tuple #[.pointer none, vi 71]) w)
    (hok : ∀ a w' L, new ps = some a → Ext w w' → WRep w' L a → (∀ b ∈ foot L a, w.heap.size ≤ b) → k (.tuple #[ptr L.p, vi 0]) w') : callOn prog fn_world_New #[v] w k := by
  apply F_world_New_on
  unfold F_world_New
  simp only [h.lenL, List.length_map]
  rw [new_eq] at hno
  simp only [new_eq] at hok
  refine geq_at ?_
  by_cases h16 : ps.length < 16
  · refine cond_f (by simp; omega) ?_
    have hlen : (ps.map vi).length = ps.length := by simp
    refine ⟨fun m e w' => ∃ i : Nat, m = ps.length - i ∧ i ≤ ps.length ∧ e 0 = v ∧ e 10 = v ∧ e 11 = vi ps.length ∧ e 12 = vi i ∧ w' = w ∧ ∀ j, j < i → 0 ≤ ps.getD j 0 ∧ ps.getD j 0 ≤ j, ps.length,
      ⟨0, by omega, by omega, rfl, rfl, rfl, rfl, rfl, by simp⟩, ?_⟩
    rintro m e w' ⟨i, hm, hi, g0, g10, g11, g12, rfl, hall⟩
    simp only [g10, g11, g12, g0]
    refine lss_at ?_
    by_cases hlt : i < ps.length
    · refine cond_t (by simpa using hlt) ?_
      obtain ⟨b, ix, c, hix, hc, hci⟩ := h.at (j := (i : Int)) (by omega) (by simp; omega)
      have hv : c[ix]? = some (vi (ps.getD i 0)) := by rw [hci]; simp [hlt, List.getD_eq_getElem?_getD]
      rw [hix]
      have hrd : Reads w' b ix (vi (ps.getD i 0)) := ⟨c, hc, hv⟩
      have st := State.start (S := fun _ => False) w'
      cases q1 : decide (ps.getD i 0 < 0) with
      | true =>
        (repeat (first | ((with_reducible apply lss_at)) | ((with_reducible apply cond_t); (focus (first | assumption | rfl | decide | (simp only [bne, Bool.not_eq_true', Bool.not_eq_false', Bool.not_true, Bool.not_false, Bool.not_not]; assumption)))) | ((with_reducible apply pick_t); (focus (first | assumption | rfl | decide | (simp only [bne, Bool.not_eq_true', Bool.not_eq_false', Bool.not_true, Bool.not_false, Bool.not_not]; assumption)))) | ((with_reducible apply gop_skip); (focus (first | assumption | rfl | decide | (simp only [bne, Bool.not_eq_true', Bool.not_eq_false', Bool.not_true, Bool.not_false, Bool.not_not]; assumption)))) | ((with_reducible apply load_reads); (focus assumption))))
        refine hno (if_neg fun hh => ?_)
        have := (hh.2 i hlt).1
        simp only [decide_eq_true_eq] at q1
        omega
      | false =>
        cases q2 : decide (ps.getD i 0 > i) with
        | true =>
          (repeat (first | ((with_reducible apply lss_at)) | ((with_reducible apply gtr_at)) | ((with_reducible apply cond_t); (focus (first | assumption | rfl | decide | (simp only [bne, Bool.not_eq_true', Bool.not_eq_false', Bool.not_true, Bool.not_false, Bool.not_not]; assumption)))) | ((with_reducible apply gop_run); (focus (first | assumption | rfl | decide | (simp only [bne, Bool.not_eq_true', Bool.not_eq_false', Bool.not_true, Bool.not_false, Bool.not_not]; assumption)))) | ((with_reducible apply pick_f); (focus (first | assumption | rfl | decide | (simp only [bne, Bool.not_eq_true', Bool.not_eq_false', Bool.not_true, Bool.not_false, Bool.not_not]; assumption)))) | ((with_reducible apply load_reads); (focus assumption))))
          refine hno (if_neg fun hh => ?_)
          have := (hh.2 i hlt).2
          simp only [decide_eq_true_eq] at q2
          omega
        | false =>
          (repeat (first | ((with_reducible apply lss_at)) | ((with_reducible apply gtr_at)) | ((with_reducible apply gop_run); (focus (first | assumption | rfl | decide | (simp only [bne, Bool.not_eq_true', Bool.not_eq_false', Bool.not_true, Bool.not_false, Bool.not_not]; assumption)))) | ((with_reducible apply cond_f); (focus (first | assumption | rfl | decide | (simp only [bne, Bool.not_eq_true', Bool.not_eq_false', Bool.not_true, Bool.not_false, Bool.not_not]; assumption)))) | ((with_reducible apply pick_f); (focus (first | assumption | rfl | decide | (simp only [bne, Bool.not_eq_true', Bool.not_eq_false', Bool.not_true, Bool.not_false, Bool.not_not]; assumption)))) | ((with_reducible apply add_at); (focus omega); (focus omega)) | ((with_reducible apply load_reads); (focus assumption)) | (simp only [upd_get, start_get, List.getD_cons_zero, List.getD_cons_succ, Nat.reduceEqDiff, reduceIte, Nat.reduceAdd])))
          refine ⟨ps.length - (i + 1), by omega, i + 1, rfl, by omega, by first | exact g0 | rfl | (simp [upd_get, g0]), by first | exact g10 | (simp [upd_get, g10]), by first | exact g11 | (simp [upd_get, g11]), by simp [upd_get], by first | rfl | trivial, fun j hj => ?_⟩
          rcases Nat.lt_or_ge j i with h1 | h1
          · exact hall j h1
          · have : j = i := by omega
            subst this
            simp only [decide_eq_false_iff_not] at q1 q2
            omega
    · refine cond_f (by simpa using hlt) ?_
      have hii : i = ps.length := by omega
      subst hii
      simp only [h.lenL, List.length_map]
      refine add_at (by omega) (by omega) ?_
      refine new_region (n := ps.length + 1) h (by simp [Value.oneCell']) (by omega) (by simp; omega) (State.start w').drew (by simp [upd_get, g0]) (by simp [upd_get]) ?_
      intro e w2 v29 v31 v33 b6 b7 b e2 e3 st
      obtain ⟨L, hp, hrep, hnew⟩ := new_rep h16 st
      rw [e2, e3, ← hp]
      exact hok _ w2 L (by rw [if_pos ⟨h16, hall⟩]) st.keeps hrep hnew
  · refine cond_t (by simp; omega) ?_
    exact hno (if_neg fun h => h16 h.1)
end
end Go.X
