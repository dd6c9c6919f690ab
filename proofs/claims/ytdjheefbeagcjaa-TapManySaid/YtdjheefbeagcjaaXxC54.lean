/- Copy: the region that is drawn (written by gen_copy.py, a program of this family). -/
import Derived.Test.YtdjheefbeagcjaaXxC43
import Derived.Test.YtdjheefbeagcjaaXxC20
import Derived.Test.YtdjheefbeagcjaaXxS9
set_option linter.unusedSimpArgs false
set_option linter.unusedVariables false
set_option maxRecDepth 20000
set_option maxHeartbeats 2000000
namespace Go.X
open Go Go.AW

section
variable {w0 w : World} {L : Lay} {a : AW} {k : Value → World → Prop}

theorem clone_bool_c {v : Value} {l : List Value} (h : ReadsOf w v l) (ho : ∀ y ∈ l, y.oneCell' = true) (hl : l.length ≤ 1000000) (hk : ∀ v' w', Ext w w' → SliceOf w' v' l → (∀ b ∈ sliceBlk v', w.heap.size ≤ b) → k v' w') :
    callOn prog fn_slices_Clone_bool #[v] w k := by
  apply F_slices_Clone_bool_on
  unfold F_slices_Clone_bool
  have h0 := h
  unfold ReadsOf at h0
  split at h0
  · obtain ⟨rfl, rfl, rfl⟩ := h0
    refine slice_eql (cond_t rfl (hk _ w .refl ⟨rfl, rfl, rfl⟩ (by simp [sliceBlk])))
  · rename_i a n cap
    refine slice_eql (cond_f rfl ?_)
    unfold buildL
    refine ⟨by simp, ?_⟩
    have hz : zerosOf (if 0 * 1 = 0 then #[] else (.bool false : Value).cells) (0 * 1) = #[] := by simp [zerosOf]
    rw [hz]
    simp only [Instr.fill]
    have hnew := cellsOf_new w #[] 4
    have he := Ext.alloc w (.cells #[] 4)
    refine append_rd (l := []) (ys := l) (s := .slice (some ⟨w.heap.size, 0, none⟩) 0 0) ⟨Nat.le_refl _, [], hnew, rfl, rfl, by simp⟩ (h.ext he) ho rfl (by simp; omega) (by simp; omega) fun s' w' hkp hs hb => ?_
    refine hk s' w' (he.trans' hkp fun x hx hin => by simp [sliceBlk] at hin; omega) (by simpa using hs) fun x hx => ?_
    rcases hb x hx with h1 | h1
    · simp [sliceBlk] at h1; omega
    · have := he.size; omega
  · exact h0.elim

theorem clone_int_c {v : Value} {l : List Value} (h : ReadsOf w v l) (ho : ∀ y ∈ l, y.oneCell' = true) (hl : l.length ≤ 1000000) (hk : ∀ v' w', Ext w w' → SliceOf w' v' l → (∀ b ∈ sliceBlk v', w.heap.size ≤ b) → k v' w') :
    callOn prog fn_slices_Clone_int #[v] w k := by
  apply F_slices_Clone_int_on
  unfold F_slices_Clone_int
  have h0 := h
  unfold ReadsOf at h0
  split at h0
  · obtain ⟨rfl, rfl, rfl⟩ := h0
    refine slice_eql (cond_t rfl (hk _ w .refl ⟨rfl, rfl, rfl⟩ (by simp [sliceBlk])))
  · rename_i a n cap
    refine slice_eql (cond_f rfl ?_)
    unfold buildL
    refine ⟨by simp, ?_⟩
    have hz : zerosOf (if 0 * 1 = 0 then #[] else (vi 0 : Value).cells) (0 * 1) = #[] := by simp [zerosOf]
    rw [hz]
    simp only [Instr.fill]
    have hnew := cellsOf_new w #[] 3
    have he := Ext.alloc w (.cells #[] 3)
    refine append_rd (l := []) (ys := l) (s := .slice (some ⟨w.heap.size, 0, none⟩) 0 0) ⟨Nat.le_refl _, [], hnew, rfl, rfl, by simp⟩ (h.ext he) ho rfl (by simp; omega) (by simp; omega) fun s' w' hkp hs hb => ?_
    refine hk s' w' (he.trans' hkp fun x hx hin => by simp [sliceBlk] at hin; omega) (by simpa using hs) fun x hx => ?_
    rcases hb x hx with h1 | h1
    · simp [sliceBlk] at h1; omega
    · have := he.size; omega
  · exact h0.elim

def CopyI (w0 : World) (L : Lay) (a : AW) (D : Nat → Bool) (e : Env) (w : World) : Prop :=
  ∃ r4 r9 r14 r19 r20 r22, State (fun _ => False) w0 w [r4, r9, r14, r19, r20, r22] ∧
    e 0 = ptr L.p ∧
    (D 0 = true → e 9 = ptr L.p) ∧
    (D 1 = true → e 10 = ptr L.p) ∧
    (D 2 = true → e 11 = .pointer (some ⟨L.p, 0, none⟩)) ∧
    (D 3 = true → e 12 = L.par) ∧
    (D 5 = true → e 14 = ptr L.p) ∧
    (D 6 = true → e 15 = ptr L.p) ∧
    (D 7 = true → e 16 = .pointer (some ⟨L.p, 1, none⟩)) ∧
    (D 8 = true → e 17 = L.cut) ∧
    (D 10 = true → e 19 = ptr L.p) ∧
    (D 11 = true → e 20 = ptr L.p) ∧
    (D 12 = true → e 21 = .pointer (some ⟨L.p, 5, none⟩)) ∧
    (D 13 = true → e 22 = L.made) ∧
    (D 15 = true → e 24 = ptr L.p) ∧
    (D 16 = true → e 25 = ptr L.p) ∧
    (D 17 = true → e 26 = .pointer (some ⟨L.p, 4, none⟩)) ∧
    (D 18 = true → e 27 = vi a.last) ∧
    Put (D 4) r4 (fun r => r = .slice (e 13) (a.parents.map vi)) ∧
    Put (D 9) r9 (fun r => r = .slice (e 18) (a.cut.map .bool)) ∧
    Put (D 14) r14 (fun r => r = .slice (e 23) (a.made.map vi)) ∧
    Put (D 19) r19 (fun r => ∃ b, e 28 = .map (some b) ∧ r = .map b [] 0) ∧
    Put (D 20) r20 (fun r => ∃ b, e 29 = .map (some b) ∧ r = .map b [] 0) ∧
    (D 21 = true → (D 4 = true ∧ D 9 = true ∧ D 14 = true ∧ D 18 = true ∧ D 19 = true ∧ D 20 = true) ∧ e 30 = .agg [e 13, e 18, e 28, e 29, vi a.last, e 23].toArray) ∧
    Put (D 22) r22 (fun r => ∃ b, e 31 = ptr b ∧ r = .cells b [e 13, e 18, e 28, e 29, vi a.last, e 23]) ∧
    (D 23 = true → e 3 = e 31) ∧
    (D 22 = true → D 21 = true) ∧
    (D 23 = true → D 22 = true)

theorem copy_region {e0 : Env} {K : Env → World → Prop} (h : WRep w0 L a) (st : State (fun _ => False) w0 w []) (h0 : e0 0 = ptr L.p)
    (hk : ∀ e w' v1 v2 v3 b6 b7 b, e 0 = ptr L.p → e 3 = ptr b →
      State (fun _ => False) w0 w' [.slice v1 (a.parents.map vi), .slice v2 (a.cut.map .bool), .slice v3 (a.made.map vi), .map b6 [] 0, .map b7 [] 0, .cells b [v1, v2, .map (some b6), .map (some b7), vi a.last, v3]] → K e w') :
    drawK prog World_Copy_R3 e0 w K := by
  have l1 := h.len1
  have l2 := h.len2
  have l3 := h.len3
  refine .inr (anyK_inv World_Copy_R3_pre (CopyI w0 L a) World_Copy_R3_ok ?_ ?_ ?_ ?_)
  · refine ⟨ph, ph, ph, ph, ph, ph, ?_, h0, by simp, by simp, by simp, by simp, by simp, by simp, by simp, by simp, by simp, by simp, by simp, by simp, by simp, by simp, by simp, by simp, ⟨by simp, by simp⟩, ⟨by simp, by simp⟩, ⟨by simp, by simp⟩, ⟨by simp, by simp⟩, ⟨by simp, by simp⟩, by simp, ⟨by simp, by simp⟩, by simp, by simp, by simp⟩
    refine ⟨st.keeps, fun r hr => ?_, by simp [blksOf, Res.blks, sliceBlk], by simp [blksOf, Res.blks, sliceBlk]⟩
    simp at hr
    subst hr
    exact ⟨rfl, rfl, rfl⟩
  · intro D D' e w hD h
    have : D = D' := funext hD
    rw [← this]; exact h
  · rintro i o ho D e w ⟨r4, r9, r14, r19, r20, r22, st, g0, s0, s1, s2, s3, s5, s6, s7, s8, s10, s11, s12, s13, s15, s16, s17, s18, p4, p9, p14, p19, p20, i21, p22, i23, j22, j23⟩ hD hpre K hK
    have hw := h.ext st.keeps
    have htop := hw.top
    have no21 : (D 4 = false ∨ D 9 = false ∨ D 14 = false ∨ D 18 = false ∨ D 19 = false ∨ D 20 = false) → D 21 = false := by
      intro h
      cases hc : D 21 with
      | false => rfl
      | true => have := (i21 hc).1; simp_all
    have no22 : D 21 = false → D 22 = false := by
      intro h
      cases hc : D 22 with
      | false => rfl
      | true => have := j22 hc; simp_all
    have f21 : ∀ {P : Prop}, D 21 = false → D 21 = true → P := fun h h' => by rw [h] at h'; simp at h'
    match i, ho, hD, hpre, hK with
    | 0, ho, hD, hpre, hK =>
      refine O_World_Copy_R3_0_on ho ?_
      exact hK _ _ ⟨r4, r9, r14, r19, r20, r22, st, g0, fun _ => g0, s1, s2, s3, s5, s6, s7, s8, s10, s11, s12, s13, s15, s16, s17, s18, p4, p9, p14, p19, p20, i21, p22, i23, j22, j23⟩
    | 1, ho, hD, hpre, hK =>
      refine O_World_Copy_R3_1_on ho ?_
      simp only [O_World_Copy_R3_1, s0 (hpre 0 (by simp [World_Copy_R3_pre])), nilK_ptr]
      exact hK _ _ ⟨r4, r9, r14, r19, r20, r22, st, g0, s0, fun _ => rfl, s2, s3, s5, s6, s7, s8, s10, s11, s12, s13, s15, s16, s17, s18, p4, p9, p14, p19, p20, i21, p22, i23, j22, j23⟩
    | 2, ho, hD, hpre, hK =>
      refine O_World_Copy_R3_2_on ho ?_
      simp only [O_World_Copy_R3_2, s1 (hpre 1 (by simp [World_Copy_R3_pre])), fieldA_at]
      exact hK _ _ ⟨r4, r9, r14, r19, r20, r22, st, g0, s0, s1, fun _ => rfl, s3, s5, s6, s7, s8, s10, s11, s12, s13, s15, s16, s17, s18, p4, p9, p14, p19, p20, i21, p22, i23, j22, j23⟩
    | 3, ho, hD, hpre, hK =>
      refine O_World_Copy_R3_3_on ho ?_
      simp only [O_World_Copy_R3_3, s2 (hpre 2 (by simp [World_Copy_R3_pre])), load1_at, htop, orRd_some, optK_some, Option.bind_some, List.getElem?_cons_succ, List.getElem?_cons_zero]
      exact hK _ _ ⟨r4, r9, r14, r19, r20, r22, st, g0, s0, s1, s2, fun _ => rfl, s5, s6, s7, s8, s10, s11, s12, s13, s15, s16, s17, s18, p4, p9, p14, p19, p20, i21, p22, i23, j22, j23⟩
    | 4, ho, hD, hpre, hK =>
      refine O_World_Copy_R3_4_on ho ?_
      have q21 := no21 (.inl hD)
      simp only [O_World_Copy_R3_4, s3 (hpre 3 (by simp [World_Copy_R3_pre]))]
      refine clone_Side_c (l := a.parents.map vi) hw.par.reads (fun y hy => by obtain ⟨_, _, rfl⟩ := List.mem_map.1 hy; rfl) (by simp; omega) fun v w' he hs hb => ?_
      obtain rfl := p4.2 hD
      have st' := st.change (r := ph) (r' := .slice v (a.parents.map vi)) .head (Keeps.of_ext he) hs (blk_nodup v) (fun b hb' => .inr (hb b hb'))
      exact hK _ _ ⟨_, r9, r14, r19, r20, r22, st', g0, s0, s1, s2, s3, s5, s6, s7, s8, s10, s11, s12, s13, s15, s16, s17, s18, .of rfl rfl, p9, p14, p19, p20, fun h => f21 q21 h, p22.no (no22 q21), i23, j22, j23⟩
    | 5, ho, hD, hpre, hK =>
      refine O_World_Copy_R3_5_on ho ?_
      exact hK _ _ ⟨r4, r9, r14, r19, r20, r22, st, g0, s0, s1, s2, s3, fun _ => g0, s6, s7, s8, s10, s11, s12, s13, s15, s16, s17, s18, p4, p9, p14, p19, p20, i21, p22, i23, j22, j23⟩
    | 6, ho, hD, hpre, hK =>
      refine O_World_Copy_R3_6_on ho ?_
      simp only [O_World_Copy_R3_6, s5 (hpre 5 (by simp [World_Copy_R3_pre])), nilK_ptr]
      exact hK _ _ ⟨r4, r9, r14, r19, r20, r22, st, g0, s0, s1, s2, s3, s5, fun _ => rfl, s7, s8, s10, s11, s12, s13, s15, s16, s17, s18, p4, p9, p14, p19, p20, i21, p22, i23, j22, j23⟩
    | 7, ho, hD, hpre, hK =>
      refine O_World_Copy_R3_7_on ho ?_
      simp only [O_World_Copy_R3_7, s6 (hpre 6 (by simp [World_Copy_R3_pre])), fieldA_at]
      exact hK _ _ ⟨r4, r9, r14, r19, r20, r22, st, g0, s0, s1, s2, s3, s5, s6, fun _ => rfl, s8, s10, s11, s12, s13, s15, s16, s17, s18, p4, p9, p14, p19, p20, i21, p22, i23, j22, j23⟩
    | 8, ho, hD, hpre, hK =>
      refine O_World_Copy_R3_8_on ho ?_
      simp only [O_World_Copy_R3_8, s7 (hpre 7 (by simp [World_Copy_R3_pre])), load1_at, htop, orRd_some, optK_some, Option.bind_some, List.getElem?_cons_succ, List.getElem?_cons_zero]
      exact hK _ _ ⟨r4, r9, r14, r19, r20, r22, st, g0, s0, s1, s2, s3, s5, s6, s7, fun _ => rfl, s10, s11, s12, s13, s15, s16, s17, s18, p4, p9, p14, p19, p20, i21, p22, i23, j22, j23⟩
    | 9, ho, hD, hpre, hK =>
      refine O_World_Copy_R3_9_on ho ?_
      have q21 := no21 (.inr (.inl hD))
      simp only [O_World_Copy_R3_9, s8 (hpre 8 (by simp [World_Copy_R3_pre]))]
      refine clone_bool_c (l := a.cut.map .bool) hw.cut.reads (fun y hy => by obtain ⟨_, _, rfl⟩ := List.mem_map.1 hy; rfl) (by simp; omega) fun v w' he hs hb => ?_
      obtain rfl := p9.2 hD
      have st' := st.change (r := ph) (r' := .slice v (a.cut.map .bool)) (.tail .head) (Keeps.of_ext he) hs (blk_nodup v) (fun b hb' => .inr (hb b hb'))
      exact hK _ _ ⟨r4, _, r14, r19, r20, r22, st', g0, s0, s1, s2, s3, s5, s6, s7, s8, s10, s11, s12, s13, s15, s16, s17, s18, p4, .of rfl rfl, p14, p19, p20, fun h => f21 q21 h, p22.no (no22 q21), i23, j22, j23⟩
    | 10, ho, hD, hpre, hK =>
      refine O_World_Copy_R3_10_on ho ?_
      exact hK _ _ ⟨r4, r9, r14, r19, r20, r22, st, g0, s0, s1, s2, s3, s5, s6, s7, s8, fun _ => g0, s11, s12, s13, s15, s16, s17, s18, p4, p9, p14, p19, p20, i21, p22, i23, j22, j23⟩
    | 11, ho, hD, hpre, hK =>
      refine O_World_Copy_R3_11_on ho ?_
      simp only [O_World_Copy_R3_11, s10 (hpre 10 (by simp [World_Copy_R3_pre])), nilK_ptr]
      exact hK _ _ ⟨r4, r9, r14, r19, r20, r22, st, g0, s0, s1, s2, s3, s5, s6, s7, s8, s10, fun _ => rfl, s12, s13, s15, s16, s17, s18, p4, p9, p14, p19, p20, i21, p22, i23, j22, j23⟩
    | 12, ho, hD, hpre, hK =>
      refine O_World_Copy_R3_12_on ho ?_
      simp only [O_World_Copy_R3_12, s11 (hpre 11 (by simp [World_Copy_R3_pre])), fieldA_at]
      exact hK _ _ ⟨r4, r9, r14, r19, r20, r22, st, g0, s0, s1, s2, s3, s5, s6, s7, s8, s10, s11, fun _ => rfl, s13, s15, s16, s17, s18, p4, p9, p14, p19, p20, i21, p22, i23, j22, j23⟩
    | 13, ho, hD, hpre, hK =>
      refine O_World_Copy_R3_13_on ho ?_
      simp only [O_World_Copy_R3_13, s12 (hpre 12 (by simp [World_Copy_R3_pre])), load1_at, htop, orRd_some, optK_some, Option.bind_some, List.getElem?_cons_succ, List.getElem?_cons_zero]
      exact hK _ _ ⟨r4, r9, r14, r19, r20, r22, st, g0, s0, s1, s2, s3, s5, s6, s7, s8, s10, s11, s12, fun _ => rfl, s15, s16, s17, s18, p4, p9, p14, p19, p20, i21, p22, i23, j22, j23⟩
    | 14, ho, hD, hpre, hK =>
      refine O_World_Copy_R3_14_on ho ?_
      have q21 := no21 (.inr (.inr (.inl hD)))
      simp only [O_World_Copy_R3_14, s13 (hpre 13 (by simp [World_Copy_R3_pre]))]
      refine clone_int_c (l := a.made.map vi) hw.made.reads (fun y hy => by obtain ⟨_, _, rfl⟩ := List.mem_map.1 hy; rfl) (by simp; omega) fun v w' he hs hb => ?_
      obtain rfl := p14.2 hD
      have st' := st.change (r := ph) (r' := .slice v (a.made.map vi)) (.tail (.tail .head)) (Keeps.of_ext he) hs (blk_nodup v) (fun b hb' => .inr (hb b hb'))
      exact hK _ _ ⟨r4, r9, _, r19, r20, r22, st', g0, s0, s1, s2, s3, s5, s6, s7, s8, s10, s11, s12, s13, s15, s16, s17, s18, p4, p9, .of rfl rfl, p19, p20, fun h => f21 q21 h, p22.no (no22 q21), i23, j22, j23⟩
    | 15, ho, hD, hpre, hK =>
      refine O_World_Copy_R3_15_on ho ?_
      exact hK _ _ ⟨r4, r9, r14, r19, r20, r22, st, g0, s0, s1, s2, s3, s5, s6, s7, s8, s10, s11, s12, s13, fun _ => g0, s16, s17, s18, p4, p9, p14, p19, p20, i21, p22, i23, j22, j23⟩
    | 16, ho, hD, hpre, hK =>
      refine O_World_Copy_R3_16_on ho ?_
      simp only [O_World_Copy_R3_16, s15 (hpre 15 (by simp [World_Copy_R3_pre])), nilK_ptr]
      exact hK _ _ ⟨r4, r9, r14, r19, r20, r22, st, g0, s0, s1, s2, s3, s5, s6, s7, s8, s10, s11, s12, s13, s15, fun _ => rfl, s17, s18, p4, p9, p14, p19, p20, i21, p22, i23, j22, j23⟩
    | 17, ho, hD, hpre, hK =>
      refine O_World_Copy_R3_17_on ho ?_
      simp only [O_World_Copy_R3_17, s16 (hpre 16 (by simp [World_Copy_R3_pre])), fieldA_at]
      exact hK _ _ ⟨r4, r9, r14, r19, r20, r22, st, g0, s0, s1, s2, s3, s5, s6, s7, s8, s10, s11, s12, s13, s15, s16, fun _ => rfl, s18, p4, p9, p14, p19, p20, i21, p22, i23, j22, j23⟩
    | 18, ho, hD, hpre, hK =>
      refine O_World_Copy_R3_18_on ho ?_
      have q21 := no21 (.inr (.inr (.inr (.inl hD))))
      simp only [O_World_Copy_R3_18, s17 (hpre 17 (by simp [World_Copy_R3_pre])), load1_at, htop, orRd_some, optK_some, Option.bind_some, List.getElem?_cons_succ, List.getElem?_cons_zero]
      exact hK _ _ ⟨r4, r9, r14, r19, r20, r22, st, g0, s0, s1, s2, s3, s5, s6, s7, s8, s10, s11, s12, s13, s15, s16, s17, fun _ => rfl, p4, p9, p14, p19, p20, fun h => f21 q21 h, p22, i23, j22, j23⟩
    | 19, ho, hD, hpre, hK =>
      refine O_World_Copy_R3_19_on ho ?_
      have q21 := no21 (.inr (.inr (.inr (.inr (.inl hD)))))
      refine ⟨trivial, ?_⟩
      obtain rfl := p19.2 hD
      have st' := st.change (r := ph) (r' := .map w.heap.size [] 0) (.tail (.tail (.tail .head))) (Keeps.of_ext (Ext.alloc w (.map #[] 0))) (mapOf_new _ _ _) (by simp [Res.blks]) (by simp [Res.blks])
      exact hK _ _ ⟨r4, r9, r14, _, r20, r22, st', g0, s0, s1, s2, s3, s5, s6, s7, s8, s10, s11, s12, s13, s15, s16, s17, s18, p4, p9, p14, .of rfl ⟨_, rfl, rfl⟩, p20, fun h => f21 q21 h, p22.no (no22 q21), i23, j22, j23⟩
    | 20, ho, hD, hpre, hK =>
      refine O_World_Copy_R3_20_on ho ?_
      have q21 := no21 (.inr (.inr (.inr (.inr (.inr hD)))))
      refine ⟨trivial, ?_⟩
      obtain rfl := p20.2 hD
      have st' := st.change (r := ph) (r' := .map w.heap.size [] 0) (.tail (.tail (.tail (.tail .head)))) (Keeps.of_ext (Ext.alloc w (.map #[] 0))) (mapOf_new _ _ _) (by simp [Res.blks]) (by simp [Res.blks])
      exact hK _ _ ⟨r4, r9, r14, r19, _, r22, st', g0, s0, s1, s2, s3, s5, s6, s7, s8, s10, s11, s12, s13, s15, s16, s17, s18, p4, p9, p14, p19, .of rfl ⟨_, rfl, rfl⟩, fun h => f21 q21 h, p22.no (no22 q21), i23, j22, j23⟩
    | 21, ho, hD, hpre, hK =>
      refine O_World_Copy_R3_21_on ho ?_
      have d4 := hpre 4 (by simp [World_Copy_R3_pre])
      have d9 := hpre 9 (by simp [World_Copy_R3_pre])
      have d14 := hpre 14 (by simp [World_Copy_R3_pre])
      have d18 := hpre 18 (by simp [World_Copy_R3_pre])
      have d19 := hpre 19 (by simp [World_Copy_R3_pre])
      have d20 := hpre 20 (by simp [World_Copy_R3_pre])
      have t4 : SliceOf w (e 13) (a.parents.map vi) := by have := st.holds r4 (by simp); rwa [p4.1 d4] at this
      have t9 : SliceOf w (e 18) (a.cut.map .bool) := by have := st.holds r9 (by simp); rwa [p9.1 d9] at this
      have t14 : SliceOf w (e 23) (a.made.map vi) := by have := st.holds r14 (by simp); rwa [p14.1 d14] at this
      obtain ⟨a4, n4, c4, h4, _⟩ := t4.first
      obtain ⟨a9, n9, c9, h9, _⟩ := t9.first
      obtain ⟨a14, n14, c14, h14, _⟩ := t14.first
      obtain ⟨b19, h19, _⟩ := p19.1 d19
      obtain ⟨b20, h20, _⟩ := p20.1 d20
      have h27 := s18 d18
      have hb : ∀ q : Value → Prop, q (.agg [e 13, e 18, e 28, e 29, vi a.last, e 23].toArray) → buildS (Value.agg #[Value.slice none 0 0, Value.slice none 0 0, Value.map none, Value.map none, Value.int IntKind.i64 0, Value.slice none 0 0])
          [(0, 1), (1, 1), (2, 1), (3, 1), (4, 1), (5, 1)] [(0, e 13), (1, e 18), (5, e 23), (4, e 27), (2, e 28), (3, e 29)] q := by
        intro q hq
        rw [h4, h9, h14, h19, h20] at hq ⊢
        rw [h27]
        exact hq
      refine hb _ ?_
      have no22' : D 22 = false := by
        cases hc : D 22 with
        | false => rfl
        | true => have := j22 hc; rw [hD] at this; simp at this
      exact hK _ _ ⟨r4, r9, r14, r19, r20, r22, st, g0, s0, s1, s2, s3, s5, s6, s7, s8, s10, s11, s12, s13, s15, s16, s17, s18, p4, p9, p14, p19, p20, fun _ => ⟨⟨d4, d9, d14, d18, d19, d20⟩, rfl⟩, p22, i23, fun _ => rfl, j23⟩
    | 22, ho, hD, hpre, hK =>
      refine O_World_Copy_R3_22_on ho ?_
      have d21 := hpre 21 (by simp [World_Copy_R3_pre])
      have h30 := (i21 d21).2
      simp only [O_World_Copy_R3_22, h30]
      obtain rfl := p22.2 hD
      have st' := st.change (r := ph) (r' := .cells w.heap.size [e 13, e 18, e 28, e 29, vi a.last, e 23]) (.tail (.tail (.tail (.tail (.tail .head))))) (Keeps.of_ext (Ext.alloc w _)) (cellsOf_new w _ 107) (by simp [Res.blks]) (by simp [Res.blks])
      exact hK _ _ ⟨r4, r9, r14, r19, r20, _, st', g0, s0, s1, s2, s3, s5, s6, s7, s8, s10, s11, s12, s13, s15, s16, s17, s18, p4, p9, p14, p19, p20, i21, .of rfl ⟨_, rfl, rfl⟩, fun h => by have := j23 h; rw [hD] at this; simp at this, fun _ => d21, fun _ => rfl⟩
    | 23, ho, hD, hpre, hK =>
      refine O_World_Copy_R3_23_on ho ?_
      exact hK _ _ ⟨r4, r9, r14, r19, r20, r22, st, g0, s0, s1, s2, s3, s5, s6, s7, s8, s10, s11, s12, s13, s15, s16, s17, s18, p4, p9, p14, p19, p20, i21, p22, fun _ => rfl, j22, fun _ => hpre 22 (by simp [World_Copy_R3_pre])⟩
    | n + 24, ho, hD, hpre, hK =>
      have : World_Copy_R3.size = 24 := by kernel_rfl
      have := (Array.getElem?_eq_some_iff.1 ho).1
      omega
  · rintro D e w hall ⟨r4, r9, r14, r19, r20, r22, st, g0, s0, s1, s2, s3, s5, s6, s7, s8, s10, s11, s12, s13, s15, s16, s17, s18, p4, p9, p14, p19, p20, i21, p22, i23, j22, j23⟩
    have hs : World_Copy_R3.size = 24 := by kernel_rfl
    have d : ∀ j, j < 24 → D j = true := fun j hj => hall j (by omega)
    obtain rfl := p4.1 (d 4 (by omega))
    obtain rfl := p9.1 (d 9 (by omega))
    obtain rfl := p14.1 (d 14 (by omega))
    obtain ⟨b6, h6, rfl⟩ := p19.1 (d 19 (by omega))
    obtain ⟨b7, h7, rfl⟩ := p20.1 (d 20 (by omega))
    obtain ⟨b, h9, rfl⟩ := p22.1 (d 22 (by omega))
    rw [h6, h7] at st
    exact hk e w _ _ _ _ _ _ g0 ((i23 (d 23 (by omega))).trans h9) st
end
end Go.X
