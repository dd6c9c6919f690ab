/- The law WorldNumbers: its call. -/
import Derived.Test.YtdjheefbeagcjaaXxC35
import Derived.Test.YtdjheefbeagcjaaXxC22
import Derived.Test.YtdjheefbeagcjaaXxS7
set_option linter.unusedSimpArgs false
set_option linter.unusedVariables false
set_option maxRecDepth 20000
set_option maxHeartbeats 2000000
namespace Go.X
open Go Go.AW

section
variable {S : Nat → Prop} {w0 w : World} {L : Lay} {a : AW} {R : List Res} {K : Value → World → Prop} {k : Value → Prop}

theorem at_val {v : Value} {l : List Value} {j : Int} (h : ReadsOf w v l) (h0 : 0 ≤ j) (h1 : j < l.length) (hk : ∀ b i, Reads w b i (l.getD j.toNat undef) → k (.pointer (some ⟨b, i, none⟩))) : indexS 1 v (vi j) k := by
  obtain ⟨b, i, c, hix, hc, hci⟩ := h.at (j := j) h0 h1
  rw [hix]
  refine hk b i ⟨c, hc, ?_⟩
  have : j.toNat < l.length := by omega
  rw [hci]; simp [this, List.getD_eq_getElem?_getD]
theorem at_byte {v : Value} {l : List Int} {j : Int} (h : ReadsOf w v (l.map vb)) (h0 : 0 ≤ j) (h1 : j < l.length) (hk : ∀ b i, Reads w b i (vb (l.getD j.toNat 0)) → k (.pointer (some ⟨b, i, none⟩))) : indexS 1 v (vi j) k :=
  at_val h h0 (by simpa using h1) fun b i hr => hk b i (by
    have : j.toNat < l.length := by omega
    simpa [this, List.getD_eq_getElem?_getD] using hr)
theorem at_bool {v : Value} {l : List Bool} {j : Int} (h : ReadsOf w v (l.map .bool)) (h0 : 0 ≤ j) (h1 : j < l.length) (hk : ∀ b i, Reads w b i (.bool (l.getD j.toNat false)) → k (.pointer (some ⟨b, i, none⟩))) : indexS 1 v (vi j) k :=
  at_val h h0 (by simpa using h1) fun b i hr => hk b i (by
    have : j.toNat < l.length := by omega
    simpa [this, List.getD_eq_getElem?_getD] using hr)

def easyOf (m : Int) : Int := if m = 0 then 1 else if m = 1 then 2 else if m = 2 then 3 else if m = 3 then 8 else 13
theorem easyOf_easy (m : Int) : easyKind (easyOf m) := by
  unfold easyOf easyKind; split; · simp
  split; · simp
  split; · simp
  split <;> simp
theorem index_five {m : Int} (h : 0 ≤ m ∧ m < 5) (hk : k (vb (easyOf m))) : indexV1 5 1 (.agg #[vb 1, vb 2, vb 3, vb 8, vb 13]) (vb m) k := by
  have : m = 0 ∨ m = 1 ∨ m = 2 ∨ m = 3 ∨ m = 4 := by omega
  rcases this with rfl | rfl | rfl | rfl | rfl <;> exact ⟨by decide, by decide, hk⟩

theorem dst_ne {l : List Nat} {t : Nat} (h1 : l.contains t = false) (h2 : t < 1000000) (j : Nat) : t ≠ l.getD j (1000000 + j) := by
  intro e
  rw [List.getD_eq_getElem?_getD] at e
  cases hj : l[j]? with
  | none => rw [hj] at e; simp at e; omega
  | some x =>
    rw [hj] at e
    simp at e; subst e
    have := List.mem_of_getElem? hj
    simp at h1; exact h1 this

def NumbG (p : Nat) (v1 : Value) (w0 : World) (kk k s n i : Int) : Nat → Value → Prop
  | 0, v => v = ptr p
  | 1, v => v = vb kk
  | 2, v => v = v1
  | 3, v => v = vi i
  | 4, v => ∃ b j, v = .pointer (some ⟨b, j, none⟩) ∧ Reads w0 b j (vb k)
  | 5, v => v = vb k
  | 6, v => v = vi k
  | 7, v => v = ptr p
  | 8, v => v = vi n
  | 9, v => v = vi s
  | 10, v => v = whV (bareWh kk s)
  | 11, v => v = .tuple #[vi (i + 1), vi 0]
  | 12, v => v = .tuple #[vi (i + 1), vi 0]
  | 13, v => v = vi (i + 1)
  | 14, v => v = vi 0
  | 15, v => v = vi (i + 1)
  | 16, v => v = vi 0
  | _, _ => True

theorem Reads.ext {b i : Nat} {v : Value} (h : Reads w b i v) {w' : World} (he : Ext w w') : Reads w' b i v := by
  obtain ⟨c, h1, h2⟩ := h
  exact ⟨c, he.rd h1 id, h2⟩

theorem numbers_region {v1 : Value} {ks : List Int} {i : Nat} {kk : Int} {e0 : Env} {K : Env → World → Prop} (hE : Easy a i) (hi : i < 300) (h1 : ReadsOf w0 v1 (ks.map vb)) (hil : i < ks.length) (hks : ∀ k ∈ ks, 0 ≤ k ∧ k < 256) (hkk : easyKind kk) (hsd : 0 < a.sides ∧ a.sides < 4611686018427387904)
    (st : State (fun _ => False) w0 w [.world L a]) (g1 : e0 1 = v1) (g7 : e0 7 = ptr L.p) (g10 : e0 10 = vi i) (g11 : e0 11 = vb kk)
    (hk : ∀ e w L', L'.p = L.p → State (fun _ => False) w0 w [.world L' (a.make (bareWh kk (modI (ks.getD i 0) a.sides)))] → e 1 = e0 1 → e 2 = e0 2 → e 7 = e0 7 → e 9 = e0 9 → e 10 = e0 10 → e 11 = e0 11 → e 12 = vi (i + 1) → e 13 = vi 0 → K e w) :
    drawK prog law07_WorldNumbers_R9 e0 w K := by
  have hkr : 0 ≤ ks.getD i 0 ∧ ks.getD i 0 < 256 := by
    rw [List.getD_eq_getElem?_getD, List.getElem?_eq_getElem hil]
    exact hks _ (List.getElem_mem hil)
  have hsz : law07_WorldNumbers_R9.size = 17 := by kernel_rfl
  generalize hs : modI (ks.getD i 0) a.sides = s at hk
  have hrange := modI_range (ks.getD i 0) hsd.1
  rw [hs] at hrange
  have hside : a.side s = true := by simp only [AW.side, Bool.and_eq_true, decide_eq_true_eq]; exact hrange
  obtain ⟨hE', hmE, _, _⟩ := hE.make hkk hside hi
  have hk0 : 0 ≤ (bareWh kk s).kind ∧ 0 ≤ (bareWh kk s).set ∧ (bareWh kk s).set < 256 := by unfold easyKind at hkk; simp [Wh.zero]; omega
  have hop : (bareWh kk s).kind = 6 ∨ (bareWh kk s).kind = 11 → a.is (bareWh kk s).of = false := by unfold easyKind at hkk; intro h; simp [Wh.zero] at h; omega
  refine .inr (anyK_pivot law07_WorldNumbers_R9_pre 11 (fun w => State (fun _ => False) w0 w [.world L a]) (fun w => ∃ L', L'.p = L.p ∧ State (fun _ => False) w0 w [.world L' (a.make (bareWh kk s))])
    (NumbG L.p v1 w0 kk (ks.getD i 0) s a.sides i) law07_WorldNumbers_R9_ok law07_WorldNumbers_R9_ap (by kernel_rfl) st ?_ ?_)
  · intro n o ho e w c1 c2 hbase hpre K hK
    have base : ∀ t, ([44, 45, 46, 47, 48, 49, 50, 51, 52, 53, 54, 55, 43, 56, 57, 12, 13] : List Nat).contains t = false → t < 1000000 → e t = e0 t := fun t h1 h2 => hbase t fun j _ => by rw [law07_WorldNumbers_R9_dst]; exact dst_ne h1 h2 j
    simp only [law07_WorldNumbers_R9_dst] at hpre hK
    have fin : ∀ (d : Nat) (v : Value) (w' : World), ([44, 45, 46, 47, 48, 49, 50, 51, 52, 53, 54, 55, 43, 56, 57, 12, 13] : List Nat).getD n (1000000 + n) = d → (n < 11 → State (fun _ => False) w0 w' [.world L a]) → (11 ≤ n → ∃ L', L'.p = L.p ∧ State (fun _ => False) w0 w' [.world L' (a.make (bareWh kk s))]) →
        NumbG L.p v1 w0 kk (ks.getD i 0) s a.sides i n v → K (upd e d v) w' := fun d v w' hd h1 h2 h3 => hK _ _ h1 h2 (fun t ht => by rw [upd_get, if_neg (by rw [← hd]; exact ht)]) (by rw [upd_get, if_pos hd]; exact h3)
    match n, ho, c1, c2, hpre, fin with
    | 0, ho, c1, c2, hpre, fin =>
      refine O_law07_WorldNumbers_R9_0_on ho (fin 44 _ w rfl (fun _ => c1 (by decide)) (fun h => absurd h (by decide)) ?_)
      show e 7 = _
      rw [base 7 (by decide) (by decide), g7]
    | 1, ho, c1, c2, hpre, fin =>
      refine O_law07_WorldNumbers_R9_1_on ho (fin 45 _ w rfl (fun _ => c1 (by decide)) (fun h => absurd h (by decide)) ?_)
      show e 11 = _
      rw [base 11 (by decide) (by decide), g11]
    | 2, ho, c1, c2, hpre, fin =>
      refine O_law07_WorldNumbers_R9_2_on ho (fin 46 _ w rfl (fun _ => c1 (by decide)) (fun h => absurd h (by decide)) ?_)
      show e 1 = _
      rw [base 1 (by decide) (by decide), g1]
    | 3, ho, c1, c2, hpre, fin =>
      refine O_law07_WorldNumbers_R9_3_on ho (fin 47 _ w rfl (fun _ => c1 (by decide)) (fun h => absurd h (by decide)) ?_)
      show e 10 = _
      rw [base 10 (by decide) (by decide), g10]
    | 4, ho, c1, c2, hpre, fin =>
      refine O_law07_WorldNumbers_R9_4_on ho ?_
      unfold O_law07_WorldNumbers_R9_4
      have p2 : e 46 = v1 := hpre 2 (by simp [law07_WorldNumbers_R9_pre])
      have p3 : e 47 = vi i := hpre 3 (by simp [law07_WorldNumbers_R9_pre])
      rw [p2, p3]
      refine at_byte h1 (by omega) (by omega) fun b j hr => fin 48 _ w rfl (fun _ => c1 (by decide)) (fun h => absurd h (by decide)) ⟨b, j, rfl, ?_⟩
      simpa using hr
    | 5, ho, c1, c2, hpre, fin =>
      refine O_law07_WorldNumbers_R9_5_on ho ?_
      unfold O_law07_WorldNumbers_R9_5
      obtain ⟨b, j, p4, hr⟩ : ∃ b j, e 48 = .pointer (some ⟨b, j, none⟩) ∧ Reads w0 b j (vb (ks.getD i 0)) := hpre 4 (by simp [law07_WorldNumbers_R9_pre])
      rw [p4]
      exact load_reads (hr.ext (c1 (by decide)).keeps) (fin 49 _ w rfl (fun _ => c1 (by decide)) (fun h => absurd h (by decide)) rfl)
    | 6, ho, c1, c2, hpre, fin =>
      refine O_law07_WorldNumbers_R9_6_on ho ?_
      unfold O_law07_WorldNumbers_R9_6
      have p5 : e 49 = vb (ks.getD i 0) := hpre 5 (by simp [law07_WorldNumbers_R9_pre])
      rw [p5]
      exact conv_64 (by omega) (by omega) (fin 50 _ w rfl (fun _ => c1 (by decide)) (fun h => absurd h (by decide)) rfl)
    | 7, ho, c1, c2, hpre, fin =>
      refine O_law07_WorldNumbers_R9_7_on ho (fin 51 _ w rfl (fun _ => c1 (by decide)) (fun h => absurd h (by decide)) ?_)
      show e 7 = _
      rw [base 7 (by decide) (by decide), g7]
    | 8, ho, c1, c2, hpre, fin =>
      refine O_law07_WorldNumbers_R9_8_on ho ?_
      unfold O_law07_WorldNumbers_R9_8
      have p7 : e 51 = ptr L.p := hpre 7 (by simp [law07_WorldNumbers_R9_pre])
      rw [p7]
      exact sides_c ((c1 (by decide)).rep (.head _)) (fin 52 _ w rfl (fun _ => c1 (by decide)) (fun h => absurd h (by decide)) rfl)
    | 9, ho, c1, c2, hpre, fin =>
      refine O_law07_WorldNumbers_R9_9_on ho ?_
      unfold O_law07_WorldNumbers_R9_9
      have p6 : e 50 = vi (ks.getD i 0) := hpre 6 (by simp [law07_WorldNumbers_R9_pre])
      have p8 : e 52 = vi a.sides := hpre 8 (by simp [law07_WorldNumbers_R9_pre])
      rw [p6, p8]
      exact mod_c hsd (fin 53 _ w rfl (fun _ => c1 (by decide)) (fun h => absurd h (by decide)) (by rw [hs]; rfl))
    | 10, ho, c1, c2, hpre, fin =>
      refine O_law07_WorldNumbers_R9_10_on ho ?_
      unfold O_law07_WorldNumbers_R9_10
      have p1 : e 45 = vb kk := hpre 1 (by simp [law07_WorldNumbers_R9_pre])
      have p9 : e 53 = vi s := hpre 9 (by simp [law07_WorldNumbers_R9_pre])
      rw [p1, p9]
      exact build_agg (whCells (bareWh kk s)) (by kernel_rfl) (fin 54 _ w rfl (fun _ => c1 (by decide)) (fun h => absurd h (by decide)) rfl)
    | 11, ho, c1, c2, hpre, fin =>
      refine O_law07_WorldNumbers_R9_11_on ho ?_
      unfold O_law07_WorldNumbers_R9_11
      have p0 : e 44 = ptr L.p := hpre 0 (by simp [law07_WorldNumbers_R9_pre])
      have p10 : e 54 = whV (bareWh kk s) := hpre 10 (by simp [law07_WorldNumbers_R9_pre])
      rw [p0, p10]
      refine State.make (R' := fun L' => [.world L' (a.make (bareWh kk s))]) (c1 (by decide)) (fun _ => .head) hE.good (by simp [Plain, Wh.zero]) hk0 hop hmE fun w L' hp st => fin 55 _ w rfl (fun h => absurd h (by decide)) (fun _ => ⟨L', hp, st⟩) (by rw [hE.last]; rfl)
    | 12, ho, c1, c2, hpre, fin =>
      exact O_law07_WorldNumbers_R9_12_on ho (fin 43 _ w rfl (fun h => absurd h (by decide)) (fun _ => c2 (by decide)) (hpre 11 (by simp [law07_WorldNumbers_R9_pre])))
    | 13, ho, c1, c2, hpre, fin =>
      refine O_law07_WorldNumbers_R9_13_on ho ?_
      unfold O_law07_WorldNumbers_R9_13
      have p12 : e 43 = .tuple #[vi (i + 1), vi 0] := hpre 12 (by simp [law07_WorldNumbers_R9_pre])
      rw [p12]
      exact fin 56 _ w rfl (fun h => absurd h (by decide)) (fun _ => c2 (by decide)) rfl
    | 14, ho, c1, c2, hpre, fin =>
      refine O_law07_WorldNumbers_R9_14_on ho ?_
      unfold O_law07_WorldNumbers_R9_14
      have p12 : e 43 = .tuple #[vi (i + 1), vi 0] := hpre 12 (by simp [law07_WorldNumbers_R9_pre])
      rw [p12]
      exact fin 57 _ w rfl (fun h => absurd h (by decide)) (fun _ => c2 (by decide)) rfl
    | 15, ho, c1, c2, hpre, fin =>
      exact O_law07_WorldNumbers_R9_15_on ho (fin 12 _ w rfl (fun h => absurd h (by decide)) (fun _ => c2 (by decide)) (hpre 13 (by simp [law07_WorldNumbers_R9_pre])))
    | 16, ho, c1, c2, hpre, fin =>
      exact O_law07_WorldNumbers_R9_16_on ho (fin 13 _ w rfl (fun h => absurd h (by decide)) (fun _ => c2 (by decide)) (hpre 14 (by simp [law07_WorldNumbers_R9_pre])))
    | n + 17, ho, _, _, _, _ =>
      have := (Array.getElem?_eq_some_iff.1 ho).1
      rw [hsz] at this
      exact absurd this (by omega)
  · intro e w c2 hbase hG
    obtain ⟨L', hp, st⟩ := c2 (by omega)
    have base : ∀ t, ([44, 45, 46, 47, 48, 49, 50, 51, 52, 53, 54, 55, 43, 56, 57, 12, 13] : List Nat).contains t = false → t < 1000000 → e t = e0 t := fun t h1 h2 => hbase t fun j _ => by rw [law07_WorldNumbers_R9_dst]; exact dst_ne h1 h2 j
    simp only [law07_WorldNumbers_R9_dst] at hG
    exact hk e w L' hp st (base 1 (by decide) (by decide)) (base 2 (by decide) (by decide)) (base 7 (by decide) (by decide)) (base 9 (by decide) (by decide)) (base 10 (by decide) (by decide)) (base 11 (by decide) (by decide)) (hG 15 (by omega)) (hG 16 (by omega))

theorem sides_make (a : AW) (x : Wh) : (a.make x).sides = a.sides := by
  have h1 : (a.add x).sides = a.sides := by
    unfold AW.sides AW.add
    simp only
    split <;> simp
  unfold AW.make
  split
  · split
    · exact h1
    · exact h1
  · exact h1

theorem State.dropEasy {v : Value} {r : Int} {i : Nat} (st : State S w0 w (.slice v [vi r] :: .world L a :: R)) (hE : Easy a i) (hr : a.is r = true)
    (hk : ∀ w L', L'.p = L.p → State S w0 w (.slice v [vi r] :: .world L' (a.drop [r]) :: R) → K (vi 0) w) : callOn prog fn_World_Drop #[ptr L.p, v] w K :=
  drop_c (l := [r]) (st.rep (.tail _ (.head _))) hE.good hE.ft hE.sound (SliceOf.reads (st.holds _ (.head _))) (by simp) (fun h => absurd (hE.dropE hr) h) fun _ w' L' g => hk w' L' g.p (st.grown g (.tail .head))
theorem State.dropNone {v : Value} {r : Int} {i : Nat} (st : State S w0 w (.slice v [vi r] :: .world L a :: R)) (hE : Easy a i) (hr : a.is r = false)
    (hk : ∀ w, State S w0 w (.slice v [vi r] :: .world L a :: R) → K (vi 5) w) : callOn prog fn_World_Drop #[ptr L.p, v] w K := by
  have h5 : a.dropE [r] = 5 := Easy.dropNo hr
  refine drop_c (l := [r]) (st.rep (.tail _ (.head _))) hE.good hE.ft hE.sound (SliceOf.reads (st.holds _ (.head _))) (by simp) (fun _ w' he => ?_) fun h => ?_
  · rw [h5]; exact hk w' (st.ext he)
  · rw [h5] at h; simp at h

/-- the loop of WorldNumbers, under way -/
def Numb (w0 : World) (v1 v2 : Value) (n : Nat) (m : Nat) (e : Env) (w : World) : Prop :=
  ∃ (i : Nat) (L : Lay) (a : AW), m = 300 - i ∧ i ≤ n ∧ Easy a i ∧ e 1 = v1 ∧ e 2 = v2 ∧ e 7 = ptr L.p ∧ e 9 = vi i ∧ e 10 = vi i ∧ 0 < a.sides ∧ State (fun _ => False) w0 w [.world L a]

theorem worldNumbers_c {W : World} {v0 v1 v2 : Value} {ps ks : List Int} {bs : List Bool} (h0 : ReadsOf W v0 (ps.map vi)) (h1 : ReadsOf W v1 (ks.map vb)) (h2 : ReadsOf W v2 (bs.map .bool)) (hks : ∀ k ∈ ks, 0 ≤ k ∧ k < 256) (hk : ∀ w', Ext W w' → K (.bool true) w') :
    callOn prog fn_law07_WorldNumbers #[v0, v1, v2] W K := by
  apply F_law07_WorldNumbers_on
  unfold F_law07_WorldNumbers
  have st := State.start (S := fun _ => False) W
  cases hn : new ps with
  | none =>
    refine st.newNo (h0.ext st.keeps) hn fun w st => ?_
    (repeat (first | ((with_reducible apply neq_at)) | ((with_reducible apply ext_0)) | ((with_reducible apply ext_1)) | ((with_reducible apply cond_t); (focus (first | assumption | rfl | decide | (simp only [bne, Bool.not_eq_true', Bool.not_eq_false', Bool.not_true, Bool.not_false, Bool.not_not]; assumption)))) | ((with_reducible apply pick_t); (focus (first | assumption | rfl | decide | (simp only [bne, Bool.not_eq_true', Bool.not_eq_false', Bool.not_true, Bool.not_false, Bool.not_not]; assumption)))) | ((with_reducible apply gop_skip); (focus (first | assumption | rfl | decide | (simp only [bne, Bool.not_eq_true', Bool.not_eq_false', Bool.not_true, Bool.not_false, Bool.not_not]; assumption))))))
    refine lives07_c fun w he => ?_
    have st := st.ext he
    skip
    exact hk w st.keeps
  | some a0 =>
    have hne := hn
    rw [new_eq] at hne
    split at hne
    case isFalse => simp at hne
    rename_i hps
    obtain ⟨h16, ht⟩ := hps
    have ht : ∀ i, i < ps.length → 0 ≤ ps.getD i 0 ∧ ps.getD i 0 ≤ i := ht
    have hE : Easy a0 0 := by
      rw [← Option.some.inj hne]
      exact ⟨ht, rfl, by omega, by simp, by simp, by simp⟩
    have hsd : 0 < a0.sides := by
      rw [← Option.some.inj hne]; simp [AW.sides]
    obtain ⟨x1, n1, c1, hv1, hn1, _⟩ := h1.first
    have hn1 : n1 = ks.length := by simpa using hn1
    subst hn1
    subst hv1
    obtain ⟨x2, n2, c2', hv2, hn2, _⟩ := h2.first
    have hn2 : n2 = bs.length := by simpa using hn2
    subst hn2
    subst hv2
    refine st.newYes (h0.ext st.keeps) hn fun w L st => ?_
    (repeat (first | ((with_reducible apply neq_at)) | ((with_reducible apply ext_0)) | ((with_reducible apply ext_1)) | ((with_reducible apply ptr_eql)) | ((with_reducible apply gop_run); (focus (first | assumption | rfl | decide | (simp only [bne, Bool.not_eq_true', Bool.not_eq_false', Bool.not_true, Bool.not_false, Bool.not_not]; assumption)))) | ((with_reducible apply cond_f); (focus (first | assumption | rfl | decide | (simp only [bne, Bool.not_eq_true', Bool.not_eq_false', Bool.not_true, Bool.not_false, Bool.not_not]; assumption)))) | ((with_reducible apply pick_f); (focus (first | assumption | rfl | decide | (simp only [bne, Bool.not_eq_true', Bool.not_eq_false', Bool.not_true, Bool.not_false, Bool.not_not]; assumption)))) | (simp only [upd_get, start_get, List.getD_cons_zero, List.getD_cons_succ, Nat.reduceEqDiff, reduceIte, Nat.reduceAdd])))
    refine ⟨Numb W (.slice x1 ks.length c1) (.slice x2 bs.length c2') ks.length, 300, ⟨0, L, a0, by omega, by omega, hE, by simp [upd_get, start_get], by simp [upd_get, start_get], by simp [upd_get], by simp [upd_get], by simp [upd_get], hsd, st⟩, ?_⟩
    clear st hE hsd hn hne
    rintro m e w ⟨i, L, a, rfl, hi, hE, g1, g2, g7, g9, g10, hsd, st⟩
    simp only [g1, g10]
    have hi3 := hE.lim
    by_cases hil : i < ks.length
    · have q1 : decide ((i : Int) < (ks.length : Int)) = true := by simpa using hil
      by_cases hi300 : i < 300
      · have q2 : decide ((i : Int) < 300) = true := by simp; omega
        have hlen := (st.rep (.head _)).len3
        have hkr : 0 ≤ (ks.getD i 0).tmod 5 ∧ (ks.getD i 0).tmod 5 < 5 := by
          have : 0 ≤ ks.getD i 0 ∧ ks.getD i 0 < 256 := by
            rw [List.getD_eq_getElem?_getD, List.getElem?_eq_getElem hil]
            exact hks _ (List.getElem_mem hil)
          exact ⟨Int.tmod_nonneg _ this.1, Int.tmod_lt_of_pos _ (by omega)⟩
        (repeat (first | ((with_reducible apply lss_at)) | ((with_reducible apply len_slice)) | ((with_reducible apply cond_t); (focus (first | assumption | rfl | decide | (simp only [bne, Bool.not_eq_true', Bool.not_eq_false', Bool.not_true, Bool.not_false, Bool.not_not]; assumption)))) | ((with_reducible apply gop_run); (focus (first | assumption | rfl | decide | (simp only [bne, Bool.not_eq_true', Bool.not_eq_false', Bool.not_true, Bool.not_false, Bool.not_not]; assumption)))) | ((with_reducible apply pick_t); (focus (first | assumption | rfl | decide | (simp only [bne, Bool.not_eq_true', Bool.not_eq_false', Bool.not_true, Bool.not_false, Bool.not_not]; assumption))))))
        refine buildA_agg [vb 1, vb 2, vb 3, vb 8, vb 13] (by kernel_rfl) ?_
        refine at_byte (h1.ext st.keeps) (by omega) (by omega) fun b j hrd => ?_
        (repeat (first | ((with_reducible apply load_reads); (focus assumption))))
        refine rem_at (by decide) ?_
        refine index_five hkr ?_
        refine numbers_region (kk := easyOf ((ks.getD i 0).tmod 5)) hE hi300 h1 hil hks (easyOf_easy _) ⟨hsd, by unfold AW.sides; omega⟩ st.drew ?_ ?_ ?_ ?_ fun e w L' hp st k1 k2 k7 k9 k10 k11 k12 k13 => ?_
        · simp [upd_get, g1]
        · simp [upd_get, g7]
        · simp [upd_get, g10]
        · simp [upd_get]
        simp only [upd_get, Nat.reduceEqDiff, if_false, if_true, g1, g2, g7, g9, g10] at k1 k2 k7 k9 k10 k11
        simp only [k2, k7, k9, k10, k11, k12, k13]
        have hrange := modI_range (ks.getD i 0) hsd
        obtain ⟨hE', _, his, hkd⟩ := hE.make (easyOf_easy ((ks.getD i 0).tmod 5)) (s := modI (ks.getD i 0) a.sides) (by simp only [AW.side, Bool.and_eq_true, decide_eq_true_eq]; exact hrange) hi300
        have hsd' : 0 < (a.make (bareWh (easyOf ((ks.getD i 0).tmod 5)) (modI (ks.getD i 0) a.sides))).sides := by rw [sides_make]; exact hsd
        generalize a.make (bareWh (easyOf ((ks.getD i 0).tmod 5)) (modI (ks.getD i 0) a.sides)) = a' at st hE' his hkd hsd'
        rw [← hp] at k7 ⊢
        have c2 : (((i : Int) + 1) != ((i : Int) + 1)) = false := by simp
        have c3 : (a'.kind (i + 1) != easyOf ((ks.getD (i : Int).toNat 0).tmod 5)) = false := by rw [hkd]; simp
        have fin : ∀ {e : Env} {w : World} {L2 : Lay} {a2 : AW}, L2.p = L'.p → Easy a2 (i + 1) → 0 < a2.sides → State (fun _ => False) W w [.world L2 a2] → e 1 = .slice x1 ks.length c1 → e 2 = .slice x2 bs.length c2' → e 7 = ptr L'.p → e 9 = vi (i + 1) → e 10 = vi (i + 1) →
            ∃ m', m' < 300 - i ∧ Numb W (.slice x1 ks.length c1) (.slice x2 bs.length c2') ks.length m' e w := by
          intro e w L2 a2 hp2 hE2 hs2 st2 j1 j2 j7 j9 j10
          exact ⟨300 - (i + 1), by omega, i + 1, L2, a2, rfl, hil, hE2, j1, j2, by rw [hp2]; exact j7, j9, j10, hs2, st2⟩
        (repeat (first | ((with_reducible apply neq_at)) | ((with_reducible apply lss_at)) | ((with_reducible apply not_at)) | ((with_reducible apply len_slice)) | ((with_reducible apply gop_run); (focus (first | assumption | rfl | decide | (simp only [bne, Bool.not_eq_true', Bool.not_eq_false', Bool.not_true, Bool.not_false, Bool.not_not]; assumption)))) | ((with_reducible apply cond_f); (focus (first | assumption | rfl | decide | (simp only [bne, Bool.not_eq_true', Bool.not_eq_false', Bool.not_true, Bool.not_false, Bool.not_not]; assumption)))) | ((with_reducible apply pick_f); (focus (first | assumption | rfl | decide | (simp only [bne, Bool.not_eq_true', Bool.not_eq_false', Bool.not_true, Bool.not_false, Bool.not_not]; assumption)))) | ((with_reducible apply add_at); (focus omega); (focus omega)) | ((with_reducible apply is_c); (focus (first | exact st.rep (by ((repeat (first | exact List.Mem.head _ | assumption | refine List.Mem.tail _ ?_)); done)) | exact h.ext st.keeps))) | ((with_reducible apply kind_c); (focus (first | exact st.rep (by ((repeat (first | exact List.Mem.head _ | assumption | refine List.Mem.tail _ ?_)); done)) | exact h.ext st.keeps)))))
        cases hb : decide ((i : Int) < (bs.length : Int)) with
        | false =>
          (repeat (first | ((with_reducible apply cond_f); (focus (first | assumption | rfl | decide | (simp only [bne, Bool.not_eq_true', Bool.not_eq_false', Bool.not_true, Bool.not_false, Bool.not_not]; assumption)))) | ((with_reducible apply gop_skip); (focus (first | assumption | rfl | decide | (simp only [bne, Bool.not_eq_true', Bool.not_eq_false', Bool.not_true, Bool.not_false, Bool.not_not]; assumption)))) | ((with_reducible apply pick_f); (focus (first | assumption | rfl | decide | (simp only [bne, Bool.not_eq_true', Bool.not_eq_false', Bool.not_true, Bool.not_false, Bool.not_not]; assumption)))) | ((with_reducible apply add_at); (focus omega); (focus omega))))
          refine fin rfl hE' hsd' st ?_ ?_ ?_ ?_ ?_
          all_goals simp [upd_get, k1, k2, k7, k9, k10]
        | true =>
          have hbl : (i : Int) < bs.length := by simpa using hb
          (repeat (first | ((with_reducible apply gop_run); (focus (first | assumption | rfl | decide | (simp only [bne, Bool.not_eq_true', Bool.not_eq_false', Bool.not_true, Bool.not_false, Bool.not_not]; assumption)))) | (simp only [upd_get, start_get, List.getD_cons_zero, List.getD_cons_succ, Nat.reduceEqDiff, reduceIte, Nat.reduceAdd])))
          refine at_bool (h2.ext st.keeps) (by omega) hbl fun b2 j2 hrd2 => ?_
          (repeat (first | ((with_reducible apply gop_run); (focus (first | assumption | rfl | decide | (simp only [bne, Bool.not_eq_true', Bool.not_eq_false', Bool.not_true, Bool.not_false, Bool.not_not]; assumption)))) | ((with_reducible apply pick_t); (focus (first | assumption | rfl | decide | (simp only [bne, Bool.not_eq_true', Bool.not_eq_false', Bool.not_true, Bool.not_false, Bool.not_not]; assumption)))) | ((with_reducible apply load_reads); (focus assumption))))
          cases hbv : bs.getD (i : Int).toNat false with
          | false =>
            (repeat (first | ((with_reducible apply cond_f); (focus (first | assumption | rfl | decide | (simp only [bne, Bool.not_eq_true', Bool.not_eq_false', Bool.not_true, Bool.not_false, Bool.not_not]; assumption)))) | ((with_reducible apply add_at); (focus omega); (focus omega))))
            refine fin rfl hE' hsd' st ?_ ?_ ?_ ?_ ?_
            all_goals simp [upd_get, k1, k2, k7, k9, k10]
          | true =>
            (repeat (first | ((with_reducible apply cond_t); (focus (first | assumption | rfl | decide | (simp only [bne, Bool.not_eq_true', Bool.not_eq_false', Bool.not_true, Bool.not_false, Bool.not_not]; assumption))))))
            refine State.buildL [vi (i + 1)] st (by omega) (by kernel_rfl) rfl fun b3 w st => ?_
            refine State.dropEasy st hE' his fun w L2 hp2 st => ?_
            have d1 : (a'.drop [(i : Int) + 1]).is (i + 1) = false := hE'.drop_is (by simp)
            have hE2 := hE'.drop [(i : Int) + 1]
            rw [← hp2]
            (repeat (first | ((with_reducible apply neq_at)) | ((with_reducible apply gop_run); (focus (first | assumption | rfl | decide | (simp only [bne, Bool.not_eq_true', Bool.not_eq_false', Bool.not_true, Bool.not_false, Bool.not_not]; assumption)))) | ((with_reducible apply pick_f); (focus (first | assumption | rfl | decide | (simp only [bne, Bool.not_eq_true', Bool.not_eq_false', Bool.not_true, Bool.not_false, Bool.not_not]; assumption)))) | ((with_reducible apply is_c); (focus (first | exact st.rep (by ((repeat (first | exact List.Mem.head _ | assumption | refine List.Mem.tail _ ?_)); done)) | exact h.ext st.keeps)))))
            refine State.buildL [vi (i + 1)] st (by omega) (by kernel_rfl) rfl fun b4 w st => ?_
            (repeat (first | ((with_reducible apply gop_run); (focus (first | assumption | rfl | decide | (simp only [bne, Bool.not_eq_true', Bool.not_eq_false', Bool.not_true, Bool.not_false, Bool.not_not]; assumption))))))
            refine State.dropNone (st.sub (.cons_cons _ (.cons _ (.refl _)))) hE2 d1 fun w st => ?_
            (repeat (first | ((with_reducible apply neq_at)) | ((with_reducible apply gop_run); (focus (first | assumption | rfl | decide | (simp only [bne, Bool.not_eq_true', Bool.not_eq_false', Bool.not_true, Bool.not_false, Bool.not_not]; assumption)))) | ((with_reducible apply cond_f); (focus (first | assumption | rfl | decide | (simp only [bne, Bool.not_eq_true', Bool.not_eq_false', Bool.not_true, Bool.not_false, Bool.not_not]; assumption)))) | ((with_reducible apply pick_f); (focus (first | assumption | rfl | decide | (simp only [bne, Bool.not_eq_true', Bool.not_eq_false', Bool.not_true, Bool.not_false, Bool.not_not]; assumption)))) | ((with_reducible apply add_at); (focus omega); (focus omega))))
            refine fin hp2 hE2 hsd' (st.sub (.cons _ (.refl _))) ?_ ?_ ?_ ?_ ?_
            all_goals simp [upd_get, k1, k2, k7, k9, k10]
      · have q2 : decide ((i : Int) < 300) = false := by simp; omega
        (repeat (first | ((with_reducible apply lss_at)) | ((with_reducible apply len_slice)) | ((with_reducible apply gop_run); (focus (first | assumption | rfl | decide | (simp only [bne, Bool.not_eq_true', Bool.not_eq_false', Bool.not_true, Bool.not_false, Bool.not_not]; assumption)))) | ((with_reducible apply pick_t); (focus (first | assumption | rfl | decide | (simp only [bne, Bool.not_eq_true', Bool.not_eq_false', Bool.not_true, Bool.not_false, Bool.not_not]; assumption)))) | ((with_reducible apply cond_f); (focus (first | assumption | rfl | decide | (simp only [bne, Bool.not_eq_true', Bool.not_eq_false', Bool.not_true, Bool.not_false, Bool.not_not]; assumption))))))
        refine lives07_c fun w he => ?_
        have st := st.ext he
        skip
        exact hk w st.keeps
    · have q1 : decide ((i : Int) < (ks.length : Int)) = false := by simpa using hil
      (repeat (first | ((with_reducible apply lss_at)) | ((with_reducible apply len_slice)) | ((with_reducible apply cond_f); (focus (first | assumption | rfl | decide | (simp only [bne, Bool.not_eq_true', Bool.not_eq_false', Bool.not_true, Bool.not_false, Bool.not_not]; assumption)))) | ((with_reducible apply gop_skip); (focus (first | assumption | rfl | decide | (simp only [bne, Bool.not_eq_true', Bool.not_eq_false', Bool.not_true, Bool.not_false, Bool.not_not]; assumption)))) | ((with_reducible apply pick_f); (focus (first | assumption | rfl | decide | (simp only [bne, Bool.not_eq_true', Bool.not_eq_false', Bool.not_true, Bool.not_false, Bool.not_not]; assumption))))))
      refine lives07_c fun w he => ?_
      have st := st.ext he
      skip
      exact hk w st.keeps
end
end Go.X
