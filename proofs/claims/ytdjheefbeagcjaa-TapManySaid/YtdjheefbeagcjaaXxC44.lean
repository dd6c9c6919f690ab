/- Contract: what is found of a kind (mints and purses). -/
import Derived.Test.YtdjheefbeagcjaaXxC40
import Derived.Test.YtdjheefbeagcjaaXxC39
import Derived.Test.YtdjheefbeagcjaaXxS10
import Derived.Test.YtdjheefbeagcjaaXxAny2
set_option linter.unusedSimpArgs false
set_option linter.unusedVariables false
set_option maxRecDepth 20000
set_option maxHeartbeats 1000000
namespace Go.X
open Go Go.AW

section
variable {S : Nat → Prop} {w0 w : World} {L : Lay} {a : AW} {R : List Res} {K : Value → World → Prop} {k : Value → World → Prop}

abbrev ruleV (c : Nat) : Value := .func (.func fn_purse_rules_1_1) #[] #[ptr c]

theorem rules_1_1_c {x : Int} {b : Nat} {y : Int} (hc : cellsOf w b = some [vb y]) (hk : k (vi (if x = y then 0 else 100)) w) : callOn prog fn_purse_rules_1_1 #[vb x, ptr b] w k := by
  apply F_purse_rules_1_1_on
  unfold F_purse_rules_1_1
  refine load_reads ⟨_, Rd_of_cells hc, rfl⟩ ?_
  by_cases h : x = y
  · subst h
    rw [if_pos rfl] at hk
    exact neq_at (cond_f (by simp) hk)
  · rw [if_neg h] at hk
    exact neq_at (cond_t (by simpa using h) hk)

theorem rules_1_c {y : Int} (st : State S w0 w R) (hk : ∀ b w, State S w0 w (.cells b [vb y] :: R) → K (ruleV b) w) : callOn prog fn_purse_rules_1 #[vb y] w K := by
  apply F_purse_rules_1_on
  unfold F_purse_rules_1
  exact st.box fun b w st => hk b w st

theorem rules_c (st : State S w0 w R) (hk : ∀ b c8 c9 w, State S w0 w (.cells c9 [vb 9] :: .map b [{ key := vb 8, val := ruleV c8, born := 0 }, { key := vb 9, val := ruleV c9, born := 1 }] 2 :: .cells c8 [vb 8] :: R) → K (.map (some b)) w) : callOn prog fn_purse_rules #[] w K := by
  apply F_purse_rules_on
  unfold F_purse_rules
  refine ⟨trivial, ?_⟩
  have st := st.push (.alloc _ _) (r := .map w.heap.size [] 0) (mapOf_new w #[] 0) (by simp [Res.blks]) (by simp [Res.blks])
  generalize w.alloc (.map #[] 0) = w1 at st ⊢
  generalize w.heap.size = b at st ⊢
  refine callT_go (by kernel_rfl) ?_
  show callOn prog fn_purse_rules_1 #[vb 8] _ _
  refine rules_1_c st fun c8 w st => ?_
  refine st.entryNew (R' := [.cells c8 [vb 8], .map b [{ key := vb 8, val := ruleV c8, born := 0 }] 1] ++ R) (.tail .head) rfl rfl fun w st => ?_
  refine callT_go (by kernel_rfl) ?_
  show callOn prog fn_purse_rules_1 #[vb 9] _ _
  refine rules_1_c st fun c9 w st => ?_
  refine st.entryNew (R' := [.cells c9 [vb 9], .cells c8 [vb 8], .map b [{ key := vb 8, val := ruleV c8, born := 0 }, { key := vb 9, val := ruleV c9, born := 1 }] 2] ++ R) (.tail (.tail .head)) rfl (by simp [findK, keyEq]) fun w st => ?_
  exact hk b c8 c9 w (st.perm0 (.cons _ (.swap _ _ _)))

/-- the rules' map, in memory from block n on -/
def RulesAt (n : Nat) (v : Value) (w : World) : Prop :=
  ∃ b c8 c9, v = .map (some b) ∧ n ≤ b ∧ n ≤ c8 ∧ n ≤ c9 ∧ mapOf w b = some ([{ key := vb 8, val := ruleV c8, born := 0 }, { key := vb 9, val := ruleV c9, born := 1 }], 2) ∧ cellsOf w c8 = some [vb 8] ∧ cellsOf w c9 = some [vb 9]

theorem find_dst (j : Nat) : dstN purse_find_R6 j = ([23, 24, 25, 26, 27, 28, 29, 1000007, 7] : List Nat).getD j (1000000 + j) := by
  match j with
  | 0 => rfl
  | 1 => rfl
  | 2 => rfl
  | 3 => rfl
  | 4 => rfl
  | 5 => rfl
  | 6 => rfl
  | 7 => rfl
  | 8 => rfl
  | j + 9 => rfl

def FindG (n b6 b8 : Nat) (x : Wh) (kk : Int) : Nat → Value → World → Prop
  | 0, v, _ => v = whV x
  | 1, v, w => RulesAt n v w
  | 2, v, _ => v = vb kk
  | 3, v, w => ∃ c, n ≤ c ∧ v = ruleV c ∧ cellsOf w c = some [vb kk]
  | 4, v, _ => v = ptr b8
  | 5, v, _ => v = vb x.kind
  | 6, v, _ => v = vi (if x.kind = kk then 0 else 100)
  | 7, _, w => cellsOf w b6 = some (whCells x)
  | 8, v, _ => v = vi (if x.kind = kk then 0 else 100)
  | _, _, _ => True

theorem FindG.ext {n b6 b8 : Nat} {x : Wh} {kk : Int} {w w' : World} (he : Ext w w') : ∀ (j : Nat) (v : Value), FindG n b6 b8 x kk j v w → FindG n b6 b8 x kk j v w'
  | 0, v, h => h
  | 1, v, ⟨b, c8, c9, h1, h2, h3, h4, h5, h6, h7⟩ => ⟨b, c8, c9, h1, h2, h3, h4, he.map h5 id, he.cells h6 id, he.cells h7 id⟩
  | 2, v, h => h
  | 3, v, ⟨c, h1, h2, h3⟩ => ⟨c, h1, h2, he.cells h3 id⟩
  | 4, v, h => h
  | 5, v, h => h
  | 6, v, h => h
  | 7, v, h => he.cells h id
  | 8, v, h => h
  | _ + 9, _, _ => trivial

theorem FindG.store {n b6 b8 : Nat} {x : Wh} {kk : Int} {w w' : World} (hb : b6 < n) (he : Keeps (· = b6) w w') : ∀ (j : Nat) (v : Value), j ≠ 7 → FindG n b6 b8 x kk j v w → FindG n b6 b8 x kk j v w'
  | 0, v, _, h => h
  | 1, v, _, ⟨b, c8, c9, h1, h2, h3, h4, h5, h6, h7⟩ => ⟨b, c8, c9, h1, h2, h3, h4, he.map h5 (by omega), he.cells h6 (by omega), he.cells h7 (by omega)⟩
  | 2, v, _, h => h
  | 3, v, _, ⟨c, h1, h2, h3⟩ => ⟨c, h1, h2, he.cells h3 (by omega)⟩
  | 4, v, _, h => h
  | 5, v, _, h => h
  | 6, v, _, h => h
  | 7, v, h, _ => absurd rfl h
  | 8, v, _, h => h
  | _ + 9, _, _, _ => trivial

theorem find_region {b6 b8 : Nat} {x : Wh} {l6 : List Value} {kk : Int} {e0 : Env} {KE : Env → World → Prop} (hkk : kk = 8 ∨ kk = 9) (st : State (fun _ => False) w0 w [.cells b8 (whCells x), .cells b6 l6]) (hl : l6.length = 16) (h6 : e0 6 = ptr b6) (h8 : e0 8 = ptr b8) (h2 : e0 2 = vb kk)
    (hk : ∀ e w', e 6 = ptr b6 → e 7 = vi (if x.kind = kk then 0 else 100) → State (fun _ => False) w0 w' [.cells b8 (whCells x), .cells b6 (whCells x)] → KE e w') : drawK prog purse_find_R6 e0 w KE := by
  have hb6 : b6 < w.heap.size := st.ptr_lt (.tail _ (.head _))
  have base : ∀ {e : Env} (t : Nat), ([23, 24, 25, 26, 27, 28, 29, 1000007, 7] : List Nat).contains t = false → t < 1000000 → (∀ t, (∀ j, j < purse_find_R6.size → t ≠ dstN purse_find_R6 j) → e t = e0 t) → e t = e0 t := fun t h1 h2 hb => hb t fun j _ => by
    rw [find_dst]
    intro e
    by_cases hj : j < 9
    · rw [List.getD_eq_getElem?_getD, List.getElem?_eq_getElem (by simpa using hj)] at e
      have : t ∈ ([23, 24, 25, 26, 27, 28, 29, 1000007, 7] : List Nat) := by rw [e]; exact List.getElem_mem _
      rw [← List.contains_iff_mem, h1] at this
      simp at this
    · rw [List.getD_eq_getElem?_getD, List.getElem?_eq_none (by simp; omega)] at e
      simp at e; omega
  refine .inr (anyK_facts purse_find_R6_pre (FindG w.heap.size b6 b8 x kk) (fun w' => w.heap.size ≤ w'.heap.size ∧ ∃ l, l.length = 16 ∧ State (fun _ => False) w0 w' [.cells b8 (whCells x), .cells b6 l]) purse_find_R6_ok purse_find_R6_ap ⟨Nat.le_refl _, l6, hl, st⟩ ?_ ?_)
  · rintro i o ho e w1 ⟨hsz, l, hl, st⟩ hbase hpre K hK
    have e6 := base 6 (by decide) (by decide) hbase
    have e8 := base 8 (by decide) (by decide) hbase
    have e2 := base 2 (by decide) (by decide) hbase
    rw [h6] at e6; rw [h8] at e8; rw [h2] at e2
    simp only [find_dst] at hpre hK
    have fin : ∀ {w2 : World} (i : Nat) (d : Nat) (v : Value), ([23, 24, 25, 26, 27, 28, 29, 1000007, 7] : List Nat).getD i (1000000 + i) = d → Ext w1 w2 → FindG w.heap.size b6 b8 x kk i v w2 → (∀ e' w', (w.heap.size ≤ w'.heap.size ∧ ∃ l, l.length = 16 ∧ State (fun _ => False) w0 w' [.cells b8 (whCells x), .cells b6 l]) →
        (∀ t, t ≠ ([23, 24, 25, 26, 27, 28, 29, 1000007, 7] : List Nat).getD i (1000000 + i) → e' t = e t) → FindG w.heap.size b6 b8 x kk i (e' (([23, 24, 25, 26, 27, 28, 29, 1000007, 7] : List Nat).getD i (1000000 + i))) w' → (∀ j v, j ≠ i → FindG w.heap.size b6 b8 x kk j v w1 → FindG w.heap.size b6 b8 x kk j v w') → K e' w') → K (upd e d v) w2 := by
      intro w2 i d v hd he hG hK
      subst hd
      refine hK _ _ ⟨Nat.le_trans hsz he.size, l, hl, st.ext he⟩ (fun t ht => by rw [upd_get, if_neg ht]) (by rw [upd_get, if_pos rfl]; exact hG) fun j v _ h => FindG.ext he j v h
    match i, ho, hpre, hK with
    | 0, ho, hpre, hK =>
      refine O_purse_find_R6_0_on ho ?_
      unfold O_purse_find_R6_0
      rw [e8]
      refine st.loadAll (.head _) (by simp [whCells]) ?_
      exact fin 0 23 _ rfl .refl rfl hK
    | 1, ho, hpre, hK =>
      refine O_purse_find_R6_1_on ho ?_
      unfold O_purse_find_R6_1
      refine rules_c (State.start (S := fun _ => False) w1) fun b c8 c9 w2 st2 => ?_
      have hb : ∀ y ∈ [c9, b, c8], w1.heap.size ≤ y := fun y hy => (st2.own y (by simpa [blksOf, Res.blks] using hy)).resolve_left id
      refine fin 1 24 _ rfl st2.keeps ⟨b, c8, c9, rfl, ?_, ?_, ?_, st2.holds (.map b _ 2) (.tail _ (.head _)), st2.cell (.tail _ (.tail _ (.head _))), st2.cell (.head _)⟩ hK
      · have := hb b (by simp); omega
      · have := hb c8 (by simp); omega
      · have := hb c9 (by simp); omega
    | 2, ho, hpre, hK =>
      refine O_purse_find_R6_2_on ho ?_
      unfold O_purse_find_R6_2
      exact fin 2 25 _ rfl .refl e2 hK
    | 3, ho, hpre, hK =>
      refine O_purse_find_R6_3_on ho ?_
      unfold O_purse_find_R6_3
      obtain ⟨b, c8, c9, p1, p2, p3, p4, p5, p6, p7⟩ : RulesAt w.heap.size (e 24) w1 := hpre 1 (by simp [purse_find_R6_pre])
      have q : e 25 = vb kk := hpre 2 (by simp [purse_find_R6_pre])
      rw [p1, q]
      rcases hkk with rfl | rfl
      · simp only [lookM, p5, findK, keyEq, foundM, keyShape]
        refine ⟨trivial, ?_⟩
        simp
        exact fin 3 26 _ rfl .refl ⟨c8, p3, rfl, p6⟩ hK
      · simp only [lookM, p5, findK, keyEq, foundM, keyShape]
        refine ⟨trivial, ?_⟩
        simp
        exact fin 3 26 _ rfl .refl ⟨c9, p4, rfl, p7⟩ hK
    | 4, ho, hpre, hK =>
      refine O_purse_find_R6_4_on ho ?_
      unfold O_purse_find_R6_4
      rw [e8]
      exact field_0 (fin 4 27 _ rfl .refl rfl hK)
    | 5, ho, hpre, hK =>
      refine O_purse_find_R6_5_on ho ?_
      unfold O_purse_find_R6_5
      have q : e 27 = ptr b8 := hpre 4 (by simp [purse_find_R6_pre])
      rw [q]
      refine st.load1 (.head _) rfl ?_
      exact fin 5 28 _ rfl .refl rfl hK
    | 6, ho, hpre, hK =>
      refine O_purse_find_R6_6_on ho ?_
      unfold O_purse_find_R6_6
      obtain ⟨c, p1, p2, p3⟩ : ∃ c, w.heap.size ≤ c ∧ e 26 = ruleV c ∧ cellsOf w1 c = some [vb kk] := hpre 3 (by simp [purse_find_R6_pre])
      have q : e 28 = vb x.kind := hpre 5 (by simp [purse_find_R6_pre])
      rw [p2, q]
      refine callT_go (by kernel_rfl) ?_
      show callOn prog fn_purse_rules_1_1 #[vb x.kind, ptr c] w1 _
      refine rules_1_1_c p3 ?_
      exact fin 6 29 _ rfl .refl rfl hK
    | 7, ho, hpre, hK =>
      refine O_purse_find_R6_7_on ho ?_
      unfold O_purse_find_R6_7
      have q : e 23 = whV x := hpre 0 (by simp [purse_find_R6_pre])
      rw [e6, q]
      refine storeN_intro (l := l) (cs := whCells x) (st.cell (.tail _ (.head _))) rfl (by omega) (by simp [whCells, Value.oneCell']) fun w2 hkp hc hs => ?_
      have hov : over l 0 (whCells x) = whCells x := by
        rw [over_eq _ _ _ (by simp [whCells]; omega)]
        have : l.drop (0 + (whCells x).length) = [] := List.drop_eq_nil_of_le (by simp [whCells]; omega)
        rw [this]; simp
      rw [hov] at hc
      have st2 := st.change (r := .cells b6 l) (r' := .cells b6 (whCells x)) (R' := [.cells b8 (whCells x), .cells b6 (whCells x)]) (.tail .head) (hkp.mono fun y _ hy => by simp [Res.blks, hy]) hc (by simp [Res.blks]) (by simp [Res.blks])
      exact hK e w2 ⟨by omega, _, by simp [whCells], st2⟩ (fun t _ => rfl) hc fun j v hj h => FindG.store hb6 hkp j v hj h
    | 8, ho, hpre, hK =>
      refine O_purse_find_R6_8_on ho ?_
      unfold O_purse_find_R6_8
      exact fin 8 7 _ rfl .refl (hpre 6 (by simp [purse_find_R6_pre])) hK
    | n + 9, ho, hpre, hK =>
      have := (Array.getElem?_eq_some_iff.1 ho).1
      have hsz : purse_find_R6.size = 9 := by kernel_rfl
      omega
  · rintro e w1 ⟨hsz, l, hl, st⟩ hbase hG
    have hsz9 : purse_find_R6.size = 9 := by kernel_rfl
    have e6 := base 6 (by decide) (by decide) hbase
    rw [h6] at e6
    simp only [find_dst] at hG
    have h7 : cellsOf w1 b6 = some (whCells x) := hG 7 (by omega)
    have h8' : e 7 = vi (if x.kind = kk then 0 else 100) := hG 8 (by omega)
    have hlx : l = whCells x := by
      have := st.cell (.tail _ (.head _))
      rw [h7] at this
      exact (Option.some.inj this).symm
    subst hlx
    exact hk e w1 e6 h8' st

theorem pfind_c {r kk : Int} (h : WRep w L a) (hkk : kk = 8 ∨ kk = 9) (hpl : ∀ x, a.at r = some x → Plain x) (hno : a.at r = none → ∀ w', Ext w w' → k (.tuple #[whV Wh.zero, vi 5]) w')
    (hyes : ∀ x w', a.at r = some x → Ext w w' → k (.tuple #[whV x, vi (if x.kind = kk then 0 else 100)]) w') : callOn prog fn_purse_find #[ptr L.p, vi r, vb kk] w k := by
  apply F_purse_find_on
  unfold F_purse_find
  have st := State.start (S := fun _ => False) w
  (repeat (first | ((with_reducible apply ptr_eql)) | ((with_reducible apply cond_f); (focus (first | assumption | rfl | decide | (simp only [bne, Bool.not_eq_true', Bool.not_eq_false', Bool.not_true, Bool.not_false, Bool.not_not]; assumption)))) | ((with_reducible apply State.allocAgg st); intro b w st)))
  cases hr : a.at r with
  | none =>
    refine what_no (h.ext st.keeps) hr fun w he => ?_
    have st := st.ext he
    (repeat (first | ((with_reducible apply neq_at)) | ((with_reducible apply ext_0)) | ((with_reducible apply ext_1)) | ((with_reducible apply cond_t); (focus (first | assumption | rfl | decide | (simp only [bne, Bool.not_eq_true', Bool.not_eq_false', Bool.not_true, Bool.not_false, Bool.not_not]; assumption)))) | ((with_reducible apply State.allocAgg st); intro b w st) | ((with_reducible apply State.storeAll st); (focus ((repeat (first | exact Sub.head | apply Sub.tail)); done)); (focus (first | (simp [whCells, valL, over_length, Value.cells]; done) | omega)); (focus (first | (simp [whCells, valL, over_length, Value.cells]; done) | omega)); (focus (first | rfl | assumption | (simp [whCells, valL, Value.oneCell', Value.cells]; done))); intro w st)))
    refine build_agg (whCells Wh.zero) (by kernel_rfl) ?_
    refine State.storeAll st (.tail .head) (by simp [whCells]) (by simp) (by simp [whCells, Value.oneCell']) fun w st => ?_
    (repeat (first | ((with_reducible apply State.loadAll st); (focus ((repeat (first | exact List.Mem.head _ | assumption | refine List.Mem.tail _ ?_)); done)); (focus (first | (simp [whCells, valL, over_length, Value.cells]; done) | omega)))))
    exact hno hr _ st.keeps
  | some x =>
    refine what_c (h.ext st.keeps) hr (hpl x hr) fun w he => ?_
    have st := st.ext he
    (repeat (first | ((with_reducible apply neq_at)) | ((with_reducible apply ext_0)) | ((with_reducible apply ext_1)) | ((with_reducible apply cond_f); (focus (first | assumption | rfl | decide | (simp only [bne, Bool.not_eq_true', Bool.not_eq_false', Bool.not_true, Bool.not_false, Bool.not_not]; assumption)))) | ((with_reducible apply State.allocAgg st); intro b w st) | ((with_reducible apply State.storeAll st); (focus ((repeat (first | exact Sub.head | apply Sub.tail)); done)); (focus (first | (simp [whCells, valL, over_length, Value.cells]; done) | omega)); (focus (first | (simp [whCells, valL, over_length, Value.cells]; done) | omega)); (focus (first | rfl | assumption | (simp [whCells, valL, Value.oneCell', Value.cells]; done))); intro w st)))
    refine find_region hkk st.drew (by simp [whCells]) ?_ ?_ ?_ fun e w' e6 e7 st => ?_
    · simp [upd_get]
    · simp [upd_get]
    · simp [upd_get, start_get]
    simp only [e6, e7]
    (repeat (first | ((with_reducible apply State.loadAll st); (focus ((repeat (first | exact List.Mem.head _ | assumption | refine List.Mem.tail _ ?_)); done)); (focus (first | (simp [whCells, valL, over_length, Value.cells]; done) | omega)))))
    exact hyes x _ hr st.keeps

theorem State.findYes {r kk : Int} {x : Wh} (st : State S w0 w R) (hm : .world L a ∈ R) (hkk : kk = 8 ∨ kk = 9) (hr : a.at r = some x) (hp : Plain x) (hk : ∀ w, State S w0 w R → K (.tuple #[whV x, vi (if x.kind = kk then 0 else 100)]) w) :
    callOn prog fn_purse_find #[ptr L.p, vi r, vb kk] w K :=
  pfind_c (st.rep hm) hkk (fun y hy => by rw [hr] at hy; obtain rfl := Option.some.inj hy; exact hp) (fun h => by rw [hr] at h; simp at h) fun y w' hy he => by
    rw [hr] at hy; obtain rfl := Option.some.inj hy; exact hk w' (st.ext he)
theorem State.findNo {r kk : Int} (st : State S w0 w R) (hm : .world L a ∈ R) (hkk : kk = 8 ∨ kk = 9) (hr : a.at r = none) (hk : ∀ w, State S w0 w R → K (.tuple #[whV Wh.zero, vi 5]) w) : callOn prog fn_purse_find #[ptr L.p, vi r, vb kk] w K :=
  pfind_c (st.rep hm) hkk (fun y hy => by rw [hr] at hy; simp at hy) (fun _ w' he => hk w' (st.ext he)) fun y w' hy _ => by rw [hr] at hy; simp at hy
end
end Go.X
