/- Texts of this family, put together. -/
import Derived.Test.YtdjheefbeagcjaaXxC3
import Derived.KernelRfl
/- Contracts: sets of abilities, the way to a base. -/
set_option linter.unusedSimpArgs false
set_option linter.unusedVariables false
namespace Go.X
open Go Go.AW

theorem bv8 {a : Int} (h0 : 0 ≤ a) (h : a < 256) : BitVec.ofInt 8 a = BitVec.ofNat 8 a.toNat := by
  obtain ⟨n, rfl⟩ := Int.eq_ofNat_of_zero_le h0
  simp

theorem wrap8 {n : Int} (h0 : 0 ≤ n) (h : n < 256) : IntKind.u8.wrap n = n := by
  simp [IntKind.wrap, IntKind.signed, IntKind.bits]
  omega

theorem and_lt8 {m n : Nat} (h : m < 256) : m &&& n < 256 := Nat.lt_of_le_of_lt Nat.and_le_left h

theorem meet_range {a b : Int} (h0 : 0 ≤ a) (h : a < 256) : 0 ≤ meet a b ∧ meet a b < 256 := by
  have := and_lt8 (m := a.toNat) (n := b.toNat) (by omega)
  unfold meet
  omega

theorem binI_and8 {a b : Int} (ha : 0 ≤ a) (ha' : a < 256) (hb : 0 ≤ b) (hb' : b < 256) (k : Value → Prop) : binI .and (vb a) (vb b) k = k (vb (meet a b)) := by
  have h : (BitVec.ofInt 8 a &&& BitVec.ofInt 8 b).toNat = a.toNat &&& b.toNat := by
    rw [bv8 ha ha', bv8 hb hb', BitVec.toNat_and, BitVec.toNat_ofNat, BitVec.toNat_ofNat, Nat.mod_eq_of_lt (by omega), Nat.mod_eq_of_lt (by omega)]
  have hw : IntKind.u8.wrap ((a.toNat &&& b.toNat : Nat) : Int) = ((a.toNat &&& b.toNat : Nat) : Int) := wrap8 (by omega) (by have := and_lt8 (m := a.toNat) (n := b.toNat) (by omega); omega)
  simp only [binI, binInt, bitsOf, if_true]
  show k (.int .u8 (IntKind.u8.wrap (((BitVec.ofInt 8 a &&& BitVec.ofInt 8 b).toNat : Nat) : Int))) = _
  rw [h, hw]
  rfl

theorem binI_andNot8 {a b : Int} (ha : 0 ≤ a) (ha' : a < 256) (hb : 0 ≤ b) (hb' : b < 256) (k : Value → Prop) : binI .andNot (vb a) (vb b) k = k (vb (without a b)) := by
  have h : (BitVec.ofInt 8 a &&& ~~~BitVec.ofInt 8 b).toNat = a.toNat &&& (255 - b.toNat) := by
    rw [bv8 ha ha', bv8 hb hb', BitVec.toNat_and, BitVec.toNat_not, BitVec.toNat_ofNat, BitVec.toNat_ofNat, Nat.mod_eq_of_lt (by omega), Nat.mod_eq_of_lt (by omega)]
  have hw : IntKind.u8.wrap ((a.toNat &&& (255 - b.toNat) : Nat) : Int) = ((a.toNat &&& (255 - b.toNat) : Nat) : Int) := wrap8 (by omega) (by have := and_lt8 (m := a.toNat) (n := 255 - b.toNat) (by omega); omega)
  simp only [binI, binInt, bitsOf, if_true]
  show k (.int .u8 (IntKind.u8.wrap (((BitVec.ofInt 8 a &&& ~~~BitVec.ofInt 8 b).toNat : Nat) : Int))) = _
  rw [h, hw]
  rfl

def join (a b : Int) : Int := (a.toNat ||| b.toNat : Nat)

theorem or_lt8 {m n : Nat} (h : m < 256) (h' : n < 256) : m ||| n < 256 := Nat.or_lt_two_pow (n := 8) h h'

theorem binI_or8 {a b : Int} (ha : 0 ≤ a) (ha' : a < 256) (hb : 0 ≤ b) (hb' : b < 256) (k : Value → Prop) : binI .or (vb a) (vb b) k = k (vb (join a b)) := by
  have h : (BitVec.ofInt 8 a ||| BitVec.ofInt 8 b).toNat = a.toNat ||| b.toNat := by
    rw [bv8 ha ha', bv8 hb hb', BitVec.toNat_or, BitVec.toNat_ofNat, BitVec.toNat_ofNat, Nat.mod_eq_of_lt (by omega), Nat.mod_eq_of_lt (by omega)]
  have hw : IntKind.u8.wrap ((a.toNat ||| b.toNat : Nat) : Int) = ((a.toNat ||| b.toNat : Nat) : Int) := wrap8 (by omega) (by have := or_lt8 (m := a.toNat) (n := b.toNat) (by omega) (by omega); omega)
  simp only [binI, binInt, bitsOf, if_true]
  show k (.int .u8 (IntKind.u8.wrap (((BitVec.ofInt 8 a ||| BitVec.ofInt 8 b).toNat : Nat) : Int))) = _
  rw [h, hw]
  rfl

/-- a slice of the call's own, written out -/
theorem buildL_intro {e : Nat} {z : Value} {n : Nat} {parts : List (Nat × Value)} {cs : List Value} {w : World} {k : Value → World → Prop} (hn : n ≤ 16777216) (hf : Instr.fill (fun j => some (j * 1, 1)) (zerosOf (if n * 1 = 0 then #[] else z.cells) (n * 1)) parts = some cs.toArray) (hl : cs.length = n)
    (h : ∀ b w', Ext w w' → w.heap.size ≤ b → b < w'.heap.size → cellsOf w' b = some cs → SliceOf w' (.slice (some ⟨b, 0, none⟩) n n) cs → k (.slice (some ⟨b, 0, none⟩) n n) w') : buildL e 1 z n parts w k := by
  unfold buildL
  refine ⟨by omega, ?_⟩
  rw [hf]
  have hc := cellsOf_new w cs.toArray e
  simp only [List.toList_toArray] at hc
  exact h _ _ (.alloc _ _) (Nat.le_refl _) (by simp) hc ⟨Nat.le_refl _, cs, hc, hl.symm, by rw [List.drop_zero]; exact List.take_of_length_le (by omega), by simp [hl]⟩

section
variable {w : World} {L : Lay} {a : AW} {k : Value → World → Prop}

theorem SliceOf.lenL {v : Value} {l : List Value} (h : SliceOf w v l) (q : Value → Prop) : lenL v q = q (vi l.length) := by
  unfold SliceOf at h
  split at h
  · obtain ⟨rfl, _, rfl⟩ := h; rfl
  · obtain ⟨_, _, _, rfl, _⟩ := h; rfl
  · exact h.elim

def bytes (l : List Int) : Prop := ∀ x ∈ l, 0 ≤ x ∧ x < 256

theorem foldl_meet_range : ∀ (l : List Int) (x : Int), 0 ≤ x → x < 256 → 0 ≤ l.foldl meet x ∧ l.foldl meet x < 256
  | [], x, h0, h => ⟨h0, h⟩
  | y :: l, x, h0, h => by
    have := meet_range (b := y) h0 h
    exact foldl_meet_range l _ this.1 this.2

theorem foldl_take_succ {β : Type} (f : β → Int → β) (x : β) (l : List Int) {i : Nat} (h : i < l.length) : (l.take (i + 1)).foldl f x = f ((l.take i).foldl f x) (l.getD i 0) := by
  rw [List.take_succ_eq_append_getElem h, List.foldl_append]
  simp [List.getD_eq_getElem?_getD, h]

theorem meet_c {v : Value} {l : List Int} (h : SliceOf w v (l.map vb)) (hb : bytes l) (hlen : l.length < 4611686018427387904) (hk : k (vb (l.foldl meet 63)) w) : callOn prog fn_able_Meet #[v] w k := by
  apply F_able_Meet_on
  unfold F_able_Meet
  rw [h.lenL, List.length_map]
  refine ⟨fun m e w' => ∃ i : Nat, i ≤ l.length ∧ m = l.length - i ∧ e 8 = vi i ∧ e 7 = vi l.length ∧ e 6 = v ∧ e 3 = vb ((l.take i).foldl meet 63) ∧ w' = w, l.length, ⟨0, by omega, by omega, rfl, rfl, rfl, rfl, rfl⟩, ?_⟩
  rintro m e w' ⟨i, hi, rfl, h8, h7, h6, h3, rfl⟩
  simp only [h8, h7, h6, h3, atDrew_eq, nilK_ptr, nilK_fn, fieldA_at, load1_at, orRd_some, optK_some, pickK_true, pickK_false, gopK_tt, gopK_ff, gopK_tf, gopK_ft, gopK_undef, gqK_tt, gqK_ff, gqK_tf, gqK_ft, gqK_undef, condK_true, condK_false, unK_not, binI_eql, binI_neq, binI_lss, binI_leq, binI_gtr, binI_geq, binI_add, binI_sub, binI_mul, binP_eql_none, binP_neq_none, binM_eql_none, binM_neq_none, binL_eql_none, lenL_at, convI_at, extractK_at, Option.bind_some, List.getElem?_cons_zero, List.getElem?_cons_succ, Option.isNone_some, Option.isNone_none, Bool.not_true, Bool.not_false, Nat.zero_add]
  by_cases hlt : i < l.length
  · have hd : decide ((i : Int) < (l.length : Int)) = true := by simpa using hlt
    obtain ⟨b, o, c, hix, _, hc, _, hci, _⟩ := h.place (j := (i : Int)) (by omega) (by simpa using hlt)
    have hv : c[o]? = some (vb (l.getD i 0)) := by rw [hci]; simp [hlt, List.getD_eq_getElem?_getD]
    have hr := foldl_meet_range (l.take i) 63 (by omega) (by omega)
    have hx := hb (l.getD i 0) (by simp [List.getD_eq_getElem?_getD, hlt])
    have hw : IntKind.i64.wrap ((i : Int) + 1) = ((i + 1 : Nat) : Int) := by rw [wrap64_id (by omega) (by omega)]; omega
    simp only [hd, atDrew_eq, nilK_ptr, nilK_fn, fieldA_at, load1_at, orRd_some, optK_some, pickK_true, pickK_false, gopK_tt, gopK_ff, gopK_tf, gopK_ft, gopK_undef, gqK_tt, gqK_ff, gqK_tf, gqK_ft, gqK_undef, condK_true, condK_false, unK_not, binI_eql, binI_neq, binI_lss, binI_leq, binI_gtr, binI_geq, binI_add, binI_sub, binI_mul, binP_eql_none, binP_neq_none, binM_eql_none, binM_neq_none, binL_eql_none, lenL_at, convI_at, extractK_at, Option.bind_some, List.getElem?_cons_zero, List.getElem?_cons_succ, Option.isNone_some, Option.isNone_none, Bool.not_true, Bool.not_false, Nat.zero_add, hix, hc, hv, binI_and8 hr.1 hr.2 hx.1 hx.2, hw]
    refine ⟨l.length - (i + 1), by omega, i + 1, by omega, rfl, rfl, h7, h6, ?_, trivial⟩
    rw [foldl_take_succ _ _ _ hlt]
    rfl
  · have hd : decide ((i : Int) < (l.length : Int)) = false := by simpa using hlt
    have : i = l.length := by omega
    subst this
    simp only [hd, atDrew_eq, nilK_ptr, nilK_fn, fieldA_at, load1_at, orRd_some, optK_some, pickK_true, pickK_false, gopK_tt, gopK_ff, gopK_tf, gopK_ft, gopK_undef, gqK_tt, gqK_ff, gqK_tf, gqK_ft, gqK_undef, condK_true, condK_false, unK_not, binI_eql, binI_neq, binI_lss, binI_leq, binI_gtr, binI_geq, binI_add, binI_sub, binI_mul, binP_eql_none, binP_neq_none, binM_eql_none, binM_neq_none, binL_eql_none, lenL_at, convI_at, extractK_at, Option.bind_some, List.getElem?_cons_zero, List.getElem?_cons_succ, Option.isNone_some, Option.isNone_none, Bool.not_true, Bool.not_false, Nat.zero_add, List.take_length]
    exact hk

theorem join_range {a b : Int} (h0 : 0 ≤ a) (h : a < 256) (h0' : 0 ≤ b) (h' : b < 256) : 0 ≤ join a b ∧ join a b < 256 := by
  have := or_lt8 (m := a.toNat) (n := b.toNat) (by omega) (by omega)
  unfold join
  omega

def joins (x y : Int) : Int := join x (meet y 63)

theorem foldl_joins_range : ∀ (l : List Int) (x : Int), bytes l → 0 ≤ x → x < 256 → 0 ≤ l.foldl joins x ∧ l.foldl joins x < 256
  | [], x, _, h0, h => ⟨h0, h⟩
  | y :: l, x, hb, h0, h => by
    have hy := hb y (by simp)
    have hm := meet_range (b := 63) hy.1 hy.2
    have := join_range h0 h hm.1 hm.2
    exact foldl_joins_range l _ (fun z hz => hb z (by simp [hz])) this.1 this.2

theorem join_c {v : Value} {l : List Int} (h : SliceOf w v (l.map vb)) (hb : bytes l) (hlen : l.length < 4611686018427387904) (hk : k (vb (l.foldl joins 0)) w) : callOn prog fn_able_Join #[v] w k := by
  apply F_able_Join_on
  unfold F_able_Join
  rw [h.lenL, List.length_map]
  refine ⟨fun m e w' => ∃ i : Nat, i ≤ l.length ∧ m = l.length - i ∧ e 8 = vi i ∧ e 7 = vi l.length ∧ e 6 = v ∧ e 3 = vb ((l.take i).foldl joins 0) ∧ w' = w, l.length, ⟨0, by omega, by omega, rfl, rfl, rfl, rfl, rfl⟩, ?_⟩
  rintro m e w' ⟨i, hi, rfl, h8, h7, h6, h3, rfl⟩
  simp only [h8, h7, h6, h3, atDrew_eq, nilK_ptr, nilK_fn, fieldA_at, load1_at, orRd_some, optK_some, pickK_true, pickK_false, gopK_tt, gopK_ff, gopK_tf, gopK_ft, gopK_undef, gqK_tt, gqK_ff, gqK_tf, gqK_ft, gqK_undef, condK_true, condK_false, unK_not, binI_eql, binI_neq, binI_lss, binI_leq, binI_gtr, binI_geq, binI_add, binI_sub, binI_mul, binP_eql_none, binP_neq_none, binM_eql_none, binM_neq_none, binL_eql_none, lenL_at, convI_at, extractK_at, Option.bind_some, List.getElem?_cons_zero, List.getElem?_cons_succ, Option.isNone_some, Option.isNone_none, Bool.not_true, Bool.not_false, Nat.zero_add]
  by_cases hlt : i < l.length
  · have hd : decide ((i : Int) < (l.length : Int)) = true := by simpa using hlt
    obtain ⟨b, o, c, hix, _, hc, _, hci, _⟩ := h.place (j := (i : Int)) (by omega) (by simpa using hlt)
    have hv : c[o]? = some (vb (l.getD i 0)) := by rw [hci]; simp [hlt, List.getD_eq_getElem?_getD]
    have hr := foldl_joins_range (l.take i) 0 (fun z hz => hb z (List.mem_of_mem_take hz)) (by omega) (by omega)
    have hx := hb (l.getD i 0) (by simp [List.getD_eq_getElem?_getD, hlt])
    have hm := meet_range (b := 63) hx.1 hx.2
    have hw : IntKind.i64.wrap ((i : Int) + 1) = ((i + 1 : Nat) : Int) := by rw [wrap64_id (by omega) (by omega)]; omega
    simp only [hd, atDrew_eq, nilK_ptr, nilK_fn, fieldA_at, load1_at, orRd_some, optK_some, pickK_true, pickK_false, gopK_tt, gopK_ff, gopK_tf, gopK_ft, gopK_undef, gqK_tt, gqK_ff, gqK_tf, gqK_ft, gqK_undef, condK_true, condK_false, unK_not, binI_eql, binI_neq, binI_lss, binI_leq, binI_gtr, binI_geq, binI_add, binI_sub, binI_mul, binP_eql_none, binP_neq_none, binM_eql_none, binM_neq_none, binL_eql_none, lenL_at, convI_at, extractK_at, Option.bind_some, List.getElem?_cons_zero, List.getElem?_cons_succ, Option.isNone_some, Option.isNone_none, Bool.not_true, Bool.not_false, Nat.zero_add, hix, hc, hv, binI_and8 hx.1 hx.2 (show (0 : Int) ≤ 63 by omega) (show (63 : Int) < 256 by omega), binI_or8 hr.1 hr.2 hm.1 hm.2, hw]
    refine ⟨l.length - (i + 1), by omega, i + 1, by omega, rfl, rfl, h7, h6, ?_, trivial⟩
    rw [foldl_take_succ _ _ _ hlt]
    rfl
  · have hd : decide ((i : Int) < (l.length : Int)) = false := by simpa using hlt
    have : i = l.length := by omega
    subst this
    simp only [hd, atDrew_eq, nilK_ptr, nilK_fn, fieldA_at, load1_at, orRd_some, optK_some, pickK_true, pickK_false, gopK_tt, gopK_ff, gopK_tf, gopK_ft, gopK_undef, gqK_tt, gqK_ff, gqK_tf, gqK_ft, gqK_undef, condK_true, condK_false, unK_not, binI_eql, binI_neq, binI_lss, binI_leq, binI_gtr, binI_geq, binI_add, binI_sub, binI_mul, binP_eql_none, binP_neq_none, binM_eql_none, binM_neq_none, binL_eql_none, lenL_at, convI_at, extractK_at, Option.bind_some, List.getElem?_cons_zero, List.getElem?_cons_succ, Option.isNone_some, Option.isNone_none, Bool.not_true, Bool.not_false, Nat.zero_add, List.take_length]
    exact hk

theorem build_bytes {e : Nat} {parts : List (Nat × Value)} {l : List Int} (hf : Instr.fill (fun j => some (j * 1, 1)) (zerosOf (if l.length * 1 = 0 then #[] else (vb 0).cells) (l.length * 1)) parts = some (l.map vb).toArray) (hn : l.length ≤ 16777216)
    (h : ∀ v w', Ext w w' → SliceOf w' v (l.map vb) → k v w') : buildL e 1 (vb 0) l.length parts w k :=
  buildL_intro hn hf (by simp) fun b w' he _ _ _ hs => h _ _ he hs

theorem can_c (q : Int) (hk : ∀ w', Ext w w' → k (vb (can q)) w') : callOn prog fn_world_can #[vb q] w k := by
  apply F_world_can_on
  unfold F_world_can
  have two : ∀ (x y : Int), bytes [x, y] → ∀ {e : Nat}, can q = [x, y].foldl joins 0 → buildL e 1 (vb 0) 2 [(0, vb x), (1, vb y)] w (fun t w => callOn prog fn_able_Join #[t] w fun t w => k t w) := by
    intro x y hb e hc
    refine build_bytes (l := [x, y]) (by kernel_rfl) (by simp) fun v w' he hs => ?_
    refine join_c hs hb (by simp) ?_
    rw [← hc]
    exact hk w' he
  have three : ∀ (x y z : Int), bytes [x, y, z] → ∀ {e : Nat}, can q = [x, y, z].foldl joins 0 → buildL e 1 (vb 0) 3 [(0, vb x), (1, vb y), (2, vb z)] w (fun t w => callOn prog fn_able_Join #[t] w fun t w => k t w) := by
    intro x y z hb e hc
    refine build_bytes (l := [x, y, z]) (by kernel_rfl) (by simp) fun v w' he hs => ?_
    refine join_c hs hb (by simp) ?_
    rw [← hc]
    exact hk w' he
  have b2 : ∀ x y : Int, 0 ≤ x → x < 256 → 0 ≤ y → y < 256 → bytes [x, y] := by
    intro x y _ _ _ _ z hz
    simp at hz
    rcases hz with rfl | rfl <;> omega
  have hr := hk w .refl
  have nb : ∀ c : Int, q ≠ c → (q == c) = false := fun c h => by simpa using h
  by_cases h1 : q = 1
  · subst h1
    simp only [atDrew_eq, nilK_ptr, nilK_fn, fieldA_at, load1_at, orRd_some, optK_some, pickK_true, pickK_false, gopK_tt, gopK_ff, gopK_tf, gopK_ft, gopK_undef, gqK_tt, gqK_ff, gqK_tf, gqK_ft, gqK_undef, condK_true, condK_false, unK_not, binI_eql, binI_neq, binI_lss, binI_leq, binI_gtr, binI_geq, binI_add, binI_sub, binI_mul, binP_eql_none, binP_neq_none, binM_eql_none, binM_neq_none, binL_eql_none, lenL_at, convI_at, extractK_at, Option.bind_some, List.getElem?_cons_zero, List.getElem?_cons_succ, Option.isNone_some, Option.isNone_none, Bool.not_true, Bool.not_false, Nat.zero_add, upd_get, start_get, List.getD_cons_zero, List.getD_cons_succ, if_true, if_false, Int.reduceBEq, Int.reduceBNe, beq_self_eq_true, reduceIte, Nat.reduceEqDiff]
    exact two 1 2 (b2 _ _ (by omega) (by omega) (by omega) (by omega)) (by decide)
  by_cases h2 : q = 2
  · subst h2
    simp only [atDrew_eq, nilK_ptr, nilK_fn, fieldA_at, load1_at, orRd_some, optK_some, pickK_true, pickK_false, gopK_tt, gopK_ff, gopK_tf, gopK_ft, gopK_undef, gqK_tt, gqK_ff, gqK_tf, gqK_ft, gqK_undef, condK_true, condK_false, unK_not, binI_eql, binI_neq, binI_lss, binI_leq, binI_gtr, binI_geq, binI_add, binI_sub, binI_mul, binP_eql_none, binP_neq_none, binM_eql_none, binM_neq_none, binL_eql_none, lenL_at, convI_at, extractK_at, Option.bind_some, List.getElem?_cons_zero, List.getElem?_cons_succ, Option.isNone_some, Option.isNone_none, Bool.not_true, Bool.not_false, Nat.zero_add, upd_get, start_get, List.getD_cons_zero, List.getD_cons_succ, if_true, if_false, Int.reduceBEq, Int.reduceBNe, beq_self_eq_true, reduceIte, Nat.reduceEqDiff]
    exact two 1 8 (b2 _ _ (by omega) (by omega) (by omega) (by omega)) (by decide)
  by_cases h3 : q = 3
  · subst h3
    simp only [atDrew_eq, nilK_ptr, nilK_fn, fieldA_at, load1_at, orRd_some, optK_some, pickK_true, pickK_false, gopK_tt, gopK_ff, gopK_tf, gopK_ft, gopK_undef, gqK_tt, gqK_ff, gqK_tf, gqK_ft, gqK_undef, condK_true, condK_false, unK_not, binI_eql, binI_neq, binI_lss, binI_leq, binI_gtr, binI_geq, binI_add, binI_sub, binI_mul, binP_eql_none, binP_neq_none, binM_eql_none, binM_neq_none, binL_eql_none, lenL_at, convI_at, extractK_at, Option.bind_some, List.getElem?_cons_zero, List.getElem?_cons_succ, Option.isNone_some, Option.isNone_none, Bool.not_true, Bool.not_false, Nat.zero_add, upd_get, start_get, List.getD_cons_zero, List.getD_cons_succ, if_true, if_false, Int.reduceBEq, Int.reduceBNe, beq_self_eq_true, reduceIte, Nat.reduceEqDiff]
    exact two 1 8 (b2 _ _ (by omega) (by omega) (by omega) (by omega)) (by decide)
  by_cases h4 : q = 4
  · subst h4
    simp only [atDrew_eq, nilK_ptr, nilK_fn, fieldA_at, load1_at, orRd_some, optK_some, pickK_true, pickK_false, gopK_tt, gopK_ff, gopK_tf, gopK_ft, gopK_undef, gqK_tt, gqK_ff, gqK_tf, gqK_ft, gqK_undef, condK_true, condK_false, unK_not, binI_eql, binI_neq, binI_lss, binI_leq, binI_gtr, binI_geq, binI_add, binI_sub, binI_mul, binP_eql_none, binP_neq_none, binM_eql_none, binM_neq_none, binL_eql_none, lenL_at, convI_at, extractK_at, Option.bind_some, List.getElem?_cons_zero, List.getElem?_cons_succ, Option.isNone_some, Option.isNone_none, Bool.not_true, Bool.not_false, Nat.zero_add, upd_get, start_get, List.getD_cons_zero, List.getD_cons_succ, if_true, if_false, Int.reduceBEq, Int.reduceBNe, beq_self_eq_true, reduceIte, Nat.reduceEqDiff]
    exact two 8 4 (b2 _ _ (by omega) (by omega) (by omega) (by omega)) (by decide)
  by_cases h5 : q = 5
  · subst h5
    simp only [atDrew_eq, nilK_ptr, nilK_fn, fieldA_at, load1_at, orRd_some, optK_some, pickK_true, pickK_false, gopK_tt, gopK_ff, gopK_tf, gopK_ft, gopK_undef, gqK_tt, gqK_ff, gqK_tf, gqK_ft, gqK_undef, condK_true, condK_false, unK_not, binI_eql, binI_neq, binI_lss, binI_leq, binI_gtr, binI_geq, binI_add, binI_sub, binI_mul, binP_eql_none, binP_neq_none, binM_eql_none, binM_neq_none, binL_eql_none, lenL_at, convI_at, extractK_at, Option.bind_some, List.getElem?_cons_zero, List.getElem?_cons_succ, Option.isNone_some, Option.isNone_none, Bool.not_true, Bool.not_false, Nat.zero_add, upd_get, start_get, List.getD_cons_zero, List.getD_cons_succ, if_true, if_false, Int.reduceBEq, Int.reduceBNe, beq_self_eq_true, reduceIte, Nat.reduceEqDiff]
    exact hr
  by_cases h6 : q = 6
  · subst h6
    simp only [atDrew_eq, nilK_ptr, nilK_fn, fieldA_at, load1_at, orRd_some, optK_some, pickK_true, pickK_false, gopK_tt, gopK_ff, gopK_tf, gopK_ft, gopK_undef, gqK_tt, gqK_ff, gqK_tf, gqK_ft, gqK_undef, condK_true, condK_false, unK_not, binI_eql, binI_neq, binI_lss, binI_leq, binI_gtr, binI_geq, binI_add, binI_sub, binI_mul, binP_eql_none, binP_neq_none, binM_eql_none, binM_neq_none, binL_eql_none, lenL_at, convI_at, extractK_at, Option.bind_some, List.getElem?_cons_zero, List.getElem?_cons_succ, Option.isNone_some, Option.isNone_none, Bool.not_true, Bool.not_false, Nat.zero_add, upd_get, start_get, List.getD_cons_zero, List.getD_cons_succ, if_true, if_false, Int.reduceBEq, Int.reduceBNe, beq_self_eq_true, reduceIte, Nat.reduceEqDiff]
    exact hr
  by_cases h8 : q = 8
  · subst h8
    simp only [atDrew_eq, nilK_ptr, nilK_fn, fieldA_at, load1_at, orRd_some, optK_some, pickK_true, pickK_false, gopK_tt, gopK_ff, gopK_tf, gopK_ft, gopK_undef, gqK_tt, gqK_ff, gqK_tf, gqK_ft, gqK_undef, condK_true, condK_false, unK_not, binI_eql, binI_neq, binI_lss, binI_leq, binI_gtr, binI_geq, binI_add, binI_sub, binI_mul, binP_eql_none, binP_neq_none, binM_eql_none, binM_neq_none, binL_eql_none, lenL_at, convI_at, extractK_at, Option.bind_some, List.getElem?_cons_zero, List.getElem?_cons_succ, Option.isNone_some, Option.isNone_none, Bool.not_true, Bool.not_false, Nat.zero_add, upd_get, start_get, List.getD_cons_zero, List.getD_cons_succ, if_true, if_false, Int.reduceBEq, Int.reduceBNe, beq_self_eq_true, reduceIte, Nat.reduceEqDiff]
    exact hr
  by_cases h12 : q = 12
  · subst h12
    simp only [atDrew_eq, nilK_ptr, nilK_fn, fieldA_at, load1_at, orRd_some, optK_some, pickK_true, pickK_false, gopK_tt, gopK_ff, gopK_tf, gopK_ft, gopK_undef, gqK_tt, gqK_ff, gqK_tf, gqK_ft, gqK_undef, condK_true, condK_false, unK_not, binI_eql, binI_neq, binI_lss, binI_leq, binI_gtr, binI_geq, binI_add, binI_sub, binI_mul, binP_eql_none, binP_neq_none, binM_eql_none, binM_neq_none, binL_eql_none, lenL_at, convI_at, extractK_at, Option.bind_some, List.getElem?_cons_zero, List.getElem?_cons_succ, Option.isNone_some, Option.isNone_none, Bool.not_true, Bool.not_false, Nat.zero_add, upd_get, start_get, List.getD_cons_zero, List.getD_cons_succ, if_true, if_false, Int.reduceBEq, Int.reduceBNe, beq_self_eq_true, reduceIte, Nat.reduceEqDiff]
    exact hr
  by_cases h9 : q = 9
  · subst h9
    simp only [atDrew_eq, nilK_ptr, nilK_fn, fieldA_at, load1_at, orRd_some, optK_some, pickK_true, pickK_false, gopK_tt, gopK_ff, gopK_tf, gopK_ft, gopK_undef, gqK_tt, gqK_ff, gqK_tf, gqK_ft, gqK_undef, condK_true, condK_false, unK_not, binI_eql, binI_neq, binI_lss, binI_leq, binI_gtr, binI_geq, binI_add, binI_sub, binI_mul, binP_eql_none, binP_neq_none, binM_eql_none, binM_neq_none, binL_eql_none, lenL_at, convI_at, extractK_at, Option.bind_some, List.getElem?_cons_zero, List.getElem?_cons_succ, Option.isNone_some, Option.isNone_none, Bool.not_true, Bool.not_false, Nat.zero_add, upd_get, start_get, List.getD_cons_zero, List.getD_cons_succ, if_true, if_false, Int.reduceBEq, Int.reduceBNe, beq_self_eq_true, reduceIte, Nat.reduceEqDiff]
    refine three 1 4 8 ?_ (by decide)
    intro z hz
    simp at hz
    rcases hz with rfl | rfl | rfl <;> omega
  by_cases h10 : q = 10
  · subst h10
    simp only [atDrew_eq, nilK_ptr, nilK_fn, fieldA_at, load1_at, orRd_some, optK_some, pickK_true, pickK_false, gopK_tt, gopK_ff, gopK_tf, gopK_ft, gopK_undef, gqK_tt, gqK_ff, gqK_tf, gqK_ft, gqK_undef, condK_true, condK_false, unK_not, binI_eql, binI_neq, binI_lss, binI_leq, binI_gtr, binI_geq, binI_add, binI_sub, binI_mul, binP_eql_none, binP_neq_none, binM_eql_none, binM_neq_none, binL_eql_none, lenL_at, convI_at, extractK_at, Option.bind_some, List.getElem?_cons_zero, List.getElem?_cons_succ, Option.isNone_some, Option.isNone_none, Bool.not_true, Bool.not_false, Nat.zero_add, upd_get, start_get, List.getD_cons_zero, List.getD_cons_succ, if_true, if_false, Int.reduceBEq, Int.reduceBNe, beq_self_eq_true, reduceIte, Nat.reduceEqDiff]
    exact hr
  by_cases h11 : q = 11
  · subst h11
    simp only [atDrew_eq, nilK_ptr, nilK_fn, fieldA_at, load1_at, orRd_some, optK_some, pickK_true, pickK_false, gopK_tt, gopK_ff, gopK_tf, gopK_ft, gopK_undef, gqK_tt, gqK_ff, gqK_tf, gqK_ft, gqK_undef, condK_true, condK_false, unK_not, binI_eql, binI_neq, binI_lss, binI_leq, binI_gtr, binI_geq, binI_add, binI_sub, binI_mul, binP_eql_none, binP_neq_none, binM_eql_none, binM_neq_none, binL_eql_none, lenL_at, convI_at, extractK_at, Option.bind_some, List.getElem?_cons_zero, List.getElem?_cons_succ, Option.isNone_some, Option.isNone_none, Bool.not_true, Bool.not_false, Nat.zero_add, upd_get, start_get, List.getD_cons_zero, List.getD_cons_succ, if_true, if_false, Int.reduceBEq, Int.reduceBNe, beq_self_eq_true, reduceIte, Nat.reduceEqDiff]
    exact hr
  by_cases h13 : q = 13
  · subst h13
    simp only [atDrew_eq, nilK_ptr, nilK_fn, fieldA_at, load1_at, orRd_some, optK_some, pickK_true, pickK_false, gopK_tt, gopK_ff, gopK_tf, gopK_ft, gopK_undef, gqK_tt, gqK_ff, gqK_tf, gqK_ft, gqK_undef, condK_true, condK_false, unK_not, binI_eql, binI_neq, binI_lss, binI_leq, binI_gtr, binI_geq, binI_add, binI_sub, binI_mul, binP_eql_none, binP_neq_none, binM_eql_none, binM_neq_none, binL_eql_none, lenL_at, convI_at, extractK_at, Option.bind_some, List.getElem?_cons_zero, List.getElem?_cons_succ, Option.isNone_some, Option.isNone_none, Bool.not_true, Bool.not_false, Nat.zero_add, upd_get, start_get, List.getD_cons_zero, List.getD_cons_succ, if_true, if_false, Int.reduceBEq, Int.reduceBNe, beq_self_eq_true, reduceIte, Nat.reduceEqDiff]
    exact two 1 32 (b2 _ _ (by omega) (by omega) (by omega) (by omega)) (by decide)
  simp only [atDrew_eq, nilK_ptr, nilK_fn, fieldA_at, load1_at, orRd_some, optK_some, pickK_true, pickK_false, gopK_tt, gopK_ff, gopK_tf, gopK_ft, gopK_undef, gqK_tt, gqK_ff, gqK_tf, gqK_ft, gqK_undef, condK_true, condK_false, unK_not, binI_eql, binI_neq, binI_lss, binI_leq, binI_gtr, binI_geq, binI_add, binI_sub, binI_mul, binP_eql_none, binP_neq_none, binM_eql_none, binM_neq_none, binL_eql_none, lenL_at, convI_at, extractK_at, Option.bind_some, List.getElem?_cons_zero, List.getElem?_cons_succ, Option.isNone_some, Option.isNone_none, Bool.not_true, Bool.not_false, Nat.zero_add, upd_get, start_get, List.getD_cons_zero, List.getD_cons_succ, if_true, if_false, Int.reduceBEq, Int.reduceBNe, beq_self_eq_true, reduceIte, Nat.reduceEqDiff, nb 1 h1, nb 2 h2, nb 3 h3, nb 4 h4, nb 5 h5, nb 6 h6, nb 8 h8, nb 9 h9, nb 10 h10, nb 11 h11, nb 12 h12, nb 13 h13]
  have : can q = 0 := by simp [can, h1, h2, h3, h4, h5, h6, h8, h9, h10, h11, h12, h13]
  rw [this] at hr
  exact hr
end
end Go.X
/- Contracts: the abilities of a thing, its way. -/
set_option linter.unusedSimpArgs false
set_option linter.unusedVariables false
namespace Go.X
open Go Go.AW

section
variable {w : World} {L : Lay} {a : AW} {k : Value → World → Prop}

theorem mem_at {r : Int} {x : Wh} (hr : a.at r = some x) : (r, x) ∈ a.things := lookup_mem hr

theorem is_some {r : Int} (h : a.is r = true) : ∃ x, a.at r = some x := Option.isSome_iff_exists.1 h

theorem WRep.pos (h : WRep w L a) {r : Int} {x : Wh} (hr : a.at r = some x) : 1 ≤ r ∧ r ≤ a.last := h.nums _ (mem_at hr)

theorem build1 {e : Nat} {x : Value} {z : Value} (h : ∀ v w', Ext w w' → SliceOf w' v [x] → k v w') (hx : x.oneCell' = true) : buildL e 1 z 1 [(0, x)] w k := by
  have hc : x.cells = #[x] := by cases x <;> first | rfl | simp [Value.oneCell'] at hx
  refine buildL_intro (cs := [x]) (by omega) ?_ rfl fun b w' he _ _ _ hs => h _ _ he hs
  have : (zerosOf (if 1 * 1 = 0 then #[] else z.cells) (1 * 1)).size = 1 := by simp [zerosOf]
  simp only [Instr.fill, hc]
  have hz : ∃ y, zerosOf (if 1 * 1 = 0 then #[] else z.cells) (1 * 1) = #[y] := by
    generalize zerosOf (if 1 * 1 = 0 then #[] else z.cells) (1 * 1) = q at this
    match q with
    | ⟨[y]⟩ => exact ⟨y, rfl⟩
    | ⟨[]⟩ => simp at this
    | ⟨_ :: _ :: _⟩ => simp at this
  obtain ⟨y, hy⟩ := hz
  rw [hy]
  rfl

theorem build2b {e : Nat} {x y : Int} (hx : 0 ≤ x ∧ x < 256) (hy : 0 ≤ y ∧ y < 256) (h : ∀ v w', Ext w w' → SliceOf w' v ([x, y].map vb) → bytes [x, y] → k v w') : buildL e 1 (vb 0) 2 [(0, vb x), (1, vb y)] w k := by
  refine build_bytes (l := [x, y]) (by kernel_rfl) (by simp) fun v w' he hs => h v w' he hs ?_
  intro z hz
  simp at hz
  rcases hz with rfl | rfl <;> omega

theorem able_step (a : AW) (n : Nat) (set r : Int) : able a (n + 1) set r = match a.at r with
    | none => 0
    | some x =>
      if x.kind = 14 then able a n (meet set x.set) x.of
      else if x.kind = 15 ∨ x.kind = 16 then able a n set x.of
      else meet set (can x.kind) := rfl

theorem can_range (q : Int) : 0 ≤ can q ∧ can q < 256 := by unfold can; repeat' split
                                                            all_goals omega

/-- more rounds than the number of the thing do not turn the answer -/
theorem able_fuel (hf : WF a) (hp : ∀ t ∈ a.things, 1 ≤ t.1) : ∀ (n m : Nat) (set r : Int), r.toNat < n → r.toNat < m → able a n set r = able a m set r
  | 0, _, _, _, h, _ => by omega
  | _, 0, _, _, _, h => by omega
  | n + 1, m + 1, set, r, hn, hm => by
    rw [able_step, able_step]
    cases hr : a.at r with
    | none => rfl
    | some x =>
      have hd := hf.down _ (mem_at hr)
      have h1 := hp _ (mem_at hr)
      simp only [] at hd h1 ⊢
      by_cases h14 : x.kind = 14
      · have := hd (by simp [AW.wraps, h14])
        simp only [h14, if_true]
        exact able_fuel hf hp n m _ _ (by omega) (by omega)
      · by_cases h15 : x.kind = 15 ∨ x.kind = 16
        · have := hd (by rcases h15 with h | h <;> simp [AW.wraps, h])
          simp only [h14, h15, if_true, if_false]
          exact able_fuel hf hp n m _ _ (by omega) (by omega)
        · simp only [h14, h15, if_false]

theorem meet63 {n : Int} (h0 : 0 ≤ n) (h : n < 64) : meet 63 n = n := by
  unfold meet
  have h1 : (63 : Int).toNat &&& n.toNat = n.toNat := by
    rw [Nat.and_comm]
    have := Nat.and_two_pow_sub_one_eq_mod n.toNat 6
    have h63 : (63 : Int).toNat = 2 ^ 6 - 1 := by decide
    rw [h63, this]
    exact Nat.mod_eq_of_lt (by omega)
  rw [h1]
  omega

theorem meet_le {x y : Int} (h0 : 0 ≤ x) (h : x < 64) : 0 ≤ meet x y ∧ meet x y < 64 := by
  have : x.toNat &&& y.toNat ≤ x.toNat := Nat.and_le_left
  unfold meet
  omega

theorem able_c (h : WRep w L a) (hf : WF a) (r : Int) (hk : ∀ w', Ext w w' → k (vb (a.able r)) w') : callOn prog fn_World_Able #[ptr L.p, vi r] w k := by
  apply F_World_Able_on
  unfold F_World_Able
  have hp : ∀ t ∈ a.things, 1 ≤ t.1 := fun t ht => (h.nums t ht).1
  refine ⟨fun m e w' => ∃ (r' set : Int), 0 ≤ set ∧ set < 64 ∧ m = r'.toNat ∧ e 0 = ptr L.p ∧ e 1 = vi r' ∧ e 5 = vb set ∧ Ext w w' ∧ able a (r'.toNat + 1) set r' = a.able r, r.toNat,
    ⟨r, 63, by omega, by omega, rfl, rfl, rfl, rfl, .refl, rfl⟩, ?_⟩
  rintro m e w1 ⟨r', set, hs0, hs1, rfl, h0, h1, h5, he, hab⟩
  have h' := h.ext he
  simp only [h0, h1, h5]
  refine is_c h' r' ?_
  unfold AW.is
  rw [able_step] at hab
  cases hr : a.at r' with
  | none =>
    rw [hr] at hab
    simp only [Option.isSome_none, atDrew_eq, nilK_ptr, nilK_fn, fieldA_at, load1_at, orRd_some, optK_some, pickK_true, pickK_false, gopK_tt, gopK_ff, gopK_tf, gopK_ft, gopK_undef, gqK_tt, gqK_ff, gqK_tf, gqK_ft, gqK_undef, condK_true, condK_false, unK_not, binI_eql, binI_neq, binI_lss, binI_leq, binI_gtr, binI_geq, binI_add, binI_sub, binI_mul, binP_eql_none, binP_neq_none, binM_eql_none, binM_neq_none, binL_eql_none, lenL_at, convI_at, extractK_at, Option.bind_some, List.getElem?_cons_zero, List.getElem?_cons_succ, Option.isNone_some, Option.isNone_none, Bool.not_true, Bool.not_false, Nat.zero_add]
    rw [← hab] at hk
    exact hk w1 he
  | some x =>
    rw [hr] at hab
    have hb := hf.bits _ (mem_at hr)
    have hd := hf.down _ (mem_at hr)
    have hp1 := hp _ (mem_at hr)
    simp only [] at hb hd hp1 hab
    simp only [Option.isSome_some, atDrew_eq, nilK_ptr, nilK_fn, fieldA_at, load1_at, orRd_some, optK_some, pickK_true, pickK_false, gopK_tt, gopK_ff, gopK_tf, gopK_ft, gopK_undef, gqK_tt, gqK_ff, gqK_tf, gqK_ft, gqK_undef, condK_true, condK_false, unK_not, binI_eql, binI_neq, binI_lss, binI_leq, binI_gtr, binI_geq, binI_add, binI_sub, binI_mul, binP_eql_none, binP_neq_none, binM_eql_none, binM_neq_none, binL_eql_none, lenL_at, convI_at, extractK_at, Option.bind_some, List.getElem?_cons_zero, List.getElem?_cons_succ, Option.isNone_some, Option.isNone_none, Bool.not_true, Bool.not_false, Nat.zero_add, h'.top, h'.look_some hr, Bool.false_eq_true, if_false, h'.cell hr, whCells]
    by_cases h14 : x.kind = 14
    · have hbq : (x.kind == 14) = true := by simpa using h14
      have hd' := hd (by simp [AW.wraps, h14])
      simp only [hbq, atDrew_eq, nilK_ptr, nilK_fn, fieldA_at, load1_at, orRd_some, optK_some, pickK_true, pickK_false, gopK_tt, gopK_ff, gopK_tf, gopK_ft, gopK_undef, gqK_tt, gqK_ff, gqK_tf, gqK_ft, gqK_undef, condK_true, condK_false, unK_not, binI_eql, binI_neq, binI_lss, binI_leq, binI_gtr, binI_geq, binI_add, binI_sub, binI_mul, binP_eql_none, binP_neq_none, binM_eql_none, binM_neq_none, binL_eql_none, lenL_at, convI_at, extractK_at, Option.bind_some, List.getElem?_cons_zero, List.getElem?_cons_succ, Option.isNone_some, Option.isNone_none, Bool.not_true, Bool.not_false, Nat.zero_add, upd_get, h0, h1, h5]
      refine build2b ⟨hs0, by omega⟩ ⟨hb.1, hb.2.1⟩ fun v w2 he2 hsl hby => ?_
      refine meet_c hsl hby (by simp) ?_
      have he3 := he.trans he2
      have h3 := h.ext he3
      have hm := meet_le (y := x.set) hs0 hs1
      simp only [List.foldl_cons, List.foldl_nil, meet63 hs0 hs1]
      simp only [upd_get, if_true, Nat.reduceEqDiff, if_false, atDrew_eq, nilK_ptr, nilK_fn, fieldA_at, load1_at, orRd_some, optK_some, pickK_true, pickK_false, gopK_tt, gopK_ff, gopK_tf, gopK_ft, gopK_undef, gqK_tt, gqK_ff, gqK_tf, gqK_ft, gqK_undef, condK_true, condK_false, unK_not, binI_eql, binI_neq, binI_lss, binI_leq, binI_gtr, binI_geq, binI_add, binI_sub, binI_mul, binP_eql_none, binP_neq_none, binM_eql_none, binM_neq_none, binL_eql_none, lenL_at, convI_at, extractK_at, Option.bind_some, List.getElem?_cons_zero, List.getElem?_cons_succ, Option.isNone_some, Option.isNone_none, Bool.not_true, Bool.not_false, Nat.zero_add, h3.cell hr, whCells]
      refine ⟨x.of.toNat, by omega, x.of, meet set x.set, hm.1, hm.2, by first | rfl | trivial, by first | exact h0 | trivial, by first | rfl | trivial, by first | rfl | trivial, he3, ?_⟩
      simp only [h14, if_true] at hab
      rw [← hab]
      exact able_fuel hf hp _ _ _ _ (by omega) (by omega)
    · have hbq : (x.kind == 14) = false := by simpa using h14
      simp only [hbq, atDrew_eq, nilK_ptr, nilK_fn, fieldA_at, load1_at, orRd_some, optK_some, pickK_true, pickK_false, gopK_tt, gopK_ff, gopK_tf, gopK_ft, gopK_undef, gqK_tt, gqK_ff, gqK_tf, gqK_ft, gqK_undef, condK_true, condK_false, unK_not, binI_eql, binI_neq, binI_lss, binI_leq, binI_gtr, binI_geq, binI_add, binI_sub, binI_mul, binP_eql_none, binP_neq_none, binM_eql_none, binM_neq_none, binL_eql_none, lenL_at, convI_at, extractK_at, Option.bind_some, List.getElem?_cons_zero, List.getElem?_cons_succ, Option.isNone_some, Option.isNone_none, Bool.not_true, Bool.not_false, Nat.zero_add]
      by_cases h15 : x.kind = 15 ∨ x.kind = 16
      · have hd' := hd (by rcases h15 with h | h <;> simp [AW.wraps, h])
        simp only [h14, h15, if_true, if_false] at hab
        have hor : (x.kind == 15) = true ∨ ((x.kind == 15) = false ∧ (x.kind == 16) = true) := by
          rcases h15 with h | h
          · exact .inl (by simpa using h)
          · by_cases h' : x.kind = 15
            · exact .inl (by simpa using h')
            · exact .inr ⟨by simpa using h', by simpa using h⟩
        rcases hor with h15 | ⟨h15, h16⟩
        · simp only [h15, atDrew_eq, nilK_ptr, nilK_fn, fieldA_at, load1_at, orRd_some, optK_some, pickK_true, pickK_false, gopK_tt, gopK_ff, gopK_tf, gopK_ft, gopK_undef, gqK_tt, gqK_ff, gqK_tf, gqK_ft, gqK_undef, condK_true, condK_false, unK_not, binI_eql, binI_neq, binI_lss, binI_leq, binI_gtr, binI_geq, binI_add, binI_sub, binI_mul, binP_eql_none, binP_neq_none, binM_eql_none, binM_neq_none, binL_eql_none, lenL_at, convI_at, extractK_at, Option.bind_some, List.getElem?_cons_zero, List.getElem?_cons_succ, Option.isNone_some, Option.isNone_none, Bool.not_true, Bool.not_false, Nat.zero_add, upd_get, if_true, Nat.reduceEqDiff, if_false, h'.cell hr, whCells]
          refine ⟨x.of.toNat, by omega, x.of, set, hs0, hs1, by first | rfl | trivial, by first | exact h0 | trivial, by first | rfl | trivial, by first | exact h5 | trivial, he, ?_⟩
          rw [← hab]
          exact able_fuel hf hp _ _ _ _ (by omega) (by omega)
        · simp only [h15, h16, atDrew_eq, nilK_ptr, nilK_fn, fieldA_at, load1_at, orRd_some, optK_some, pickK_true, pickK_false, gopK_tt, gopK_ff, gopK_tf, gopK_ft, gopK_undef, gqK_tt, gqK_ff, gqK_tf, gqK_ft, gqK_undef, condK_true, condK_false, unK_not, binI_eql, binI_neq, binI_lss, binI_leq, binI_gtr, binI_geq, binI_add, binI_sub, binI_mul, binP_eql_none, binP_neq_none, binM_eql_none, binM_neq_none, binL_eql_none, lenL_at, convI_at, extractK_at, Option.bind_some, List.getElem?_cons_zero, List.getElem?_cons_succ, Option.isNone_some, Option.isNone_none, Bool.not_true, Bool.not_false, Nat.zero_add, upd_get, if_true, Nat.reduceEqDiff, if_false, h'.cell hr, whCells]
          refine ⟨x.of.toNat, by omega, x.of, set, hs0, hs1, by first | rfl | trivial, by first | exact h0 | trivial, by first | rfl | trivial, by first | exact h5 | trivial, he, ?_⟩
          rw [← hab]
          exact able_fuel hf hp _ _ _ _ (by omega) (by omega)
      · have h15' : (x.kind == 15) = false := by simp; omega
        have h16' : (x.kind == 16) = false := by simp; omega
        simp only [h14, h15, if_false] at hab
        simp only [h15', h16', atDrew_eq, nilK_ptr, nilK_fn, fieldA_at, load1_at, orRd_some, optK_some, pickK_true, pickK_false, gopK_tt, gopK_ff, gopK_tf, gopK_ft, gopK_undef, gqK_tt, gqK_ff, gqK_tf, gqK_ft, gqK_undef, condK_true, condK_false, unK_not, binI_eql, binI_neq, binI_lss, binI_leq, binI_gtr, binI_geq, binI_add, binI_sub, binI_mul, binP_eql_none, binP_neq_none, binM_eql_none, binM_neq_none, binL_eql_none, lenL_at, convI_at, extractK_at, Option.bind_some, List.getElem?_cons_zero, List.getElem?_cons_succ, Option.isNone_some, Option.isNone_none, Bool.not_true, Bool.not_false, Nat.zero_add, upd_get, if_true, Nat.reduceEqDiff, if_false, h'.cell hr, whCells]
        refine can_c x.kind fun w2 he2 => ?_
        rw [h5]
        refine build2b ⟨hs0, by omega⟩ (can_range _) fun v w3 he3 hsl hby => ?_
        refine meet_c hsl hby (by simp) ?_
        simp only [List.foldl_cons, List.foldl_nil, meet63 hs0 hs1]
        rw [hab]
        exact hk w3 ((he.trans he2).trans he3)
end
end Go.X
/- Contracts: the way, the base, whether a thing is free. -/
set_option linter.unusedSimpArgs false
set_option linter.unusedVariables false
namespace Go.X
open Go Go.AW

section
variable {w : World} {L : Lay} {a : AW} {k : Value → World → Prop}

theorem way_step (a : AW) (n : Nat) (r : Int) : way a (n + 1) r = match a.at r with
    | none => []
    | some x => if AW.wraps x.kind then r :: way a n x.of else [r] := rfl

theorem way_fuel (hf : WF a) (hp : ∀ t ∈ a.things, 1 ≤ t.1) : ∀ (n m : Nat) (r : Int), r.toNat < n → r.toNat < m → way a n r = way a m r
  | 0, _, _, h, _ => by omega
  | _, 0, _, _, h => by omega
  | n + 1, m + 1, r, hn, hm => by
    rw [way_step, way_step]
    cases hr : a.at r with
    | none => rfl
    | some x =>
      have hd := hf.down _ (mem_at hr)
      have h1 := hp _ (mem_at hr)
      simp only [] at hd h1 ⊢
      by_cases hw : AW.wraps x.kind = true
      · have := hd hw
        simp only [hw, if_true]
        rw [way_fuel hf hp n m _ (by omega) (by omega)]
      · simp [hw]

theorem way_len (a : AW) : ∀ (n : Nat) (r : Int), (way a n r).length ≤ n
  | 0, _ => by simp [way]
  | n + 1, r => by
    rw [way_step]
    cases a.at r with
    | none => simp
    | some x =>
      simp only []
      split
      · have := way_len a n x.of; simp; omega
      · simp

theorem way_bound (h : WRep w L a) (r : Int) : (a.way r).length ≤ 4611686018427387904 := by
  have h1 := way_len a (r.toNat + 1) r
  show (way a (r.toNat + 1) r).length ≤ _
  cases hr : a.at r with
  | none => rw [way_step, hr]; simp
  | some x => have := h.pos hr; have := h.high; omega

/-- at most 2^43 things -/
def Few (a : AW) : Prop := a.last < 8796093022208

theorem way_few (h : WRep w L a) (hfew : Few a) (r : Int) : (a.way r).length ≤ 8796093022208 := by
  have h1 := way_len a (r.toNat + 1) r
  show (way a (r.toNat + 1) r).length ≤ _
  unfold Few at hfew
  cases hr : a.at r with
  | none => rw [way_step, hr]; simp
  | some x => have := h.pos hr; omega

theorem way_c (h : WRep w L a) (hf : WF a) (hfew : Few a) (r : Int) (hk : ∀ v w', Ext w w' → SliceOf w' v ((a.way r).map vi) → (∀ b ∈ sliceBlk v, w.heap.size ≤ b) → k v w') : callOn prog fn_World_Way #[ptr L.p, vi r] w k := by
  apply F_World_Way_on
  unfold F_World_Way
  have hp : ∀ t ∈ a.things, 1 ≤ t.1 := fun t ht => (h.nums t ht).1
  have hlen := way_few h hfew r
  simp only []
  refine ⟨fun m e w' => ∃ (r' : Int) (l : List Int), m = r'.toNat ∧ e 0 = ptr L.p ∧ e 1 = vi r' ∧ SliceOf w' (e 5) (l.map vi) ∧ (∀ b ∈ sliceBlk (e 5), w.heap.size ≤ b) ∧ Ext w w' ∧ l ++ way a (r'.toNat + 1) r' = a.way r, r.toNat,
    ⟨r, [], rfl, rfl, rfl, ⟨rfl, rfl, rfl⟩, fun b hb => by simp [upd_get, sliceBlk] at hb, .refl, rfl⟩, ?_⟩
  rintro m e w1 ⟨r', l, rfl, h0, h1, hs, hnew, he, hw⟩
  have h' := h.ext he
  simp only [h0, h1]
  refine is_c h' r' ?_
  unfold AW.is
  rw [way_step] at hw
  cases hr : a.at r' with
  | none =>
    rw [hr] at hw
    simp only [Option.isSome_none, atDrew_eq, nilK_ptr, nilK_fn, fieldA_at, load1_at, orRd_some, optK_some, pickK_true, pickK_false, gopK_tt, gopK_ff, gopK_tf, gopK_ft, gopK_undef, gqK_tt, gqK_ff, gqK_tf, gqK_ft, gqK_undef, condK_true, condK_false, unK_not, binI_eql, binI_neq, binI_lss, binI_leq, binI_gtr, binI_geq, binI_add, binI_sub, binI_mul, binP_eql_none, binP_neq_none, binM_eql_none, binM_neq_none, binL_eql_none, lenL_at, convI_at, extractK_at, Option.bind_some, List.getElem?_cons_zero, List.getElem?_cons_succ, Option.isNone_some, Option.isNone_none, Bool.not_true, Bool.not_false, Nat.zero_add, upd_get, Nat.reduceEqDiff, if_false]
    simp only [List.append_nil] at hw
    rw [← hw] at hk
    exact hk _ w1 he hs hnew
  | some x =>
    rw [hr] at hw
    have hd := hf.down _ (mem_at hr)
    have hp1 := hp _ (mem_at hr)
    simp only [] at hd hp1 hw
    simp only [Option.isSome_some, atDrew_eq, nilK_ptr, nilK_fn, fieldA_at, load1_at, orRd_some, optK_some, pickK_true, pickK_false, gopK_tt, gopK_ff, gopK_tf, gopK_ft, gopK_undef, gqK_tt, gqK_ff, gqK_tf, gqK_ft, gqK_undef, condK_true, condK_false, unK_not, binI_eql, binI_neq, binI_lss, binI_leq, binI_gtr, binI_geq, binI_add, binI_sub, binI_mul, binP_eql_none, binP_neq_none, binM_eql_none, binM_neq_none, binL_eql_none, lenL_at, convI_at, extractK_at, Option.bind_some, List.getElem?_cons_zero, List.getElem?_cons_succ, Option.isNone_some, Option.isNone_none, Bool.not_true, Bool.not_false, Nat.zero_add]
    refine build1 (fun v w2 he2 hsv => ?_) rfl
    have hs2 := hs.ext he2
    have hll : l.length + 1 ≤ 8796093022208 := by
      have : (l ++ (if AW.wraps x.kind = true then r' :: way a r'.toNat x.of else [r'])).length ≤ 8796093022208 := by rw [hw]; exact hlen
      simp only [List.length_append] at this
      split at this <;> simp at this <;> omega
    refine append_intro hs2 hsv (by simp [Value.oneCell']) rfl (by simp; omega) (by simp; omega) fun s' w3 hk3 hs3 hb3 => ?_
    have he3 : Ext w w3 := (he.trans he2).trans' hk3 fun b hb hin => by have := hnew b hin; omega
    have hnew3 : ∀ b ∈ sliceBlk s', w.heap.size ≤ b := by
      intro b hb
      rcases hb3 b hb with h3 | h3
      · exact hnew b h3
      · exact Nat.le_trans (he.trans he2).size h3
    have h3 := h.ext he3
    have hs3' : SliceOf w3 s' ((l ++ [r']).map vi) := by simpa using hs3
    simp only [atDrew_eq, nilK_ptr, nilK_fn, fieldA_at, load1_at, orRd_some, optK_some, pickK_true, pickK_false, gopK_tt, gopK_ff, gopK_tf, gopK_ft, gopK_undef, gqK_tt, gqK_ff, gqK_tf, gqK_ft, gqK_undef, condK_true, condK_false, unK_not, binI_eql, binI_neq, binI_lss, binI_leq, binI_gtr, binI_geq, binI_add, binI_sub, binI_mul, binP_eql_none, binP_neq_none, binM_eql_none, binM_neq_none, binL_eql_none, lenL_at, convI_at, extractK_at, Option.bind_some, List.getElem?_cons_zero, List.getElem?_cons_succ, Option.isNone_some, Option.isNone_none, Bool.not_true, Bool.not_false, Nat.zero_add, h3.top, h3.look_some hr, Bool.false_eq_true, if_false, h3.cell hr, whCells]
    refine wraps_c x.kind ?_
    cases hwr : AW.wraps x.kind with
    | false =>
      simp only [atDrew_eq, nilK_ptr, nilK_fn, fieldA_at, load1_at, orRd_some, optK_some, pickK_true, pickK_false, gopK_tt, gopK_ff, gopK_tf, gopK_ft, gopK_undef, gqK_tt, gqK_ff, gqK_tf, gqK_ft, gqK_undef, condK_true, condK_false, unK_not, binI_eql, binI_neq, binI_lss, binI_leq, binI_gtr, binI_geq, binI_add, binI_sub, binI_mul, binP_eql_none, binP_neq_none, binM_eql_none, binM_neq_none, binL_eql_none, lenL_at, convI_at, extractK_at, Option.bind_some, List.getElem?_cons_zero, List.getElem?_cons_succ, Option.isNone_some, Option.isNone_none, Bool.not_true, Bool.not_false, Nat.zero_add, upd_get, Nat.reduceEqDiff, if_false, if_true]
      simp only [hwr, Bool.false_eq_true, if_false] at hw
      rw [← hw] at hk
      exact hk _ w3 he3 hs3' hnew3
    | true =>
      simp only [atDrew_eq, nilK_ptr, nilK_fn, fieldA_at, load1_at, orRd_some, optK_some, pickK_true, pickK_false, gopK_tt, gopK_ff, gopK_tf, gopK_ft, gopK_undef, gqK_tt, gqK_ff, gqK_tf, gqK_ft, gqK_undef, condK_true, condK_false, unK_not, binI_eql, binI_neq, binI_lss, binI_leq, binI_gtr, binI_geq, binI_add, binI_sub, binI_mul, binP_eql_none, binP_neq_none, binM_eql_none, binM_neq_none, binL_eql_none, lenL_at, convI_at, extractK_at, Option.bind_some, List.getElem?_cons_zero, List.getElem?_cons_succ, Option.isNone_some, Option.isNone_none, Bool.not_true, Bool.not_false, Nat.zero_add, h3.cell hr, whCells]
      have hd' := hd hwr
      refine ⟨x.of.toNat, by omega, x.of, l ++ [r'], rfl, h0, rfl, hs3', hnew3, he3, ?_⟩
      simp only [hwr, if_true] at hw
      rw [← hw, List.append_assoc]
      congr 1
      show r' :: way a (x.of.toNat + 1) x.of = _
      rw [way_fuel hf hp (x.of.toNat + 1) r'.toNat _ (by omega) (by omega)]

theorem base_c (h : WRep w L a) (hf : WF a) (hfew : Few a) (r : Int) (hk : ∀ w', Ext w w' → k (vi (a.base r)) w') : callOn prog fn_World_Base #[ptr L.p, vi r] w k := by
  apply F_World_Base_on
  unfold F_World_Base
  have hlen := way_few h hfew r
  refine way_c h hf hfew r fun v w1 he hs _ => ?_
  simp only [hs.lenL, List.length_map, atDrew_eq, nilK_ptr, nilK_fn, fieldA_at, load1_at, orRd_some, optK_some, pickK_true, pickK_false, gopK_tt, gopK_ff, gopK_tf, gopK_ft, gopK_undef, gqK_tt, gqK_ff, gqK_tf, gqK_ft, gqK_undef, condK_true, condK_false, unK_not, binI_eql, binI_neq, binI_lss, binI_leq, binI_gtr, binI_geq, binI_add, binI_sub, binI_mul, binP_eql_none, binP_neq_none, binM_eql_none, binM_neq_none, binL_eql_none, lenL_at, convI_at, extractK_at, Option.bind_some, List.getElem?_cons_zero, List.getElem?_cons_succ, Option.isNone_some, Option.isNone_none, Bool.not_true, Bool.not_false, Nat.zero_add]
  unfold AW.base at hk
  generalize hl : a.way r = l at hk hs hlen
  cases hll : l with
  | nil =>
    subst hll
    simp only [List.length_nil, Int.ofNat_eq_natCast, Int.natCast_zero, beq_self_eq_true, atDrew_eq, nilK_ptr, nilK_fn, fieldA_at, load1_at, orRd_some, optK_some, pickK_true, pickK_false, gopK_tt, gopK_ff, gopK_tf, gopK_ft, gopK_undef, gqK_tt, gqK_ff, gqK_tf, gqK_ft, gqK_undef, condK_true, condK_false, unK_not, binI_eql, binI_neq, binI_lss, binI_leq, binI_gtr, binI_geq, binI_add, binI_sub, binI_mul, binP_eql_none, binP_neq_none, binM_eql_none, binM_neq_none, binL_eql_none, lenL_at, convI_at, extractK_at, Option.bind_some, List.getElem?_cons_zero, List.getElem?_cons_succ, Option.isNone_some, Option.isNone_none, Bool.not_true, Bool.not_false, Nat.zero_add]
    exact hk w1 he
  | cons y ys =>
    rw [← hll]
    have hpos : 0 < l.length := by simp [hll]
    have hb : ((l.length : Int) == 0) = false := by rw [beq_eq_false_iff_ne]; omega
    have hw : IntKind.i64.wrap ((l.length : Int) - 1) = ((l.length - 1 : Nat) : Int) := by rw [wrap64_id (by omega) (by omega)]; omega
    obtain ⟨b, i, c, hix, _, hc, _, hci, _⟩ := hs.place (j := ((l.length - 1 : Nat) : Int)) (by omega) (by simp; omega)
    have hv : c[i]? = some (vi (l.getLast?.getD 0)) := by
      rw [hci, List.getLast?_eq_getElem?]
      have : l.length - 1 < l.length := by omega
      simp [this]
    simp only [hb, atDrew_eq, nilK_ptr, nilK_fn, fieldA_at, load1_at, orRd_some, optK_some, pickK_true, pickK_false, gopK_tt, gopK_ff, gopK_tf, gopK_ft, gopK_undef, gqK_tt, gqK_ff, gqK_tf, gqK_ft, gqK_undef, condK_true, condK_false, unK_not, binI_eql, binI_neq, binI_lss, binI_leq, binI_gtr, binI_geq, binI_add, binI_sub, binI_mul, binP_eql_none, binP_neq_none, binM_eql_none, binM_neq_none, binL_eql_none, lenL_at, convI_at, extractK_at, Option.bind_some, List.getElem?_cons_zero, List.getElem?_cons_succ, Option.isNone_some, Option.isNone_none, Bool.not_true, Bool.not_false, Nat.zero_add, hw, hix, hc, hv]
    exact hk w1 he
end
end Go.X
