/- Texts of this family, put together. -/
import Derived.Test.YtdjheefbeagcjaaXxC46
/- A world with one mint and purses of it, none of them dropped. No program in it. -/
set_option linter.unusedSimpArgs false
set_option linter.unusedVariables false
set_option maxRecDepth 20000
namespace Go.X
open Go Go.AW

/-- purses of the mint 1, numbered from k on -/
def tillP (s : Int) : Int → List Int → List (Int × Wh)
  | _, [] => []
  | k, q :: qs => (k, purseS s 1 q) :: tillP s (k + 1) qs

theorem tillP_append (s n : Int) : ∀ (qs : List Int) (k : Int), tillP s k (qs ++ [n]) = tillP s k qs ++ [(k + qs.length, purseS s 1 n)]
  | [], k => by simp [tillP]
  | q :: qs, k => by
    simp only [List.cons_append, tillP, tillP_append s n qs (k + 1), List.length_cons]
    congr 4
    push_cast; omega

theorem tillP_mem {s : Int} : ∀ {qs : List Int} {k : Int} {t : Int × Wh}, t ∈ tillP s k qs → k ≤ t.1 ∧ t.1 < k + qs.length ∧ ∃ q ∈ qs, t.2 = purseS s 1 q
  | [], k, t, h => by simp [tillP] at h
  | q :: qs, k, t, h => by
    simp only [tillP, List.mem_cons] at h
    rcases h with rfl | h
    · exact ⟨by simp, by simp; omega, q, by simp, rfl⟩
    · obtain ⟨h1, h2, q', hq', he⟩ := tillP_mem h
      refine ⟨by omega, by simp; omega, q', by simp [hq'], he⟩

theorem tillP_no {s r : Int} : ∀ {qs : List Int} {k : Int}, r < k → lookup (tillP s k qs) r = none
  | [], k, _ => rfl
  | q :: qs, k, h => by
    simp only [tillP, lookup]
    rw [if_neg (by omega)]
    exact tillP_no (by omega)

theorem tillP_at {s : Int} : ∀ {qs : List Int} {k : Int} {i : Nat} (h : i < qs.length), lookup (tillP s k qs) (k + i) = some (purseS s 1 qs[i])
  | q :: qs, k, 0, _ => by simp [tillP, lookup]
  | q :: qs, k, i + 1, h => by
    simp only [tillP, lookup]
    rw [if_neg (by push_cast; omega)]
    have := tillP_at (s := s) (k := k + 1) (i := i) (qs := qs) (by simpa using h)
    rw [show k + ((i + 1 : Nat) : Int) = k + 1 + i by push_cast; omega, this]
    simp

theorem tillP_put_no {s r : Int} {y : Wh} : ∀ {qs : List Int} {k : Int}, r < k → (tillP s k qs).map (fun t => if t.1 = r then (r, y) else t) = tillP s k qs
  | [], k, _ => rfl
  | q :: qs, k, h => by
    simp only [tillP, List.map_cons]
    rw [if_neg (by omega), tillP_put_no (by omega)]

theorem tillP_put {s n : Int} : ∀ {qs : List Int} {k : Int} {i : Nat}, i < qs.length → (tillP s k qs).map (fun t => if t.1 = k + i then (k + i, purseS s 1 n) else t) = tillP s k (qs.set i n)
  | q :: qs, k, 0, _ => by
    simp only [tillP, List.map_cons, List.set_cons_zero, Int.natCast_zero, Int.add_zero, if_true]
    rw [tillP_put_no (by omega)]
  | q :: qs, k, i + 1, h => by
    simp only [tillP, List.map_cons, List.set_cons_succ]
    rw [if_neg (by push_cast; omega)]
    have := tillP_put (s := s) (n := n) (k := k + 1) (i := i) (qs := qs) (by simpa using h)
    rw [show k + 1 + (i : Int) = k + ((i + 1 : Nat) : Int) by push_cast; omega] at this
    rw [this]

theorem tillP_amounts (s : Int) : ∀ (qs : List Int) (k : Int), (tillP s k qs).map (fun t => t.2.n) = qs
  | [], _ => rfl
  | q :: qs, k => by simp only [tillP, List.map_cons, tillP_amounts s qs (k + 1)]

theorem tillP_purses (s : Int) : ∀ (qs : List Int) (k : Int), (tillP s k qs).filter (isPurse 1) = tillP s k qs
  | [], _ => rfl
  | q :: qs, k => by
    simp only [tillP, List.filter_cons]
    rw [if_pos (by simp [isPurse]), tillP_purses s qs (k + 1)]

theorem sum_set : ∀ {l : List Int} {i : Nat} (h : i < l.length) (v : Int), (l.set i v).sum = l.sum - l[i] + v
  | x :: l, 0, _, v => by simp; omega
  | x :: l, i + 1, h, v => by
    have := sum_set (l := l) (i := i) (by simpa using h) v
    simp only [List.set_cons_succ, List.sum_cons, List.getElem_cons_succ]
    omega

theorem mem_set_or {l : List Int} {i : Nat} {v x : Int} (h : x ∈ l.set i v) : x ∈ l ∨ x = v := List.mem_or_eq_of_mem_set h

/-- the mint is 1; its purses are numbered from 2 on and have qs -/
structure Till (a : AW) (s : Int) (qs : List Int) : Prop where
  tree : ∀ i, i < a.parents.length → 0 ≤ a.parents.getD i 0 ∧ a.parents.getD i 0 ≤ i
  side : a.side s = true
  made : a.made.getD s.toNat 0 = qs.length + 1
  pos : ∀ n ∈ a.made, 0 ≤ n
  last : a.last = qs.length + 1
  lim : qs.length ≤ 511
  things : a.things = (1, mintS s qs.sum 0) :: tillP s 2 qs
  amts : ∀ q ∈ qs, 0 ≤ q
  top : qs.sum ≤ 9007199254740992

section
variable {a : AW} {s : Int} {qs : List Int}

theorem Till.sum0 (h : Till a s qs) : 0 ≤ qs.sum := (sum_take h.amts qs.length).1 |> fun h => by rwa [List.take_length] at h

theorem Till.at1 (h : Till a s qs) : a.at 1 = some (mintS s qs.sum 0) := by
  unfold AW.at; rw [h.things]; simp [lookup]

theorem Till.atP (h : Till a s qs) {i : Nat} (hi : i < qs.length) : a.at (i + 2) = some (purseS s 1 qs[i]) := by
  unfold AW.at
  rw [h.things]
  simp only [lookup]
  rw [if_neg (by omega), show (i : Int) + 2 = 2 + i by omega]
  exact tillP_at hi

theorem Till.kinds (h : Till a s qs) {t : Int × Wh} (ht : t ∈ a.things) : (∃ n, t.2 = mintS s n 0) ∨ ∃ n, t.2 = purseS s 1 n := by
  rw [h.things] at ht
  rcases List.mem_cons.1 ht with rfl | ht
  · exact .inl ⟨_, rfl⟩
  · obtain ⟨_, _, q, _, he⟩ := tillP_mem ht
    exact .inr ⟨q, he⟩

theorem Till.good (h : Till a s qs) : Good a := by
  have hk := fun {t} ht => h.kinds (t := t) ht
  refine ⟨⟨fun t ht => ?_, fun t ht _ => ?_, fun t ht hw => ?_, fun t ht k => ?_, fun u hu t ht k => ?_, h.tree⟩, fun t ht => ?_, h.pos, ?_⟩
  · rcases hk ht with ⟨n, e⟩ | ⟨n, e⟩ <;> rw [e] <;> simp [Wh.zero]
  · rcases hk ht with ⟨n, e⟩ | ⟨n, e⟩ <;> rw [e] <;> exact h.side
  · rcases hk ht with ⟨n, e⟩ | ⟨n, e⟩ <;> rw [e] at hw <;> simp [AW.wraps] at hw
  · rcases hk ht with ⟨n, e⟩ | ⟨n, e⟩ <;> rw [e] at k <;> simp at k
  · rcases hk hu with ⟨n, e⟩ | ⟨n, e⟩ <;> rw [e] at k <;> simp at k
  · rcases hk ht with ⟨n, e⟩ | ⟨n, e⟩ <;> rw [e] <;> simp [Plain, Wh.zero]
  · unfold Few; rw [h.last]; have := h.lim; omega

theorem Till.formP (h : Till a s qs) {n : Int} (h0 : 0 ≤ n) (h1 : n ≤ 9007199254740992) : formB a (purseS s 1 n) = true := by
  have := h.side
  simp [formB, bareW, blankB, Wh.zero, this, h0, h1]
theorem Till.formM (h : Till a s qs) {n : Int} (h0 : 0 ≤ n) (h1 : n ≤ 9007199254740992) : formB a (mintS s n 0) = true := by
  have := h.side
  simp [formB, bareW, blankB, Wh.zero, this, h0, h1]

theorem Till.makeE (h : Till a s qs) {n : Int} (h0 : 0 ≤ n) (h1 : n ≤ 9007199254740992) : makeE a (purseS s 1 n) = if qs.length < 511 then 0 else 8 := by
  have hf := h.formP h0 h1
  have hi : a.is 1 = true := by rw [AW.is, h.at1]; rfl
  have ha := h.at1
  have hm := h.made
  have hfit : fitsB a (purseS s 1 n) = true := by simp [fitsB, thereB, Wh.zero, ha]
  unfold Go.X.makeE
  rw [if_neg (by simp [hf]), if_neg (by simp [asksBy, Wh.zero, hi]), if_neg (by simp [hfit])]
  show (if 512 ≤ a.made.getD s.toNat 0 then (8 : Int) else 0) = _
  rw [hm]
  by_cases hl : qs.length < 511
  · rw [if_neg (by omega), if_pos hl]
  · rw [if_pos (by omega), if_neg hl]

theorem Till.add_side (h : Till a s qs) (x : Wh) (r : Int) : (a.add x).side r = a.side r := by
  have : (a.add x).sides = a.sides := by
    unfold AW.sides AW.add
    simp only
    split <;> simp
  unfold AW.side
  rw [this]

/-- a purse more; one thing changes then -/
theorem Till.grow (h : Till a s qs) {n : Int} {qs' : List Int} (hl : qs.length < 511) (hlen : qs'.length = qs.length + 1) (h0 : ∀ q ∈ qs', 0 ≤ q) (htop : qs'.sum ≤ 9007199254740992) {r : Int} {y : Wh}
    (hth : (a.things ++ [(a.last + 1, purseS s 1 n)]).map (fun t => if t.1 = r then (r, y) else t) = (1, mintS s qs'.sum 0) :: tillP s 2 qs') : Till (AW.put (a.make (purseS s 1 n)) r y) s qs' := by
  have hmk : a.make (purseS s 1 n) = a.add (purseS s 1 n) := by
    unfold AW.make; rw [if_neg]; show ¬ (9 : Int) = 15; decide
  rw [hmk]
  have hs := h.side
  simp only [AW.side, Bool.and_eq_true, decide_eq_true_eq] at hs
  unfold AW.sides at hs
  have hsn : s.toNat < a.made.length := by omega
  refine ⟨h.tree, by have := h.add_side (purseS s 1 n) s; rw [h.side] at this; exact this, ?_, ?_, ?_, by omega, ?_, h0, htop⟩
  · show (if (9 : Int) = 14 then a.made else a.made.set s.toNat (a.made.getD s.toNat 0 + 1)).getD s.toNat 0 = _
    rw [if_neg (by decide), h.made]
    simp [List.getD_eq_getElem?_getD, hsn, hlen]
  · intro m hm
    have hm : m ∈ (if (9 : Int) = 14 then a.made else a.made.set s.toNat (a.made.getD s.toNat 0 + 1)) := hm
    rw [if_neg (by decide), h.made] at hm
    rcases mem_set_or hm with hm | rfl
    · exact h.pos m hm
    · omega
  · show a.last + 1 = _
    rw [h.last, hlen]; push_cast; omega
  · exact hth

theorem Till.ask (h : Till a s qs) {n : Int} (h0 : 0 ≤ n) (htop : qs.sum + n ≤ 9007199254740992) (hl : qs.length < 511) :
    Go.X.makeE a (purseS s 1 n) = 0 ∧ layE (a.make (purseS s 1 n)) 1 (withN (mintS s qs.sum 0) (qs.sum + n)) = 0 ∧ Till (AW.ask a 1 (mintS s qs.sum 0) n) s (qs ++ [n]) := by
  have hs0 := h.sum0
  have hsum : (qs ++ [n]).sum = qs.sum + n := by simp
  have hT : Till (AW.ask a 1 (mintS s qs.sum 0) n) s (qs ++ [n]) := by
    refine h.grow hl (by simp) (fun q hq => ?_) (by rw [hsum]; exact htop) ?_
    · rcases List.mem_append.1 hq with hq | hq
      · exact h.amts q hq
      · simp at hq; omega
    · rw [h.things, h.last, tillP_append, hsum]
      simp only [List.cons_append, List.map_cons, List.map_append, List.map_nil, if_true]
      rw [tillP_put_no (by omega), if_neg (by omega)]
      congr 4
      omega
  refine ⟨by rw [h.makeE h0 (by omega), if_pos hl], ?_, hT⟩
  have hmk : a.make (purseS s 1 n) = a.add (purseS s 1 n) := by
    unfold AW.make; rw [if_neg]; show ¬ (9 : Int) = 15; decide
  rw [hmk]
  have hat : (a.add (purseS s 1 n)).at 1 = some (mintS s qs.sum 0) := by rw [AW.at_add, h.at1]
  have hf : formB (a.add (purseS s 1 n)) (withN (mintS s qs.sum 0) (qs.sum + n)) = true := by
    have hsd := h.add_side (purseS s 1 n) s
    rw [h.side] at hsd
    simp [formB, bareW, blankB, Wh.zero, hsd, htop, Int.add_nonneg hs0 h0]
  unfold layE
  rw [hat]
  simp only
  rw [if_pos ⟨trivial, trivial, trivial, trivial, trivial, by simp, hf⟩]

theorem Till.take (h : Till a s qs) {n : Int} {i : Nat} (hi : i < qs.length) (h0 : 0 ≤ n) (h1 : n ≤ qs[i]) (hl : qs.length < 511) :
    Go.X.makeE a (purseS s 1 n) = 0 ∧ layE (a.make (purseS s 1 n)) (i + 2) (withN (purseS s 1 qs[i]) (qs[i] - n)) = 0 ∧ Till (AW.take a (i + 2) (purseS s 1 qs[i]) n) s (qs.set i (qs[i] - n) ++ [n]) := by
  have hq0 := h.amts _ (List.getElem_mem hi)
  have hle : qs[i] ≤ qs.sum := by
    have h2 := sum_take h.amts i
    have h3 := sum_take h.amts (i + 1)
    rw [List.take_add_one, List.getElem?_eq_getElem hi] at h3
    simp only [Option.toList_some, List.sum_append, List.sum_cons, List.sum_nil] at h3
    omega
  have htop := h.top
  have hsum : (qs.set i (qs[i] - n) ++ [n]).sum = qs.sum := by
    simp only [List.sum_append, List.sum_cons, List.sum_nil, sum_set hi]; omega
  have hT : Till (AW.take a (i + 2) (purseS s 1 qs[i]) n) s (qs.set i (qs[i] - n) ++ [n]) := by
    refine h.grow hl (by simp) (fun q hq => ?_) (by rw [hsum]; exact htop) ?_
    · rcases List.mem_append.1 hq with hq | hq
      · rcases mem_set_or hq with hq | rfl
        · exact h.amts q hq
        · omega
      · simp at hq; omega
    · rw [h.things, h.last, tillP_append, hsum]
      simp only [List.cons_append, List.map_cons, List.map_append, List.map_nil]
      rw [if_neg (by omega), if_neg (by omega)]
      have := tillP_put (s := s) (n := qs[i] - n) (k := 2) hi
      rw [show (2 : Int) + (i : Int) = i + 2 by omega] at this
      rw [this]
      congr 4
      simp; omega
  refine ⟨by rw [h.makeE h0 (by omega), if_pos hl], ?_, hT⟩
  have hmk : a.make (purseS s 1 n) = a.add (purseS s 1 n) := by
    unfold AW.make; rw [if_neg]; show ¬ (9 : Int) = 15; decide
  rw [hmk]
  have hat : (a.add (purseS s 1 n)).at (i + 2) = some (purseS s 1 qs[i]) := by rw [AW.at_add, h.atP hi]
  have hf : formB (a.add (purseS s 1 n)) (withN (purseS s 1 qs[i]) (qs[i] - n)) = true := by
    have hsd := h.add_side (purseS s 1 n) s
    rw [h.side] at hsd
    have g1 : 0 ≤ qs[i] - n := by omega
    have g2 : qs[i] - n ≤ 9007199254740992 := by omega
    simp [formB, bareW, blankB, Wh.zero, hsd, g1, g2]
    omega
  unfold layE
  rw [hat]
  simp only
  rw [if_pos ⟨trivial, trivial, trivial, trivial, trivial, by simp, hf⟩]

/-- an amount of a purse changes -/
theorem Till.put (h : Till a s qs) {i : Nat} (hi : i < qs.length) {n : Int} : (AW.put a (i + 2) (purseS s 1 n)).things = (1, mintS s qs.sum 0) :: tillP s 2 (qs.set i n) := by
  show a.things.map _ = _
  rw [h.things, List.map_cons, if_neg (by simp; omega)]
  have := tillP_put (s := s) (n := n) (k := 2) hi
  rw [show (2 : Int) + (i : Int) = i + 2 by omega] at this
  rw [this]

theorem Till.move (h : Till a s qs) {i j : Nat} (hi : i < qs.length) (hj : j < qs.length) (hij : i ≠ j) :
    0 ≤ qs[i] ∧ 0 ≤ qs[j] ∧ qs[i] + qs[j] ≤ 9007199254740992 ∧ layE a (i + 2) (withN (purseS s 1 qs[i]) (qs[i] + qs[j])) = 0 ∧ layE (AW.put a (i + 2) (withN (purseS s 1 qs[i]) (qs[i] + qs[j]))) (j + 2) (withN (purseS s 1 qs[j]) 0) = 0 ∧
    Till (AW.move a (i + 2) (j + 2) (purseS s 1 qs[i]) (purseS s 1 qs[j])) s ((qs.set i (qs[i] + qs[j])).set j 0) := by
  have hqi := h.amts _ (List.getElem_mem hi)
  have hqj := h.amts _ (List.getElem_mem hj)
  have hjs : j < (qs.set i (qs[i] + qs[j])).length := by simpa using hj
  have hgj : (qs.set i (qs[i] + qs[j]))[j] = qs[j] := by rw [List.getElem_set_ne hij]
  have hsum : ((qs.set i (qs[i] + qs[j])).set j 0).sum = qs.sum := by
    rw [sum_set hjs, hgj, sum_set hi]; omega
  have hle : qs[i] + qs[j] ≤ qs.sum := by
    have hnn : ∀ q ∈ (qs.set i (qs[i] + qs[j])).set j 0, 0 ≤ q := fun q hq => by
      rcases mem_set_or hq with hq | rfl
      · rcases mem_set_or hq with hq | rfl
        · exact h.amts q hq
        · omega
      · omega
    have hi2 : i < ((qs.set i (qs[i] + qs[j])).set j 0).length := by simpa using hi
    have h2 := sum_take hnn i
    have h3 := sum_take hnn (i + 1)
    rw [List.take_add_one, List.getElem?_eq_getElem hi2] at h3
    have hgi : ((qs.set i (qs[i] + qs[j])).set j 0)[i] = qs[i] + qs[j] := by rw [List.getElem_set_ne (Ne.symm hij)]; simp
    rw [hgi] at h3
    simp only [Option.toList_some, List.sum_append, List.sum_cons, List.sum_nil] at h3
    omega
  have htop := h.top
  have hth1 := h.put hi (n := qs[i] + qs[j])
  have hat1 : a.at (i + 2) = some (purseS s 1 qs[i]) := h.atP hi
  have hat2 : (AW.put a (i + 2) (purseS s 1 (qs[i] + qs[j]))).at (j + 2) = some (purseS s 1 qs[j]) := by
    rw [AW.at_put, if_neg (by omega), h.atP hj]
  refine ⟨hqi, hqj, by omega, ?_, ?_, ?_⟩
  · unfold layE
    rw [hat1]
    simp only
    rw [if_pos ⟨trivial, trivial, trivial, trivial, trivial, by simp, h.formP (by omega) (by omega)⟩]
  · unfold layE
    show (match (AW.put a (i + 2) (purseS s 1 (qs[i] + qs[j]))).at (j + 2) with | none => (5 : Int) | some t => _) = 0
    rw [hat2]
    simp only
    have hf : formB (AW.put a (i + 2) (purseS s 1 (qs[i] + qs[j]))) (purseS s 1 0) = true := by
      have hsd : (AW.put a (i + 2) (purseS s 1 (qs[i] + qs[j]))).side s = true := h.side
      simp [formB, bareW, blankB, Wh.zero, hsd]
    rw [if_pos ⟨trivial, trivial, trivial, trivial, trivial, by simp, hf⟩]
  · refine ⟨h.tree, h.side, h.made.trans (by simp), h.pos, h.last.trans (by simp), by simpa using h.lim, ?_, fun q hq => ?_, by rw [hsum]; exact htop⟩
    · rw [hsum]
      show (AW.put a (i + 2) (purseS s 1 (qs[i] + qs[j]))).things.map _ = _
      rw [hth1, List.map_cons, if_neg (by simp; omega)]
      have := tillP_put (s := s) (n := 0) (k := 2) hjs
      rw [show (2 : Int) + (j : Int) = j + 2 by omega] at this
      rw [← this]
    · rcases mem_set_or hq with hq | rfl
      · rcases mem_set_or hq with hq | rfl
        · exact h.amts q hq
        · omega
      · omega

theorem Till.bal (h : Till a s qs) : Balanced a := by
  have hs0 := h.sum0
  have htop := h.top
  have hp : pursesOf a 1 = tillP s 2 qs := by
    unfold pursesOf
    rw [h.things, List.filter_cons, if_neg (by simp [isPurse]), tillP_purses]
  intro t ht hk
  have ht1 : t = (1, mintS s qs.sum 0) := by
    rw [h.things] at ht
    rcases List.mem_cons.1 ht with rfl | ht
    · rfl
    · obtain ⟨_, _, q, _, he⟩ := tillP_mem ht
      rw [he] at hk; simp at hk
  subst ht1
  refine ⟨fun p hp' => ?_, ?_, by simp, by simpa using hs0, by simpa using htop⟩
  · rw [hp] at hp'
    obtain ⟨_, _, q, hq, he⟩ := tillP_mem hp'
    rw [he]; exact h.amts q hq
  · unfold sumOf
    rw [hp, tillP_amounts]
    simp
end
end Go.X
/- The chapter's first examples (layer 10). -/
set_option linter.unusedSimpArgs false
set_option linter.unusedVariables false
set_option maxRecDepth 20000
set_option maxHeartbeats 1000000
namespace Go.X
open Go Go.AW

def A10_0 : AW := { parents := [], cut := [false], things := [], last := 0, made := [0] }
def A10_1 : AW := { parents := [], cut := [false], things := [(1, mintS 0 0 0)], last := 1, made := [1] }
def A10_2 : AW := { parents := [], cut := [false], things := [(1, mintS 0 10 0), (2, purseS 0 1 10)], last := 2, made := [2] }
def A10_3 : AW := { parents := [], cut := [false], things := [(1, mintS 0 10 0), (2, purseS 0 1 7), (3, purseS 0 1 3)], last := 3, made := [3] }
def A10_4 : AW := { parents := [], cut := [false], things := [(1, mintS 0 10 0), (2, purseS 0 1 0), (3, purseS 0 1 10)], last := 3, made := [3] }
theorem A10_1_eq : A10_0.make (mintS 0 0 0) = A10_1 := by decide
theorem A10_2_eq : AW.ask A10_1 1 (mintS 0 0 0) 10 = A10_2 := by decide
theorem A10_3_eq : AW.take A10_2 2 (purseS 0 1 10) 3 = A10_3 := by decide
theorem A10_4_eq : AW.move A10_3 3 2 (purseS 0 1 3) (purseS 0 1 7) = A10_4 := by decide
theorem G10_0 : Good A10_0 := good_of (by kernel_rfl)
theorem G10_1 : Good A10_1 := good_of (by kernel_rfl)
theorem G10_2 : Good A10_2 := good_of (by kernel_rfl)
theorem G10_3 : Good A10_3 := good_of (by kernel_rfl)
theorem G10_4 : Good A10_4 := good_of (by kernel_rfl)
theorem A10_bal : Balanced A10_4 := by unfold Balanced; decide

section
variable {w : World} {K : Value → World → Prop}

theorem lives10_c (hk : ∀ w', Ext w w' → K (.bool true) w') : callOn prog fn_law10_lives #[] w K := by
  apply F_law10_lives_on
  unfold F_law10_lives
  have st := State.start (S := fun _ => False) w
  refine st.newYes (a := A10_0) (ps := []) (show ReadsOf w (.slice none 0 0) [] from ⟨rfl, rfl, rfl⟩) (by decide) fun w L st => ?_
  (repeat (first | ((with_reducible apply ext_0)) | ((with_reducible apply ext_1))))
  refine st.mintYes G10_0 (by decide) fun w L' hp st => ?_
  rw [← hp, A10_1_eq] at *
  (repeat (first | ((with_reducible apply ext_0)) | ((with_reducible apply ext_1))))
  refine st.askYes (m := 1) (x := mintS 0 0 0) G10_1 (by decide) rfl (by simp [Plain, Wh.zero]) (by simp [Wh.zero]) (by decide) (by decide) (by decide) (by decide) (by decide) fun w L2 hp st => ?_
  rw [A10_2_eq] at st
  rw [← hp]
  (repeat (first | ((with_reducible apply ext_0)) | ((with_reducible apply ext_1))))
  refine st.askNo (m := 1) (x := mintS 0 10 0) (e := 2) G10_2 (by decide) rfl (by simp [Plain, Wh.zero]) (by decide) (by decide) (by decide) fun w st => ?_
  (repeat (first | ((with_reducible apply ext_0)) | ((with_reducible apply ext_1))))
  refine st.takeYes (p := 2) (x := purseS 0 1 10) G10_2 (by decide) rfl (by simp [Plain, Wh.zero]) (by simp [Wh.zero]) (by decide) (by decide) (by decide) (by decide) (by decide) fun w L3 hp st => ?_
  rw [A10_3_eq] at st
  rw [← hp]
  (repeat (first | ((with_reducible apply ext_0)) | ((with_reducible apply ext_1))))
  refine st.getYes (p := 2) (x := purseS 0 1 7) (.head _) (by decide) rfl (by simp [Plain, Wh.zero]) fun w st => ?_
  (repeat (first | ((with_reducible apply ext_0)) | ((with_reducible apply ext_1)) | (simp only [upd_get, start_get, List.getD_cons_zero, List.getD_cons_succ, Nat.reduceEqDiff, reduceIte, Nat.reduceAdd])))
  refine st.moveYes (t := 3) (f := 2) (x := purseS 0 1 3) (y := purseS 0 1 7) G10_3 (by decide) rfl (by simp [Plain, Wh.zero]) (by simp [Wh.zero]) (by decide) rfl (by simp [Plain, Wh.zero]) (by simp [Wh.zero]) (by decide) rfl (by decide) (by decide) (by decide) (by decide) (by decide) fun w st => ?_
  rw [A10_4_eq] at st
  refine st.getYes (p := 3) (x := purseS 0 1 10) (.head _) (by decide) rfl (by simp [Plain, Wh.zero]) fun w st => ?_
  (repeat (first | ((with_reducible apply eql_at)) | ((with_reducible apply ext_0)) | ((with_reducible apply ext_1)) | ((with_reducible apply gop_run); (focus (first | assumption | rfl | decide | (simp only [bne, Bool.not_eq_true', Bool.not_eq_false', Bool.not_true, Bool.not_false, Bool.not_not]; assumption)))) | ((with_reducible apply pick_t); (focus (first | assumption | rfl | decide | (simp only [bne, Bool.not_eq_true', Bool.not_eq_false', Bool.not_true, Bool.not_false, Bool.not_not]; assumption))))))
  refine st.check (.head _) G10_4 A10_bal (by decide) fun w st => ?_
  (repeat (first | ((with_reducible apply eql_at)) | ((with_reducible apply gop_run); (focus (first | assumption | rfl | decide | (simp only [bne, Bool.not_eq_true', Bool.not_eq_false', Bool.not_true, Bool.not_false, Bool.not_not]; assumption)))) | ((with_reducible apply pick_t); (focus (first | assumption | rfl | decide | (simp only [bne, Bool.not_eq_true', Bool.not_eq_false', Bool.not_true, Bool.not_false, Bool.not_not]; assumption))))))
  exact hk w st.keeps

theorem purseNames_c (hk : ∀ w', Ext w w' → K (.bool true) w') : callOn prog fn_law10_PurseNames #[] w K := by
  apply F_law10_PurseNames_on
  unfold F_law10_PurseNames
  refine gop_run rfl (lives10_c fun w' he => ?_)
  exact hk w' he
end
end Go.X
