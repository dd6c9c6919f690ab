/- The calculator's word on functions of this program, each with its proof: written by a program of this family (shallow.py). -/
import Derived.Test.YtdjheefbeagcjaaXxP
import Derived.Test.YtdjheefbeagcjaaXxAny3
set_option linter.unusedVariables false
set_option maxRecDepth 100000
namespace Go.X
open Go Go.Proofs
noncomputable def law07_WorldNumbers_R9 : Array Oper := regionOf (bodyOf Try.f7) 9
-- not quiet: law07_WorldNumbers_R9: pivot
-- no tree: law07_WorldNumbers_R9: pivot
def law07_WorldNumbers_R9_pre : List (List Nat) := [[], [], [], [], [2, 3], [4], [5], [], [7], [6, 8], [1, 9], [0, 9, 10], [11], [12], [12], [0, 1, 2, 3, 4, 5, 6, 7, 8, 9, 10, 11, 12, 13], [0, 1, 2, 3, 4, 5, 6, 7, 8, 9, 10, 11, 12, 13, 14, 15]]
theorem law07_WorldNumbers_R9_ok : factsOk law07_WorldNumbers_R9 law07_WorldNumbers_R9_pre = true := by kernel_rfl
theorem law07_WorldNumbers_R9_ap : apartOk law07_WorldNumbers_R9 = true := by kernel_rfl
theorem law07_WorldNumbers_R9_dst (j : Nat) : dstN law07_WorldNumbers_R9 j = ([44, 45, 46, 47, 48, 49, 50, 51, 52, 53, 54, 55, 43, 56, 57, 12, 13] : List Nat).getD j (1000000 + j) := by
  match j with
  | 0 => rfl
  | 1 => rfl
  | 2 => rfl
  | 3 => rfl
  | 4 => rfl
  | 5 => rfl
  | 6 => rfl
  | 7 => rfl
  | 8 => rfl
  | 9 => rfl
  | 10 => rfl
  | 11 => rfl
  | 12 => rfl
  | 13 => rfl
  | 14 => rfl
  | 15 => rfl
  | 16 => rfl
  | j + 17 => rfl
def O_law07_WorldNumbers_R9_0 (k : Env → Go.World → Prop) (e : Env) (w : Go.World) : Prop :=
 k (upd e 44 (e 7)) w
theorem O_law07_WorldNumbers_R9_0_eq (k : Env → Go.World → Prop) (e : Env) (w : Go.World) : (match law07_WorldNumbers_R9[0]? with | some o => opsK prog law07_WorldNumbers_R9.toList [o] e w k | none => True) = O_law07_WorldNumbers_R9_0 k e w := by kernel_rfl
theorem O_law07_WorldNumbers_R9_0_on {k : Env → Go.World → Prop} {e : Env} {w : Go.World} {o : Oper} (ho : law07_WorldNumbers_R9[0]? = some o) (h : O_law07_WorldNumbers_R9_0 k e w) : opsK prog law07_WorldNumbers_R9.toList [o] e w k := by
  have := O_law07_WorldNumbers_R9_0_eq k e w
  rw [ho] at this
  exact Eq.mpr this h
def O_law07_WorldNumbers_R9_1 (k : Env → Go.World → Prop) (e : Env) (w : Go.World) : Prop :=
 k (upd e 45 (e 11)) w
theorem O_law07_WorldNumbers_R9_1_eq (k : Env → Go.World → Prop) (e : Env) (w : Go.World) : (match law07_WorldNumbers_R9[1]? with | some o => opsK prog law07_WorldNumbers_R9.toList [o] e w k | none => True) = O_law07_WorldNumbers_R9_1 k e w := by kernel_rfl
theorem O_law07_WorldNumbers_R9_1_on {k : Env → Go.World → Prop} {e : Env} {w : Go.World} {o : Oper} (ho : law07_WorldNumbers_R9[1]? = some o) (h : O_law07_WorldNumbers_R9_1 k e w) : opsK prog law07_WorldNumbers_R9.toList [o] e w k := by
  have := O_law07_WorldNumbers_R9_1_eq k e w
  rw [ho] at this
  exact Eq.mpr this h
def O_law07_WorldNumbers_R9_2 (k : Env → Go.World → Prop) (e : Env) (w : Go.World) : Prop :=
 k (upd e 46 (e 1)) w
theorem O_law07_WorldNumbers_R9_2_eq (k : Env → Go.World → Prop) (e : Env) (w : Go.World) : (match law07_WorldNumbers_R9[2]? with | some o => opsK prog law07_WorldNumbers_R9.toList [o] e w k | none => True) = O_law07_WorldNumbers_R9_2 k e w := by kernel_rfl
theorem O_law07_WorldNumbers_R9_2_on {k : Env → Go.World → Prop} {e : Env} {w : Go.World} {o : Oper} (ho : law07_WorldNumbers_R9[2]? = some o) (h : O_law07_WorldNumbers_R9_2 k e w) : opsK prog law07_WorldNumbers_R9.toList [o] e w k := by
  have := O_law07_WorldNumbers_R9_2_eq k e w
  rw [ho] at this
  exact Eq.mpr this h
def O_law07_WorldNumbers_R9_3 (k : Env → Go.World → Prop) (e : Env) (w : Go.World) : Prop :=
 k (upd e 47 (e 10)) w
theorem O_law07_WorldNumbers_R9_3_eq (k : Env → Go.World → Prop) (e : Env) (w : Go.World) : (match law07_WorldNumbers_R9[3]? with | some o => opsK prog law07_WorldNumbers_R9.toList [o] e w k | none => True) = O_law07_WorldNumbers_R9_3 k e w := by kernel_rfl
theorem O_law07_WorldNumbers_R9_3_on {k : Env → Go.World → Prop} {e : Env} {w : Go.World} {o : Oper} (ho : law07_WorldNumbers_R9[3]? = some o) (h : O_law07_WorldNumbers_R9_3 k e w) : opsK prog law07_WorldNumbers_R9.toList [o] e w k := by
  have := O_law07_WorldNumbers_R9_3_eq k e w
  rw [ho] at this
  exact Eq.mpr this h
def O_law07_WorldNumbers_R9_4 (k : Env → Go.World → Prop) (e : Env) (w : Go.World) : Prop :=
 indexS 1 (e 46) (e 47) fun t48 =>
 k (upd e 48 t48) w
theorem O_law07_WorldNumbers_R9_4_eq (k : Env → Go.World → Prop) (e : Env) (w : Go.World) : (match law07_WorldNumbers_R9[4]? with | some o => opsK prog law07_WorldNumbers_R9.toList [o] e w k | none => True) = O_law07_WorldNumbers_R9_4 k e w := by kernel_rfl
theorem O_law07_WorldNumbers_R9_4_on {k : Env → Go.World → Prop} {e : Env} {w : Go.World} {o : Oper} (ho : law07_WorldNumbers_R9[4]? = some o) (h : O_law07_WorldNumbers_R9_4 k e w) : opsK prog law07_WorldNumbers_R9.toList [o] e w k := by
  have := O_law07_WorldNumbers_R9_4_eq k e w
  rw [ho] at this
  exact Eq.mpr this h
def O_law07_WorldNumbers_R9_5 (k : Env → Go.World → Prop) (e : Env) (w : Go.World) : Prop :=
 load1 (e 48) w fun t49 =>
 k (upd e 49 t49) w
theorem O_law07_WorldNumbers_R9_5_eq (k : Env → Go.World → Prop) (e : Env) (w : Go.World) : (match law07_WorldNumbers_R9[5]? with | some o => opsK prog law07_WorldNumbers_R9.toList [o] e w k | none => True) = O_law07_WorldNumbers_R9_5 k e w := by kernel_rfl
theorem O_law07_WorldNumbers_R9_5_on {k : Env → Go.World → Prop} {e : Env} {w : Go.World} {o : Oper} (ho : law07_WorldNumbers_R9[5]? = some o) (h : O_law07_WorldNumbers_R9_5 k e w) : opsK prog law07_WorldNumbers_R9.toList [o] e w k := by
  have := O_law07_WorldNumbers_R9_5_eq k e w
  rw [ho] at this
  exact Eq.mpr this h
def O_law07_WorldNumbers_R9_6 (k : Env → Go.World → Prop) (e : Env) (w : Go.World) : Prop :=
 convI Go.IntKind.i64 (e 49) fun t50 =>
 k (upd e 50 t50) w
theorem O_law07_WorldNumbers_R9_6_eq (k : Env → Go.World → Prop) (e : Env) (w : Go.World) : (match law07_WorldNumbers_R9[6]? with | some o => opsK prog law07_WorldNumbers_R9.toList [o] e w k | none => True) = O_law07_WorldNumbers_R9_6 k e w := by kernel_rfl
theorem O_law07_WorldNumbers_R9_6_on {k : Env → Go.World → Prop} {e : Env} {w : Go.World} {o : Oper} (ho : law07_WorldNumbers_R9[6]? = some o) (h : O_law07_WorldNumbers_R9_6 k e w) : opsK prog law07_WorldNumbers_R9.toList [o] e w k := by
  have := O_law07_WorldNumbers_R9_6_eq k e w
  rw [ho] at this
  exact Eq.mpr this h
def O_law07_WorldNumbers_R9_7 (k : Env → Go.World → Prop) (e : Env) (w : Go.World) : Prop :=
 k (upd e 51 (e 7)) w
theorem O_law07_WorldNumbers_R9_7_eq (k : Env → Go.World → Prop) (e : Env) (w : Go.World) : (match law07_WorldNumbers_R9[7]? with | some o => opsK prog law07_WorldNumbers_R9.toList [o] e w k | none => True) = O_law07_WorldNumbers_R9_7 k e w := by kernel_rfl
theorem O_law07_WorldNumbers_R9_7_on {k : Env → Go.World → Prop} {e : Env} {w : Go.World} {o : Oper} (ho : law07_WorldNumbers_R9[7]? = some o) (h : O_law07_WorldNumbers_R9_7 k e w) : opsK prog law07_WorldNumbers_R9.toList [o] e w k := by
  have := O_law07_WorldNumbers_R9_7_eq k e w
  rw [ho] at this
  exact Eq.mpr this h
def O_law07_WorldNumbers_R9_8 (k : Env → Go.World → Prop) (e : Env) (w : Go.World) : Prop :=
 callOn prog fn_World_Sides #[(e 51)] w fun t52 w =>
 k (upd e 52 t52) w
theorem O_law07_WorldNumbers_R9_8_eq (k : Env → Go.World → Prop) (e : Env) (w : Go.World) : (match law07_WorldNumbers_R9[8]? with | some o => opsK prog law07_WorldNumbers_R9.toList [o] e w k | none => True) = O_law07_WorldNumbers_R9_8 k e w := by kernel_rfl
theorem O_law07_WorldNumbers_R9_8_on {k : Env → Go.World → Prop} {e : Env} {w : Go.World} {o : Oper} (ho : law07_WorldNumbers_R9[8]? = some o) (h : O_law07_WorldNumbers_R9_8 k e w) : opsK prog law07_WorldNumbers_R9.toList [o] e w k := by
  have := O_law07_WorldNumbers_R9_8_eq k e w
  rw [ho] at this
  exact Eq.mpr this h
def O_law07_WorldNumbers_R9_9 (k : Env → Go.World → Prop) (e : Env) (w : Go.World) : Prop :=
 callOn prog fn_law07_mod #[(e 50), (e 52)] w fun t53 w =>
 k (upd e 53 t53) w
theorem O_law07_WorldNumbers_R9_9_eq (k : Env → Go.World → Prop) (e : Env) (w : Go.World) : (match law07_WorldNumbers_R9[9]? with | some o => opsK prog law07_WorldNumbers_R9.toList [o] e w k | none => True) = O_law07_WorldNumbers_R9_9 k e w := by kernel_rfl
theorem O_law07_WorldNumbers_R9_9_on {k : Env → Go.World → Prop} {e : Env} {w : Go.World} {o : Oper} (ho : law07_WorldNumbers_R9[9]? = some o) (h : O_law07_WorldNumbers_R9_9 k e w) : opsK prog law07_WorldNumbers_R9.toList [o] e w k := by
  have := O_law07_WorldNumbers_R9_9_eq k e w
  rw [ho] at this
  exact Eq.mpr this h
def O_law07_WorldNumbers_R9_10 (k : Env → Go.World → Prop) (e : Env) (w : Go.World) : Prop :=
 buildS (Go.Value.agg #[(Go.Value.int Go.IntKind.u8 0), (Go.Value.int Go.IntKind.i64 0), (Go.Value.int Go.IntKind.u8 0), (Go.Value.int Go.IntKind.i64 0), (Go.Value.string { data := #[] }), (Go.Value.slice .none 0 0), (Go.Value.int Go.IntKind.i64 0), (Go.Value.slice .none 0 0), (Go.Value.int Go.IntKind.i64 0), (Go.Value.int Go.IntKind.i64 0), (Go.Value.int Go.IntKind.i64 0), (Go.Value.int Go.IntKind.i64 0), (Go.Value.int Go.IntKind.u8 0), (Go.Value.bool false), (Go.Value.slice .none 0 0), (Go.Value.slice .none 0 0)]) [(0, 1), (1, 1), (2, 5), (7, 1), (8, 1), (9, 1), (10, 1), (11, 1), (12, 1), (13, 1), (14, 1), (15, 1)] [(0, (e 45)), (1, (e 53))] fun t54 =>
 k (upd e 54 t54) w
theorem O_law07_WorldNumbers_R9_10_eq (k : Env → Go.World → Prop) (e : Env) (w : Go.World) : (match law07_WorldNumbers_R9[10]? with | some o => opsK prog law07_WorldNumbers_R9.toList [o] e w k | none => True) = O_law07_WorldNumbers_R9_10 k e w := by kernel_rfl
theorem O_law07_WorldNumbers_R9_10_on {k : Env → Go.World → Prop} {e : Env} {w : Go.World} {o : Oper} (ho : law07_WorldNumbers_R9[10]? = some o) (h : O_law07_WorldNumbers_R9_10 k e w) : opsK prog law07_WorldNumbers_R9.toList [o] e w k := by
  have := O_law07_WorldNumbers_R9_10_eq k e w
  rw [ho] at this
  exact Eq.mpr this h
def O_law07_WorldNumbers_R9_11 (k : Env → Go.World → Prop) (e : Env) (w : Go.World) : Prop :=
 callOn prog fn_World_Make #[(e 44), (e 54)] w fun t55 w =>
 k (upd e 55 t55) w
theorem O_law07_WorldNumbers_R9_11_eq (k : Env → Go.World → Prop) (e : Env) (w : Go.World) : (match law07_WorldNumbers_R9[11]? with | some o => opsK prog law07_WorldNumbers_R9.toList [o] e w k | none => True) = O_law07_WorldNumbers_R9_11 k e w := by kernel_rfl
theorem O_law07_WorldNumbers_R9_11_on {k : Env → Go.World → Prop} {e : Env} {w : Go.World} {o : Oper} (ho : law07_WorldNumbers_R9[11]? = some o) (h : O_law07_WorldNumbers_R9_11 k e w) : opsK prog law07_WorldNumbers_R9.toList [o] e w k := by
  have := O_law07_WorldNumbers_R9_11_eq k e w
  rw [ho] at this
  exact Eq.mpr this h
def O_law07_WorldNumbers_R9_12 (k : Env → Go.World → Prop) (e : Env) (w : Go.World) : Prop :=
 k (upd e 43 (e 55)) w
theorem O_law07_WorldNumbers_R9_12_eq (k : Env → Go.World → Prop) (e : Env) (w : Go.World) : (match law07_WorldNumbers_R9[12]? with | some o => opsK prog law07_WorldNumbers_R9.toList [o] e w k | none => True) = O_law07_WorldNumbers_R9_12 k e w := by kernel_rfl
theorem O_law07_WorldNumbers_R9_12_on {k : Env → Go.World → Prop} {e : Env} {w : Go.World} {o : Oper} (ho : law07_WorldNumbers_R9[12]? = some o) (h : O_law07_WorldNumbers_R9_12 k e w) : opsK prog law07_WorldNumbers_R9.toList [o] e w k := by
  have := O_law07_WorldNumbers_R9_12_eq k e w
  rw [ho] at this
  exact Eq.mpr this h
def O_law07_WorldNumbers_R9_13 (k : Env → Go.World → Prop) (e : Env) (w : Go.World) : Prop :=
 extractK (e 43) 0 fun t56 =>
 k (upd e 56 t56) w
theorem O_law07_WorldNumbers_R9_13_eq (k : Env → Go.World → Prop) (e : Env) (w : Go.World) : (match law07_WorldNumbers_R9[13]? with | some o => opsK prog law07_WorldNumbers_R9.toList [o] e w k | none => True) = O_law07_WorldNumbers_R9_13 k e w := by kernel_rfl
theorem O_law07_WorldNumbers_R9_13_on {k : Env → Go.World → Prop} {e : Env} {w : Go.World} {o : Oper} (ho : law07_WorldNumbers_R9[13]? = some o) (h : O_law07_WorldNumbers_R9_13 k e w) : opsK prog law07_WorldNumbers_R9.toList [o] e w k := by
  have := O_law07_WorldNumbers_R9_13_eq k e w
  rw [ho] at this
  exact Eq.mpr this h
def O_law07_WorldNumbers_R9_14 (k : Env → Go.World → Prop) (e : Env) (w : Go.World) : Prop :=
 extractK (e 43) 1 fun t57 =>
 k (upd e 57 t57) w
theorem O_law07_WorldNumbers_R9_14_eq (k : Env → Go.World → Prop) (e : Env) (w : Go.World) : (match law07_WorldNumbers_R9[14]? with | some o => opsK prog law07_WorldNumbers_R9.toList [o] e w k | none => True) = O_law07_WorldNumbers_R9_14 k e w := by kernel_rfl
theorem O_law07_WorldNumbers_R9_14_on {k : Env → Go.World → Prop} {e : Env} {w : Go.World} {o : Oper} (ho : law07_WorldNumbers_R9[14]? = some o) (h : O_law07_WorldNumbers_R9_14 k e w) : opsK prog law07_WorldNumbers_R9.toList [o] e w k := by
  have := O_law07_WorldNumbers_R9_14_eq k e w
  rw [ho] at this
  exact Eq.mpr this h
def O_law07_WorldNumbers_R9_15 (k : Env → Go.World → Prop) (e : Env) (w : Go.World) : Prop :=
 k (upd e 12 (e 56)) w
theorem O_law07_WorldNumbers_R9_15_eq (k : Env → Go.World → Prop) (e : Env) (w : Go.World) : (match law07_WorldNumbers_R9[15]? with | some o => opsK prog law07_WorldNumbers_R9.toList [o] e w k | none => True) = O_law07_WorldNumbers_R9_15 k e w := by kernel_rfl
theorem O_law07_WorldNumbers_R9_15_on {k : Env → Go.World → Prop} {e : Env} {w : Go.World} {o : Oper} (ho : law07_WorldNumbers_R9[15]? = some o) (h : O_law07_WorldNumbers_R9_15 k e w) : opsK prog law07_WorldNumbers_R9.toList [o] e w k := by
  have := O_law07_WorldNumbers_R9_15_eq k e w
  rw [ho] at this
  exact Eq.mpr this h
def O_law07_WorldNumbers_R9_16 (k : Env → Go.World → Prop) (e : Env) (w : Go.World) : Prop :=
 k (upd e 13 (e 57)) w
theorem O_law07_WorldNumbers_R9_16_eq (k : Env → Go.World → Prop) (e : Env) (w : Go.World) : (match law07_WorldNumbers_R9[16]? with | some o => opsK prog law07_WorldNumbers_R9.toList [o] e w k | none => True) = O_law07_WorldNumbers_R9_16 k e w := by kernel_rfl
theorem O_law07_WorldNumbers_R9_16_on {k : Env → Go.World → Prop} {e : Env} {w : Go.World} {o : Oper} (ho : law07_WorldNumbers_R9[16]? = some o) (h : O_law07_WorldNumbers_R9_16 k e w) : opsK prog law07_WorldNumbers_R9.toList [o] e w k := by
  have := O_law07_WorldNumbers_R9_16_eq k e w
  rw [ho] at this
  exact Eq.mpr this h
/-- postern/posternlaw07.WorldNumbers -/
def F_law07_WorldNumbers (a0 : Go.Value) (a1 : Go.Value) (a2 : Go.Value) (w : Go.World) (R : Go.Value → Go.World → Prop) : Prop :=
 callOn prog fn_world_New #[a0] w fun t16 w =>
 extractK t16 0 fun t17 =>
 extractK t16 1 fun t18 =>
 binI Go.BinOp.neq t18 (Go.Value.int Go.IntKind.i64 0) fun t20 =>
 gopK t20 false (fun k => k t17 w) w fun t22 w =>
 gopK t20 false (fun k => binP Go.BinOp.eql t22 (Go.Value.pointer .none) fun v => k v w) w fun t23 w =>
 pickK t20 (Go.Value.bool true) t23 fun t24 =>
 condK t24
 (callOn prog fn_law07_lives #[] w fun t25 w =>
 R t25 w)
 (loopK (fun k1 e1 w =>
 lenL (e1 1) fun t28 =>
 binI Go.BinOp.lss (e1 10) t28 fun t29 =>
 gopK t29 true (fun k => k (e1 10) w) w fun t31 w =>
 gopK t29 true (fun k => binI Go.BinOp.lss t31 (Go.Value.int Go.IntKind.i64 300) fun v => k v w) w fun t32 w =>
 pickK t29 t32 (Go.Value.bool false) fun t33 =>
 condK t33
 (let J2 : Env → Go.World → Prop := fun e2 w =>
 (binI Go.BinOp.add (e2 10) (Go.Value.int Go.IntKind.i64 1) fun t35 =>
 k1 (upd (upd (upd e2 34 (e2 10)) 35 t35) 10 t35) w)
 let J3 : Env → Go.World → Prop := fun e3 w =>
 (J2 e3 w)
 buildA (Go.Value.agg #[(Go.Value.int Go.IntKind.u8 0), (Go.Value.int Go.IntKind.u8 0), (Go.Value.int Go.IntKind.u8 0), (Go.Value.int Go.IntKind.u8 0), (Go.Value.int Go.IntKind.u8 0)]) 1 [(0, (Go.Value.int Go.IntKind.u8 1)), (1, (Go.Value.int Go.IntKind.u8 2)), (2, (Go.Value.int Go.IntKind.u8 3)), (3, (Go.Value.int Go.IntKind.u8 8)), (4, (Go.Value.int Go.IntKind.u8 13))] fun t36 =>
 indexS 1 (e1 1) (e1 10) fun t39 =>
 load1 t39 w fun t40 =>
 binI Go.BinOp.rem t40 (Go.Value.int Go.IntKind.u8 5) fun t41 =>
 indexV1 5 1 t36 t41 fun t42 =>
 drawK prog law07_WorldNumbers_R9 (upd (upd (upd (upd (upd (upd (upd (upd (upd (upd (upd (upd (upd (upd (upd (upd e1 26 (e1 10)) 27 (e1 1)) 28 t28) 29 t29) 30 t29) 31 t31) 32 t32) 33 t33) 36 t36) 37 (e1 1)) 38 (e1 10)) 39 t39) 40 t40) 41 t41) 42 t42) 11 t42) w.drew fun e4 w =>
 binI Go.BinOp.neq (e4 13) (Go.Value.int Go.IntKind.i64 0) fun t59 =>
 gopK t59 false (fun k => k (e4 12) w) w fun t61 w =>
 gopK t59 false (fun k => k (e4 9) w) w fun t62 w =>
 gopK t59 false (fun k => binI Go.BinOp.add t62 (Go.Value.int Go.IntKind.i64 1) fun v => k v w) w fun t63 w =>
 gopK t59 false (fun k => binI Go.BinOp.neq t61 t63 fun v => k v w) w fun t64 w =>
 pickK t59 (Go.Value.bool true) t64 fun t65 =>
 gopK t65 false (fun k => k (e4 7) w) w fun t67 w =>
 gopK t65 false (fun k => k (e4 12) w) w fun t68 w =>
 gopK t65 false (fun k => callOn prog fn_World_Is #[t67, t68] w k) w fun t69 w =>
 gopK t65 false (fun k => unK Go.UnOp.not t69 fun v => k v w) w fun t70 w =>
 pickK t65 (Go.Value.bool true) t70 fun t71 =>
 gopK t71 false (fun k => k (e4 7) w) w fun t73 w =>
 gopK t71 false (fun k => k (e4 12) w) w fun t74 w =>
 gopK t71 false (fun k => callOn prog fn_World_Kind #[t73, t74] w k) w fun t75 w =>
 gopK t71 false (fun k => k (e4 11) w) w fun t76 w =>
 gopK t71 false (fun k => binI Go.BinOp.neq t75 t76 fun v => k v w) w fun t77 w =>
 pickK t71 (Go.Value.bool true) t77 fun t78 =>
 condK t78
 (R (Go.Value.bool false) w)
 (lenL (e4 2) fun t82 =>
 binI Go.BinOp.lss (e4 10) t82 fun t83 =>
 gopK t83 true (fun k => k (e4 2) w) w fun t85 w =>
 gopK t83 true (fun k => k (e4 10) w) w fun t86 w =>
 gopK t83 true (fun k => indexS 1 t85 t86 fun v => k v w) w fun t87 w =>
 gopK t83 true (fun k => load1 t87 w fun v => k v w) w fun t88 w =>
 pickK t83 t88 (Go.Value.bool false) fun t89 =>
 condK t89
 (buildL 40 1 (Go.Value.int Go.IntKind.i64 0) 1 [(0, (e4 12))] w fun t92 w =>
 callOn prog fn_World_Drop #[(e4 7), t92] w fun t93 w =>
 binI Go.BinOp.neq t93 (Go.Value.int Go.IntKind.i64 0) fun t94 =>
 gopK t94 false (fun k => k (e4 7) w) w fun t96 w =>
 gopK t94 false (fun k => k (e4 12) w) w fun t97 w =>
 gopK t94 false (fun k => callOn prog fn_World_Is #[t96, t97] w k) w fun t98 w =>
 pickK t94 (Go.Value.bool true) t98 fun t99 =>
 gopK t99 false (fun k => k (e4 7) w) w fun t101 w =>
 gopK t99 false (fun k => k (e4 12) w) w fun t102 w =>
 gopK t99 false (fun k => buildL 40 1 (Go.Value.int Go.IntKind.i64 0) 1 [(0, t102)] w k) w fun t103 w =>
 gopK t99 false (fun k => callOn prog fn_World_Drop #[t101, t103] w k) w fun t104 w =>
 gopK t99 false (fun k => binI Go.BinOp.neq t104 (Go.Value.int Go.IntKind.i64 5) fun v => k v w) w fun t105 w =>
 pickK t99 (Go.Value.bool true) t105 fun t106 =>
 condK t106
 (R (Go.Value.bool false) w)
 (J3 (upd (upd (upd (upd (upd (upd (upd (upd (upd (upd (upd (upd (upd (upd (upd (upd (upd (upd (upd (upd (upd (upd (upd (upd (upd (upd (upd (upd (upd (upd (upd (upd (upd (upd (upd (upd (upd (upd (upd (upd (upd (upd (upd (upd (upd (upd (upd (upd (upd (upd e4 58 (e4 13)) 59 t59) 60 t59) 61 t61) 62 t62) 63 t63) 64 t64) 65 t65) 66 t65) 67 t67) 68 t68) 69 t69) 70 t70) 71 t71) 72 t71) 73 t73) 74 t74) 75 t75) 76 t76) 77 t77) 78 t78) 79 (e4 12)) 9 (e4 12)) 80 (e4 10)) 81 (e4 2)) 82 t82) 83 t83) 84 t83) 85 t85) 86 t86) 87 t87) 88 t88) 89 t89) 90 (e4 7)) 91 (e4 12)) 92 t92) 93 t93) 94 t94) 95 t94) 96 t96) 97 t97) 98 t98) 99 t99) 100 t99) 101 t101) 102 t102) 103 t103) 104 t104) 105 t105) 106 t106) w))
 (J3 (upd (upd (upd (upd (upd (upd (upd (upd (upd (upd (upd (upd (upd (upd (upd (upd (upd (upd (upd (upd (upd (upd (upd (upd (upd (upd (upd (upd (upd (upd (upd (upd (upd e4 58 (e4 13)) 59 t59) 60 t59) 61 t61) 62 t62) 63 t63) 64 t64) 65 t65) 66 t65) 67 t67) 68 t68) 69 t69) 70 t70) 71 t71) 72 t71) 73 t73) 74 t74) 75 t75) 76 t76) 77 t77) 78 t78) 79 (e4 12)) 9 (e4 12)) 80 (e4 10)) 81 (e4 2)) 82 t82) 83 t83) 84 t83) 85 t85) 86 t86) 87 t87) 88 t88) 89 t89) w)))
 (callOn prog fn_law07_lives #[] w fun t107 w =>
 R t107 w)) (upd (upd (upd (upd (upd (upd (upd (upd (upd (upd (upd (upd (upd (upd (upd (upd (start [a0, a1, a2]) 6 (Go.Value.bool false)) 15 a0) 16 t16) 14 t16) 17 t17) 18 t18) 7 t17) 8 t18) 19 t18) 20 t20) 21 t20) 22 t22) 23 t23) 24 t24) 9 (Go.Value.int Go.IntKind.i64 0)) 10 (Go.Value.int Go.IntKind.i64 0)) w)
theorem F_law07_WorldNumbers_eq (a0 : Go.Value) (a1 : Go.Value) (a2 : Go.Value) (w : Go.World) (R : Go.Value → Go.World → Prop) : cK prog (bodyOf Try.f7) (resK prog Try.f7.results.toList R) (start [a0, a1, a2]) w = F_law07_WorldNumbers a0 a1 a2 w R := by kernel_rfl
theorem F_law07_WorldNumbers_on (a0 : Go.Value) (a1 : Go.Value) (a2 : Go.Value) (w : Go.World) (k : Go.Value → Go.World → Prop) (h : F_law07_WorldNumbers a0 a1 a2 w k) : callOn prog fn_law07_WorldNumbers #[a0, a1, a2] w k :=
  calls_list (args := [a0, a1, a2]) mixed Try.func7 (by kernel_rfl) (by kernel_rfl) (Eq.mpr (F_law07_WorldNumbers_eq a0 a1 a2 w _) (Eq.mpr (congrArg (F_law07_WorldNumbers a0 a1 a2 w) (on_eq k)) h))


/-- postern/posternlaw07.WorldMoney -/
def F_law07_WorldMoney (a0 : Go.Value) (a1 : Go.Value) (w : Go.World) (R : Go.Value → Go.World → Prop) : Prop :=
 callOn prog fn_world_New #[(Go.Value.slice .none 0 0)] w fun t18 w =>
 extractK t18 0 fun t19 =>
 extractK t18 1 fun t20 =>
 binI Go.BinOp.neq t20 (Go.Value.int Go.IntKind.i64 0) fun t22 =>
 gopK t22 false (fun k => k t19 w) w fun t24 w =>
 gopK t22 false (fun k => binP Go.BinOp.eql t24 (Go.Value.pointer .none) fun v => k v w) w fun t25 w =>
 pickK t22 (Go.Value.bool true) t25 fun t26 =>
 gopK t26 false (fun k => k a0 w) w fun t28 w =>
 gopK t26 false (fun k => lenL t28 fun v => k v w) w fun t29 w =>
 gopK t26 false (fun k => binI Go.BinOp.gtr t29 (Go.Value.int Go.IntKind.i64 200) fun v => k v w) w fun t30 w =>
 pickK t26 (Go.Value.bool true) t30 fun t31 =>
 condK t31
 (binP Go.BinOp.neq t19 (Go.Value.pointer .none) fun t33 =>
 gopK t33 true (fun k => callOn prog fn_law07_lives #[] w k) w fun t35 w =>
 pickK t33 t35 (Go.Value.bool false) fun t36 =>
 R t36 w)
 (loopK (fun k1 e1 w =>
 lenL (e1 0) fun t39 =>
 binI Go.BinOp.lss (e1 8) t39 fun t40 =>
 condK t40
 (indexS 1 (e1 0) (e1 8) fun t46 =>
 load1 t46 w fun t47 =>
 convI Go.IntKind.i64 t47 fun t48 =>
 binI Go.BinOp.add (e1 7) t48 fun t49 =>
 binI Go.BinOp.add (e1 8) (Go.Value.int Go.IntKind.i64 1) fun t42 =>
 k1 (upd (upd (upd (upd (upd (upd (upd (upd (upd (upd (upd (upd (upd (upd (upd e1 37 (e1 8)) 38 (e1 0)) 39 t39) 40 t40) 43 (e1 7)) 44 (e1 0)) 45 (e1 8)) 46 t46) 47 t47) 48 t48) 49 t49) 7 t49) 41 (e1 8)) 42 t42) 8 t42) w)
 (buildS (Go.Value.agg #[(Go.Value.int Go.IntKind.u8 0), (Go.Value.int Go.IntKind.i64 0), (Go.Value.int Go.IntKind.u8 0), (Go.Value.int Go.IntKind.i64 0), (Go.Value.string { data := #[] }), (Go.Value.slice .none 0 0), (Go.Value.int Go.IntKind.i64 0), (Go.Value.slice .none 0 0), (Go.Value.int Go.IntKind.i64 0), (Go.Value.int Go.IntKind.i64 0), (Go.Value.int Go.IntKind.i64 0), (Go.Value.int Go.IntKind.i64 0), (Go.Value.int Go.IntKind.u8 0), (Go.Value.bool false), (Go.Value.slice .none 0 0), (Go.Value.slice .none 0 0)]) [(0, 1), (1, 1), (2, 5), (7, 1), (8, 1), (9, 1), (10, 1), (11, 1), (12, 1), (13, 1), (14, 1), (15, 1)] [(0, (Go.Value.int Go.IntKind.u8 8)), (4, (e1 7))] fun t53 =>
 callOn prog fn_World_Make #[(e1 5), t53] w fun t54 w =>
 extractK t54 0 fun t55 =>
 extractK t54 1 fun t56 =>
 binI Go.BinOp.neq t56 (Go.Value.int Go.IntKind.i64 0) fun t58 =>
 condK t58
 (R (Go.Value.bool false) w)
 (loopK (fun k2 e2 w =>
 lenL (e2 0) fun t61 =>
 binI Go.BinOp.lss (e2 12) t61 fun t62 =>
 condK t62
 (let J3 : Env → Go.World → Prop := fun e3 w =>
 (binI Go.BinOp.add (e3 12) (Go.Value.int Go.IntKind.i64 1) fun t64 =>
 k2 (upd (upd (upd e3 63 (e3 12)) 64 t64) 12 t64) w)
 let J4 : Env → Go.World → Prop := fun e4 w =>
 (J3 e4 w)
 indexS 1 (e2 0) (e2 12) fun t70 =>
 load1 t70 w fun t71 =>
 convI Go.IntKind.i64 t71 fun t72 =>
 buildS (Go.Value.agg #[(Go.Value.int Go.IntKind.u8 0), (Go.Value.int Go.IntKind.i64 0), (Go.Value.int Go.IntKind.u8 0), (Go.Value.int Go.IntKind.i64 0), (Go.Value.string { data := #[] }), (Go.Value.slice .none 0 0), (Go.Value.int Go.IntKind.i64 0), (Go.Value.slice .none 0 0), (Go.Value.int Go.IntKind.i64 0), (Go.Value.int Go.IntKind.i64 0), (Go.Value.int Go.IntKind.i64 0), (Go.Value.int Go.IntKind.i64 0), (Go.Value.int Go.IntKind.u8 0), (Go.Value.bool false), (Go.Value.slice .none 0 0), (Go.Value.slice .none 0 0)]) [(0, 1), (1, 1), (2, 5), (7, 1), (8, 1), (9, 1), (10, 1), (11, 1), (12, 1), (13, 1), (14, 1), (15, 1)] [(0, (Go.Value.int Go.IntKind.u8 9)), (6, (e2 9)), (4, t72)] fun t73 =>
 callOn prog fn_World_Make #[(e2 5), t73] w fun t74 w =>
 extractK t74 0 fun t75 =>
 extractK t74 1 fun t76 =>
 binI Go.BinOp.neq t76 (Go.Value.int Go.IntKind.i64 0) fun t78 =>
 condK t78
 (R (Go.Value.bool false) w)
 (lenL (e2 1) fun t81 =>
 binI Go.BinOp.lss (e2 12) t81 fun t82 =>
 gopK t82 true (fun k => k (e2 1) w) w fun t84 w =>
 gopK t82 true (fun k => k (e2 12) w) w fun t85 w =>
 gopK t82 true (fun k => indexS 1 t84 t85 fun v => k v w) w fun t86 w =>
 gopK t82 true (fun k => load1 t86 w fun v => k v w) w fun t87 w =>
 pickK t82 t87 (Go.Value.bool false) fun t88 =>
 condK t88
 (indexS 1 (e2 0) (e2 12) fun t92 =>
 load1 t92 w fun t93 =>
 convI Go.IntKind.i64 t93 fun t94 =>
 binI Go.BinOp.add (e2 11) t94 fun t95 =>
 buildL 40 1 (Go.Value.int Go.IntKind.i64 0) 1 [(0, t75)] w fun t98 w =>
 callOn prog fn_World_Drop #[(e2 5), t98] w fun t99 w =>
 binI Go.BinOp.neq t99 (Go.Value.int Go.IntKind.i64 0) fun t100 =>
 condK t100
 (R (Go.Value.bool false) w)
 (J4 (upd (upd (upd (upd (upd (upd (upd (upd (upd (upd (upd (upd (upd (upd (upd (upd (upd (upd (upd (upd (upd (upd (upd (upd (upd (upd (upd (upd (upd (upd (upd (upd (upd (upd (upd (upd (upd (upd (upd (upd (upd (upd (upd e2 59 (e2 12)) 60 (e2 0)) 61 t61) 62 t62) 66 (e2 5)) 67 (e2 9)) 68 (e2 0)) 69 (e2 12)) 70 t70) 71 t71) 72 t72) 73 t73) 74 t74) 65 t74) 75 t75) 76 t76) 13 t75) 14 t76) 77 t76) 78 t78) 79 (e2 12)) 80 (e2 1)) 81 t81) 82 t82) 83 t82) 84 t84) 85 t85) 86 t86) 87 t87) 88 t88) 89 (e2 11)) 90 (e2 0)) 91 (e2 12)) 92 t92) 93 t93) 94 t94) 95 t95) 11 t95) 96 (e2 5)) 97 t75) 98 t98) 99 t99) 100 t100) w))
 (J4 (upd (upd (upd (upd (upd (upd (upd (upd (upd (upd (upd (upd (upd (upd (upd (upd (upd (upd (upd (upd (upd (upd (upd (upd (upd (upd (upd (upd (upd (upd e2 59 (e2 12)) 60 (e2 0)) 61 t61) 62 t62) 66 (e2 5)) 67 (e2 9)) 68 (e2 0)) 69 (e2 12)) 70 t70) 71 t71) 72 t72) 73 t73) 74 t74) 65 t74) 75 t75) 76 t76) 13 t75) 14 t76) 77 t76) 78 t78) 79 (e2 12)) 80 (e2 1)) 81 t81) 82 t82) 83 t82) 84 t84) 85 t85) 86 t86) 87 t87) 88 t88) w)))
 (callOn prog fn_World_What #[(e2 5), (e2 9)] w fun t104 w =>
 extractK t104 0 fun t105 =>
 extractK t104 1 fun t106 =>
 allocZ (Go.Value.agg #[(Go.Value.int Go.IntKind.u8 0), (Go.Value.int Go.IntKind.i64 0), (Go.Value.int Go.IntKind.u8 0), (Go.Value.int Go.IntKind.i64 0), (Go.Value.string { data := #[] }), (Go.Value.slice .none 0 0), (Go.Value.int Go.IntKind.i64 0), (Go.Value.slice .none 0 0), (Go.Value.int Go.IntKind.i64 0), (Go.Value.int Go.IntKind.i64 0), (Go.Value.int Go.IntKind.i64 0), (Go.Value.int Go.IntKind.i64 0), (Go.Value.int Go.IntKind.u8 0), (Go.Value.bool false), (Go.Value.slice .none 0 0), (Go.Value.slice .none 0 0)]) 52 w fun t15 w =>
 storeN 16 t15 t105 w fun w =>
 binI Go.BinOp.eql t106 (Go.Value.int Go.IntKind.i64 0) fun t108 =>
 gopK t108 true (fun k => fieldA 8 t15 fun v => k v w) w fun t110 w =>
 gopK t108 true (fun k => load1 t110 w fun v => k v w) w fun t111 w =>
 gopK t108 true (fun k => k (e2 7) w) w fun t112 w =>
 gopK t108 true (fun k => binI Go.BinOp.eql t111 t112 fun v => k v w) w fun t113 w =>
 pickK t108 t113 (Go.Value.bool false) fun t114 =>
 gopK t114 true (fun k => fieldA 9 t15 fun v => k v w) w fun t116 w =>
 gopK t114 true (fun k => load1 t116 w fun v => k v w) w fun t117 w =>
 gopK t114 true (fun k => k (e2 11) w) w fun t118 w =>
 gopK t114 true (fun k => binI Go.BinOp.eql t117 t118 fun v => k v w) w fun t119 w =>
 pickK t114 t119 (Go.Value.bool false) fun t120 =>
 gopK t120 true (fun k => k (e2 5) w) w fun t122 w =>
 gopK t120 true (fun k => k (e2 9) w) w fun t123 w =>
 gopK t120 true (fun k => buildL 40 1 (Go.Value.int Go.IntKind.i64 0) 1 [(0, t123)] w k) w fun t124 w =>
 gopK t120 true (fun k => callOn prog fn_World_Drop #[t122, t124] w k) w fun t125 w =>
 gopK t120 true (fun k => binI Go.BinOp.eql t125 (Go.Value.int Go.IntKind.i64 72) fun v => k v w) w fun t126 w =>
 gopK t120 true (fun k => k (e2 5) w) w fun t127 w =>
 gopK t120 true (fun k => callOn prog fn_World_Len #[t127] w k) w fun t128 w =>
 gopK t120 true (fun k => binI Go.BinOp.gtr t128 (Go.Value.int Go.IntKind.i64 1) fun v => k v w) w fun t129 w =>
 gopK t120 true (fun k => binB Go.BinOp.eql t126 t129 fun v => k v w) w fun t130 w =>
 pickK t120 t130 (Go.Value.bool false) fun t131 =>
 gopK t131 true (fun k => callOn prog fn_law07_lives #[] w k) w fun t133 w =>
 pickK t131 t133 (Go.Value.bool false) fun t134 =>
 R t134 w)) (upd (upd (upd (upd (upd (upd (upd (upd (upd (upd (upd (upd (upd (upd (upd (upd (upd e1 37 (e1 8)) 38 (e1 0)) 39 t39) 40 t40) 51 (e1 5)) 52 (e1 7)) 53 t53) 54 t54) 50 t54) 55 t55) 56 t56) 9 t55) 10 t56) 57 t56) 58 t58) 11 (Go.Value.int Go.IntKind.i64 0)) 12 (Go.Value.int Go.IntKind.i64 0)) w))) (upd (upd (upd (upd (upd (upd (upd (upd (upd (upd (upd (upd (upd (upd (upd (upd (upd (upd (upd (upd (start [a0, a1]) 4 (Go.Value.bool false)) 18 t18) 17 t18) 19 t19) 20 t20) 5 t19) 6 t20) 21 t20) 22 t22) 23 t22) 24 t24) 25 t25) 26 t26) 27 t26) 28 t28) 29 t29) 30 t30) 31 t31) 7 (Go.Value.int Go.IntKind.i64 0)) 8 (Go.Value.int Go.IntKind.i64 0)) w)
theorem F_law07_WorldMoney_eq (a0 : Go.Value) (a1 : Go.Value) (w : Go.World) (R : Go.Value → Go.World → Prop) : cK prog (bodyOf Try.f8) (resK prog Try.f8.results.toList R) (start [a0, a1]) w = F_law07_WorldMoney a0 a1 w R := by kernel_rfl
theorem F_law07_WorldMoney_on (a0 : Go.Value) (a1 : Go.Value) (w : Go.World) (k : Go.Value → Go.World → Prop) (h : F_law07_WorldMoney a0 a1 w k) : callOn prog fn_law07_WorldMoney #[a0, a1] w k :=
  calls_list (args := [a0, a1]) mixed Try.func8 (by kernel_rfl) (by kernel_rfl) (Eq.mpr (F_law07_WorldMoney_eq a0 a1 w _) (Eq.mpr (congrArg (F_law07_WorldMoney a0 a1 w) (on_eq k)) h))


/-- postern/posternlaw07.WorldMany -/
def F_law07_WorldMany  (w : Go.World) (R : Go.Value → Go.World → Prop) : Prop :=
 makeS 25 1 8 (Go.Value.int Go.IntKind.i64 0) (Go.Value.int Go.IntKind.i64 15) (Go.Value.int Go.IntKind.i64 15) w fun t22 w =>
 callOn prog fn_world_New #[t22] w fun t23 w =>
 extractK t23 0 fun t24 =>
 extractK t23 1 fun t25 =>
 makeS 25 1 8 (Go.Value.int Go.IntKind.i64 0) (Go.Value.int Go.IntKind.i64 16) (Go.Value.int Go.IntKind.i64 16) w fun t27 w =>
 callOn prog fn_world_New #[t27] w fun t28 w =>
 extractK t28 0 fun t29 =>
 extractK t28 1 fun t30 =>
 buildL 25 1 (Go.Value.int Go.IntKind.i64 0) 1 [(0, (Go.Value.int Go.IntKind.i64 0))] w fun t32 w =>
 callOn prog fn_world_New #[t32] w fun t33 w =>
 extractK t33 0 fun t34 =>
 extractK t33 1 fun t35 =>
 binP Go.BinOp.eql t24 (Go.Value.pointer .none) fun t37 =>
 gopK t37 false (fun k => k t25 w) w fun t39 w =>
 gopK t37 false (fun k => binI Go.BinOp.neq t39 (Go.Value.int Go.IntKind.i64 0) fun v => k v w) w fun t40 w =>
 pickK t37 (Go.Value.bool true) t40 fun t41 =>
 gopK t41 false (fun k => k t29 w) w fun t43 w =>
 gopK t41 false (fun k => binP Go.BinOp.neq t43 (Go.Value.pointer .none) fun v => k v w) w fun t44 w =>
 pickK t41 (Go.Value.bool true) t44 fun t45 =>
 gopK t45 false (fun k => k t30 w) w fun t47 w =>
 gopK t45 false (fun k => binI Go.BinOp.neq t47 (Go.Value.int Go.IntKind.i64 71) fun v => k v w) w fun t48 w =>
 pickK t45 (Go.Value.bool true) t48 fun t49 =>
 gopK t49 false (fun k => k t34 w) w fun t51 w =>
 gopK t49 false (fun k => binP Go.BinOp.eql t51 (Go.Value.pointer .none) fun v => k v w) w fun t52 w =>
 pickK t49 (Go.Value.bool true) t52 fun t53 =>
 gopK t53 false (fun k => k t35 w) w fun t55 w =>
 gopK t53 false (fun k => binI Go.BinOp.neq t55 (Go.Value.int Go.IntKind.i64 0) fun v => k v w) w fun t56 w =>
 pickK t53 (Go.Value.bool true) t56 fun t57 =>
 condK t57
 (R (Go.Value.bool false) w)
 (loopK (fun k1 e1 w =>
 binI Go.BinOp.leq (e1 7) (Go.Value.int Go.IntKind.i64 512) fun t59 =>
 condK t59
 (buildS (Go.Value.agg #[(Go.Value.int Go.IntKind.u8 0), (Go.Value.int Go.IntKind.i64 0), (Go.Value.int Go.IntKind.u8 0), (Go.Value.int Go.IntKind.i64 0), (Go.Value.string { data := #[] }), (Go.Value.slice .none 0 0), (Go.Value.int Go.IntKind.i64 0), (Go.Value.slice .none 0 0), (Go.Value.int Go.IntKind.i64 0), (Go.Value.int Go.IntKind.i64 0), (Go.Value.int Go.IntKind.i64 0), (Go.Value.int Go.IntKind.i64 0), (Go.Value.int Go.IntKind.u8 0), (Go.Value.bool false), (Go.Value.slice .none 0 0), (Go.Value.slice .none 0 0)]) [(0, 1), (1, 1), (2, 5), (7, 1), (8, 1), (9, 1), (10, 1), (11, 1), (12, 1), (13, 1), (14, 1), (15, 1)] [(0, (Go.Value.int Go.IntKind.u8 1))] fun t64 =>
 callOn prog fn_World_Make #[(e1 5), t64] w fun t65 w =>
 extractK t65 0 fun t66 =>
 extractK t65 1 fun t67 =>
 binI Go.BinOp.neq t67 (Go.Value.int Go.IntKind.i64 0) fun t69 =>
 gopK t69 false (fun k => k t66 w) w fun t71 w =>
 gopK t69 false (fun k => k (e1 7) w) w fun t72 w =>
 gopK t69 false (fun k => binI Go.BinOp.neq t71 t72 fun v => k v w) w fun t73 w =>
 pickK t69 (Go.Value.bool true) t73 fun t74 =>
 condK t74
 (R (Go.Value.bool false) w)
 (binI Go.BinOp.add (e1 7) (Go.Value.int Go.IntKind.i64 1) fun t61 =>
 k1 (upd (upd (upd (upd (upd (upd (upd (upd (upd (upd (upd (upd (upd (upd (upd (upd (upd (upd (upd (upd e1 58 (e1 7)) 59 t59) 63 (e1 5)) 64 t64) 65 t65) 62 t65) 66 t66) 67 t67) 8 t66) 9 t67) 68 t67) 69 t69) 70 t69) 71 t71) 72 t72) 73 t73) 74 t74) 60 (e1 7)) 61 t61) 7 t61) w))
 (buildS (Go.Value.agg #[(Go.Value.int Go.IntKind.u8 0), (Go.Value.int Go.IntKind.i64 0), (Go.Value.int Go.IntKind.u8 0), (Go.Value.int Go.IntKind.i64 0), (Go.Value.string { data := #[] }), (Go.Value.slice .none 0 0), (Go.Value.int Go.IntKind.i64 0), (Go.Value.slice .none 0 0), (Go.Value.int Go.IntKind.i64 0), (Go.Value.int Go.IntKind.i64 0), (Go.Value.int Go.IntKind.i64 0), (Go.Value.int Go.IntKind.i64 0), (Go.Value.int Go.IntKind.u8 0), (Go.Value.bool false), (Go.Value.slice .none 0 0), (Go.Value.slice .none 0 0)]) [(0, 1), (1, 1), (2, 5), (7, 1), (8, 1), (9, 1), (10, 1), (11, 1), (12, 1), (13, 1), (14, 1), (15, 1)] [(0, (Go.Value.int Go.IntKind.u8 2))] fun t77 =>
 callOn prog fn_World_Make #[(e1 5), t77] w fun t78 w =>
 extractK t78 0 fun t79 =>
 extractK t78 1 fun t80 =>
 buildL 40 1 (Go.Value.int Go.IntKind.i64 0) 3 [(0, (Go.Value.int Go.IntKind.i64 1)), (1, (Go.Value.int Go.IntKind.i64 2)), (2, (Go.Value.int Go.IntKind.i64 3))] w fun t82 w =>
 callOn prog fn_World_Drop #[(e1 5), t82] w fun t83 w =>
 buildS (Go.Value.agg #[(Go.Value.int Go.IntKind.u8 0), (Go.Value.int Go.IntKind.i64 0), (Go.Value.int Go.IntKind.u8 0), (Go.Value.int Go.IntKind.i64 0), (Go.Value.string { data := #[] }), (Go.Value.slice .none 0 0), (Go.Value.int Go.IntKind.i64 0), (Go.Value.slice .none 0 0), (Go.Value.int Go.IntKind.i64 0), (Go.Value.int Go.IntKind.i64 0), (Go.Value.int Go.IntKind.i64 0), (Go.Value.int Go.IntKind.i64 0), (Go.Value.int Go.IntKind.u8 0), (Go.Value.bool false), (Go.Value.slice .none 0 0), (Go.Value.slice .none 0 0)]) [(0, 1), (1, 1), (2, 5), (7, 1), (8, 1), (9, 1), (10, 1), (11, 1), (12, 1), (13, 1), (14, 1), (15, 1)] [(0, (Go.Value.int Go.IntKind.u8 2))] fun t86 =>
 callOn prog fn_World_Make #[(e1 5), t86] w fun t87 w =>
 extractK t87 0 fun t88 =>
 extractK t87 1 fun t89 =>
 callOn prog fn_World_Facet #[(e1 5), (Go.Value.int Go.IntKind.i64 7), (Go.Value.int Go.IntKind.u8 1)] w fun t92 w =>
 extractK t92 0 fun t93 =>
 extractK t92 1 fun t94 =>
 makeS 47 5 64 (Go.Value.agg #[(Go.Value.int Go.IntKind.u8 0), (Go.Value.int Go.IntKind.i64 0), (Go.Value.string { data := #[] }), (Go.Value.slice .none 0 0), (Go.Value.int Go.IntKind.i64 0)]) (Go.Value.int Go.IntKind.i64 511) (Go.Value.int Go.IntKind.i64 511) w fun t97 w =>
 buildS (Go.Value.agg #[(Go.Value.int Go.IntKind.u8 0), (Go.Value.int Go.IntKind.i64 0), (Go.Value.int Go.IntKind.u8 0), (Go.Value.int Go.IntKind.i64 0), (Go.Value.string { data := #[] }), (Go.Value.slice .none 0 0), (Go.Value.int Go.IntKind.i64 0), (Go.Value.slice .none 0 0), (Go.Value.int Go.IntKind.i64 0), (Go.Value.int Go.IntKind.i64 0), (Go.Value.int Go.IntKind.i64 0), (Go.Value.int Go.IntKind.i64 0), (Go.Value.int Go.IntKind.u8 0), (Go.Value.bool false), (Go.Value.slice .none 0 0), (Go.Value.slice .none 0 0)]) [(0, 1), (1, 1), (2, 5), (7, 1), (8, 1), (9, 1), (10, 1), (11, 1), (12, 1), (13, 1), (14, 1), (15, 1)] [(0, (Go.Value.int Go.IntKind.u8 2)), (1, (Go.Value.int Go.IntKind.i64 1)), (3, t97)] fun t98 =>
 callOn prog fn_World_Make #[(e1 5), t98] w fun t99 w =>
 extractK t99 0 fun t100 =>
 extractK t99 1 fun t101 =>
 makeS 47 5 64 (Go.Value.agg #[(Go.Value.int Go.IntKind.u8 0), (Go.Value.int Go.IntKind.i64 0), (Go.Value.string { data := #[] }), (Go.Value.slice .none 0 0), (Go.Value.int Go.IntKind.i64 0)]) (Go.Value.int Go.IntKind.i64 512) (Go.Value.int Go.IntKind.i64 512) w fun t104 w =>
 buildS (Go.Value.agg #[(Go.Value.int Go.IntKind.u8 0), (Go.Value.int Go.IntKind.i64 0), (Go.Value.int Go.IntKind.u8 0), (Go.Value.int Go.IntKind.i64 0), (Go.Value.string { data := #[] }), (Go.Value.slice .none 0 0), (Go.Value.int Go.IntKind.i64 0), (Go.Value.slice .none 0 0), (Go.Value.int Go.IntKind.i64 0), (Go.Value.int Go.IntKind.i64 0), (Go.Value.int Go.IntKind.i64 0), (Go.Value.int Go.IntKind.i64 0), (Go.Value.int Go.IntKind.u8 0), (Go.Value.bool false), (Go.Value.slice .none 0 0), (Go.Value.slice .none 0 0)]) [(0, 1), (1, 1), (2, 5), (7, 1), (8, 1), (9, 1), (10, 1), (11, 1), (12, 1), (13, 1), (14, 1), (15, 1)] [(0, (Go.Value.int Go.IntKind.u8 2)), (1, (Go.Value.int Go.IntKind.i64 1)), (3, t104)] fun t105 =>
 callOn prog fn_World_Make #[(e1 5), t105] w fun t106 w =>
 extractK t106 0 fun t107 =>
 extractK t106 1 fun t108 =>
 binI Go.BinOp.eql t80 (Go.Value.int Go.IntKind.i64 8) fun t110 =>
 gopK t110 true (fun k => k t83 w) w fun t112 w =>
 gopK t110 true (fun k => binI Go.BinOp.eql t112 (Go.Value.int Go.IntKind.i64 0) fun v => k v w) w fun t113 w =>
 pickK t110 t113 (Go.Value.bool false) fun t114 =>
 gopK t114 true (fun k => k t89 w) w fun t116 w =>
 gopK t114 true (fun k => binI Go.BinOp.eql t116 (Go.Value.int Go.IntKind.i64 8) fun v => k v w) w fun t117 w =>
 pickK t114 t117 (Go.Value.bool false) fun t118 =>
 gopK t118 true (fun k => k t93 w) w fun t120 w =>
 gopK t118 true (fun k => binI Go.BinOp.eql t120 (Go.Value.int Go.IntKind.i64 513) fun v => k v w) w fun t121 w =>
 pickK t118 t121 (Go.Value.bool false) fun t122 =>
 gopK t122 true (fun k => k t94 w) w fun t124 w =>
 gopK t122 true (fun k => binI Go.BinOp.eql t124 (Go.Value.int Go.IntKind.i64 0) fun v => k v w) w fun t125 w =>
 pickK t122 t125 (Go.Value.bool false) fun t126 =>
 gopK t126 true (fun k => k t100 w) w fun t128 w =>
 gopK t126 true (fun k => binI Go.BinOp.eql t128 (Go.Value.int Go.IntKind.i64 514) fun v => k v w) w fun t129 w =>
 pickK t126 t129 (Go.Value.bool false) fun t130 =>
 gopK t130 true (fun k => k t101 w) w fun t132 w =>
 gopK t130 true (fun k => binI Go.BinOp.eql t132 (Go.Value.int Go.IntKind.i64 0) fun v => k v w) w fun t133 w =>
 pickK t130 t133 (Go.Value.bool false) fun t134 =>
 gopK t134 true (fun k => k t108 w) w fun t136 w =>
 gopK t134 true (fun k => binI Go.BinOp.eql t136 (Go.Value.int Go.IntKind.i64 70) fun v => k v w) w fun t137 w =>
 pickK t134 t137 (Go.Value.bool false) fun t138 =>
 gopK t138 true (fun k => k (e1 5) w) w fun t140 w =>
 gopK t138 true (fun k => callOn prog fn_World_Made #[t140, (Go.Value.int Go.IntKind.i64 0)] w k) w fun t141 w =>
 gopK t138 true (fun k => binI Go.BinOp.eql t141 (Go.Value.int Go.IntKind.i64 512) fun v => k v w) w fun t142 w =>
 pickK t138 t142 (Go.Value.bool false) fun t143 =>
 gopK t143 true (fun k => k (e1 5) w) w fun t145 w =>
 gopK t143 true (fun k => callOn prog fn_World_Len #[t145] w k) w fun t146 w =>
 gopK t143 true (fun k => binI Go.BinOp.eql t146 (Go.Value.int Go.IntKind.i64 511) fun v => k v w) w fun t147 w =>
 pickK t143 t147 (Go.Value.bool false) fun t148 =>
 gopK t148 true (fun k => callOn prog fn_law07_lives #[] w k) w fun t150 w =>
 pickK t148 t150 (Go.Value.bool false) fun t151 =>
 R t151 w)) (upd (upd (upd (upd (upd (upd (upd (upd (upd (upd (upd (upd (upd (upd (upd (upd (upd (upd (upd (upd (upd (upd (upd (upd (upd (upd (upd (upd (upd (upd (upd (upd (upd (upd (upd (upd (upd (upd (upd (upd (upd (upd (upd (upd (upd (start []) 0 (Go.Value.bool false)) 22 t22) 23 t23) 21 t23) 24 t24) 25 t25) 1 t24) 2 t25) 27 t27) 28 t28) 26 t28) 29 t29) 30 t30) 3 t29) 4 t30) 32 t32) 33 t33) 31 t33) 34 t34) 35 t35) 5 t34) 6 t35) 36 t24) 37 t37) 38 t37) 39 t39) 40 t40) 41 t41) 42 t41) 43 t43) 44 t44) 45 t45) 46 t45) 47 t47) 48 t48) 49 t49) 50 t49) 51 t51) 52 t52) 53 t53) 54 t53) 55 t55) 56 t56) 57 t57) 7 (Go.Value.int Go.IntKind.i64 1)) w)
theorem F_law07_WorldMany_eq  (w : Go.World) (R : Go.Value → Go.World → Prop) : cK prog (bodyOf Try.f6) (resK prog Try.f6.results.toList R) (start []) w = F_law07_WorldMany  w R := by kernel_rfl
theorem F_law07_WorldMany_on  (w : Go.World) (k : Go.Value → Go.World → Prop) (h : F_law07_WorldMany  w k) : callOn prog fn_law07_WorldMany #[] w k :=
  calls_list (args := []) mixed Try.func6 (by kernel_rfl) (by kernel_rfl) (Eq.mpr (F_law07_WorldMany_eq  w _) (Eq.mpr (congrArg (F_law07_WorldMany  w) (on_eq k)) h))


end Go.X
