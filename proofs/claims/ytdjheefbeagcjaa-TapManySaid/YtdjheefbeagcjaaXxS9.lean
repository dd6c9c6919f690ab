/- The calculator's word on functions of this program, each with its proof: written by a program of this family (shallow.py). -/
import Derived.Test.YtdjheefbeagcjaaXxP
import Derived.Test.YtdjheefbeagcjaaXxX
set_option linter.unusedVariables false
set_option maxRecDepth 100000
namespace Go.X
open Go Go.Proofs
/-- (*postern/world.World).Lay -/
def F_World_Lay (a0 : Go.Value) (a1 : Go.Value) (a2 : Go.Value) (w : Go.World) (R : Go.Value → Go.World → Prop) : Prop :=
 boxK 52 a2 w fun t5 w =>
 callOn prog fn_World_none #[a0] w fun t9 w =>
 condK t9
 (R (Go.Value.int Go.IntKind.i64 1) w)
 (callOn prog fn_World_Is #[a0, a1] w fun t12 w =>
 unK Go.UnOp.not t12 fun t13 =>
 condK t13
 (R (Go.Value.int Go.IntKind.i64 5) w)
 (nilK a0 fun t15 =>
 fieldA 2 t15 fun t16 =>
 load1 t16 w fun t17 =>
 lookM false (Go.Value.pointer .none) t17 a1 false w fun t19 =>
 atDrew w fun (w : Go.World) =>
 fieldA 0 t5 fun t20 =>
 load1 t20 w fun t21 =>
 nilK t19 fun t23 =>
 fieldA 0 t23 fun t24 =>
 load1 t24 w fun t25 =>
 binI Go.BinOp.neq t21 t25 fun t26 =>
 gopK t26 false (fun k => fieldA 1 t5 fun v => k v w) w fun t28 w =>
 gopK t26 false (fun k => load1 t28 w fun v => k v w) w fun t29 w =>
 gopK t26 false (fun k => k t19 w) w fun t30 w =>
 gopK t26 false (fun k => nilK t30 fun v => k v w) w fun t31 w =>
 gopK t26 false (fun k => fieldA 1 t31 fun v => k v w) w fun t32 w =>
 gopK t26 false (fun k => load1 t32 w fun v => k v w) w fun t33 w =>
 gopK t26 false (fun k => binI Go.BinOp.neq t29 t33 fun v => k v w) w fun t34 w =>
 pickK t26 (Go.Value.bool true) t34 fun t35 =>
 gopK t35 false (fun k => fieldA 10 t5 fun v => k v w) w fun t37 w =>
 gopK t35 false (fun k => load1 t37 w fun v => k v w) w fun t38 w =>
 gopK t35 false (fun k => k t19 w) w fun t39 w =>
 gopK t35 false (fun k => nilK t39 fun v => k v w) w fun t40 w =>
 gopK t35 false (fun k => fieldA 10 t40 fun v => k v w) w fun t41 w =>
 gopK t35 false (fun k => load1 t41 w fun v => k v w) w fun t42 w =>
 gopK t35 false (fun k => binI Go.BinOp.neq t38 t42 fun v => k v w) w fun t43 w =>
 pickK t35 (Go.Value.bool true) t43 fun t44 =>
 gopK t44 false (fun k => fieldA 11 t5 fun v => k v w) w fun t46 w =>
 gopK t44 false (fun k => load1 t46 w fun v => k v w) w fun t47 w =>
 gopK t44 false (fun k => k t19 w) w fun t48 w =>
 gopK t44 false (fun k => nilK t48 fun v => k v w) w fun t49 w =>
 gopK t44 false (fun k => fieldA 11 t49 fun v => k v w) w fun t50 w =>
 gopK t44 false (fun k => load1 t50 w fun v => k v w) w fun t51 w =>
 gopK t44 false (fun k => binI Go.BinOp.neq t47 t51 fun v => k v w) w fun t52 w =>
 pickK t44 (Go.Value.bool true) t52 fun t53 =>
 gopK t53 false (fun k => fieldA 12 t5 fun v => k v w) w fun t55 w =>
 gopK t53 false (fun k => load1 t55 w fun v => k v w) w fun t56 w =>
 gopK t53 false (fun k => k t19 w) w fun t57 w =>
 gopK t53 false (fun k => nilK t57 fun v => k v w) w fun t58 w =>
 gopK t53 false (fun k => fieldA 12 t58 fun v => k v w) w fun t59 w =>
 gopK t53 false (fun k => load1 t59 w fun v => k v w) w fun t60 w =>
 gopK t53 false (fun k => binI Go.BinOp.neq t56 t60 fun v => k v w) w fun t61 w =>
 pickK t53 (Go.Value.bool true) t61 fun t62 =>
 gopK t62 false (fun k => k t19 w) w fun t64 w =>
 gopK t62 false (fun k => nilK t64 fun v => k v w) w fun t65 w =>
 gopK t62 false (fun k => fieldA 13 t65 fun v => k v w) w fun t66 w =>
 gopK t62 false (fun k => load1 t66 w fun v => k v w) w fun t67 w =>
 gopK t62 false (fun k => k t67 w) w fun t68 w =>
 gopK t68 true (fun k => fieldA 13 t5 fun v => k v w) w fun t69 w =>
 gopK t68 true (fun k => load1 t69 w fun v => k v w) w fun t70 w =>
 gopK t68 true (fun k => unK Go.UnOp.not t70 fun v => k v w) w fun t71 w =>
 gopK t62 false (fun k => pickK t68 t71 (Go.Value.bool false) fun v => k v w) w fun t72 w =>
 pickK t62 (Go.Value.bool true) t72 fun t73 =>
 gopK t73 false (fun k => k a0 w) w fun t75 w =>
 gopK t73 false (fun k => loadN 16 t5 w fun v => k v w) w fun t76 w =>
 gopK t73 false (fun k => callOn prog fn_World_form #[t75, t76] w k) w fun t77 w =>
 gopK t73 false (fun k => unK Go.UnOp.not t77 fun v => k v w) w fun t78 w =>
 pickK t73 (Go.Value.bool true) t78 fun t79 =>
 condK t79
 (R (Go.Value.int Go.IntKind.i64 70) w)
 (loadN 16 t5 w fun t81 =>
 callOn prog fn_World_names #[a0, t81] w fun t82 w =>
 unK Go.UnOp.not t82 fun t83 =>
 condK t83
 (R (Go.Value.int Go.IntKind.i64 5) w)
 (loadN 16 t5 w fun t85 =>
 callOn prog fn_world_ownWhat #[t85] w fun t86 w =>
 nilK t19 fun t87 =>
 storeN 16 t87 t86 w fun w =>
 R (Go.Value.int Go.IntKind.i64 0) w))))
theorem F_World_Lay_eq (a0 : Go.Value) (a1 : Go.Value) (a2 : Go.Value) (w : Go.World) (R : Go.Value → Go.World → Prop) : cK prog (bodyOf Try.f91) (resK prog Try.f91.results.toList R) (start [a0, a1, a2]) w = F_World_Lay a0 a1 a2 w R := by kernel_rfl
theorem F_World_Lay_on (a0 : Go.Value) (a1 : Go.Value) (a2 : Go.Value) (w : Go.World) (k : Go.Value → Go.World → Prop) (h : F_World_Lay a0 a1 a2 w k) : callOn prog fn_World_Lay #[a0, a1, a2] w k :=
  calls_list (args := [a0, a1, a2]) mixed Try.func91 (by kernel_rfl) (by kernel_rfl) (Eq.mpr (F_World_Lay_eq a0 a1 a2 w _) (Eq.mpr (congrArg (F_World_Lay a0 a1 a2 w) (on_eq k)) h))


noncomputable def World_Copy_R3 : Array Oper := regionOf (bodyOf Try.f78) 3
-- not quiet: World_Copy_R3: quiet makeMap
-- no tree: World_Copy_R3: too many orders
def World_Copy_R3_pre : List (List Nat) := [[], [0], [1], [2], [3], [], [5], [6], [7], [4, 8], [], [10], [11], [12], [9, 13], [], [15], [16], [17], [], [], [4, 9, 14, 18, 19, 20], [21], [0, 1, 2, 3, 4, 5, 6, 7, 8, 9, 10, 11, 12, 13, 14, 15, 16, 17, 18, 19, 20, 21, 22]]
theorem World_Copy_R3_ok : factsOk World_Copy_R3 World_Copy_R3_pre = true := by kernel_rfl
theorem World_Copy_R3_ap : apartOk World_Copy_R3 = true := by kernel_rfl
def O_World_Copy_R3_0 (k : Env → Go.World → Prop) (e : Env) (w : Go.World) : Prop :=
 k (upd e 9 (e 0)) w
theorem O_World_Copy_R3_0_eq (k : Env → Go.World → Prop) (e : Env) (w : Go.World) : (match World_Copy_R3[0]? with | some o => opsK prog World_Copy_R3.toList [o] e w k | none => True) = O_World_Copy_R3_0 k e w := by kernel_rfl
theorem O_World_Copy_R3_0_on {k : Env → Go.World → Prop} {e : Env} {w : Go.World} {o : Oper} (ho : World_Copy_R3[0]? = some o) (h : O_World_Copy_R3_0 k e w) : opsK prog World_Copy_R3.toList [o] e w k := by
  have := O_World_Copy_R3_0_eq k e w
  rw [ho] at this
  exact Eq.mpr this h
def O_World_Copy_R3_1 (k : Env → Go.World → Prop) (e : Env) (w : Go.World) : Prop :=
 nilK (e 9) fun t10 =>
 k (upd e 10 t10) w
theorem O_World_Copy_R3_1_eq (k : Env → Go.World → Prop) (e : Env) (w : Go.World) : (match World_Copy_R3[1]? with | some o => opsK prog World_Copy_R3.toList [o] e w k | none => True) = O_World_Copy_R3_1 k e w := by kernel_rfl
theorem O_World_Copy_R3_1_on {k : Env → Go.World → Prop} {e : Env} {w : Go.World} {o : Oper} (ho : World_Copy_R3[1]? = some o) (h : O_World_Copy_R3_1 k e w) : opsK prog World_Copy_R3.toList [o] e w k := by
  have := O_World_Copy_R3_1_eq k e w
  rw [ho] at this
  exact Eq.mpr this h
def O_World_Copy_R3_2 (k : Env → Go.World → Prop) (e : Env) (w : Go.World) : Prop :=
 fieldA 0 (e 10) fun t11 =>
 k (upd e 11 t11) w
theorem O_World_Copy_R3_2_eq (k : Env → Go.World → Prop) (e : Env) (w : Go.World) : (match World_Copy_R3[2]? with | some o => opsK prog World_Copy_R3.toList [o] e w k | none => True) = O_World_Copy_R3_2 k e w := by kernel_rfl
theorem O_World_Copy_R3_2_on {k : Env → Go.World → Prop} {e : Env} {w : Go.World} {o : Oper} (ho : World_Copy_R3[2]? = some o) (h : O_World_Copy_R3_2 k e w) : opsK prog World_Copy_R3.toList [o] e w k := by
  have := O_World_Copy_R3_2_eq k e w
  rw [ho] at this
  exact Eq.mpr this h
def O_World_Copy_R3_3 (k : Env → Go.World → Prop) (e : Env) (w : Go.World) : Prop :=
 load1 (e 11) w fun t12 =>
 k (upd e 12 t12) w
theorem O_World_Copy_R3_3_eq (k : Env → Go.World → Prop) (e : Env) (w : Go.World) : (match World_Copy_R3[3]? with | some o => opsK prog World_Copy_R3.toList [o] e w k | none => True) = O_World_Copy_R3_3 k e w := by kernel_rfl
theorem O_World_Copy_R3_3_on {k : Env → Go.World → Prop} {e : Env} {w : Go.World} {o : Oper} (ho : World_Copy_R3[3]? = some o) (h : O_World_Copy_R3_3 k e w) : opsK prog World_Copy_R3.toList [o] e w k := by
  have := O_World_Copy_R3_3_eq k e w
  rw [ho] at this
  exact Eq.mpr this h
def O_World_Copy_R3_4 (k : Env → Go.World → Prop) (e : Env) (w : Go.World) : Prop :=
 callOn prog fn_slices_Clone_Side #[(e 12)] w fun t13 w =>
 k (upd e 13 t13) w
theorem O_World_Copy_R3_4_eq (k : Env → Go.World → Prop) (e : Env) (w : Go.World) : (match World_Copy_R3[4]? with | some o => opsK prog World_Copy_R3.toList [o] e w k | none => True) = O_World_Copy_R3_4 k e w := by kernel_rfl
theorem O_World_Copy_R3_4_on {k : Env → Go.World → Prop} {e : Env} {w : Go.World} {o : Oper} (ho : World_Copy_R3[4]? = some o) (h : O_World_Copy_R3_4 k e w) : opsK prog World_Copy_R3.toList [o] e w k := by
  have := O_World_Copy_R3_4_eq k e w
  rw [ho] at this
  exact Eq.mpr this h
def O_World_Copy_R3_5 (k : Env → Go.World → Prop) (e : Env) (w : Go.World) : Prop :=
 k (upd e 14 (e 0)) w
theorem O_World_Copy_R3_5_eq (k : Env → Go.World → Prop) (e : Env) (w : Go.World) : (match World_Copy_R3[5]? with | some o => opsK prog World_Copy_R3.toList [o] e w k | none => True) = O_World_Copy_R3_5 k e w := by kernel_rfl
theorem O_World_Copy_R3_5_on {k : Env → Go.World → Prop} {e : Env} {w : Go.World} {o : Oper} (ho : World_Copy_R3[5]? = some o) (h : O_World_Copy_R3_5 k e w) : opsK prog World_Copy_R3.toList [o] e w k := by
  have := O_World_Copy_R3_5_eq k e w
  rw [ho] at this
  exact Eq.mpr this h
def O_World_Copy_R3_6 (k : Env → Go.World → Prop) (e : Env) (w : Go.World) : Prop :=
 nilK (e 14) fun t15 =>
 k (upd e 15 t15) w
theorem O_World_Copy_R3_6_eq (k : Env → Go.World → Prop) (e : Env) (w : Go.World) : (match World_Copy_R3[6]? with | some o => opsK prog World_Copy_R3.toList [o] e w k | none => True) = O_World_Copy_R3_6 k e w := by kernel_rfl
theorem O_World_Copy_R3_6_on {k : Env → Go.World → Prop} {e : Env} {w : Go.World} {o : Oper} (ho : World_Copy_R3[6]? = some o) (h : O_World_Copy_R3_6 k e w) : opsK prog World_Copy_R3.toList [o] e w k := by
  have := O_World_Copy_R3_6_eq k e w
  rw [ho] at this
  exact Eq.mpr this h
def O_World_Copy_R3_7 (k : Env → Go.World → Prop) (e : Env) (w : Go.World) : Prop :=
 fieldA 1 (e 15) fun t16 =>
 k (upd e 16 t16) w
theorem O_World_Copy_R3_7_eq (k : Env → Go.World → Prop) (e : Env) (w : Go.World) : (match World_Copy_R3[7]? with | some o => opsK prog World_Copy_R3.toList [o] e w k | none => True) = O_World_Copy_R3_7 k e w := by kernel_rfl
theorem O_World_Copy_R3_7_on {k : Env → Go.World → Prop} {e : Env} {w : Go.World} {o : Oper} (ho : World_Copy_R3[7]? = some o) (h : O_World_Copy_R3_7 k e w) : opsK prog World_Copy_R3.toList [o] e w k := by
  have := O_World_Copy_R3_7_eq k e w
  rw [ho] at this
  exact Eq.mpr this h
def O_World_Copy_R3_8 (k : Env → Go.World → Prop) (e : Env) (w : Go.World) : Prop :=
 load1 (e 16) w fun t17 =>
 k (upd e 17 t17) w
theorem O_World_Copy_R3_8_eq (k : Env → Go.World → Prop) (e : Env) (w : Go.World) : (match World_Copy_R3[8]? with | some o => opsK prog World_Copy_R3.toList [o] e w k | none => True) = O_World_Copy_R3_8 k e w := by kernel_rfl
theorem O_World_Copy_R3_8_on {k : Env → Go.World → Prop} {e : Env} {w : Go.World} {o : Oper} (ho : World_Copy_R3[8]? = some o) (h : O_World_Copy_R3_8 k e w) : opsK prog World_Copy_R3.toList [o] e w k := by
  have := O_World_Copy_R3_8_eq k e w
  rw [ho] at this
  exact Eq.mpr this h
def O_World_Copy_R3_9 (k : Env → Go.World → Prop) (e : Env) (w : Go.World) : Prop :=
 callOn prog fn_slices_Clone_bool #[(e 17)] w fun t18 w =>
 k (upd e 18 t18) w
theorem O_World_Copy_R3_9_eq (k : Env → Go.World → Prop) (e : Env) (w : Go.World) : (match World_Copy_R3[9]? with | some o => opsK prog World_Copy_R3.toList [o] e w k | none => True) = O_World_Copy_R3_9 k e w := by kernel_rfl
theorem O_World_Copy_R3_9_on {k : Env → Go.World → Prop} {e : Env} {w : Go.World} {o : Oper} (ho : World_Copy_R3[9]? = some o) (h : O_World_Copy_R3_9 k e w) : opsK prog World_Copy_R3.toList [o] e w k := by
  have := O_World_Copy_R3_9_eq k e w
  rw [ho] at this
  exact Eq.mpr this h
def O_World_Copy_R3_10 (k : Env → Go.World → Prop) (e : Env) (w : Go.World) : Prop :=
 k (upd e 19 (e 0)) w
theorem O_World_Copy_R3_10_eq (k : Env → Go.World → Prop) (e : Env) (w : Go.World) : (match World_Copy_R3[10]? with | some o => opsK prog World_Copy_R3.toList [o] e w k | none => True) = O_World_Copy_R3_10 k e w := by kernel_rfl
theorem O_World_Copy_R3_10_on {k : Env → Go.World → Prop} {e : Env} {w : Go.World} {o : Oper} (ho : World_Copy_R3[10]? = some o) (h : O_World_Copy_R3_10 k e w) : opsK prog World_Copy_R3.toList [o] e w k := by
  have := O_World_Copy_R3_10_eq k e w
  rw [ho] at this
  exact Eq.mpr this h
def O_World_Copy_R3_11 (k : Env → Go.World → Prop) (e : Env) (w : Go.World) : Prop :=
 nilK (e 19) fun t20 =>
 k (upd e 20 t20) w
theorem O_World_Copy_R3_11_eq (k : Env → Go.World → Prop) (e : Env) (w : Go.World) : (match World_Copy_R3[11]? with | some o => opsK prog World_Copy_R3.toList [o] e w k | none => True) = O_World_Copy_R3_11 k e w := by kernel_rfl
theorem O_World_Copy_R3_11_on {k : Env → Go.World → Prop} {e : Env} {w : Go.World} {o : Oper} (ho : World_Copy_R3[11]? = some o) (h : O_World_Copy_R3_11 k e w) : opsK prog World_Copy_R3.toList [o] e w k := by
  have := O_World_Copy_R3_11_eq k e w
  rw [ho] at this
  exact Eq.mpr this h
def O_World_Copy_R3_12 (k : Env → Go.World → Prop) (e : Env) (w : Go.World) : Prop :=
 fieldA 5 (e 20) fun t21 =>
 k (upd e 21 t21) w
theorem O_World_Copy_R3_12_eq (k : Env → Go.World → Prop) (e : Env) (w : Go.World) : (match World_Copy_R3[12]? with | some o => opsK prog World_Copy_R3.toList [o] e w k | none => True) = O_World_Copy_R3_12 k e w := by kernel_rfl
theorem O_World_Copy_R3_12_on {k : Env → Go.World → Prop} {e : Env} {w : Go.World} {o : Oper} (ho : World_Copy_R3[12]? = some o) (h : O_World_Copy_R3_12 k e w) : opsK prog World_Copy_R3.toList [o] e w k := by
  have := O_World_Copy_R3_12_eq k e w
  rw [ho] at this
  exact Eq.mpr this h
def O_World_Copy_R3_13 (k : Env → Go.World → Prop) (e : Env) (w : Go.World) : Prop :=
 load1 (e 21) w fun t22 =>
 k (upd e 22 t22) w
theorem O_World_Copy_R3_13_eq (k : Env → Go.World → Prop) (e : Env) (w : Go.World) : (match World_Copy_R3[13]? with | some o => opsK prog World_Copy_R3.toList [o] e w k | none => True) = O_World_Copy_R3_13 k e w := by kernel_rfl
theorem O_World_Copy_R3_13_on {k : Env → Go.World → Prop} {e : Env} {w : Go.World} {o : Oper} (ho : World_Copy_R3[13]? = some o) (h : O_World_Copy_R3_13 k e w) : opsK prog World_Copy_R3.toList [o] e w k := by
  have := O_World_Copy_R3_13_eq k e w
  rw [ho] at this
  exact Eq.mpr this h
def O_World_Copy_R3_14 (k : Env → Go.World → Prop) (e : Env) (w : Go.World) : Prop :=
 callOn prog fn_slices_Clone_int #[(e 22)] w fun t23 w =>
 k (upd e 23 t23) w
theorem O_World_Copy_R3_14_eq (k : Env → Go.World → Prop) (e : Env) (w : Go.World) : (match World_Copy_R3[14]? with | some o => opsK prog World_Copy_R3.toList [o] e w k | none => True) = O_World_Copy_R3_14 k e w := by kernel_rfl
theorem O_World_Copy_R3_14_on {k : Env → Go.World → Prop} {e : Env} {w : Go.World} {o : Oper} (ho : World_Copy_R3[14]? = some o) (h : O_World_Copy_R3_14 k e w) : opsK prog World_Copy_R3.toList [o] e w k := by
  have := O_World_Copy_R3_14_eq k e w
  rw [ho] at this
  exact Eq.mpr this h
def O_World_Copy_R3_15 (k : Env → Go.World → Prop) (e : Env) (w : Go.World) : Prop :=
 k (upd e 24 (e 0)) w
theorem O_World_Copy_R3_15_eq (k : Env → Go.World → Prop) (e : Env) (w : Go.World) : (match World_Copy_R3[15]? with | some o => opsK prog World_Copy_R3.toList [o] e w k | none => True) = O_World_Copy_R3_15 k e w := by kernel_rfl
theorem O_World_Copy_R3_15_on {k : Env → Go.World → Prop} {e : Env} {w : Go.World} {o : Oper} (ho : World_Copy_R3[15]? = some o) (h : O_World_Copy_R3_15 k e w) : opsK prog World_Copy_R3.toList [o] e w k := by
  have := O_World_Copy_R3_15_eq k e w
  rw [ho] at this
  exact Eq.mpr this h
def O_World_Copy_R3_16 (k : Env → Go.World → Prop) (e : Env) (w : Go.World) : Prop :=
 nilK (e 24) fun t25 =>
 k (upd e 25 t25) w
theorem O_World_Copy_R3_16_eq (k : Env → Go.World → Prop) (e : Env) (w : Go.World) : (match World_Copy_R3[16]? with | some o => opsK prog World_Copy_R3.toList [o] e w k | none => True) = O_World_Copy_R3_16 k e w := by kernel_rfl
theorem O_World_Copy_R3_16_on {k : Env → Go.World → Prop} {e : Env} {w : Go.World} {o : Oper} (ho : World_Copy_R3[16]? = some o) (h : O_World_Copy_R3_16 k e w) : opsK prog World_Copy_R3.toList [o] e w k := by
  have := O_World_Copy_R3_16_eq k e w
  rw [ho] at this
  exact Eq.mpr this h
def O_World_Copy_R3_17 (k : Env → Go.World → Prop) (e : Env) (w : Go.World) : Prop :=
 fieldA 4 (e 25) fun t26 =>
 k (upd e 26 t26) w
theorem O_World_Copy_R3_17_eq (k : Env → Go.World → Prop) (e : Env) (w : Go.World) : (match World_Copy_R3[17]? with | some o => opsK prog World_Copy_R3.toList [o] e w k | none => True) = O_World_Copy_R3_17 k e w := by kernel_rfl
theorem O_World_Copy_R3_17_on {k : Env → Go.World → Prop} {e : Env} {w : Go.World} {o : Oper} (ho : World_Copy_R3[17]? = some o) (h : O_World_Copy_R3_17 k e w) : opsK prog World_Copy_R3.toList [o] e w k := by
  have := O_World_Copy_R3_17_eq k e w
  rw [ho] at this
  exact Eq.mpr this h
def O_World_Copy_R3_18 (k : Env → Go.World → Prop) (e : Env) (w : Go.World) : Prop :=
 load1 (e 26) w fun t27 =>
 k (upd e 27 t27) w
theorem O_World_Copy_R3_18_eq (k : Env → Go.World → Prop) (e : Env) (w : Go.World) : (match World_Copy_R3[18]? with | some o => opsK prog World_Copy_R3.toList [o] e w k | none => True) = O_World_Copy_R3_18 k e w := by kernel_rfl
theorem O_World_Copy_R3_18_on {k : Env → Go.World → Prop} {e : Env} {w : Go.World} {o : Oper} (ho : World_Copy_R3[18]? = some o) (h : O_World_Copy_R3_18 k e w) : opsK prog World_Copy_R3.toList [o] e w k := by
  have := O_World_Copy_R3_18_eq k e w
  rw [ho] at this
  exact Eq.mpr this h
def O_World_Copy_R3_19 (k : Env → Go.World → Prop) (e : Env) (w : Go.World) : Prop :=
 True ∧ (fun (t28 : Go.Value) (w : Go.World) =>
 k (upd e 28 t28) w) (.map (some w.heap.size)) (w.alloc (.map #[] 0))
theorem O_World_Copy_R3_19_eq (k : Env → Go.World → Prop) (e : Env) (w : Go.World) : (match World_Copy_R3[19]? with | some o => opsK prog World_Copy_R3.toList [o] e w k | none => True) = O_World_Copy_R3_19 k e w := by kernel_rfl
theorem O_World_Copy_R3_19_on {k : Env → Go.World → Prop} {e : Env} {w : Go.World} {o : Oper} (ho : World_Copy_R3[19]? = some o) (h : O_World_Copy_R3_19 k e w) : opsK prog World_Copy_R3.toList [o] e w k := by
  have := O_World_Copy_R3_19_eq k e w
  rw [ho] at this
  exact Eq.mpr this h
def O_World_Copy_R3_20 (k : Env → Go.World → Prop) (e : Env) (w : Go.World) : Prop :=
 True ∧ (fun (t29 : Go.Value) (w : Go.World) =>
 k (upd e 29 t29) w) (.map (some w.heap.size)) (w.alloc (.map #[] 0))
theorem O_World_Copy_R3_20_eq (k : Env → Go.World → Prop) (e : Env) (w : Go.World) : (match World_Copy_R3[20]? with | some o => opsK prog World_Copy_R3.toList [o] e w k | none => True) = O_World_Copy_R3_20 k e w := by kernel_rfl
theorem O_World_Copy_R3_20_on {k : Env → Go.World → Prop} {e : Env} {w : Go.World} {o : Oper} (ho : World_Copy_R3[20]? = some o) (h : O_World_Copy_R3_20 k e w) : opsK prog World_Copy_R3.toList [o] e w k := by
  have := O_World_Copy_R3_20_eq k e w
  rw [ho] at this
  exact Eq.mpr this h
def O_World_Copy_R3_21 (k : Env → Go.World → Prop) (e : Env) (w : Go.World) : Prop :=
 buildS (Go.Value.agg #[(Go.Value.slice .none 0 0), (Go.Value.slice .none 0 0), (Go.Value.map .none), (Go.Value.map .none), (Go.Value.int Go.IntKind.i64 0), (Go.Value.slice .none 0 0)]) [(0, 1), (1, 1), (2, 1), (3, 1), (4, 1), (5, 1)] [(0, (e 13)), (1, (e 18)), (5, (e 23)), (4, (e 27)), (2, (e 28)), (3, (e 29))] fun t30 =>
 k (upd e 30 t30) w
theorem O_World_Copy_R3_21_eq (k : Env → Go.World → Prop) (e : Env) (w : Go.World) : (match World_Copy_R3[21]? with | some o => opsK prog World_Copy_R3.toList [o] e w k | none => True) = O_World_Copy_R3_21 k e w := by kernel_rfl
theorem O_World_Copy_R3_21_on {k : Env → Go.World → Prop} {e : Env} {w : Go.World} {o : Oper} (ho : World_Copy_R3[21]? = some o) (h : O_World_Copy_R3_21 k e w) : opsK prog World_Copy_R3.toList [o] e w k := by
  have := O_World_Copy_R3_21_eq k e w
  rw [ho] at this
  exact Eq.mpr this h
def O_World_Copy_R3_22 (k : Env → Go.World → Prop) (e : Env) (w : Go.World) : Prop :=
 boxK 107 (e 30) w fun t31 w =>
 k (upd e 31 t31) w
theorem O_World_Copy_R3_22_eq (k : Env → Go.World → Prop) (e : Env) (w : Go.World) : (match World_Copy_R3[22]? with | some o => opsK prog World_Copy_R3.toList [o] e w k | none => True) = O_World_Copy_R3_22 k e w := by kernel_rfl
theorem O_World_Copy_R3_22_on {k : Env → Go.World → Prop} {e : Env} {w : Go.World} {o : Oper} (ho : World_Copy_R3[22]? = some o) (h : O_World_Copy_R3_22 k e w) : opsK prog World_Copy_R3.toList [o] e w k := by
  have := O_World_Copy_R3_22_eq k e w
  rw [ho] at this
  exact Eq.mpr this h
def O_World_Copy_R3_23 (k : Env → Go.World → Prop) (e : Env) (w : Go.World) : Prop :=
 k (upd e 3 (e 31)) w
theorem O_World_Copy_R3_23_eq (k : Env → Go.World → Prop) (e : Env) (w : Go.World) : (match World_Copy_R3[23]? with | some o => opsK prog World_Copy_R3.toList [o] e w k | none => True) = O_World_Copy_R3_23 k e w := by kernel_rfl
theorem O_World_Copy_R3_23_on {k : Env → Go.World → Prop} {e : Env} {w : Go.World} {o : Oper} (ho : World_Copy_R3[23]? = some o) (h : O_World_Copy_R3_23 k e w) : opsK prog World_Copy_R3.toList [o] e w k := by
  have := O_World_Copy_R3_23_eq k e w
  rw [ho] at this
  exact Eq.mpr this h
/-- (*postern/world.World).Copy -/
def F_World_Copy (a0 : Go.Value) (w : Go.World) (R : Go.Value → Go.World → Prop) : Prop :=
 callOn prog fn_World_none #[a0] w fun t8 w =>
 condK t8
 (R (Go.Value.pointer .none) w)
 (drawK prog World_Copy_R3 (upd (upd (upd (start [a0]) 2 (Go.Value.pointer .none)) 7 a0) 8 t8) w.drew fun e1 w =>
 nilK (e1 0) fun t33 =>
 fieldA 2 t33 fun t34 =>
 load1 t34 w fun t35 =>
 rangeM t35 w fun t36 w =>
 loopK (fun k2 e2 w =>
 nextK (e2 36) w fun t37 w =>
 extractK t37 0 fun t38 =>
 condK t38
 (entryK (e2 36) w fun t39 =>
 extractK t39 0 fun t40 =>
 extractK t39 1 fun t41 =>
 nilK t41 fun t43 =>
 loadN 16 t43 w fun t44 =>
 callOn prog fn_world_ownWhat #[t44] w fun t45 w =>
 allocZ (Go.Value.agg #[(Go.Value.int Go.IntKind.u8 0), (Go.Value.int Go.IntKind.i64 0), (Go.Value.int Go.IntKind.u8 0), (Go.Value.int Go.IntKind.i64 0), (Go.Value.string { data := #[] }), (Go.Value.slice .none 0 0), (Go.Value.int Go.IntKind.i64 0), (Go.Value.slice .none 0 0), (Go.Value.int Go.IntKind.i64 0), (Go.Value.int Go.IntKind.i64 0), (Go.Value.int Go.IntKind.i64 0), (Go.Value.int Go.IntKind.i64 0), (Go.Value.int Go.IntKind.u8 0), (Go.Value.bool false), (Go.Value.slice .none 0 0), (Go.Value.slice .none 0 0)]) 52 w fun t6 w =>
 storeN 16 t6 t45 w fun w =>
 nilK (e2 3) fun t47 =>
 fieldA 2 t47 fun t48 =>
 load1 t48 w fun t49 =>
 updM false t49 t40 t6 w fun w =>
 callOn prog fn_World_index #[(e2 3), t40] w fun t53 w =>
 k2 (upd (upd (upd (upd (upd (upd (upd (upd (upd (upd (upd (upd (upd (upd (upd (upd (upd (upd (upd (upd e2 37 t37) 38 t38) 39 t39) 40 t40) 41 t41) 4 t40) 5 t41) 42 t41) 43 t43) 44 t44) 45 t45) 6 t6) 46 (e2 3)) 47 t47) 48 t48) 49 t49) 50 t40) 51 (e2 3)) 52 t40) 53 t53) w)
 (R (e2 3) w)) (upd (upd (upd (upd (upd e1 32 (e1 0)) 33 t33) 34 t34) 35 t35) 36 t36) w)
theorem F_World_Copy_eq (a0 : Go.Value) (w : Go.World) (R : Go.Value → Go.World → Prop) : cK prog (bodyOf Try.f78) (resK prog Try.f78.results.toList R) (start [a0]) w = F_World_Copy a0 w R := by kernel_rfl
theorem F_World_Copy_on (a0 : Go.Value) (w : Go.World) (k : Go.Value → Go.World → Prop) (h : F_World_Copy a0 w k) : callOn prog fn_World_Copy #[a0] w k :=
  calls_list (args := [a0]) mixed Try.func78 (by kernel_rfl) (by kernel_rfl) (Eq.mpr (F_World_Copy_eq a0 w _) (Eq.mpr (congrArg (F_World_Copy a0 w) (on_eq k)) h))


/-- (*postern/world.World).Become -/
def F_World_Become (a0 : Go.Value) (a1 : Go.Value) (w : Go.World) (R : Go.Value → Go.World → Prop) : Prop :=
 callOn prog fn_World_none #[a0] w fun t6 w =>
 gopK t6 false (fun k => k a1 w) w fun t8 w =>
 gopK t6 false (fun k => callOn prog fn_World_none #[t8] w k) w fun t9 w =>
 pickK t6 (Go.Value.bool true) t9 fun t10 =>
 condK t10
 (R (Go.Value.int Go.IntKind.i64 1) w)
 (callOn prog fn_World_Copy #[a1] w fun t13 w =>
 nilK t13 fun t14 =>
 loadN 6 t14 w fun t15 =>
 nilK a0 fun t16 =>
 storeN 6 t16 t15 w fun w =>
 R (Go.Value.int Go.IntKind.i64 0) w)
theorem F_World_Become_eq (a0 : Go.Value) (a1 : Go.Value) (w : Go.World) (R : Go.Value → Go.World → Prop) : cK prog (bodyOf Try.f80) (resK prog Try.f80.results.toList R) (start [a0, a1]) w = F_World_Become a0 a1 w R := by kernel_rfl
theorem F_World_Become_on (a0 : Go.Value) (a1 : Go.Value) (w : Go.World) (k : Go.Value → Go.World → Prop) (h : F_World_Become a0 a1 w k) : callOn prog fn_World_Become #[a0, a1] w k :=
  calls_list (args := [a0, a1]) mixed Try.func80 (by kernel_rfl) (by kernel_rfl) (Eq.mpr (F_World_Become_eq a0 a1 w _) (Eq.mpr (congrArg (F_World_Become a0 a1 w) (on_eq k)) h))


/-- (*postern/world.World).Things$1 -/
def F_World_Things_1 (a0 : Go.Value) (a1 : Go.Value) (w : Go.World) (R : Go.Value → Go.World → Prop) : Prop :=
 load1 a1 w fun t9 =>
 callOn prog fn_World_none #[t9] w fun t10 w =>
 condK t10
 (R (Go.Value.tuple #[]) w)
 (load1 a1 w fun t11 =>
 callOn prog fn_World_refs #[t11] w fun t12 w =>
 lenL t12 fun t13 =>
 loopX (fun k1 d1 e1 w =>
 binI Go.BinOp.lss (e1 14) (e1 13) fun t15 =>
 condK t15
 (indexS 1 (e1 12) (e1 14) fun t16 =>
 load1 t16 w fun t17 =>
 buildL 40 1 (Go.Value.int Go.IntKind.i64 0) 1 [(0, t17)] w fun t20 w =>
 appendS 40 1 8 (Go.Value.int Go.IntKind.i64 0) (e1 3) t20 w fun t21 w =>
 load1 (e1 1) w fun t23 =>
 nilK t23 fun t24 =>
 fieldA 2 t24 fun t25 =>
 load1 t25 w fun t26 =>
 lookM false (Go.Value.pointer .none) t26 t17 false w fun t28 =>
 nilK t28 fun t29 =>
 fieldA 0 t29 fun t30 =>
 load1 t30 w fun t31 =>
 buildL 43 1 (Go.Value.int Go.IntKind.u8 0) 1 [(0, t31)] w fun t32 w =>
 appendS 43 1 1 (Go.Value.int Go.IntKind.u8 0) (e1 4) t32 w fun t33 w =>
 binI Go.BinOp.add (e1 14) (Go.Value.int Go.IntKind.i64 1) fun t34 =>
 k1 d1 (upd (upd (upd (upd (upd (upd (upd (upd (upd (upd (upd (upd (upd (upd (upd (upd (upd (upd (upd (upd (upd (upd (upd (upd e1 15 t15) 16 t16) 17 t17) 6 t17) 18 (e1 3)) 19 t17) 20 t20) 21 t21) 3 t21) 22 (e1 4)) 23 t23) 24 t24) 25 t25) 26 t26) 27 t17) 28 t28) 29 t29) 30 t30) 31 t31) 32 t32) 33 t33) 4 t33) 34 t34) 14 t34) w)
 (lenL (e1 3) fun t36 =>
 loopX (fun k2 d2 e2 w =>
 binI Go.BinOp.lss (e2 37) (e2 36) fun t38 =>
 condK t38
 (indexS 1 (e2 35) (e2 37) fun t40 =>
 load1 t40 w fun t41 =>
 indexS 1 (e2 4) (e2 37) fun t46 =>
 load1 t46 w fun t47 =>
 callY prog (e2 0) [t41, t47] w fun t48 w =>
 unK Go.UnOp.not t48 fun t49 =>
 condK t49
 (leaveK prog d2 (fun (w : Go.World) =>
 R (Go.Value.tuple #[]) w) w)
 (binI Go.BinOp.add (e2 37) (Go.Value.int Go.IntKind.i64 1) fun t50 =>
 k2 d2 (upd (upd (upd (upd (upd (upd (upd (upd (upd (upd (upd (upd (upd (upd (upd (upd e2 38 t38) 39 (e2 37)) 40 t40) 41 t41) 7 (e2 37)) 8 t41) 42 (e2 0)) 43 t41) 44 (e2 4)) 45 (e2 37)) 46 t46) 47 t47) 48 t48) 49 t49) 50 t50) 37 t50) w))
 (leaveK prog d2 (fun (w : Go.World) =>
 R (Go.Value.tuple #[]) w) w)) d1 (upd (upd (upd (upd e1 15 t15) 35 (e1 3)) 36 t36) 37 (Go.Value.int Go.IntKind.i64 0)) w)) [] (upd (upd (upd (upd (upd (upd (upd (upd (start [a0, a1]) 9 t9) 10 t10) 3 (Go.Value.slice .none 0 0)) 4 (Go.Value.slice .none 0 0)) 11 t11) 12 t12) 13 t13) 14 (Go.Value.int Go.IntKind.i64 0)) w)
theorem F_World_Things_1_eq (a0 : Go.Value) (a1 : Go.Value) (w : Go.World) (R : Go.Value → Go.World → Prop) : cX prog (bodyOf Try.f116) (resX prog Try.f116.results.toList R) [] (start [a0, a1]) w = F_World_Things_1 a0 a1 w R := by kernel_rfl
theorem F_World_Things_1_on (a0 : Go.Value) (a1 : Go.Value) (w : Go.World) (k : Go.Value → Go.World → Prop) (h : F_World_Things_1 a0 a1 w k) : callOn prog fn_World_Things_1 #[a0, a1] w k :=
  callsX_list (args := [a0, a1]) mixed Try.func116 (by kernel_rfl) (by kernel_rfl) (Eq.mpr (F_World_Things_1_eq a0 a1 w _) h)


/-- (*postern/world.World).Things -/
def F_World_Things (a0 : Go.Value) (w : Go.World) (R : Go.Value → Go.World → Prop) : Prop :=
 boxK 27 a0 w fun t1 w =>
 R (Go.Value.func (Go.Fn.func 116) #[] #[t1]) w
theorem F_World_Things_eq (a0 : Go.Value) (w : Go.World) (R : Go.Value → Go.World → Prop) : cK prog (bodyOf Try.f92) (resK prog Try.f92.results.toList R) (start [a0]) w = F_World_Things a0 w R := by kernel_rfl
theorem F_World_Things_on (a0 : Go.Value) (w : Go.World) (k : Go.Value → Go.World → Prop) (h : F_World_Things a0 w k) : callOn prog fn_World_Things #[a0] w k :=
  calls_list (args := [a0]) mixed Try.func92 (by kernel_rfl) (by kernel_rfl) (Eq.mpr (F_World_Things_eq a0 w _) (Eq.mpr (congrArg (F_World_Things a0 w) (on_eq k)) h))


/-- (*postern/world.World).refs -/
def F_World_refs (a0 : Go.Value) (w : Go.World) (R : Go.Value → Go.World → Prop) : Prop :=
 nilK a0 fun t6 =>
 fieldA 2 t6 fun t7 =>
 load1 t7 w fun t8 =>
 lenM t8 w fun t9 =>
 makeS 40 1 8 (Go.Value.int Go.IntKind.i64 0) (Go.Value.int Go.IntKind.i64 0) t9 w fun t10 w =>
 nilK a0 fun t12 =>
 fieldA 2 t12 fun t13 =>
 load1 t13 w fun t14 =>
 rangeM t14 w fun t15 w =>
 loopK (fun k1 e1 w =>
 nextK (e1 15) w fun t16 w =>
 extractK t16 0 fun t17 =>
 condK t17
 (entryK (e1 15) w fun t18 =>
 extractK t18 0 fun t19 =>
 buildL 40 1 (Go.Value.int Go.IntKind.i64 0) 1 [(0, t19)] w fun t22 w =>
 appendS 40 1 8 (Go.Value.int Go.IntKind.i64 0) (e1 3) t22 w fun t23 w =>
 k1 (upd (upd (upd (upd (upd (upd (upd (upd (upd (upd e1 16 t16) 17 t17) 18 t18) 19 t19) 4 t19) 20 (e1 3)) 21 t19) 22 t22) 23 t23) 3 t23) w)
 (callOn prog fn_slices_Sort_Ref #[(e1 3)] w fun t25 w =>
 R (e1 3) w)) (upd (upd (upd (upd (upd (upd (upd (upd (upd (upd (upd (upd (upd (start [a0]) 2 (Go.Value.slice .none 0 0)) 5 a0) 6 t6) 7 t7) 8 t8) 9 t9) 10 t10) 3 t10) 11 a0) 12 t12) 13 t13) 14 t14) 15 t15) w
theorem F_World_refs_eq (a0 : Go.Value) (w : Go.World) (R : Go.Value → Go.World → Prop) : cK prog (bodyOf Try.f117) (resK prog Try.f117.results.toList R) (start [a0]) w = F_World_refs a0 w R := by kernel_rfl
theorem F_World_refs_on (a0 : Go.Value) (w : Go.World) (k : Go.Value → Go.World → Prop) (h : F_World_refs a0 w k) : callOn prog fn_World_refs #[a0] w k :=
  calls_list (args := [a0]) mixed Try.func117 (by kernel_rfl) (by kernel_rfl) (Eq.mpr (F_World_refs_eq a0 w _) (Eq.mpr (congrArg (F_World_refs a0 w) (on_eq k)) h))


end Go.X
