/- The calculator's word on functions of this program, each with its proof: written by a program of this family (shallow.py). -/
import Derived.Test.YtdjheefbeagcjaaXxP
set_option linter.unusedVariables false
set_option maxRecDepth 100000
namespace Go.X
open Go Go.Proofs
noncomputable def world_New_R10 : Array Oper := regionOf (bodyOf Try.f18) 10
-- not quiet: world_New_R10: quiet makeSlice
-- no tree: world_New_R10: too many orders
def world_New_R10_pre : List (List Nat) := [[], [0], [], [2], [], [4], [], [], [1, 3, 5, 6, 7], [8], [0, 1, 2, 3, 4, 5, 6, 7, 8, 9], [0, 1, 2, 3, 4, 5, 6, 7, 8, 9, 10]]
theorem world_New_R10_ok : factsOk world_New_R10 world_New_R10_pre = true := by kernel_rfl
theorem world_New_R10_ap : apartOk world_New_R10 = true := by kernel_rfl
def O_world_New_R10_0 (k : Env → Go.World → Prop) (e : Env) (w : Go.World) : Prop :=
 k (upd e 28 (e 0)) w
theorem O_world_New_R10_0_eq (k : Env → Go.World → Prop) (e : Env) (w : Go.World) : (match world_New_R10[0]? with | some o => opsK prog world_New_R10.toList [o] e w k | none => True) = O_world_New_R10_0 k e w := by kernel_rfl
theorem O_world_New_R10_0_on {k : Env → Go.World → Prop} {e : Env} {w : Go.World} {o : Oper} (ho : world_New_R10[0]? = some o) (h : O_world_New_R10_0 k e w) : opsK prog world_New_R10.toList [o] e w k := by
  have := O_world_New_R10_0_eq k e w
  rw [ho] at this
  exact Eq.mpr this h
def O_world_New_R10_1 (k : Env → Go.World → Prop) (e : Env) (w : Go.World) : Prop :=
 callOn prog fn_slices_Clone_Side #[(e 28)] w fun t29 w =>
 k (upd e 29 t29) w
theorem O_world_New_R10_1_eq (k : Env → Go.World → Prop) (e : Env) (w : Go.World) : (match world_New_R10[1]? with | some o => opsK prog world_New_R10.toList [o] e w k | none => True) = O_world_New_R10_1 k e w := by kernel_rfl
theorem O_world_New_R10_1_on {k : Env → Go.World → Prop} {e : Env} {w : Go.World} {o : Oper} (ho : world_New_R10[1]? = some o) (h : O_world_New_R10_1 k e w) : opsK prog world_New_R10.toList [o] e w k := by
  have := O_world_New_R10_1_eq k e w
  rw [ho] at this
  exact Eq.mpr this h
def O_world_New_R10_2 (k : Env → Go.World → Prop) (e : Env) (w : Go.World) : Prop :=
 k (upd e 30 (e 6)) w
theorem O_world_New_R10_2_eq (k : Env → Go.World → Prop) (e : Env) (w : Go.World) : (match world_New_R10[2]? with | some o => opsK prog world_New_R10.toList [o] e w k | none => True) = O_world_New_R10_2 k e w := by kernel_rfl
theorem O_world_New_R10_2_on {k : Env → Go.World → Prop} {e : Env} {w : Go.World} {o : Oper} (ho : world_New_R10[2]? = some o) (h : O_world_New_R10_2 k e w) : opsK prog world_New_R10.toList [o] e w k := by
  have := O_world_New_R10_2_eq k e w
  rw [ho] at this
  exact Eq.mpr this h
def O_world_New_R10_3 (k : Env → Go.World → Prop) (e : Env) (w : Go.World) : Prop :=
 makeS 4 1 1 (Go.Value.bool false) (e 30) (e 30) w fun t31 w =>
 k (upd e 31 t31) w
theorem O_world_New_R10_3_eq (k : Env → Go.World → Prop) (e : Env) (w : Go.World) : (match world_New_R10[3]? with | some o => opsK prog world_New_R10.toList [o] e w k | none => True) = O_world_New_R10_3 k e w := by kernel_rfl
theorem O_world_New_R10_3_on {k : Env → Go.World → Prop} {e : Env} {w : Go.World} {o : Oper} (ho : world_New_R10[3]? = some o) (h : O_world_New_R10_3 k e w) : opsK prog world_New_R10.toList [o] e w k := by
  have := O_world_New_R10_3_eq k e w
  rw [ho] at this
  exact Eq.mpr this h
def O_world_New_R10_4 (k : Env → Go.World → Prop) (e : Env) (w : Go.World) : Prop :=
 k (upd e 32 (e 6)) w
theorem O_world_New_R10_4_eq (k : Env → Go.World → Prop) (e : Env) (w : Go.World) : (match world_New_R10[4]? with | some o => opsK prog world_New_R10.toList [o] e w k | none => True) = O_world_New_R10_4 k e w := by kernel_rfl
theorem O_world_New_R10_4_on {k : Env → Go.World → Prop} {e : Env} {w : Go.World} {o : Oper} (ho : world_New_R10[4]? = some o) (h : O_world_New_R10_4 k e w) : opsK prog world_New_R10.toList [o] e w k := by
  have := O_world_New_R10_4_eq k e w
  rw [ho] at this
  exact Eq.mpr this h
def O_world_New_R10_5 (k : Env → Go.World → Prop) (e : Env) (w : Go.World) : Prop :=
 makeS 3 1 8 (Go.Value.int Go.IntKind.i64 0) (e 32) (e 32) w fun t33 w =>
 k (upd e 33 t33) w
theorem O_world_New_R10_5_eq (k : Env → Go.World → Prop) (e : Env) (w : Go.World) : (match world_New_R10[5]? with | some o => opsK prog world_New_R10.toList [o] e w k | none => True) = O_world_New_R10_5 k e w := by kernel_rfl
theorem O_world_New_R10_5_on {k : Env → Go.World → Prop} {e : Env} {w : Go.World} {o : Oper} (ho : world_New_R10[5]? = some o) (h : O_world_New_R10_5 k e w) : opsK prog world_New_R10.toList [o] e w k := by
  have := O_world_New_R10_5_eq k e w
  rw [ho] at this
  exact Eq.mpr this h
def O_world_New_R10_6 (k : Env → Go.World → Prop) (e : Env) (w : Go.World) : Prop :=
 True ∧ (fun (t34 : Go.Value) (w : Go.World) =>
 k (upd e 34 t34) w) (.map (some w.heap.size)) (w.alloc (.map #[] 0))
theorem O_world_New_R10_6_eq (k : Env → Go.World → Prop) (e : Env) (w : Go.World) : (match world_New_R10[6]? with | some o => opsK prog world_New_R10.toList [o] e w k | none => True) = O_world_New_R10_6 k e w := by kernel_rfl
theorem O_world_New_R10_6_on {k : Env → Go.World → Prop} {e : Env} {w : Go.World} {o : Oper} (ho : world_New_R10[6]? = some o) (h : O_world_New_R10_6 k e w) : opsK prog world_New_R10.toList [o] e w k := by
  have := O_world_New_R10_6_eq k e w
  rw [ho] at this
  exact Eq.mpr this h
def O_world_New_R10_7 (k : Env → Go.World → Prop) (e : Env) (w : Go.World) : Prop :=
 True ∧ (fun (t35 : Go.Value) (w : Go.World) =>
 k (upd e 35 t35) w) (.map (some w.heap.size)) (w.alloc (.map #[] 0))
theorem O_world_New_R10_7_eq (k : Env → Go.World → Prop) (e : Env) (w : Go.World) : (match world_New_R10[7]? with | some o => opsK prog world_New_R10.toList [o] e w k | none => True) = O_world_New_R10_7 k e w := by kernel_rfl
theorem O_world_New_R10_7_on {k : Env → Go.World → Prop} {e : Env} {w : Go.World} {o : Oper} (ho : world_New_R10[7]? = some o) (h : O_world_New_R10_7 k e w) : opsK prog world_New_R10.toList [o] e w k := by
  have := O_world_New_R10_7_eq k e w
  rw [ho] at this
  exact Eq.mpr this h
def O_world_New_R10_8 (k : Env → Go.World → Prop) (e : Env) (w : Go.World) : Prop :=
 buildS (Go.Value.agg #[(Go.Value.slice .none 0 0), (Go.Value.slice .none 0 0), (Go.Value.map .none), (Go.Value.map .none), (Go.Value.int Go.IntKind.i64 0), (Go.Value.slice .none 0 0)]) [(0, 1), (1, 1), (2, 1), (3, 1), (4, 1), (5, 1)] [(0, (e 29)), (1, (e 31)), (5, (e 33)), (2, (e 34)), (3, (e 35))] fun t36 =>
 k (upd e 36 t36) w
theorem O_world_New_R10_8_eq (k : Env → Go.World → Prop) (e : Env) (w : Go.World) : (match world_New_R10[8]? with | some o => opsK prog world_New_R10.toList [o] e w k | none => True) = O_world_New_R10_8 k e w := by kernel_rfl
theorem O_world_New_R10_8_on {k : Env → Go.World → Prop} {e : Env} {w : Go.World} {o : Oper} (ho : world_New_R10[8]? = some o) (h : O_world_New_R10_8 k e w) : opsK prog world_New_R10.toList [o] e w k := by
  have := O_world_New_R10_8_eq k e w
  rw [ho] at this
  exact Eq.mpr this h
def O_world_New_R10_9 (k : Env → Go.World → Prop) (e : Env) (w : Go.World) : Prop :=
 boxK 107 (e 36) w fun t37 w =>
 k (upd e 37 t37) w
theorem O_world_New_R10_9_eq (k : Env → Go.World → Prop) (e : Env) (w : Go.World) : (match world_New_R10[9]? with | some o => opsK prog world_New_R10.toList [o] e w k | none => True) = O_world_New_R10_9 k e w := by kernel_rfl
theorem O_world_New_R10_9_on {k : Env → Go.World → Prop} {e : Env} {w : Go.World} {o : Oper} (ho : world_New_R10[9]? = some o) (h : O_world_New_R10_9 k e w) : opsK prog world_New_R10.toList [o] e w k := by
  have := O_world_New_R10_9_eq k e w
  rw [ho] at this
  exact Eq.mpr this h
def O_world_New_R10_10 (k : Env → Go.World → Prop) (e : Env) (w : Go.World) : Prop :=
 k (upd e 2 (e 37)) w
theorem O_world_New_R10_10_eq (k : Env → Go.World → Prop) (e : Env) (w : Go.World) : (match world_New_R10[10]? with | some o => opsK prog world_New_R10.toList [o] e w k | none => True) = O_world_New_R10_10 k e w := by kernel_rfl
theorem O_world_New_R10_10_on {k : Env → Go.World → Prop} {e : Env} {w : Go.World} {o : Oper} (ho : world_New_R10[10]? = some o) (h : O_world_New_R10_10 k e w) : opsK prog world_New_R10.toList [o] e w k := by
  have := O_world_New_R10_10_eq k e w
  rw [ho] at this
  exact Eq.mpr this h
def O_world_New_R10_11 (k : Env → Go.World → Prop) (e : Env) (w : Go.World) : Prop :=
 k (upd e 3 (Go.Value.int Go.IntKind.i64 0)) w
theorem O_world_New_R10_11_eq (k : Env → Go.World → Prop) (e : Env) (w : Go.World) : (match world_New_R10[11]? with | some o => opsK prog world_New_R10.toList [o] e w k | none => True) = O_world_New_R10_11 k e w := by kernel_rfl
theorem O_world_New_R10_11_on {k : Env → Go.World → Prop} {e : Env} {w : Go.World} {o : Oper} (ho : world_New_R10[11]? = some o) (h : O_world_New_R10_11 k e w) : opsK prog world_New_R10.toList [o] e w k := by
  have := O_world_New_R10_11_eq k e w
  rw [ho] at this
  exact Eq.mpr this h
/-- postern/world.New -/
def F_world_New (a0 : Go.Value) (w : Go.World) (R : Go.Value → Go.World → Prop) : Prop :=
 lenL a0 fun t8 =>
 binI Go.BinOp.geq t8 (Go.Value.int Go.IntKind.i64 16) fun t9 =>
 condK t9
 (R (Go.Value.tuple #[(Go.Value.pointer .none), (Go.Value.int Go.IntKind.i64 71)]) w)
 (lenL a0 fun t11 =>
 loopK (fun k1 e1 w =>
 binI Go.BinOp.lss (e1 12) (e1 11) fun t13 =>
 condK t13
 (indexS 1 (e1 10) (e1 12) fun t15 =>
 load1 t15 w fun t16 =>
 binI Go.BinOp.lss t16 (Go.Value.int Go.IntKind.i64 0) fun t18 =>
 gopK t18 false (fun k => k t16 w) w fun t20 w =>
 gopK t18 false (fun k => k (e1 12) w) w fun t21 w =>
 gopK t18 false (fun k => binI Go.BinOp.gtr t20 t21 fun v => k v w) w fun t22 w =>
 pickK t18 (Go.Value.bool true) t22 fun t23 =>
 condK t23
 (R (Go.Value.tuple #[(Go.Value.pointer .none), (Go.Value.int Go.IntKind.i64 71)]) w)
 (binI Go.BinOp.add (e1 12) (Go.Value.int Go.IntKind.i64 1) fun t24 =>
 k1 (upd (upd (upd (upd (upd (upd (upd (upd (upd (upd (upd (upd (upd (upd (upd e1 13 t13) 14 (e1 12)) 15 t15) 16 t16) 4 (e1 12)) 5 t16) 17 t16) 18 t18) 19 t18) 20 t20) 21 t21) 22 t22) 23 t23) 24 t24) 12 t24) w))
 (lenL (e1 0) fun t26 =>
 binI Go.BinOp.add t26 (Go.Value.int Go.IntKind.i64 1) fun t27 =>
 drawK prog world_New_R10 (upd (upd (upd (upd (upd e1 13 t13) 25 (e1 0)) 26 t26) 27 t27) 6 t27) w.drew fun e2 w =>
 R (Go.Value.tuple #[(e2 2), (e2 3)]) w)) (upd (upd (upd (upd (upd (upd (upd (upd (start [a0]) 2 (Go.Value.pointer .none)) 3 (Go.Value.int Go.IntKind.i64 0)) 7 a0) 8 t8) 9 t9) 10 a0) 11 t11) 12 (Go.Value.int Go.IntKind.i64 0)) w)
theorem F_world_New_eq (a0 : Go.Value) (w : Go.World) (R : Go.Value → Go.World → Prop) : cK prog (bodyOf Try.f18) (resK prog Try.f18.results.toList R) (start [a0]) w = F_world_New a0 w R := by kernel_rfl
theorem F_world_New_on (a0 : Go.Value) (w : Go.World) (k : Go.Value → Go.World → Prop) (h : F_world_New a0 w k) : callOn prog fn_world_New #[a0] w k :=
  calls_list (args := [a0]) mixed Try.func18 (by kernel_rfl) (by kernel_rfl) (Eq.mpr (F_world_New_eq a0 w _) (Eq.mpr (congrArg (F_world_New a0 w) (on_eq k)) h))


end Go.X
