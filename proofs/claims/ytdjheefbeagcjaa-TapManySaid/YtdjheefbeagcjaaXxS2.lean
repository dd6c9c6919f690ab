/- The calculator's word on functions of this program, each with its proof: written by a program of this family (shallow.py). -/
import Derived.Test.YtdjheefbeagcjaaXxP
set_option linter.unusedVariables false
set_option maxRecDepth 100000
namespace Go.X
open Go Go.Proofs
/-- (*postern/world.World).What -/
def F_World_What (a0 : Go.Value) (a1 : Go.Value) (w : Go.World) (R : Go.Value → Go.World → Prop) : Prop :=
 allocZ (Go.Value.agg #[(Go.Value.int Go.IntKind.u8 0), (Go.Value.int Go.IntKind.i64 0), (Go.Value.int Go.IntKind.u8 0), (Go.Value.int Go.IntKind.i64 0), (Go.Value.string { data := #[] }), (Go.Value.slice .none 0 0), (Go.Value.int Go.IntKind.i64 0), (Go.Value.slice .none 0 0), (Go.Value.int Go.IntKind.i64 0), (Go.Value.int Go.IntKind.i64 0), (Go.Value.int Go.IntKind.i64 0), (Go.Value.int Go.IntKind.i64 0), (Go.Value.int Go.IntKind.u8 0), (Go.Value.bool false), (Go.Value.slice .none 0 0), (Go.Value.slice .none 0 0)]) 52 w fun t4 w =>
 callOn prog fn_World_none #[a0] w fun t7 w =>
 condK t7
 (buildS (Go.Value.agg #[(Go.Value.int Go.IntKind.u8 0), (Go.Value.int Go.IntKind.i64 0), (Go.Value.int Go.IntKind.u8 0), (Go.Value.int Go.IntKind.i64 0), (Go.Value.string { data := #[] }), (Go.Value.slice .none 0 0), (Go.Value.int Go.IntKind.i64 0), (Go.Value.slice .none 0 0), (Go.Value.int Go.IntKind.i64 0), (Go.Value.int Go.IntKind.i64 0), (Go.Value.int Go.IntKind.i64 0), (Go.Value.int Go.IntKind.i64 0), (Go.Value.int Go.IntKind.u8 0), (Go.Value.bool false), (Go.Value.slice .none 0 0), (Go.Value.slice .none 0 0)]) [(0, 1), (1, 1), (2, 5), (7, 1), (8, 1), (9, 1), (10, 1), (11, 1), (12, 1), (13, 1), (14, 1), (15, 1)] [] fun t8 =>
 storeN 16 t4 t8 w fun w =>
 loadN 16 t4 w fun r1 =>
 R (Go.Value.tuple #[r1, (Go.Value.int Go.IntKind.i64 1)]) w)
 (callOn prog fn_World_Is #[a0, a1] w fun t11 w =>
 unK Go.UnOp.not t11 fun t12 =>
 condK t12
 (buildS (Go.Value.agg #[(Go.Value.int Go.IntKind.u8 0), (Go.Value.int Go.IntKind.i64 0), (Go.Value.int Go.IntKind.u8 0), (Go.Value.int Go.IntKind.i64 0), (Go.Value.string { data := #[] }), (Go.Value.slice .none 0 0), (Go.Value.int Go.IntKind.i64 0), (Go.Value.slice .none 0 0), (Go.Value.int Go.IntKind.i64 0), (Go.Value.int Go.IntKind.i64 0), (Go.Value.int Go.IntKind.i64 0), (Go.Value.int Go.IntKind.i64 0), (Go.Value.int Go.IntKind.u8 0), (Go.Value.bool false), (Go.Value.slice .none 0 0), (Go.Value.slice .none 0 0)]) [(0, 1), (1, 1), (2, 5), (7, 1), (8, 1), (9, 1), (10, 1), (11, 1), (12, 1), (13, 1), (14, 1), (15, 1)] [] fun t13 =>
 storeN 16 t4 t13 w fun w =>
 loadN 16 t4 w fun r1 =>
 R (Go.Value.tuple #[r1, (Go.Value.int Go.IntKind.i64 5)]) w)
 (nilK a0 fun t15 =>
 fieldA 2 t15 fun t16 =>
 load1 t16 w fun t17 =>
 lookM false (Go.Value.pointer .none) t17 a1 false w fun t19 =>
 nilK t19 fun t20 =>
 loadN 16 t20 w fun t21 =>
 callOn prog fn_world_ownWhat #[t21] w fun t22 w =>
 storeN 16 t4 t22 w fun w =>
 loadN 16 t4 w fun r1 =>
 R (Go.Value.tuple #[r1, (Go.Value.int Go.IntKind.i64 0)]) w))
theorem F_World_What_eq (a0 : Go.Value) (a1 : Go.Value) (w : Go.World) (R : Go.Value → Go.World → Prop) : cK prog (bodyOf Try.f33) (resK prog Try.f33.results.toList R) (start [a0, a1]) w = F_World_What a0 a1 w R := by kernel_rfl
theorem F_World_What_on (a0 : Go.Value) (a1 : Go.Value) (w : Go.World) (k : Go.Value → Go.World → Prop) (h : F_World_What a0 a1 w k) : callOn prog fn_World_What #[a0, a1] w k :=
  calls_list (args := [a0, a1]) mixed Try.func33 (by kernel_rfl) (by kernel_rfl) (Eq.mpr (F_World_What_eq a0 a1 w _) (Eq.mpr (congrArg (F_World_What a0 a1 w) (on_eq k)) h))


noncomputable def world_bare_R14 : Array Oper := regionOf (bodyOf Try.f93) 14
noncomputable def world_bare_R16 : Array Oper := regionOf (bodyOf Try.f93) 16
noncomputable def world_bare_R18 : Array Oper := regionOf (bodyOf Try.f93) 18
noncomputable def world_bare_R20 : Array Oper := regionOf (bodyOf Try.f93) 20
noncomputable def world_bare_R22 : Array Oper := regionOf (bodyOf Try.f93) 22
noncomputable def world_bare_R24 : Array Oper := regionOf (bodyOf Try.f93) 24
noncomputable def world_bare_R27 : Array Oper := regionOf (bodyOf Try.f93) 27
-- not quiet: world_bare_R14: quiet store
def A_world_bare_R14 (k : Env → Go.World → Prop) (e : Env) (w : Go.World) : Prop :=
 (fieldA 10 (e 1) fun t35 =>
 (load1 t35 w fun t36 =>
 (fieldA 2 (e 1) fun t37 =>
 (loadN 5 t37 w fun t38 =>
 fieldA 10 (e 3) fun t39 =>
 storeN 1 t39 t36 w fun w =>
 fieldA 2 (e 3) fun t40 =>
 storeN 5 t40 t38 w fun w =>
 k (upd (upd (upd (upd (upd (upd e 35 t35) 36 t36) 37 t37) 38 t38) 39 t39) 40 t40) w)
 ∧ (fieldA 10 (e 3) fun t39_1 =>
 (loadN 5 t37 w fun t38_1 =>
 storeN 1 t39_1 t36 w fun w =>
 fieldA 2 (e 3) fun t40_1 =>
 storeN 5 t40_1 t38_1 w fun w =>
 k (upd (upd (upd (upd (upd (upd e 35 t35) 36 t36) 37 t37) 39 t39_1) 38 t38_1) 40 t40_1) w)
 ∧ (storeN 1 t39_1 t36 w fun w =>
 loadN 5 t37 w fun t38_2 =>
 fieldA 2 (e 3) fun t40_2 =>
 storeN 5 t40_2 t38_2 w fun w =>
 k (upd (upd (upd (upd (upd (upd e 35 t35) 36 t36) 37 t37) 39 t39_1) 38 t38_2) 40 t40_2) w)))
 ∧ (fieldA 10 (e 3) fun t39_2 =>
 (fieldA 2 (e 1) fun t37_1 =>
 (loadN 5 t37_1 w fun t38_3 =>
 storeN 1 t39_2 t36 w fun w =>
 fieldA 2 (e 3) fun t40_3 =>
 storeN 5 t40_3 t38_3 w fun w =>
 k (upd (upd (upd (upd (upd (upd e 35 t35) 36 t36) 39 t39_2) 37 t37_1) 38 t38_3) 40 t40_3) w)
 ∧ (storeN 1 t39_2 t36 w fun w =>
 loadN 5 t37_1 w fun t38_4 =>
 fieldA 2 (e 3) fun t40_4 =>
 storeN 5 t40_4 t38_4 w fun w =>
 k (upd (upd (upd (upd (upd (upd e 35 t35) 36 t36) 39 t39_2) 37 t37_1) 38 t38_4) 40 t40_4) w))
 ∧ (storeN 1 t39_2 t36 w fun w =>
 fieldA 2 (e 1) fun t37_2 =>
 loadN 5 t37_2 w fun t38_5 =>
 fieldA 2 (e 3) fun t40_5 =>
 storeN 5 t40_5 t38_5 w fun w =>
 k (upd (upd (upd (upd (upd (upd e 35 t35) 36 t36) 39 t39_2) 37 t37_2) 38 t38_5) 40 t40_5) w)))
 ∧ (fieldA 2 (e 1) fun t37_3 =>
 (load1 t35 w fun t36_1 =>
 (loadN 5 t37_3 w fun t38_6 =>
 fieldA 10 (e 3) fun t39_3 =>
 storeN 1 t39_3 t36_1 w fun w =>
 fieldA 2 (e 3) fun t40_6 =>
 storeN 5 t40_6 t38_6 w fun w =>
 k (upd (upd (upd (upd (upd (upd e 35 t35) 37 t37_3) 36 t36_1) 38 t38_6) 39 t39_3) 40 t40_6) w)
 ∧ (fieldA 10 (e 3) fun t39_4 =>
 (loadN 5 t37_3 w fun t38_7 =>
 storeN 1 t39_4 t36_1 w fun w =>
 fieldA 2 (e 3) fun t40_7 =>
 storeN 5 t40_7 t38_7 w fun w =>
 k (upd (upd (upd (upd (upd (upd e 35 t35) 37 t37_3) 36 t36_1) 39 t39_4) 38 t38_7) 40 t40_7) w)
 ∧ (storeN 1 t39_4 t36_1 w fun w =>
 loadN 5 t37_3 w fun t38_8 =>
 fieldA 2 (e 3) fun t40_8 =>
 storeN 5 t40_8 t38_8 w fun w =>
 k (upd (upd (upd (upd (upd (upd e 35 t35) 37 t37_3) 36 t36_1) 39 t39_4) 38 t38_8) 40 t40_8) w)))
 ∧ (loadN 5 t37_3 w fun t38_9 =>
 load1 t35 w fun t36_2 =>
 fieldA 10 (e 3) fun t39_5 =>
 storeN 1 t39_5 t36_2 w fun w =>
 fieldA 2 (e 3) fun t40_9 =>
 storeN 5 t40_9 t38_9 w fun w =>
 k (upd (upd (upd (upd (upd (upd e 35 t35) 37 t37_3) 38 t38_9) 36 t36_2) 39 t39_5) 40 t40_9) w)))
 ∧ (fieldA 2 (e 1) fun t37_4 =>
 (fieldA 10 (e 1) fun t35_1 =>
 (load1 t35_1 w fun t36_3 =>
 (loadN 5 t37_4 w fun t38_10 =>
 fieldA 10 (e 3) fun t39_6 =>
 storeN 1 t39_6 t36_3 w fun w =>
 fieldA 2 (e 3) fun t40_10 =>
 storeN 5 t40_10 t38_10 w fun w =>
 k (upd (upd (upd (upd (upd (upd e 37 t37_4) 35 t35_1) 36 t36_3) 38 t38_10) 39 t39_6) 40 t40_10) w)
 ∧ (fieldA 10 (e 3) fun t39_7 =>
 (loadN 5 t37_4 w fun t38_11 =>
 storeN 1 t39_7 t36_3 w fun w =>
 fieldA 2 (e 3) fun t40_11 =>
 storeN 5 t40_11 t38_11 w fun w =>
 k (upd (upd (upd (upd (upd (upd e 37 t37_4) 35 t35_1) 36 t36_3) 39 t39_7) 38 t38_11) 40 t40_11) w)
 ∧ (storeN 1 t39_7 t36_3 w fun w =>
 loadN 5 t37_4 w fun t38_12 =>
 fieldA 2 (e 3) fun t40_12 =>
 storeN 5 t40_12 t38_12 w fun w =>
 k (upd (upd (upd (upd (upd (upd e 37 t37_4) 35 t35_1) 36 t36_3) 39 t39_7) 38 t38_12) 40 t40_12) w)))
 ∧ (loadN 5 t37_4 w fun t38_13 =>
 load1 t35_1 w fun t36_4 =>
 fieldA 10 (e 3) fun t39_8 =>
 storeN 1 t39_8 t36_4 w fun w =>
 fieldA 2 (e 3) fun t40_13 =>
 storeN 5 t40_13 t38_13 w fun w =>
 k (upd (upd (upd (upd (upd (upd e 37 t37_4) 35 t35_1) 38 t38_13) 36 t36_4) 39 t39_8) 40 t40_13) w))
 ∧ (loadN 5 t37_4 w fun t38_14 =>
 fieldA 10 (e 1) fun t35_2 =>
 load1 t35_2 w fun t36_5 =>
 fieldA 10 (e 3) fun t39_9 =>
 storeN 1 t39_9 t36_5 w fun w =>
 fieldA 2 (e 3) fun t40_14 =>
 storeN 5 t40_14 t38_14 w fun w =>
 k (upd (upd (upd (upd (upd (upd e 37 t37_4) 38 t38_14) 35 t35_2) 36 t36_5) 39 t39_9) 40 t40_14) w))
theorem A_world_bare_R14_eq (k : Env → Go.World → Prop) (e : Env) (w : Go.World) : anyK prog world_bare_R14 k world_bare_R14.size (Array.replicate world_bare_R14.size false) e w = A_world_bare_R14 k e w := by kernel_rfl
theorem A_world_bare_R14_on {e : Env} {w : Go.World} {k : Env → Go.World → Prop} (h : A_world_bare_R14 k e w) : drawK prog world_bare_R14 e w k :=
  .inr (Eq.mpr (A_world_bare_R14_eq k e w) h)
-- not quiet: world_bare_R16: quiet store
def A_world_bare_R16 (k : Env → Go.World → Prop) (e : Env) (w : Go.World) : Prop :=
 (fieldA 8 (e 1) fun t43 =>
 (load1 t43 w fun t44 =>
 (fieldA 9 (e 1) fun t45 =>
 (load1 t45 w fun t46 =>
 fieldA 8 (e 3) fun t47 =>
 storeN 1 t47 t44 w fun w =>
 fieldA 9 (e 3) fun t48 =>
 storeN 1 t48 t46 w fun w =>
 k (upd (upd (upd (upd (upd (upd e 43 t43) 44 t44) 45 t45) 46 t46) 47 t47) 48 t48) w)
 ∧ (fieldA 8 (e 3) fun t47_1 =>
 (load1 t45 w fun t46_1 =>
 storeN 1 t47_1 t44 w fun w =>
 fieldA 9 (e 3) fun t48_1 =>
 storeN 1 t48_1 t46_1 w fun w =>
 k (upd (upd (upd (upd (upd (upd e 43 t43) 44 t44) 45 t45) 47 t47_1) 46 t46_1) 48 t48_1) w)
 ∧ (storeN 1 t47_1 t44 w fun w =>
 load1 t45 w fun t46_2 =>
 fieldA 9 (e 3) fun t48_2 =>
 storeN 1 t48_2 t46_2 w fun w =>
 k (upd (upd (upd (upd (upd (upd e 43 t43) 44 t44) 45 t45) 47 t47_1) 46 t46_2) 48 t48_2) w)))
 ∧ (fieldA 8 (e 3) fun t47_2 =>
 (fieldA 9 (e 1) fun t45_1 =>
 (load1 t45_1 w fun t46_3 =>
 storeN 1 t47_2 t44 w fun w =>
 fieldA 9 (e 3) fun t48_3 =>
 storeN 1 t48_3 t46_3 w fun w =>
 k (upd (upd (upd (upd (upd (upd e 43 t43) 44 t44) 47 t47_2) 45 t45_1) 46 t46_3) 48 t48_3) w)
 ∧ (storeN 1 t47_2 t44 w fun w =>
 load1 t45_1 w fun t46_4 =>
 fieldA 9 (e 3) fun t48_4 =>
 storeN 1 t48_4 t46_4 w fun w =>
 k (upd (upd (upd (upd (upd (upd e 43 t43) 44 t44) 47 t47_2) 45 t45_1) 46 t46_4) 48 t48_4) w))
 ∧ (storeN 1 t47_2 t44 w fun w =>
 fieldA 9 (e 1) fun t45_2 =>
 load1 t45_2 w fun t46_5 =>
 fieldA 9 (e 3) fun t48_5 =>
 storeN 1 t48_5 t46_5 w fun w =>
 k (upd (upd (upd (upd (upd (upd e 43 t43) 44 t44) 47 t47_2) 45 t45_2) 46 t46_5) 48 t48_5) w)))
 ∧ (fieldA 9 (e 1) fun t45_3 =>
 (load1 t43 w fun t44_1 =>
 (load1 t45_3 w fun t46_6 =>
 fieldA 8 (e 3) fun t47_3 =>
 storeN 1 t47_3 t44_1 w fun w =>
 fieldA 9 (e 3) fun t48_6 =>
 storeN 1 t48_6 t46_6 w fun w =>
 k (upd (upd (upd (upd (upd (upd e 43 t43) 45 t45_3) 44 t44_1) 46 t46_6) 47 t47_3) 48 t48_6) w)
 ∧ (fieldA 8 (e 3) fun t47_4 =>
 (load1 t45_3 w fun t46_7 =>
 storeN 1 t47_4 t44_1 w fun w =>
 fieldA 9 (e 3) fun t48_7 =>
 storeN 1 t48_7 t46_7 w fun w =>
 k (upd (upd (upd (upd (upd (upd e 43 t43) 45 t45_3) 44 t44_1) 47 t47_4) 46 t46_7) 48 t48_7) w)
 ∧ (storeN 1 t47_4 t44_1 w fun w =>
 load1 t45_3 w fun t46_8 =>
 fieldA 9 (e 3) fun t48_8 =>
 storeN 1 t48_8 t46_8 w fun w =>
 k (upd (upd (upd (upd (upd (upd e 43 t43) 45 t45_3) 44 t44_1) 47 t47_4) 46 t46_8) 48 t48_8) w)))
 ∧ (load1 t45_3 w fun t46_9 =>
 load1 t43 w fun t44_2 =>
 fieldA 8 (e 3) fun t47_5 =>
 storeN 1 t47_5 t44_2 w fun w =>
 fieldA 9 (e 3) fun t48_9 =>
 storeN 1 t48_9 t46_9 w fun w =>
 k (upd (upd (upd (upd (upd (upd e 43 t43) 45 t45_3) 46 t46_9) 44 t44_2) 47 t47_5) 48 t48_9) w)))
 ∧ (fieldA 9 (e 1) fun t45_4 =>
 (fieldA 8 (e 1) fun t43_1 =>
 (load1 t43_1 w fun t44_3 =>
 (load1 t45_4 w fun t46_10 =>
 fieldA 8 (e 3) fun t47_6 =>
 storeN 1 t47_6 t44_3 w fun w =>
 fieldA 9 (e 3) fun t48_10 =>
 storeN 1 t48_10 t46_10 w fun w =>
 k (upd (upd (upd (upd (upd (upd e 45 t45_4) 43 t43_1) 44 t44_3) 46 t46_10) 47 t47_6) 48 t48_10) w)
 ∧ (fieldA 8 (e 3) fun t47_7 =>
 (load1 t45_4 w fun t46_11 =>
 storeN 1 t47_7 t44_3 w fun w =>
 fieldA 9 (e 3) fun t48_11 =>
 storeN 1 t48_11 t46_11 w fun w =>
 k (upd (upd (upd (upd (upd (upd e 45 t45_4) 43 t43_1) 44 t44_3) 47 t47_7) 46 t46_11) 48 t48_11) w)
 ∧ (storeN 1 t47_7 t44_3 w fun w =>
 load1 t45_4 w fun t46_12 =>
 fieldA 9 (e 3) fun t48_12 =>
 storeN 1 t48_12 t46_12 w fun w =>
 k (upd (upd (upd (upd (upd (upd e 45 t45_4) 43 t43_1) 44 t44_3) 47 t47_7) 46 t46_12) 48 t48_12) w)))
 ∧ (load1 t45_4 w fun t46_13 =>
 load1 t43_1 w fun t44_4 =>
 fieldA 8 (e 3) fun t47_8 =>
 storeN 1 t47_8 t44_4 w fun w =>
 fieldA 9 (e 3) fun t48_13 =>
 storeN 1 t48_13 t46_13 w fun w =>
 k (upd (upd (upd (upd (upd (upd e 45 t45_4) 43 t43_1) 46 t46_13) 44 t44_4) 47 t47_8) 48 t48_13) w))
 ∧ (load1 t45_4 w fun t46_14 =>
 fieldA 8 (e 1) fun t43_2 =>
 load1 t43_2 w fun t44_5 =>
 fieldA 8 (e 3) fun t47_9 =>
 storeN 1 t47_9 t44_5 w fun w =>
 fieldA 9 (e 3) fun t48_14 =>
 storeN 1 t48_14 t46_14 w fun w =>
 k (upd (upd (upd (upd (upd (upd e 45 t45_4) 46 t46_14) 43 t43_2) 44 t44_5) 47 t47_9) 48 t48_14) w))
theorem A_world_bare_R16_eq (k : Env → Go.World → Prop) (e : Env) (w : Go.World) : anyK prog world_bare_R16 k world_bare_R16.size (Array.replicate world_bare_R16.size false) e w = A_world_bare_R16 k e w := by kernel_rfl
theorem A_world_bare_R16_on {e : Env} {w : Go.World} {k : Env → Go.World → Prop} (h : A_world_bare_R16 k e w) : drawK prog world_bare_R16 e w k :=
  .inr (Eq.mpr (A_world_bare_R16_eq k e w) h)
-- not quiet: world_bare_R18: quiet store
def A_world_bare_R18 (k : Env → Go.World → Prop) (e : Env) (w : Go.World) : Prop :=
 (fieldA 10 (e 1) fun t51 =>
 (load1 t51 w fun t52 =>
 (fieldA 8 (e 1) fun t53 =>
 (load1 t53 w fun t54 =>
 fieldA 10 (e 3) fun t55 =>
 storeN 1 t55 t52 w fun w =>
 fieldA 8 (e 3) fun t56 =>
 storeN 1 t56 t54 w fun w =>
 k (upd (upd (upd (upd (upd (upd e 51 t51) 52 t52) 53 t53) 54 t54) 55 t55) 56 t56) w)
 ∧ (fieldA 10 (e 3) fun t55_1 =>
 (load1 t53 w fun t54_1 =>
 storeN 1 t55_1 t52 w fun w =>
 fieldA 8 (e 3) fun t56_1 =>
 storeN 1 t56_1 t54_1 w fun w =>
 k (upd (upd (upd (upd (upd (upd e 51 t51) 52 t52) 53 t53) 55 t55_1) 54 t54_1) 56 t56_1) w)
 ∧ (storeN 1 t55_1 t52 w fun w =>
 load1 t53 w fun t54_2 =>
 fieldA 8 (e 3) fun t56_2 =>
 storeN 1 t56_2 t54_2 w fun w =>
 k (upd (upd (upd (upd (upd (upd e 51 t51) 52 t52) 53 t53) 55 t55_1) 54 t54_2) 56 t56_2) w)))
 ∧ (fieldA 10 (e 3) fun t55_2 =>
 (fieldA 8 (e 1) fun t53_1 =>
 (load1 t53_1 w fun t54_3 =>
 storeN 1 t55_2 t52 w fun w =>
 fieldA 8 (e 3) fun t56_3 =>
 storeN 1 t56_3 t54_3 w fun w =>
 k (upd (upd (upd (upd (upd (upd e 51 t51) 52 t52) 55 t55_2) 53 t53_1) 54 t54_3) 56 t56_3) w)
 ∧ (storeN 1 t55_2 t52 w fun w =>
 load1 t53_1 w fun t54_4 =>
 fieldA 8 (e 3) fun t56_4 =>
 storeN 1 t56_4 t54_4 w fun w =>
 k (upd (upd (upd (upd (upd (upd e 51 t51) 52 t52) 55 t55_2) 53 t53_1) 54 t54_4) 56 t56_4) w))
 ∧ (storeN 1 t55_2 t52 w fun w =>
 fieldA 8 (e 1) fun t53_2 =>
 load1 t53_2 w fun t54_5 =>
 fieldA 8 (e 3) fun t56_5 =>
 storeN 1 t56_5 t54_5 w fun w =>
 k (upd (upd (upd (upd (upd (upd e 51 t51) 52 t52) 55 t55_2) 53 t53_2) 54 t54_5) 56 t56_5) w)))
 ∧ (fieldA 8 (e 1) fun t53_3 =>
 (load1 t51 w fun t52_1 =>
 (load1 t53_3 w fun t54_6 =>
 fieldA 10 (e 3) fun t55_3 =>
 storeN 1 t55_3 t52_1 w fun w =>
 fieldA 8 (e 3) fun t56_6 =>
 storeN 1 t56_6 t54_6 w fun w =>
 k (upd (upd (upd (upd (upd (upd e 51 t51) 53 t53_3) 52 t52_1) 54 t54_6) 55 t55_3) 56 t56_6) w)
 ∧ (fieldA 10 (e 3) fun t55_4 =>
 (load1 t53_3 w fun t54_7 =>
 storeN 1 t55_4 t52_1 w fun w =>
 fieldA 8 (e 3) fun t56_7 =>
 storeN 1 t56_7 t54_7 w fun w =>
 k (upd (upd (upd (upd (upd (upd e 51 t51) 53 t53_3) 52 t52_1) 55 t55_4) 54 t54_7) 56 t56_7) w)
 ∧ (storeN 1 t55_4 t52_1 w fun w =>
 load1 t53_3 w fun t54_8 =>
 fieldA 8 (e 3) fun t56_8 =>
 storeN 1 t56_8 t54_8 w fun w =>
 k (upd (upd (upd (upd (upd (upd e 51 t51) 53 t53_3) 52 t52_1) 55 t55_4) 54 t54_8) 56 t56_8) w)))
 ∧ (load1 t53_3 w fun t54_9 =>
 load1 t51 w fun t52_2 =>
 fieldA 10 (e 3) fun t55_5 =>
 storeN 1 t55_5 t52_2 w fun w =>
 fieldA 8 (e 3) fun t56_9 =>
 storeN 1 t56_9 t54_9 w fun w =>
 k (upd (upd (upd (upd (upd (upd e 51 t51) 53 t53_3) 54 t54_9) 52 t52_2) 55 t55_5) 56 t56_9) w)))
 ∧ (fieldA 8 (e 1) fun t53_4 =>
 (fieldA 10 (e 1) fun t51_1 =>
 (load1 t51_1 w fun t52_3 =>
 (load1 t53_4 w fun t54_10 =>
 fieldA 10 (e 3) fun t55_6 =>
 storeN 1 t55_6 t52_3 w fun w =>
 fieldA 8 (e 3) fun t56_10 =>
 storeN 1 t56_10 t54_10 w fun w =>
 k (upd (upd (upd (upd (upd (upd e 53 t53_4) 51 t51_1) 52 t52_3) 54 t54_10) 55 t55_6) 56 t56_10) w)
 ∧ (fieldA 10 (e 3) fun t55_7 =>
 (load1 t53_4 w fun t54_11 =>
 storeN 1 t55_7 t52_3 w fun w =>
 fieldA 8 (e 3) fun t56_11 =>
 storeN 1 t56_11 t54_11 w fun w =>
 k (upd (upd (upd (upd (upd (upd e 53 t53_4) 51 t51_1) 52 t52_3) 55 t55_7) 54 t54_11) 56 t56_11) w)
 ∧ (storeN 1 t55_7 t52_3 w fun w =>
 load1 t53_4 w fun t54_12 =>
 fieldA 8 (e 3) fun t56_12 =>
 storeN 1 t56_12 t54_12 w fun w =>
 k (upd (upd (upd (upd (upd (upd e 53 t53_4) 51 t51_1) 52 t52_3) 55 t55_7) 54 t54_12) 56 t56_12) w)))
 ∧ (load1 t53_4 w fun t54_13 =>
 load1 t51_1 w fun t52_4 =>
 fieldA 10 (e 3) fun t55_8 =>
 storeN 1 t55_8 t52_4 w fun w =>
 fieldA 8 (e 3) fun t56_13 =>
 storeN 1 t56_13 t54_13 w fun w =>
 k (upd (upd (upd (upd (upd (upd e 53 t53_4) 51 t51_1) 54 t54_13) 52 t52_4) 55 t55_8) 56 t56_13) w))
 ∧ (load1 t53_4 w fun t54_14 =>
 fieldA 10 (e 1) fun t51_2 =>
 load1 t51_2 w fun t52_5 =>
 fieldA 10 (e 3) fun t55_9 =>
 storeN 1 t55_9 t52_5 w fun w =>
 fieldA 8 (e 3) fun t56_14 =>
 storeN 1 t56_14 t54_14 w fun w =>
 k (upd (upd (upd (upd (upd (upd e 53 t53_4) 54 t54_14) 51 t51_2) 52 t52_5) 55 t55_9) 56 t56_14) w))
theorem A_world_bare_R18_eq (k : Env → Go.World → Prop) (e : Env) (w : Go.World) : anyK prog world_bare_R18 k world_bare_R18.size (Array.replicate world_bare_R18.size false) e w = A_world_bare_R18 k e w := by kernel_rfl
theorem A_world_bare_R18_on {e : Env} {w : Go.World} {k : Env → Go.World → Prop} (h : A_world_bare_R18 k e w) : drawK prog world_bare_R18 e w k :=
  .inr (Eq.mpr (A_world_bare_R18_eq k e w) h)
-- not quiet: world_bare_R20: quiet store
def A_world_bare_R20 (k : Env → Go.World → Prop) (e : Env) (w : Go.World) : Prop :=
 (fieldA 13 (e 1) fun t59 =>
 (load1 t59 w fun t60 =>
 (fieldA 2 (e 1) fun t61 =>
 (loadN 5 t61 w fun t62 =>
 fieldA 13 (e 3) fun t63 =>
 storeN 1 t63 t60 w fun w =>
 fieldA 2 (e 3) fun t64 =>
 storeN 5 t64 t62 w fun w =>
 k (upd (upd (upd (upd (upd (upd e 59 t59) 60 t60) 61 t61) 62 t62) 63 t63) 64 t64) w)
 ∧ (fieldA 13 (e 3) fun t63_1 =>
 (loadN 5 t61 w fun t62_1 =>
 storeN 1 t63_1 t60 w fun w =>
 fieldA 2 (e 3) fun t64_1 =>
 storeN 5 t64_1 t62_1 w fun w =>
 k (upd (upd (upd (upd (upd (upd e 59 t59) 60 t60) 61 t61) 63 t63_1) 62 t62_1) 64 t64_1) w)
 ∧ (storeN 1 t63_1 t60 w fun w =>
 loadN 5 t61 w fun t62_2 =>
 fieldA 2 (e 3) fun t64_2 =>
 storeN 5 t64_2 t62_2 w fun w =>
 k (upd (upd (upd (upd (upd (upd e 59 t59) 60 t60) 61 t61) 63 t63_1) 62 t62_2) 64 t64_2) w)))
 ∧ (fieldA 13 (e 3) fun t63_2 =>
 (fieldA 2 (e 1) fun t61_1 =>
 (loadN 5 t61_1 w fun t62_3 =>
 storeN 1 t63_2 t60 w fun w =>
 fieldA 2 (e 3) fun t64_3 =>
 storeN 5 t64_3 t62_3 w fun w =>
 k (upd (upd (upd (upd (upd (upd e 59 t59) 60 t60) 63 t63_2) 61 t61_1) 62 t62_3) 64 t64_3) w)
 ∧ (storeN 1 t63_2 t60 w fun w =>
 loadN 5 t61_1 w fun t62_4 =>
 fieldA 2 (e 3) fun t64_4 =>
 storeN 5 t64_4 t62_4 w fun w =>
 k (upd (upd (upd (upd (upd (upd e 59 t59) 60 t60) 63 t63_2) 61 t61_1) 62 t62_4) 64 t64_4) w))
 ∧ (storeN 1 t63_2 t60 w fun w =>
 fieldA 2 (e 1) fun t61_2 =>
 loadN 5 t61_2 w fun t62_5 =>
 fieldA 2 (e 3) fun t64_5 =>
 storeN 5 t64_5 t62_5 w fun w =>
 k (upd (upd (upd (upd (upd (upd e 59 t59) 60 t60) 63 t63_2) 61 t61_2) 62 t62_5) 64 t64_5) w)))
 ∧ (fieldA 2 (e 1) fun t61_3 =>
 (load1 t59 w fun t60_1 =>
 (loadN 5 t61_3 w fun t62_6 =>
 fieldA 13 (e 3) fun t63_3 =>
 storeN 1 t63_3 t60_1 w fun w =>
 fieldA 2 (e 3) fun t64_6 =>
 storeN 5 t64_6 t62_6 w fun w =>
 k (upd (upd (upd (upd (upd (upd e 59 t59) 61 t61_3) 60 t60_1) 62 t62_6) 63 t63_3) 64 t64_6) w)
 ∧ (fieldA 13 (e 3) fun t63_4 =>
 (loadN 5 t61_3 w fun t62_7 =>
 storeN 1 t63_4 t60_1 w fun w =>
 fieldA 2 (e 3) fun t64_7 =>
 storeN 5 t64_7 t62_7 w fun w =>
 k (upd (upd (upd (upd (upd (upd e 59 t59) 61 t61_3) 60 t60_1) 63 t63_4) 62 t62_7) 64 t64_7) w)
 ∧ (storeN 1 t63_4 t60_1 w fun w =>
 loadN 5 t61_3 w fun t62_8 =>
 fieldA 2 (e 3) fun t64_8 =>
 storeN 5 t64_8 t62_8 w fun w =>
 k (upd (upd (upd (upd (upd (upd e 59 t59) 61 t61_3) 60 t60_1) 63 t63_4) 62 t62_8) 64 t64_8) w)))
 ∧ (loadN 5 t61_3 w fun t62_9 =>
 load1 t59 w fun t60_2 =>
 fieldA 13 (e 3) fun t63_5 =>
 storeN 1 t63_5 t60_2 w fun w =>
 fieldA 2 (e 3) fun t64_9 =>
 storeN 5 t64_9 t62_9 w fun w =>
 k (upd (upd (upd (upd (upd (upd e 59 t59) 61 t61_3) 62 t62_9) 60 t60_2) 63 t63_5) 64 t64_9) w)))
 ∧ (fieldA 2 (e 1) fun t61_4 =>
 (fieldA 13 (e 1) fun t59_1 =>
 (load1 t59_1 w fun t60_3 =>
 (loadN 5 t61_4 w fun t62_10 =>
 fieldA 13 (e 3) fun t63_6 =>
 storeN 1 t63_6 t60_3 w fun w =>
 fieldA 2 (e 3) fun t64_10 =>
 storeN 5 t64_10 t62_10 w fun w =>
 k (upd (upd (upd (upd (upd (upd e 61 t61_4) 59 t59_1) 60 t60_3) 62 t62_10) 63 t63_6) 64 t64_10) w)
 ∧ (fieldA 13 (e 3) fun t63_7 =>
 (loadN 5 t61_4 w fun t62_11 =>
 storeN 1 t63_7 t60_3 w fun w =>
 fieldA 2 (e 3) fun t64_11 =>
 storeN 5 t64_11 t62_11 w fun w =>
 k (upd (upd (upd (upd (upd (upd e 61 t61_4) 59 t59_1) 60 t60_3) 63 t63_7) 62 t62_11) 64 t64_11) w)
 ∧ (storeN 1 t63_7 t60_3 w fun w =>
 loadN 5 t61_4 w fun t62_12 =>
 fieldA 2 (e 3) fun t64_12 =>
 storeN 5 t64_12 t62_12 w fun w =>
 k (upd (upd (upd (upd (upd (upd e 61 t61_4) 59 t59_1) 60 t60_3) 63 t63_7) 62 t62_12) 64 t64_12) w)))
 ∧ (loadN 5 t61_4 w fun t62_13 =>
 load1 t59_1 w fun t60_4 =>
 fieldA 13 (e 3) fun t63_8 =>
 storeN 1 t63_8 t60_4 w fun w =>
 fieldA 2 (e 3) fun t64_13 =>
 storeN 5 t64_13 t62_13 w fun w =>
 k (upd (upd (upd (upd (upd (upd e 61 t61_4) 59 t59_1) 62 t62_13) 60 t60_4) 63 t63_8) 64 t64_13) w))
 ∧ (loadN 5 t61_4 w fun t62_14 =>
 fieldA 13 (e 1) fun t59_2 =>
 load1 t59_2 w fun t60_5 =>
 fieldA 13 (e 3) fun t63_9 =>
 storeN 1 t63_9 t60_5 w fun w =>
 fieldA 2 (e 3) fun t64_14 =>
 storeN 5 t64_14 t62_14 w fun w =>
 k (upd (upd (upd (upd (upd (upd e 61 t61_4) 62 t62_14) 59 t59_2) 60 t60_5) 63 t63_9) 64 t64_14) w))
theorem A_world_bare_R20_eq (k : Env → Go.World → Prop) (e : Env) (w : Go.World) : anyK prog world_bare_R20 k world_bare_R20.size (Array.replicate world_bare_R20.size false) e w = A_world_bare_R20 k e w := by kernel_rfl
theorem A_world_bare_R20_on {e : Env} {w : Go.World} {k : Env → Go.World → Prop} (h : A_world_bare_R20 k e w) : drawK prog world_bare_R20 e w k :=
  .inr (Eq.mpr (A_world_bare_R20_eq k e w) h)
-- not quiet: world_bare_R22: quiet store
def A_world_bare_R22 (k : Env → Go.World → Prop) (e : Env) (w : Go.World) : Prop :=
 (fieldA 14 (e 1) fun t67 =>
 (load1 t67 w fun t68 =>
 (fieldA 15 (e 1) fun t69 =>
 (load1 t69 w fun t70 =>
 fieldA 14 (e 3) fun t71 =>
 storeN 1 t71 t68 w fun w =>
 fieldA 15 (e 3) fun t72 =>
 storeN 1 t72 t70 w fun w =>
 k (upd (upd (upd (upd (upd (upd e 67 t67) 68 t68) 69 t69) 70 t70) 71 t71) 72 t72) w)
 ∧ (fieldA 14 (e 3) fun t71_1 =>
 (load1 t69 w fun t70_1 =>
 storeN 1 t71_1 t68 w fun w =>
 fieldA 15 (e 3) fun t72_1 =>
 storeN 1 t72_1 t70_1 w fun w =>
 k (upd (upd (upd (upd (upd (upd e 67 t67) 68 t68) 69 t69) 71 t71_1) 70 t70_1) 72 t72_1) w)
 ∧ (storeN 1 t71_1 t68 w fun w =>
 load1 t69 w fun t70_2 =>
 fieldA 15 (e 3) fun t72_2 =>
 storeN 1 t72_2 t70_2 w fun w =>
 k (upd (upd (upd (upd (upd (upd e 67 t67) 68 t68) 69 t69) 71 t71_1) 70 t70_2) 72 t72_2) w)))
 ∧ (fieldA 14 (e 3) fun t71_2 =>
 (fieldA 15 (e 1) fun t69_1 =>
 (load1 t69_1 w fun t70_3 =>
 storeN 1 t71_2 t68 w fun w =>
 fieldA 15 (e 3) fun t72_3 =>
 storeN 1 t72_3 t70_3 w fun w =>
 k (upd (upd (upd (upd (upd (upd e 67 t67) 68 t68) 71 t71_2) 69 t69_1) 70 t70_3) 72 t72_3) w)
 ∧ (storeN 1 t71_2 t68 w fun w =>
 load1 t69_1 w fun t70_4 =>
 fieldA 15 (e 3) fun t72_4 =>
 storeN 1 t72_4 t70_4 w fun w =>
 k (upd (upd (upd (upd (upd (upd e 67 t67) 68 t68) 71 t71_2) 69 t69_1) 70 t70_4) 72 t72_4) w))
 ∧ (storeN 1 t71_2 t68 w fun w =>
 fieldA 15 (e 1) fun t69_2 =>
 load1 t69_2 w fun t70_5 =>
 fieldA 15 (e 3) fun t72_5 =>
 storeN 1 t72_5 t70_5 w fun w =>
 k (upd (upd (upd (upd (upd (upd e 67 t67) 68 t68) 71 t71_2) 69 t69_2) 70 t70_5) 72 t72_5) w)))
 ∧ (fieldA 15 (e 1) fun t69_3 =>
 (load1 t67 w fun t68_1 =>
 (load1 t69_3 w fun t70_6 =>
 fieldA 14 (e 3) fun t71_3 =>
 storeN 1 t71_3 t68_1 w fun w =>
 fieldA 15 (e 3) fun t72_6 =>
 storeN 1 t72_6 t70_6 w fun w =>
 k (upd (upd (upd (upd (upd (upd e 67 t67) 69 t69_3) 68 t68_1) 70 t70_6) 71 t71_3) 72 t72_6) w)
 ∧ (fieldA 14 (e 3) fun t71_4 =>
 (load1 t69_3 w fun t70_7 =>
 storeN 1 t71_4 t68_1 w fun w =>
 fieldA 15 (e 3) fun t72_7 =>
 storeN 1 t72_7 t70_7 w fun w =>
 k (upd (upd (upd (upd (upd (upd e 67 t67) 69 t69_3) 68 t68_1) 71 t71_4) 70 t70_7) 72 t72_7) w)
 ∧ (storeN 1 t71_4 t68_1 w fun w =>
 load1 t69_3 w fun t70_8 =>
 fieldA 15 (e 3) fun t72_8 =>
 storeN 1 t72_8 t70_8 w fun w =>
 k (upd (upd (upd (upd (upd (upd e 67 t67) 69 t69_3) 68 t68_1) 71 t71_4) 70 t70_8) 72 t72_8) w)))
 ∧ (load1 t69_3 w fun t70_9 =>
 load1 t67 w fun t68_2 =>
 fieldA 14 (e 3) fun t71_5 =>
 storeN 1 t71_5 t68_2 w fun w =>
 fieldA 15 (e 3) fun t72_9 =>
 storeN 1 t72_9 t70_9 w fun w =>
 k (upd (upd (upd (upd (upd (upd e 67 t67) 69 t69_3) 70 t70_9) 68 t68_2) 71 t71_5) 72 t72_9) w)))
 ∧ (fieldA 15 (e 1) fun t69_4 =>
 (fieldA 14 (e 1) fun t67_1 =>
 (load1 t67_1 w fun t68_3 =>
 (load1 t69_4 w fun t70_10 =>
 fieldA 14 (e 3) fun t71_6 =>
 storeN 1 t71_6 t68_3 w fun w =>
 fieldA 15 (e 3) fun t72_10 =>
 storeN 1 t72_10 t70_10 w fun w =>
 k (upd (upd (upd (upd (upd (upd e 69 t69_4) 67 t67_1) 68 t68_3) 70 t70_10) 71 t71_6) 72 t72_10) w)
 ∧ (fieldA 14 (e 3) fun t71_7 =>
 (load1 t69_4 w fun t70_11 =>
 storeN 1 t71_7 t68_3 w fun w =>
 fieldA 15 (e 3) fun t72_11 =>
 storeN 1 t72_11 t70_11 w fun w =>
 k (upd (upd (upd (upd (upd (upd e 69 t69_4) 67 t67_1) 68 t68_3) 71 t71_7) 70 t70_11) 72 t72_11) w)
 ∧ (storeN 1 t71_7 t68_3 w fun w =>
 load1 t69_4 w fun t70_12 =>
 fieldA 15 (e 3) fun t72_12 =>
 storeN 1 t72_12 t70_12 w fun w =>
 k (upd (upd (upd (upd (upd (upd e 69 t69_4) 67 t67_1) 68 t68_3) 71 t71_7) 70 t70_12) 72 t72_12) w)))
 ∧ (load1 t69_4 w fun t70_13 =>
 load1 t67_1 w fun t68_4 =>
 fieldA 14 (e 3) fun t71_8 =>
 storeN 1 t71_8 t68_4 w fun w =>
 fieldA 15 (e 3) fun t72_13 =>
 storeN 1 t72_13 t70_13 w fun w =>
 k (upd (upd (upd (upd (upd (upd e 69 t69_4) 67 t67_1) 70 t70_13) 68 t68_4) 71 t71_8) 72 t72_13) w))
 ∧ (load1 t69_4 w fun t70_14 =>
 fieldA 14 (e 1) fun t67_2 =>
 load1 t67_2 w fun t68_5 =>
 fieldA 14 (e 3) fun t71_9 =>
 storeN 1 t71_9 t68_5 w fun w =>
 fieldA 15 (e 3) fun t72_14 =>
 storeN 1 t72_14 t70_14 w fun w =>
 k (upd (upd (upd (upd (upd (upd e 69 t69_4) 70 t70_14) 67 t67_2) 68 t68_5) 71 t71_9) 72 t72_14) w))
theorem A_world_bare_R22_eq (k : Env → Go.World → Prop) (e : Env) (w : Go.World) : anyK prog world_bare_R22 k world_bare_R22.size (Array.replicate world_bare_R22.size false) e w = A_world_bare_R22 k e w := by kernel_rfl
theorem A_world_bare_R22_on {e : Env} {w : Go.World} {k : Env → Go.World → Prop} (h : A_world_bare_R22 k e w) : drawK prog world_bare_R22 e w k :=
  .inr (Eq.mpr (A_world_bare_R22_eq k e w) h)
-- not quiet: world_bare_R24: quiet store
def A_world_bare_R24 (k : Env → Go.World → Prop) (e : Env) (w : Go.World) : Prop :=
 (fieldA 13 (e 1) fun t75 =>
 (load1 t75 w fun t76 =>
 (fieldA 10 (e 1) fun t77 =>
 (load1 t77 w fun t78 =>
 fieldA 13 (e 3) fun t79 =>
 storeN 1 t79 t76 w fun w =>
 fieldA 10 (e 3) fun t80 =>
 storeN 1 t80 t78 w fun w =>
 k (upd (upd (upd (upd (upd (upd e 75 t75) 76 t76) 77 t77) 78 t78) 79 t79) 80 t80) w)
 ∧ (fieldA 13 (e 3) fun t79_1 =>
 (load1 t77 w fun t78_1 =>
 storeN 1 t79_1 t76 w fun w =>
 fieldA 10 (e 3) fun t80_1 =>
 storeN 1 t80_1 t78_1 w fun w =>
 k (upd (upd (upd (upd (upd (upd e 75 t75) 76 t76) 77 t77) 79 t79_1) 78 t78_1) 80 t80_1) w)
 ∧ (storeN 1 t79_1 t76 w fun w =>
 load1 t77 w fun t78_2 =>
 fieldA 10 (e 3) fun t80_2 =>
 storeN 1 t80_2 t78_2 w fun w =>
 k (upd (upd (upd (upd (upd (upd e 75 t75) 76 t76) 77 t77) 79 t79_1) 78 t78_2) 80 t80_2) w)))
 ∧ (fieldA 13 (e 3) fun t79_2 =>
 (fieldA 10 (e 1) fun t77_1 =>
 (load1 t77_1 w fun t78_3 =>
 storeN 1 t79_2 t76 w fun w =>
 fieldA 10 (e 3) fun t80_3 =>
 storeN 1 t80_3 t78_3 w fun w =>
 k (upd (upd (upd (upd (upd (upd e 75 t75) 76 t76) 79 t79_2) 77 t77_1) 78 t78_3) 80 t80_3) w)
 ∧ (storeN 1 t79_2 t76 w fun w =>
 load1 t77_1 w fun t78_4 =>
 fieldA 10 (e 3) fun t80_4 =>
 storeN 1 t80_4 t78_4 w fun w =>
 k (upd (upd (upd (upd (upd (upd e 75 t75) 76 t76) 79 t79_2) 77 t77_1) 78 t78_4) 80 t80_4) w))
 ∧ (storeN 1 t79_2 t76 w fun w =>
 fieldA 10 (e 1) fun t77_2 =>
 load1 t77_2 w fun t78_5 =>
 fieldA 10 (e 3) fun t80_5 =>
 storeN 1 t80_5 t78_5 w fun w =>
 k (upd (upd (upd (upd (upd (upd e 75 t75) 76 t76) 79 t79_2) 77 t77_2) 78 t78_5) 80 t80_5) w)))
 ∧ (fieldA 10 (e 1) fun t77_3 =>
 (load1 t75 w fun t76_1 =>
 (load1 t77_3 w fun t78_6 =>
 fieldA 13 (e 3) fun t79_3 =>
 storeN 1 t79_3 t76_1 w fun w =>
 fieldA 10 (e 3) fun t80_6 =>
 storeN 1 t80_6 t78_6 w fun w =>
 k (upd (upd (upd (upd (upd (upd e 75 t75) 77 t77_3) 76 t76_1) 78 t78_6) 79 t79_3) 80 t80_6) w)
 ∧ (fieldA 13 (e 3) fun t79_4 =>
 (load1 t77_3 w fun t78_7 =>
 storeN 1 t79_4 t76_1 w fun w =>
 fieldA 10 (e 3) fun t80_7 =>
 storeN 1 t80_7 t78_7 w fun w =>
 k (upd (upd (upd (upd (upd (upd e 75 t75) 77 t77_3) 76 t76_1) 79 t79_4) 78 t78_7) 80 t80_7) w)
 ∧ (storeN 1 t79_4 t76_1 w fun w =>
 load1 t77_3 w fun t78_8 =>
 fieldA 10 (e 3) fun t80_8 =>
 storeN 1 t80_8 t78_8 w fun w =>
 k (upd (upd (upd (upd (upd (upd e 75 t75) 77 t77_3) 76 t76_1) 79 t79_4) 78 t78_8) 80 t80_8) w)))
 ∧ (load1 t77_3 w fun t78_9 =>
 load1 t75 w fun t76_2 =>
 fieldA 13 (e 3) fun t79_5 =>
 storeN 1 t79_5 t76_2 w fun w =>
 fieldA 10 (e 3) fun t80_9 =>
 storeN 1 t80_9 t78_9 w fun w =>
 k (upd (upd (upd (upd (upd (upd e 75 t75) 77 t77_3) 78 t78_9) 76 t76_2) 79 t79_5) 80 t80_9) w)))
 ∧ (fieldA 10 (e 1) fun t77_4 =>
 (fieldA 13 (e 1) fun t75_1 =>
 (load1 t75_1 w fun t76_3 =>
 (load1 t77_4 w fun t78_10 =>
 fieldA 13 (e 3) fun t79_6 =>
 storeN 1 t79_6 t76_3 w fun w =>
 fieldA 10 (e 3) fun t80_10 =>
 storeN 1 t80_10 t78_10 w fun w =>
 k (upd (upd (upd (upd (upd (upd e 77 t77_4) 75 t75_1) 76 t76_3) 78 t78_10) 79 t79_6) 80 t80_10) w)
 ∧ (fieldA 13 (e 3) fun t79_7 =>
 (load1 t77_4 w fun t78_11 =>
 storeN 1 t79_7 t76_3 w fun w =>
 fieldA 10 (e 3) fun t80_11 =>
 storeN 1 t80_11 t78_11 w fun w =>
 k (upd (upd (upd (upd (upd (upd e 77 t77_4) 75 t75_1) 76 t76_3) 79 t79_7) 78 t78_11) 80 t80_11) w)
 ∧ (storeN 1 t79_7 t76_3 w fun w =>
 load1 t77_4 w fun t78_12 =>
 fieldA 10 (e 3) fun t80_12 =>
 storeN 1 t80_12 t78_12 w fun w =>
 k (upd (upd (upd (upd (upd (upd e 77 t77_4) 75 t75_1) 76 t76_3) 79 t79_7) 78 t78_12) 80 t80_12) w)))
 ∧ (load1 t77_4 w fun t78_13 =>
 load1 t75_1 w fun t76_4 =>
 fieldA 13 (e 3) fun t79_8 =>
 storeN 1 t79_8 t76_4 w fun w =>
 fieldA 10 (e 3) fun t80_13 =>
 storeN 1 t80_13 t78_13 w fun w =>
 k (upd (upd (upd (upd (upd (upd e 77 t77_4) 75 t75_1) 78 t78_13) 76 t76_4) 79 t79_8) 80 t80_13) w))
 ∧ (load1 t77_4 w fun t78_14 =>
 fieldA 13 (e 1) fun t75_2 =>
 load1 t75_2 w fun t76_5 =>
 fieldA 13 (e 3) fun t79_9 =>
 storeN 1 t79_9 t76_5 w fun w =>
 fieldA 10 (e 3) fun t80_14 =>
 storeN 1 t80_14 t78_14 w fun w =>
 k (upd (upd (upd (upd (upd (upd e 77 t77_4) 78 t78_14) 75 t75_2) 76 t76_5) 79 t79_9) 80 t80_14) w))
theorem A_world_bare_R24_eq (k : Env → Go.World → Prop) (e : Env) (w : Go.World) : anyK prog world_bare_R24 k world_bare_R24.size (Array.replicate world_bare_R24.size false) e w = A_world_bare_R24 k e w := by kernel_rfl
theorem A_world_bare_R24_on {e : Env} {w : Go.World} {k : Env → Go.World → Prop} (h : A_world_bare_R24 k e w) : drawK prog world_bare_R24 e w k :=
  .inr (Eq.mpr (A_world_bare_R24_eq k e w) h)
-- not quiet: world_bare_R27: quiet store
def A_world_bare_R27 (k : Env → Go.World → Prop) (e : Env) (w : Go.World) : Prop :=
 (fieldA 10 (e 1) fun t84 =>
 (load1 t84 w fun t85 =>
 (fieldA 11 (e 1) fun t86 =>
 (load1 t86 w fun t87 =>
 fieldA 10 (e 3) fun t88 =>
 storeN 1 t88 t85 w fun w =>
 fieldA 11 (e 3) fun t89 =>
 storeN 1 t89 t87 w fun w =>
 k (upd (upd (upd (upd (upd (upd e 84 t84) 85 t85) 86 t86) 87 t87) 88 t88) 89 t89) w)
 ∧ (fieldA 10 (e 3) fun t88_1 =>
 (load1 t86 w fun t87_1 =>
 storeN 1 t88_1 t85 w fun w =>
 fieldA 11 (e 3) fun t89_1 =>
 storeN 1 t89_1 t87_1 w fun w =>
 k (upd (upd (upd (upd (upd (upd e 84 t84) 85 t85) 86 t86) 88 t88_1) 87 t87_1) 89 t89_1) w)
 ∧ (storeN 1 t88_1 t85 w fun w =>
 load1 t86 w fun t87_2 =>
 fieldA 11 (e 3) fun t89_2 =>
 storeN 1 t89_2 t87_2 w fun w =>
 k (upd (upd (upd (upd (upd (upd e 84 t84) 85 t85) 86 t86) 88 t88_1) 87 t87_2) 89 t89_2) w)))
 ∧ (fieldA 10 (e 3) fun t88_2 =>
 (fieldA 11 (e 1) fun t86_1 =>
 (load1 t86_1 w fun t87_3 =>
 storeN 1 t88_2 t85 w fun w =>
 fieldA 11 (e 3) fun t89_3 =>
 storeN 1 t89_3 t87_3 w fun w =>
 k (upd (upd (upd (upd (upd (upd e 84 t84) 85 t85) 88 t88_2) 86 t86_1) 87 t87_3) 89 t89_3) w)
 ∧ (storeN 1 t88_2 t85 w fun w =>
 load1 t86_1 w fun t87_4 =>
 fieldA 11 (e 3) fun t89_4 =>
 storeN 1 t89_4 t87_4 w fun w =>
 k (upd (upd (upd (upd (upd (upd e 84 t84) 85 t85) 88 t88_2) 86 t86_1) 87 t87_4) 89 t89_4) w))
 ∧ (storeN 1 t88_2 t85 w fun w =>
 fieldA 11 (e 1) fun t86_2 =>
 load1 t86_2 w fun t87_5 =>
 fieldA 11 (e 3) fun t89_5 =>
 storeN 1 t89_5 t87_5 w fun w =>
 k (upd (upd (upd (upd (upd (upd e 84 t84) 85 t85) 88 t88_2) 86 t86_2) 87 t87_5) 89 t89_5) w)))
 ∧ (fieldA 11 (e 1) fun t86_3 =>
 (load1 t84 w fun t85_1 =>
 (load1 t86_3 w fun t87_6 =>
 fieldA 10 (e 3) fun t88_3 =>
 storeN 1 t88_3 t85_1 w fun w =>
 fieldA 11 (e 3) fun t89_6 =>
 storeN 1 t89_6 t87_6 w fun w =>
 k (upd (upd (upd (upd (upd (upd e 84 t84) 86 t86_3) 85 t85_1) 87 t87_6) 88 t88_3) 89 t89_6) w)
 ∧ (fieldA 10 (e 3) fun t88_4 =>
 (load1 t86_3 w fun t87_7 =>
 storeN 1 t88_4 t85_1 w fun w =>
 fieldA 11 (e 3) fun t89_7 =>
 storeN 1 t89_7 t87_7 w fun w =>
 k (upd (upd (upd (upd (upd (upd e 84 t84) 86 t86_3) 85 t85_1) 88 t88_4) 87 t87_7) 89 t89_7) w)
 ∧ (storeN 1 t88_4 t85_1 w fun w =>
 load1 t86_3 w fun t87_8 =>
 fieldA 11 (e 3) fun t89_8 =>
 storeN 1 t89_8 t87_8 w fun w =>
 k (upd (upd (upd (upd (upd (upd e 84 t84) 86 t86_3) 85 t85_1) 88 t88_4) 87 t87_8) 89 t89_8) w)))
 ∧ (load1 t86_3 w fun t87_9 =>
 load1 t84 w fun t85_2 =>
 fieldA 10 (e 3) fun t88_5 =>
 storeN 1 t88_5 t85_2 w fun w =>
 fieldA 11 (e 3) fun t89_9 =>
 storeN 1 t89_9 t87_9 w fun w =>
 k (upd (upd (upd (upd (upd (upd e 84 t84) 86 t86_3) 87 t87_9) 85 t85_2) 88 t88_5) 89 t89_9) w)))
 ∧ (fieldA 11 (e 1) fun t86_4 =>
 (fieldA 10 (e 1) fun t84_1 =>
 (load1 t84_1 w fun t85_3 =>
 (load1 t86_4 w fun t87_10 =>
 fieldA 10 (e 3) fun t88_6 =>
 storeN 1 t88_6 t85_3 w fun w =>
 fieldA 11 (e 3) fun t89_10 =>
 storeN 1 t89_10 t87_10 w fun w =>
 k (upd (upd (upd (upd (upd (upd e 86 t86_4) 84 t84_1) 85 t85_3) 87 t87_10) 88 t88_6) 89 t89_10) w)
 ∧ (fieldA 10 (e 3) fun t88_7 =>
 (load1 t86_4 w fun t87_11 =>
 storeN 1 t88_7 t85_3 w fun w =>
 fieldA 11 (e 3) fun t89_11 =>
 storeN 1 t89_11 t87_11 w fun w =>
 k (upd (upd (upd (upd (upd (upd e 86 t86_4) 84 t84_1) 85 t85_3) 88 t88_7) 87 t87_11) 89 t89_11) w)
 ∧ (storeN 1 t88_7 t85_3 w fun w =>
 load1 t86_4 w fun t87_12 =>
 fieldA 11 (e 3) fun t89_12 =>
 storeN 1 t89_12 t87_12 w fun w =>
 k (upd (upd (upd (upd (upd (upd e 86 t86_4) 84 t84_1) 85 t85_3) 88 t88_7) 87 t87_12) 89 t89_12) w)))
 ∧ (load1 t86_4 w fun t87_13 =>
 load1 t84_1 w fun t85_4 =>
 fieldA 10 (e 3) fun t88_8 =>
 storeN 1 t88_8 t85_4 w fun w =>
 fieldA 11 (e 3) fun t89_13 =>
 storeN 1 t89_13 t87_13 w fun w =>
 k (upd (upd (upd (upd (upd (upd e 86 t86_4) 84 t84_1) 87 t87_13) 85 t85_4) 88 t88_8) 89 t89_13) w))
 ∧ (load1 t86_4 w fun t87_14 =>
 fieldA 10 (e 1) fun t84_2 =>
 load1 t84_2 w fun t85_5 =>
 fieldA 10 (e 3) fun t88_9 =>
 storeN 1 t88_9 t85_5 w fun w =>
 fieldA 11 (e 3) fun t89_14 =>
 storeN 1 t89_14 t87_14 w fun w =>
 k (upd (upd (upd (upd (upd (upd e 86 t86_4) 87 t87_14) 84 t84_2) 85 t85_5) 88 t88_9) 89 t89_14) w))
theorem A_world_bare_R27_eq (k : Env → Go.World → Prop) (e : Env) (w : Go.World) : anyK prog world_bare_R27 k world_bare_R27.size (Array.replicate world_bare_R27.size false) e w = A_world_bare_R27 k e w := by kernel_rfl
theorem A_world_bare_R27_on {e : Env} {w : Go.World} {k : Env → Go.World → Prop} (h : A_world_bare_R27 k e w) : drawK prog world_bare_R27 e w k :=
  .inr (Eq.mpr (A_world_bare_R27_eq k e w) h)
/-- postern/world.bare -/
def F_world_bare (a0 : Go.Value) (w : Go.World) (R : Go.Value → Go.World → Prop) : Prop :=
 boxK 52 a0 w fun t1 w =>
 allocZ (Go.Value.agg #[(Go.Value.int Go.IntKind.u8 0), (Go.Value.int Go.IntKind.i64 0), (Go.Value.int Go.IntKind.u8 0), (Go.Value.int Go.IntKind.i64 0), (Go.Value.string { data := #[] }), (Go.Value.slice .none 0 0), (Go.Value.int Go.IntKind.i64 0), (Go.Value.slice .none 0 0), (Go.Value.int Go.IntKind.i64 0), (Go.Value.int Go.IntKind.i64 0), (Go.Value.int Go.IntKind.i64 0), (Go.Value.int Go.IntKind.i64 0), (Go.Value.int Go.IntKind.u8 0), (Go.Value.bool false), (Go.Value.slice .none 0 0), (Go.Value.slice .none 0 0)]) 52 w fun t2 w =>
 fieldA 0 t1 fun t4 =>
 load1 t4 w fun t5 =>
 fieldA 1 t1 fun t6 =>
 load1 t6 w fun t7 =>
 buildS (Go.Value.agg #[(Go.Value.int Go.IntKind.u8 0), (Go.Value.int Go.IntKind.i64 0), (Go.Value.int Go.IntKind.u8 0), (Go.Value.int Go.IntKind.i64 0), (Go.Value.string { data := #[] }), (Go.Value.slice .none 0 0), (Go.Value.int Go.IntKind.i64 0), (Go.Value.slice .none 0 0), (Go.Value.int Go.IntKind.i64 0), (Go.Value.int Go.IntKind.i64 0), (Go.Value.int Go.IntKind.i64 0), (Go.Value.int Go.IntKind.i64 0), (Go.Value.int Go.IntKind.u8 0), (Go.Value.bool false), (Go.Value.slice .none 0 0), (Go.Value.slice .none 0 0)]) [(0, 1), (1, 1), (2, 5), (7, 1), (8, 1), (9, 1), (10, 1), (11, 1), (12, 1), (13, 1), (14, 1), (15, 1)] [(0, t5), (1, t7)] fun t8 =>
 allocZ (Go.Value.agg #[(Go.Value.int Go.IntKind.u8 0), (Go.Value.int Go.IntKind.i64 0), (Go.Value.int Go.IntKind.u8 0), (Go.Value.int Go.IntKind.i64 0), (Go.Value.string { data := #[] }), (Go.Value.slice .none 0 0), (Go.Value.int Go.IntKind.i64 0), (Go.Value.slice .none 0 0), (Go.Value.int Go.IntKind.i64 0), (Go.Value.int Go.IntKind.i64 0), (Go.Value.int Go.IntKind.i64 0), (Go.Value.int Go.IntKind.i64 0), (Go.Value.int Go.IntKind.u8 0), (Go.Value.bool false), (Go.Value.slice .none 0 0), (Go.Value.slice .none 0 0)]) 52 w fun t3 w =>
 storeN 16 t3 t8 w fun w =>
 let J1 : Env → Go.World → Prop := fun e1 w =>
 (loadN 16 (e1 3) w fun t99 =>
 storeN 16 (e1 2) t99 w fun w =>
 loadN 16 (e1 2) w fun r1 =>
 R r1 w)
 fieldA 0 t1 fun t9 =>
 load1 t9 w fun t10 =>
 let J2 : Env → Go.World → Prop := fun e2 w =>
 (J1 e2 w)
 binI Go.BinOp.eql t10 (Go.Value.int Go.IntKind.u8 1) fun t12 =>
 condK t12
 (fieldA 2 t1 fun t13 =>
 loadN 5 t13 w fun t14 =>
 fieldA 2 t3 fun t15 =>
 storeN 5 t15 t14 w fun w =>
 J2 (upd (upd (upd (upd (upd (upd (upd (upd (upd (upd (upd (upd (upd (upd (upd (start [a0]) 1 t1) 2 t2) 4 t4) 5 t5) 6 t6) 7 t7) 8 t8) 3 t3) 9 t9) 10 t10) 12 t12) 11 t12) 13 t13) 14 t14) 15 t15) w)
 (let J3 : Env → Go.World → Prop := fun e3 w =>
 (condK (e3 16)
 (fieldA 7 (e3 1) fun t19 =>
 load1 t19 w fun t20 =>
 fieldA 7 (e3 3) fun t21 =>
 storeN 1 t21 t20 w fun w =>
 J2 (upd (upd (upd e3 19 t19) 20 t20) 21 t21) w)
 (binI Go.BinOp.eql (e3 10) (Go.Value.int Go.IntKind.u8 3) fun t23 =>
 condK t23
 (fieldA 8 (e3 1) fun t24 =>
 load1 t24 w fun t25 =>
 fieldA 8 (e3 3) fun t26 =>
 storeN 1 t26 t25 w fun w =>
 J2 (upd (upd (upd (upd (upd e3 23 t23) 22 t23) 24 t24) 25 t25) 26 t26) w)
 (let J4 : Env → Go.World → Prop := fun e4 w =>
 (condK (e4 27)
 (fieldA 10 (e4 1) fun t30 =>
 load1 t30 w fun t31 =>
 fieldA 10 (e4 3) fun t32 =>
 storeN 1 t32 t31 w fun w =>
 J2 (upd (upd (upd e4 30 t30) 31 t31) 32 t32) w)
 (binI Go.BinOp.eql (e4 10) (Go.Value.int Go.IntKind.u8 7) fun t34 =>
 condK t34
 (drawK prog world_bare_R14 (upd (upd e4 34 t34) 33 t34) w.drew fun e5 w =>
 J2 e5 w)
 (binI Go.BinOp.eql (e4 10) (Go.Value.int Go.IntKind.u8 8) fun t42 =>
 condK t42
 (drawK prog world_bare_R16 (upd (upd (upd (upd e4 34 t34) 33 t34) 42 t42) 41 t42) w.drew fun e6 w =>
 J2 e6 w)
 (binI Go.BinOp.eql (e4 10) (Go.Value.int Go.IntKind.u8 9) fun t50 =>
 condK t50
 (drawK prog world_bare_R18 (upd (upd (upd (upd (upd (upd e4 34 t34) 33 t34) 42 t42) 41 t42) 50 t50) 49 t50) w.drew fun e7 w =>
 J2 e7 w)
 (binI Go.BinOp.eql (e4 10) (Go.Value.int Go.IntKind.u8 10) fun t58 =>
 condK t58
 (drawK prog world_bare_R20 (upd (upd (upd (upd (upd (upd (upd (upd e4 34 t34) 33 t34) 42 t42) 41 t42) 50 t50) 49 t50) 58 t58) 57 t58) w.drew fun e8 w =>
 J2 e8 w)
 (binI Go.BinOp.eql (e4 10) (Go.Value.int Go.IntKind.u8 12) fun t66 =>
 condK t66
 (drawK prog world_bare_R22 (upd (upd (upd (upd (upd (upd (upd (upd (upd (upd e4 34 t34) 33 t34) 42 t42) 41 t42) 50 t50) 49 t50) 58 t58) 57 t58) 66 t66) 65 t66) w.drew fun e9 w =>
 J2 e9 w)
 (binI Go.BinOp.eql (e4 10) (Go.Value.int Go.IntKind.u8 13) fun t74 =>
 condK t74
 (drawK prog world_bare_R24 (upd (upd (upd (upd (upd (upd (upd (upd (upd (upd (upd (upd e4 34 t34) 33 t34) 42 t42) 41 t42) 50 t50) 49 t50) 58 t58) 57 t58) 66 t66) 65 t66) 74 t74) 73 t74) w.drew fun e10 w =>
 J2 e10 w)
 (let J11 : Env → Go.World → Prop := fun e11 w =>
 (condK (e11 81)
 (drawK prog world_bare_R27 e11 w.drew fun e12 w =>
 J2 e12 w)
 (binI Go.BinOp.eql (e11 10) (Go.Value.int Go.IntKind.u8 14) fun t91 =>
 condK t91
 (fieldA 0 (e11 1) fun t92 =>
 load1 t92 w fun t93 =>
 fieldA 10 (e11 1) fun t94 =>
 load1 t94 w fun t95 =>
 fieldA 12 (e11 1) fun t96 =>
 load1 t96 w fun t97 =>
 buildS (Go.Value.agg #[(Go.Value.int Go.IntKind.u8 0), (Go.Value.int Go.IntKind.i64 0), (Go.Value.int Go.IntKind.u8 0), (Go.Value.int Go.IntKind.i64 0), (Go.Value.string { data := #[] }), (Go.Value.slice .none 0 0), (Go.Value.int Go.IntKind.i64 0), (Go.Value.slice .none 0 0), (Go.Value.int Go.IntKind.i64 0), (Go.Value.int Go.IntKind.i64 0), (Go.Value.int Go.IntKind.i64 0), (Go.Value.int Go.IntKind.i64 0), (Go.Value.int Go.IntKind.u8 0), (Go.Value.bool false), (Go.Value.slice .none 0 0), (Go.Value.slice .none 0 0)]) [(0, 1), (1, 1), (2, 5), (7, 1), (8, 1), (9, 1), (10, 1), (11, 1), (12, 1), (13, 1), (14, 1), (15, 1)] [(0, t93), (6, t95), (8, t97)] fun t98 =>
 storeN 16 (e11 3) t98 w fun w =>
 J2 (upd (upd (upd (upd (upd (upd (upd (upd (upd e11 91 t91) 90 t91) 92 t92) 93 t93) 94 t94) 95 t95) 96 t96) 97 t97) 98 t98) w)
 (J2 (upd (upd e11 91 t91) 90 t91) w)))
 binI Go.BinOp.eql (e4 10) (Go.Value.int Go.IntKind.u8 15) fun t82 =>
 condK t82
 (J11 (upd (upd (upd (upd (upd (upd (upd (upd (upd (upd (upd (upd (upd (upd e4 34 t34) 33 t34) 42 t42) 41 t42) 50 t50) 49 t50) 58 t58) 57 t58) 66 t66) 65 t66) 74 t74) 73 t74) 82 t82) 81 t82) w)
 (binI Go.BinOp.eql (e4 10) (Go.Value.int Go.IntKind.u8 16) fun t83 =>
 J11 (upd (upd (upd (upd (upd (upd (upd (upd (upd (upd (upd (upd (upd (upd (upd (upd e4 34 t34) 33 t34) 42 t42) 41 t42) 50 t50) 49 t50) 58 t58) 57 t58) 66 t66) 65 t66) 74 t74) 73 t74) 82 t82) 81 t82) 83 t83) 81 t83) w)))))))))
 binI Go.BinOp.eql (e3 10) (Go.Value.int Go.IntKind.u8 6) fun t28 =>
 condK t28
 (J4 (upd (upd (upd (upd e3 23 t23) 22 t23) 28 t28) 27 t28) w)
 (binI Go.BinOp.eql (e3 10) (Go.Value.int Go.IntKind.u8 11) fun t29 =>
 J4 (upd (upd (upd (upd (upd (upd e3 23 t23) 22 t23) 28 t28) 27 t28) 29 t29) 27 t29) w))))
 binI Go.BinOp.eql t10 (Go.Value.int Go.IntKind.u8 2) fun t17 =>
 condK t17
 (J3 (upd (upd (upd (upd (upd (upd (upd (upd (upd (upd (upd (upd (upd (upd (start [a0]) 1 t1) 2 t2) 4 t4) 5 t5) 6 t6) 7 t7) 8 t8) 3 t3) 9 t9) 10 t10) 12 t12) 11 t12) 17 t17) 16 t17) w)
 (binI Go.BinOp.eql t10 (Go.Value.int Go.IntKind.u8 4) fun t18 =>
 J3 (upd (upd (upd (upd (upd (upd (upd (upd (upd (upd (upd (upd (upd (upd (upd (upd (start [a0]) 1 t1) 2 t2) 4 t4) 5 t5) 6 t6) 7 t7) 8 t8) 3 t3) 9 t9) 10 t10) 12 t12) 11 t12) 17 t17) 16 t17) 18 t18) 16 t18) w))
theorem F_world_bare_eq (a0 : Go.Value) (w : Go.World) (R : Go.Value → Go.World → Prop) : cK prog (bodyOf Try.f93) (resK prog Try.f93.results.toList R) (start [a0]) w = F_world_bare a0 w R := by kernel_rfl
theorem F_world_bare_on (a0 : Go.Value) (w : Go.World) (k : Go.Value → Go.World → Prop) (h : F_world_bare a0 w k) : callOn prog fn_world_bare #[a0] w k :=
  calls_list (args := [a0]) mixed Try.func93 (by kernel_rfl) (by kernel_rfl) (Eq.mpr (F_world_bare_eq a0 w _) (Eq.mpr (congrArg (F_world_bare a0 w) (on_eq k)) h))


/-- postern/world.blank -/
def F_world_blank (a0 : Go.Value) (w : Go.World) (R : Go.Value → Go.World → Prop) : Prop :=
 boxK 47 a0 w fun t1 w =>
 fieldA 0 t1 fun t3 =>
 load1 t3 w fun t4 =>
 binI Go.BinOp.eql t4 (Go.Value.int Go.IntKind.u8 0) fun t5 =>
 gopK t5 true (fun k => fieldA 1 t1 fun v => k v w) w fun t7 w =>
 gopK t5 true (fun k => load1 t7 w fun v => k v w) w fun t8 w =>
 gopK t5 true (fun k => binI Go.BinOp.eql t8 (Go.Value.int Go.IntKind.i64 0) fun v => k v w) w fun t9 w =>
 pickK t5 t9 (Go.Value.bool false) fun t10 =>
 gopK t10 true (fun k => fieldA 2 t1 fun v => k v w) w fun t12 w =>
 gopK t10 true (fun k => load1 t12 w fun v => k v w) w fun t13 w =>
 gopK t10 true (fun k => binS Go.BinOp.eql t13 (Go.Value.string { data := #[] }) fun v => k v w) w fun t14 w =>
 pickK t10 t14 (Go.Value.bool false) fun t15 =>
 gopK t15 true (fun k => fieldA 3 t1 fun v => k v w) w fun t17 w =>
 gopK t15 true (fun k => load1 t17 w fun v => k v w) w fun t18 w =>
 gopK t15 true (fun k => lenL t18 fun v => k v w) w fun t19 w =>
 gopK t15 true (fun k => binI Go.BinOp.eql t19 (Go.Value.int Go.IntKind.i64 0) fun v => k v w) w fun t20 w =>
 pickK t15 t20 (Go.Value.bool false) fun t21 =>
 gopK t21 true (fun k => fieldA 4 t1 fun v => k v w) w fun t23 w =>
 gopK t21 true (fun k => load1 t23 w fun v => k v w) w fun t24 w =>
 gopK t21 true (fun k => binI Go.BinOp.eql t24 (Go.Value.int Go.IntKind.i64 0) fun v => k v w) w fun t25 w =>
 pickK t21 t25 (Go.Value.bool false) fun t26 =>
 R t26 w
theorem F_world_blank_eq (a0 : Go.Value) (w : Go.World) (R : Go.Value → Go.World → Prop) : cK prog (bodyOf Try.f94) (resK prog Try.f94.results.toList R) (start [a0]) w = F_world_blank a0 w R := by kernel_rfl
theorem F_world_blank_on (a0 : Go.Value) (w : Go.World) (k : Go.Value → Go.World → Prop) (h : F_world_blank a0 w k) : callOn prog fn_world_blank #[a0] w k :=
  calls_list (args := [a0]) mixed Try.func94 (by kernel_rfl) (by kernel_rfl) (Eq.mpr (F_world_blank_eq a0 w _) (Eq.mpr (congrArg (F_world_blank a0 w) (on_eq k)) h))


/-- postern/value.May -/
def F_value_May (a0 : Go.Value) (w : Go.World) (R : Go.Value → Go.World → Prop) : Prop :=
 boxK 47 a0 w fun t1 w =>
 loadN 5 t1 w fun t3 =>
 callOn prog fn_value_measure #[t3] w fun t4 w =>
 binI Go.BinOp.gtr t4 (Go.Value.int Go.IntKind.i64 0) fun t5 =>
 R t5 w
theorem F_value_May_eq (a0 : Go.Value) (w : Go.World) (R : Go.Value → Go.World → Prop) : cK prog (bodyOf Try.f95) (resK prog Try.f95.results.toList R) (start [a0]) w = F_value_May a0 w R := by kernel_rfl
theorem F_value_May_on (a0 : Go.Value) (w : Go.World) (k : Go.Value → Go.World → Prop) (h : F_value_May a0 w k) : callOn prog fn_value_May #[a0] w k :=
  calls_list (args := [a0]) mixed Try.func95 (by kernel_rfl) (by kernel_rfl) (Eq.mpr (F_value_May_eq a0 w _) (Eq.mpr (congrArg (F_value_May a0 w) (on_eq k)) h))


/-- postern/value.measure -/
def F_value_measure (a0 : Go.Value) (w : Go.World) (R : Go.Value → Go.World → Prop) : Prop :=
 boxK 47 a0 w fun t1 w =>
 buildS (Go.Value.agg #[(Go.Value.int Go.IntKind.i64 0), (Go.Value.int Go.IntKind.i64 0)]) [(0, 1), (1, 1)] [(0, (Go.Value.int Go.IntKind.i64 512)), (1, (Go.Value.int Go.IntKind.i64 16))] fun t4 =>
 boxK 196 t4 w fun t5 w =>
 loadN 5 t1 w fun t7 =>
 callOn prog fn_left_take #[t5, t7] w fun t8 w =>
 unK Go.UnOp.not t8 fun t9 =>
 condK t9
 (R (Go.Value.int Go.IntKind.i64 0) w)
 (nilK t5 fun t11 =>
 fieldA 0 t11 fun t12 =>
 load1 t12 w fun t13 =>
 binI Go.BinOp.sub (Go.Value.int Go.IntKind.i64 512) t13 fun t14 =>
 R t14 w)
theorem F_value_measure_eq (a0 : Go.Value) (w : Go.World) (R : Go.Value → Go.World → Prop) : cK prog (bodyOf Try.f118) (resK prog Try.f118.results.toList R) (start [a0]) w = F_value_measure a0 w R := by kernel_rfl
theorem F_value_measure_on (a0 : Go.Value) (w : Go.World) (k : Go.Value → Go.World → Prop) (h : F_value_measure a0 w k) : callOn prog fn_value_measure #[a0] w k :=
  calls_list (args := [a0]) mixed Try.func118 (by kernel_rfl) (by kernel_rfl) (Eq.mpr (F_value_measure_eq a0 w _) (Eq.mpr (congrArg (F_value_measure a0 w) (on_eq k)) h))


/-- (*postern/value.left).take -/
def F_left_take (a0 : Go.Value) (a1 : Go.Value) (w : Go.World) (R : Go.Value → Go.World → Prop) : Prop :=
 boxK 47 a1 w fun t3 w =>
 nilK a0 fun t9 =>
 fieldA 0 t9 fun t10 =>
 load1 t10 w fun t11 =>
 binI Go.BinOp.eql t11 (Go.Value.int Go.IntKind.i64 0) fun t12 =>
 condK t12
 (R (Go.Value.bool false) w)
 (nilK a0 fun t14 =>
 fieldA 0 t14 fun t15 =>
 load1 t15 w fun t16 =>
 binI Go.BinOp.sub t16 (Go.Value.int Go.IntKind.i64 1) fun t17 =>
 nilK a0 fun t18 =>
 fieldA 0 t18 fun t19 =>
 storeN 1 t19 t17 w fun w =>
 loadN 5 t3 w fun t20 =>
 allocZ (Go.Value.agg #[(Go.Value.int Go.IntKind.u8 0), (Go.Value.int Go.IntKind.i64 0), (Go.Value.string { data := #[] }), (Go.Value.slice .none 0 0), (Go.Value.int Go.IntKind.i64 0)]) 47 w fun t5 w =>
 storeN 5 t5 t20 w fun w =>
 let J1 : Env → Go.World → Prop := fun e1 w =>
 (fieldA 1 (e1 5) fun t85 =>
 load1 t85 w fun t86 =>
 binI Go.BinOp.eql t86 (Go.Value.int Go.IntKind.i64 0) fun t87 =>
 gopK t87 true (fun k => fieldA 2 (e1 5) fun v => k v w) w fun t89 w =>
 gopK t87 true (fun k => load1 t89 w fun v => k v w) w fun t90 w =>
 gopK t87 true (fun k => binS Go.BinOp.eql t90 (Go.Value.string { data := #[] }) fun v => k v w) w fun t91 w =>
 pickK t87 t91 (Go.Value.bool false) fun t92 =>
 gopK t92 true (fun k => fieldA 4 (e1 5) fun v => k v w) w fun t94 w =>
 gopK t92 true (fun k => load1 t94 w fun v => k v w) w fun t95 w =>
 gopK t92 true (fun k => binI Go.BinOp.eql t95 (Go.Value.int Go.IntKind.i64 0) fun v => k v w) w fun t96 w =>
 pickK t92 t96 (Go.Value.bool false) fun t97 =>
 gopK t97 true (fun k => fieldA 3 (e1 5) fun v => k v w) w fun t99 w =>
 gopK t97 true (fun k => load1 t99 w fun v => k v w) w fun t100 w =>
 gopK t97 true (fun k => lenL t100 fun v => k v w) w fun t101 w =>
 gopK t97 true (fun k => binI Go.BinOp.eql t101 (Go.Value.int Go.IntKind.i64 0) fun v => k v w) w fun t102 w =>
 pickK t97 t102 (Go.Value.bool false) fun t103 =>
 R t103 w)
 fieldA 0 t3 fun t21 =>
 load1 t21 w fun t22 =>
 let J2 : Env → Go.World → Prop := fun e2 w =>
 (J1 e2 w)
 binI Go.BinOp.eql t22 (Go.Value.int Go.IntKind.u8 0) fun t24 =>
 condK t24
 (J2 (upd (upd (upd (upd (upd (upd (upd (upd (upd (upd (upd (upd (upd (upd (upd (upd (upd (upd (upd (upd (start [a0, a1]) 3 t3) 4 (Go.Value.bool false)) 8 a0) 9 t9) 10 t10) 11 t11) 12 t12) 13 a0) 14 t14) 15 t15) 16 t16) 17 t17) 18 t18) 19 t19) 20 t20) 5 t5) 21 t21) 22 t22) 24 t24) 23 t24) w)
 (binI Go.BinOp.eql t22 (Go.Value.int Go.IntKind.u8 1) fun t26 =>
 condK t26
 (fieldA 1 t5 fun t27 =>
 storeN 1 t27 (Go.Value.int Go.IntKind.i64 0) w fun w =>
 J2 (upd (upd (upd (upd (upd (upd (upd (upd (upd (upd (upd (upd (upd (upd (upd (upd (upd (upd (upd (upd (upd (upd (upd (start [a0, a1]) 3 t3) 4 (Go.Value.bool false)) 8 a0) 9 t9) 10 t10) 11 t11) 12 t12) 13 a0) 14 t14) 15 t15) 16 t16) 17 t17) 18 t18) 19 t19) 20 t20) 5 t5) 21 t21) 22 t22) 24 t24) 23 t24) 26 t26) 25 t26) 27 t27) w)
 (binI Go.BinOp.eql t22 (Go.Value.int Go.IntKind.u8 2) fun t29 =>
 condK t29
 (fieldA 2 t3 fun t30 =>
 load1 t30 w fun t31 =>
 lenS t31 fun t32 =>
 binI Go.BinOp.gtr t32 (Go.Value.int Go.IntKind.i64 256) fun t33 =>
 condK t33
 (R (Go.Value.bool false) w)
 (fieldA 2 t5 fun t34 =>
 storeN 1 t34 (Go.Value.string { data := #[] }) w fun w =>
 J2 (upd (upd (upd (upd (upd (upd (upd (upd (upd (upd (upd (upd (upd (upd (upd (upd (upd (upd (upd (upd (upd (upd (upd (upd (upd (upd (upd (upd (upd (start [a0, a1]) 3 t3) 4 (Go.Value.bool false)) 8 a0) 9 t9) 10 t10) 11 t11) 12 t12) 13 a0) 14 t14) 15 t15) 16 t16) 17 t17) 18 t18) 19 t19) 20 t20) 5 t5) 21 t21) 22 t22) 24 t24) 23 t24) 26 t26) 25 t26) 29 t29) 28 t29) 30 t30) 31 t31) 32 t32) 33 t33) 34 t34) w))
 (binI Go.BinOp.eql t22 (Go.Value.int Go.IntKind.u8 4) fun t36 =>
 condK t36
 (fieldA 4 t3 fun t37 =>
 load1 t37 w fun t38 =>
 binI Go.BinOp.lss t38 (Go.Value.int Go.IntKind.i64 1) fun t39 =>
 condK t39
 (R (Go.Value.bool false) w)
 (fieldA 4 t5 fun t40 =>
 storeN 1 t40 (Go.Value.int Go.IntKind.i64 0) w fun w =>
 J2 (upd (upd (upd (upd (upd (upd (upd (upd (upd (upd (upd (upd (upd (upd (upd (upd (upd (upd (upd (upd (upd (upd (upd (upd (upd (upd (upd (upd (upd (upd (start [a0, a1]) 3 t3) 4 (Go.Value.bool false)) 8 a0) 9 t9) 10 t10) 11 t11) 12 t12) 13 a0) 14 t14) 15 t15) 16 t16) 17 t17) 18 t18) 19 t19) 20 t20) 5 t5) 21 t21) 22 t22) 24 t24) 23 t24) 26 t26) 25 t26) 29 t29) 28 t29) 36 t36) 35 t36) 37 t37) 38 t38) 39 t39) 40 t40) w))
 (binI Go.BinOp.eql t22 (Go.Value.int Go.IntKind.u8 3) fun t42 =>
 condK t42
 (atDrew w fun (w : Go.World) =>
 nilK a0 fun t44 =>
 fieldA 1 t44 fun t45 =>
 load1 t45 w fun t46 =>
 binI Go.BinOp.eql t46 (Go.Value.int Go.IntKind.i64 0) fun t47 =>
 gopK t47 false (fun k => fieldA 3 t3 fun v => k v w) w fun t49 w =>
 gopK t47 false (fun k => load1 t49 w fun v => k v w) w fun t50 w =>
 gopK t47 false (fun k => lenL t50 fun v => k v w) w fun t51 w =>
 gopK t47 false (fun k => k a0 w) w fun t52 w =>
 gopK t47 false (fun k => nilK t52 fun v => k v w) w fun t53 w =>
 gopK t47 false (fun k => fieldA 0 t53 fun v => k v w) w fun t54 w =>
 gopK t47 false (fun k => load1 t54 w fun v => k v w) w fun t55 w =>
 gopK t47 false (fun k => binI Go.BinOp.gtr t51 t55 fun v => k v w) w fun t56 w =>
 pickK t47 (Go.Value.bool true) t56 fun t57 =>
 condK t57
 (R (Go.Value.bool false) w)
 (nilK a0 fun t59 =>
 fieldA 1 t59 fun t60 =>
 load1 t60 w fun t61 =>
 binI Go.BinOp.sub t61 (Go.Value.int Go.IntKind.i64 1) fun t62 =>
 nilK a0 fun t63 =>
 fieldA 1 t63 fun t64 =>
 storeN 1 t64 t62 w fun w =>
 fieldA 3 t3 fun t65 =>
 load1 t65 w fun t66 =>
 lenL t66 fun t67 =>
 loopK (fun k3 e3 w =>
 binI Go.BinOp.lss (e3 68) (e3 67) fun t69 =>
 condK t69
 (indexS 5 (e3 66) (e3 68) fun t70 =>
 loadN 5 t70 w fun t71 =>
 allocZ (Go.Value.agg #[(Go.Value.int Go.IntKind.u8 0), (Go.Value.int Go.IntKind.i64 0), (Go.Value.string { data := #[] }), (Go.Value.slice .none 0 0), (Go.Value.int Go.IntKind.i64 0)]) 47 w fun t7 w =>
 storeN 5 t7 t71 w fun w =>
 loadN 5 t7 w fun t73 =>
 callOn prog fn_left_take #[(e3 0), t73] w fun t74 w =>
 unK Go.UnOp.not t74 fun t75 =>
 condK t75
 (R (Go.Value.bool false) w)
 (binI Go.BinOp.add (e3 68) (Go.Value.int Go.IntKind.i64 1) fun t76 =>
 k3 (upd (upd (upd (upd (upd (upd (upd (upd (upd (upd e3 69 t69) 70 t70) 71 t71) 7 t7) 72 (e3 0)) 73 t73) 74 t74) 75 t75) 76 t76) 68 t76) w))
 (nilK (e3 0) fun t78 =>
 fieldA 1 t78 fun t79 =>
 load1 t79 w fun t80 =>
 binI Go.BinOp.add t80 (Go.Value.int Go.IntKind.i64 1) fun t81 =>
 nilK (e3 0) fun t82 =>
 fieldA 1 t82 fun t83 =>
 storeN 1 t83 t81 w fun w =>
 fieldA 3 (e3 5) fun t84 =>
 storeN 1 t84 (Go.Value.slice .none 0 0) w fun w =>
 J2 (upd (upd (upd (upd (upd (upd (upd (upd (upd e3 69 t69) 77 (e3 0)) 78 t78) 79 t79) 80 t80) 81 t81) 82 t82) 83 t83) 84 t84) w)) (upd (upd (upd (upd (upd (upd (upd (upd (upd (upd (upd (upd (upd (upd (upd (upd (upd (upd (upd (upd (upd (upd (upd (upd (upd (upd (upd (upd (upd (upd (upd (upd (upd (upd (upd (upd (upd (upd (upd (upd (upd (upd (upd (upd (upd (upd (upd (upd (upd (upd (upd (upd (upd (upd (start [a0, a1]) 3 t3) 4 (Go.Value.bool false)) 8 a0) 9 t9) 10 t10) 11 t11) 12 t12) 13 a0) 14 t14) 15 t15) 16 t16) 17 t17) 18 t18) 19 t19) 20 t20) 5 t5) 21 t21) 22 t22) 24 t24) 23 t24) 26 t26) 25 t26) 29 t29) 28 t29) 36 t36) 35 t36) 42 t42) 41 t42) 43 a0) 44 t44) 45 t45) 46 t46) 47 t47) 48 t47) 49 t49) 50 t50) 51 t51) 52 t52) 53 t53) 54 t54) 55 t55) 56 t56) 57 t57) 58 a0) 59 t59) 60 t60) 61 t61) 62 t62) 63 t63) 64 t64) 65 t65) 66 t66) 67 t67) 68 (Go.Value.int Go.IntKind.i64 0)) w))
 (R (Go.Value.bool false) w))))))
theorem F_left_take_eq (a0 : Go.Value) (a1 : Go.Value) (w : Go.World) (R : Go.Value → Go.World → Prop) : cK prog (bodyOf Try.f136) (resK prog Try.f136.results.toList R) (start [a0, a1]) w = F_left_take a0 a1 w R := by kernel_rfl
theorem F_left_take_on (a0 : Go.Value) (a1 : Go.Value) (w : Go.World) (k : Go.Value → Go.World → Prop) (h : F_left_take a0 a1 w k) : callOn prog fn_left_take #[a0, a1] w k :=
  calls_list (args := [a0, a1]) mixed Try.func136 (by kernel_rfl) (by kernel_rfl) (Eq.mpr (F_left_take_eq a0 a1 w _) (Eq.mpr (congrArg (F_left_take a0 a1 w) (on_eq k)) h))


/-- postern/value.all -/
def F_value_all (a0 : Go.Value) (w : Go.World) (R : Go.Value → Go.World → Prop) : Prop :=
 callOn prog fn_slices_ContainsFunc_Value #[a0, (Go.Value.func (Go.Fn.func 138) #[] #[])] w fun t4 w =>
 unK Go.UnOp.not t4 fun t5 =>
 R t5 w
theorem F_value_all_eq (a0 : Go.Value) (w : Go.World) (R : Go.Value → Go.World → Prop) : cK prog (bodyOf Try.f119) (resK prog Try.f119.results.toList R) (start [a0]) w = F_value_all a0 w R := by kernel_rfl
theorem F_value_all_on (a0 : Go.Value) (w : Go.World) (k : Go.Value → Go.World → Prop) (h : F_value_all a0 w k) : callOn prog fn_value_all #[a0] w k :=
  calls_list (args := [a0]) mixed Try.func119 (by kernel_rfl) (by kernel_rfl) (Eq.mpr (F_value_all_eq a0 w _) (Eq.mpr (congrArg (F_value_all a0 w) (on_eq k)) h))


/-- postern/value.all$1 -/
def F_value_all_1 (a0 : Go.Value) (w : Go.World) (R : Go.Value → Go.World → Prop) : Prop :=
 boxK 47 a0 w fun t1 w =>
 loadN 5 t1 w fun t3 =>
 callOn prog fn_value_May #[t3] w fun t4 w =>
 unK Go.UnOp.not t4 fun t5 =>
 R t5 w
theorem F_value_all_1_eq (a0 : Go.Value) (w : Go.World) (R : Go.Value → Go.World → Prop) : cK prog (bodyOf Try.f138) (resK prog Try.f138.results.toList R) (start [a0]) w = F_value_all_1 a0 w R := by kernel_rfl
theorem F_value_all_1_on (a0 : Go.Value) (w : Go.World) (k : Go.Value → Go.World → Prop) (h : F_value_all_1 a0 w k) : callOn prog fn_value_all_1 #[a0] w k :=
  calls_list (args := [a0]) mixed Try.func138 (by kernel_rfl) (by kernel_rfl) (Eq.mpr (F_value_all_1_eq a0 w _) (Eq.mpr (congrArg (F_value_all_1 a0 w) (on_eq k)) h))


/-- slices.ContainsFunc[[]postern/api.Value,postern/api.Value] -/
def F_slices_ContainsFunc_Value (a0 : Go.Value) (a1 : Go.Value) (w : Go.World) (R : Go.Value → Go.World → Prop) : Prop :=
 callOn prog fn_slices_IndexFunc_Value #[a0, a1] w fun t7 w =>
 binI Go.BinOp.geq t7 (Go.Value.int Go.IntKind.i64 0) fun t8 =>
 R t8 w
theorem F_slices_ContainsFunc_Value_eq (a0 : Go.Value) (a1 : Go.Value) (w : Go.World) (R : Go.Value → Go.World → Prop) : cK prog (bodyOf Try.f137) (resK prog Try.f137.results.toList R) (start [a0, a1]) w = F_slices_ContainsFunc_Value a0 a1 w R := by kernel_rfl
theorem F_slices_ContainsFunc_Value_on (a0 : Go.Value) (a1 : Go.Value) (w : Go.World) (k : Go.Value → Go.World → Prop) (h : F_slices_ContainsFunc_Value a0 a1 w k) : callOn prog fn_slices_ContainsFunc_Value #[a0, a1] w k :=
  calls_list (args := [a0, a1]) mixed Try.func137 (by kernel_rfl) (by kernel_rfl) (Eq.mpr (F_slices_ContainsFunc_Value_eq a0 a1 w _) (Eq.mpr (congrArg (F_slices_ContainsFunc_Value a0 a1 w) (on_eq k)) h))


/-- slices.IndexFunc[[]postern/api.Value,postern/api.Value] -/
def F_slices_IndexFunc_Value (a0 : Go.Value) (a1 : Go.Value) (w : Go.World) (R : Go.Value → Go.World → Prop) : Prop :=
 lenL a0 fun t7 =>
 loopK (fun k1 e1 w =>
 binI Go.BinOp.lss (e1 8) (e1 7) fun t9 =>
 condK t9
 (indexS 5 (e1 0) (e1 8) fun t14 =>
 loadN 5 t14 w fun t15 =>
 callT prog (e1 1) [t15] w fun t16 w =>
 condK t16
 (R (e1 8) w)
 (binI Go.BinOp.add (e1 8) (Go.Value.int Go.IntKind.i64 1) fun t18 =>
 k1 (upd (upd (upd (upd (upd (upd (upd (upd (upd (upd (upd e1 9 t9) 10 (e1 8)) 5 (e1 8)) 11 (e1 1)) 12 (e1 0)) 13 (e1 8)) 14 t14) 15 t15) 16 t16) 18 t18) 8 t18) w))
 (R (Go.Value.int Go.IntKind.i64 (-1)) w)) (upd (upd (upd (upd (start [a0, a1]) 4 (Go.Value.int Go.IntKind.i64 0)) 6 a0) 7 t7) 8 (Go.Value.int Go.IntKind.i64 0)) w
theorem F_slices_IndexFunc_Value_eq (a0 : Go.Value) (a1 : Go.Value) (w : Go.World) (R : Go.Value → Go.World → Prop) : cK prog (bodyOf Try.f149) (resK prog Try.f149.results.toList R) (start [a0, a1]) w = F_slices_IndexFunc_Value a0 a1 w R := by kernel_rfl
theorem F_slices_IndexFunc_Value_on (a0 : Go.Value) (a1 : Go.Value) (w : Go.World) (k : Go.Value → Go.World → Prop) (h : F_slices_IndexFunc_Value a0 a1 w k) : callOn prog fn_slices_IndexFunc_Value #[a0, a1] w k :=
  calls_list (args := [a0, a1]) mixed Try.func149 (by kernel_rfl) (by kernel_rfl) (Eq.mpr (F_slices_IndexFunc_Value_eq a0 a1 w _) (Eq.mpr (congrArg (F_slices_IndexFunc_Value a0 a1 w) (on_eq k)) h))


/-- postern/value.Of -/
def F_value_Of (a0 : Go.Value) (w : Go.World) (R : Go.Value → Go.World → Prop) : Prop :=
 allocZ (Go.Value.agg #[(Go.Value.int Go.IntKind.u8 0), (Go.Value.int Go.IntKind.i64 0), (Go.Value.string { data := #[] }), (Go.Value.slice .none 0 0), (Go.Value.int Go.IntKind.i64 0)]) 47 w fun t2 w =>
 callOn prog fn_value_all #[a0] w fun t6 w =>
 unK Go.UnOp.not t6 fun t7 =>
 condK t7
 (buildS (Go.Value.agg #[(Go.Value.int Go.IntKind.u8 0), (Go.Value.int Go.IntKind.i64 0), (Go.Value.string { data := #[] }), (Go.Value.slice .none 0 0), (Go.Value.int Go.IntKind.i64 0)]) [(0, 1), (1, 1), (2, 1), (3, 1), (4, 1)] [] fun t8 =>
 storeN 5 t2 t8 w fun w =>
 loadN 5 t2 w fun r1 =>
 R (Go.Value.tuple #[r1, (Go.Value.int Go.IntKind.i64 2)]) w)
 (buildS (Go.Value.agg #[(Go.Value.int Go.IntKind.u8 0), (Go.Value.int Go.IntKind.i64 0), (Go.Value.string { data := #[] }), (Go.Value.slice .none 0 0), (Go.Value.int Go.IntKind.i64 0)]) [(0, 1), (1, 1), (2, 1), (3, 1), (4, 1)] [(0, (Go.Value.int Go.IntKind.u8 3)), (3, a0)] fun t10 =>
 allocZ (Go.Value.agg #[(Go.Value.int Go.IntKind.u8 0), (Go.Value.int Go.IntKind.i64 0), (Go.Value.string { data := #[] }), (Go.Value.slice .none 0 0), (Go.Value.int Go.IntKind.i64 0)]) 47 w fun t4 w =>
 storeN 5 t4 t10 w fun w =>
 loadN 5 t4 w fun t11 =>
 callOn prog fn_value_May #[t11] w fun t12 w =>
 unK Go.UnOp.not t12 fun t13 =>
 condK t13
 (buildS (Go.Value.agg #[(Go.Value.int Go.IntKind.u8 0), (Go.Value.int Go.IntKind.i64 0), (Go.Value.string { data := #[] }), (Go.Value.slice .none 0 0), (Go.Value.int Go.IntKind.i64 0)]) [(0, 1), (1, 1), (2, 1), (3, 1), (4, 1)] [] fun t14 =>
 storeN 5 t2 t14 w fun w =>
 loadN 5 t2 w fun r1 =>
 R (Go.Value.tuple #[r1, (Go.Value.int Go.IntKind.i64 4)]) w)
 (loadN 5 t4 w fun t15 =>
 callOn prog fn_value_own #[t15] w fun t16 w =>
 storeN 5 t2 t16 w fun w =>
 loadN 5 t2 w fun r1 =>
 R (Go.Value.tuple #[r1, (Go.Value.int Go.IntKind.i64 0)]) w))
theorem F_value_Of_eq (a0 : Go.Value) (w : Go.World) (R : Go.Value → Go.World → Prop) : cK prog (bodyOf Try.f96) (resK prog Try.f96.results.toList R) (start [a0]) w = F_value_Of a0 w R := by kernel_rfl
theorem F_value_Of_on (a0 : Go.Value) (w : Go.World) (k : Go.Value → Go.World → Prop) (h : F_value_Of a0 w k) : callOn prog fn_value_Of #[a0] w k :=
  calls_list (args := [a0]) mixed Try.func96 (by kernel_rfl) (by kernel_rfl) (Eq.mpr (F_value_Of_eq a0 w _) (Eq.mpr (congrArg (F_value_Of a0 w) (on_eq k)) h))


/-- postern/world.small -/
def F_world_small (a0 : Go.Value) (a1 : Go.Value) (w : Go.World) (R : Go.Value → Go.World → Prop) : Prop :=
 lenL a0 fun t10 =>
 loopK (fun k1 e1 w =>
 binI Go.BinOp.lss (e1 11) (e1 10) fun t12 =>
 condK t12
 (indexS 17 (e1 9) (e1 11) fun t13 =>
 loadN 17 t13 w fun t14 =>
 allocZ (Go.Value.agg #[(Go.Value.int Go.IntKind.u8 0), (Go.Value.string { data := #[] }), (Go.Value.string { data := #[] }), (Go.Value.int Go.IntKind.u8 0), (Go.Value.int Go.IntKind.u8 0), (Go.Value.int Go.IntKind.u8 0), (Go.Value.int Go.IntKind.i64 0), (Go.Value.string { data := #[] }), (Go.Value.slice .none 0 0), (Go.Value.int Go.IntKind.u8 0), (Go.Value.int Go.IntKind.i64 0), (Go.Value.string { data := #[] }), (Go.Value.slice .none 0 0), (Go.Value.slice .none 0 0), (Go.Value.slice .none 0 0), (Go.Value.slice .none 0 0), (Go.Value.slice .none 0 0)]) 181 w fun t6 w =>
 storeN 17 t6 t14 w fun w =>
 nilK (e1 1) fun t16 =>
 load1 t16 w fun t17 =>
 binI Go.BinOp.add t17 (Go.Value.int Go.IntKind.i64 1) fun t18 =>
 nilK (e1 1) fun t19 =>
 storeN 1 t19 t18 w fun w =>
 allocZ (Go.Value.int Go.IntKind.i64 0) 3 w fun t7 w =>
 allocZ (Go.Value.int Go.IntKind.i64 0) 3 w fun t8 w =>
 storeN 1 t7 (Go.Value.int Go.IntKind.i64 0) w fun w =>
 storeN 1 t8 (Go.Value.int Go.IntKind.i64 0) w fun w =>
 nilK (e1 1) fun t21 =>
 load1 t21 w fun t22 =>
 binI Go.BinOp.gtr t22 (Go.Value.int Go.IntKind.i64 512) fun t23 =>
 gopK t23 false (fun k => fieldA 16 t6 fun v => k v w) w fun t25 w =>
 gopK t23 false (fun k => load1 t25 w fun v => k v w) w fun t26 w =>
 gopK t23 false (fun k => lenL t26 fun v => k v w) w fun t27 w =>
 gopK t23 false (fun k => binI Go.BinOp.gtr t27 (Go.Value.int Go.IntKind.i64 64) fun v => k v w) w fun t28 w =>
 pickK t23 (Go.Value.bool true) t28 fun t29 =>
 gopK t29 false (fun k => fieldA 5 t6 fun v => k v w) w fun t31 w =>
 gopK t29 false (fun k => loadN 4 t31 w fun v => k v w) w fun t32 w =>
 gopK t29 false (fun k => callOn prog fn_world_little #[t32, t7, (Go.Value.int Go.IntKind.i64 16)] w k) w fun t33 w =>
 gopK t29 false (fun k => unK Go.UnOp.not t33 fun v => k v w) w fun t34 w =>
 pickK t29 (Go.Value.bool true) t34 fun t35 =>
 gopK t35 false (fun k => fieldA 9 t6 fun v => k v w) w fun t37 w =>
 gopK t35 false (fun k => loadN 4 t37 w fun v => k v w) w fun t38 w =>
 gopK t35 false (fun k => callOn prog fn_world_little #[t38, t8, (Go.Value.int Go.IntKind.i64 16)] w k) w fun t39 w =>
 gopK t35 false (fun k => unK Go.UnOp.not t39 fun v => k v w) w fun t40 w =>
 pickK t35 (Go.Value.bool true) t40 fun t41 =>
 condK t41
 (R (Go.Value.bool false) w)
 (fieldA 13 t6 fun t42 =>
 load1 t42 w fun t43 =>
 callOn prog fn_world_small #[t43, (e1 1)] w fun t45 w =>
 unK Go.UnOp.not t45 fun t46 =>
 gopK t46 false (fun k => fieldA 14 t6 fun v => k v w) w fun t48 w =>
 gopK t46 false (fun k => load1 t48 w fun v => k v w) w fun t49 w =>
 gopK t46 false (fun k => k (e1 1) w) w fun t50 w =>
 gopK t46 false (fun k => callOn prog fn_world_small #[t49, t50] w k) w fun t51 w =>
 gopK t46 false (fun k => unK Go.UnOp.not t51 fun v => k v w) w fun t52 w =>
 pickK t46 (Go.Value.bool true) t52 fun t53 =>
 gopK t53 false (fun k => fieldA 15 t6 fun v => k v w) w fun t55 w =>
 gopK t53 false (fun k => load1 t55 w fun v => k v w) w fun t56 w =>
 gopK t53 false (fun k => k (e1 1) w) w fun t57 w =>
 gopK t53 false (fun k => callOn prog fn_world_small #[t56, t57] w k) w fun t58 w =>
 gopK t53 false (fun k => unK Go.UnOp.not t58 fun v => k v w) w fun t59 w =>
 pickK t53 (Go.Value.bool true) t59 fun t60 =>
 condK t60
 (R (Go.Value.bool false) w)
 (binI Go.BinOp.add (e1 11) (Go.Value.int Go.IntKind.i64 1) fun t61 =>
 k1 (upd (upd (upd (upd (upd (upd (upd (upd (upd (upd (upd (upd (upd (upd (upd (upd (upd (upd (upd (upd (upd (upd (upd (upd (upd (upd (upd (upd (upd (upd (upd (upd (upd (upd (upd (upd (upd (upd (upd (upd (upd (upd (upd (upd (upd (upd (upd (upd (upd (upd (upd (upd (upd (upd e1 12 t12) 13 t13) 14 t14) 6 t6) 15 (e1 1)) 16 t16) 17 t17) 18 t18) 19 t19) 7 t7) 8 t8) 20 (e1 1)) 21 t21) 22 t22) 23 t23) 24 t23) 25 t25) 26 t26) 27 t27) 28 t28) 29 t29) 30 t29) 31 t31) 32 t32) 33 t33) 34 t34) 35 t35) 36 t35) 37 t37) 38 t38) 39 t39) 40 t40) 41 t41) 42 t42) 43 t43) 44 (e1 1)) 45 t45) 46 t46) 47 t46) 48 t48) 49 t49) 50 t50) 51 t51) 52 t52) 53 t53) 54 t53) 55 t55) 56 t56) 57 t57) 58 t58) 59 t59) 60 t60) 61 t61) 11 t61) w)))
 (R (Go.Value.bool true) w)) (upd (upd (upd (upd (start [a0, a1]) 4 (Go.Value.bool false)) 9 a0) 10 t10) 11 (Go.Value.int Go.IntKind.i64 0)) w
theorem F_world_small_eq (a0 : Go.Value) (a1 : Go.Value) (w : Go.World) (R : Go.Value → Go.World → Prop) : cK prog (bodyOf Try.f97) (resK prog Try.f97.results.toList R) (start [a0, a1]) w = F_world_small a0 a1 w R := by kernel_rfl
theorem F_world_small_on (a0 : Go.Value) (a1 : Go.Value) (w : Go.World) (k : Go.Value → Go.World → Prop) (h : F_world_small a0 a1 w k) : callOn prog fn_world_small #[a0, a1] w k :=
  calls_list (args := [a0, a1]) mixed Try.func97 (by kernel_rfl) (by kernel_rfl) (Eq.mpr (F_world_small_eq a0 a1 w _) (Eq.mpr (congrArg (F_world_small a0 a1 w) (on_eq k)) h))


/-- postern/able.May -/
def F_able_May (a0 : Go.Value) (w : Go.World) (R : Go.Value → Go.World → Prop) : Prop :=
 binI Go.BinOp.andNot a0 (Go.Value.int Go.IntKind.u8 63) fun t4 =>
 binI Go.BinOp.eql t4 (Go.Value.int Go.IntKind.u8 0) fun t5 =>
 R t5 w
theorem F_able_May_eq (a0 : Go.Value) (w : Go.World) (R : Go.Value → Go.World → Prop) : cK prog (bodyOf Try.f98) (resK prog Try.f98.results.toList R) (start [a0]) w = F_able_May a0 w R := by kernel_rfl
theorem F_able_May_on (a0 : Go.Value) (w : Go.World) (k : Go.Value → Go.World → Prop) (h : F_able_May a0 w k) : callOn prog fn_able_May #[a0] w k :=
  calls_list (args := [a0]) mixed Try.func98 (by kernel_rfl) (by kernel_rfl) (Eq.mpr (F_able_May_eq a0 w _) (Eq.mpr (congrArg (F_able_May a0 w) (on_eq k)) h))


/-- (*postern/world.World).names -/
def F_World_names (a0 : Go.Value) (a1 : Go.Value) (w : Go.World) (R : Go.Value → Go.World → Prop) : Prop :=
 boxK 27 a0 w fun t2 w =>
 boxK 52 a1 w fun t3 w =>
 loadN 16 t3 w fun t5 =>
 callOn prog fn_world_held #[t5] w fun t6 w =>
 callOn prog fn_slices_ContainsFunc_Ref #[t6, (Go.Value.func (Go.Fn.func 99) #[] #[t2])] w fun t8 w =>
 unK Go.UnOp.not t8 fun t9 =>
 R t9 w
theorem F_World_names_eq (a0 : Go.Value) (a1 : Go.Value) (w : Go.World) (R : Go.Value → Go.World → Prop) : cK prog (bodyOf Try.f65) (resK prog Try.f65.results.toList R) (start [a0, a1]) w = F_World_names a0 a1 w R := by kernel_rfl
theorem F_World_names_on (a0 : Go.Value) (a1 : Go.Value) (w : Go.World) (k : Go.Value → Go.World → Prop) (h : F_World_names a0 a1 w k) : callOn prog fn_World_names #[a0, a1] w k :=
  calls_list (args := [a0, a1]) mixed Try.func65 (by kernel_rfl) (by kernel_rfl) (Eq.mpr (F_World_names_eq a0 a1 w _) (Eq.mpr (congrArg (F_World_names a0 a1 w) (on_eq k)) h))


/-- (*postern/world.World).names$1 -/
def F_World_names_1 (a0 : Go.Value) (a1 : Go.Value) (w : Go.World) (R : Go.Value → Go.World → Prop) : Prop :=
 load1 a1 w fun t4 =>
 callOn prog fn_World_Is #[t4, a0] w fun t6 w =>
 unK Go.UnOp.not t6 fun t7 =>
 R t7 w
theorem F_World_names_1_eq (a0 : Go.Value) (a1 : Go.Value) (w : Go.World) (R : Go.Value → Go.World → Prop) : cK prog (bodyOf Try.f99) (resK prog Try.f99.results.toList R) (start [a0, a1]) w = F_World_names_1 a0 a1 w R := by kernel_rfl
theorem F_World_names_1_on (a0 : Go.Value) (a1 : Go.Value) (w : Go.World) (k : Go.Value → Go.World → Prop) (h : F_World_names_1 a0 a1 w k) : callOn prog fn_World_names_1 #[a0, a1] w k :=
  calls_list (args := [a0, a1]) mixed Try.func99 (by kernel_rfl) (by kernel_rfl) (Eq.mpr (F_World_names_1_eq a0 a1 w _) (Eq.mpr (congrArg (F_World_names_1 a0 a1 w) (on_eq k)) h))


/-- postern/world.held -/
def F_world_held (a0 : Go.Value) (w : Go.World) (R : Go.Value → Go.World → Prop) : Prop :=
 boxK 52 a0 w fun t1 w =>
 fieldA 2 t1 fun t8 =>
 loadN 5 t8 w fun t9 =>
 callOn prog fn_value_Refs #[t9] w fun t10 w =>
 fieldA 7 t1 fun t11 =>
 load1 t11 w fun t12 =>
 lenL t12 fun t13 =>
 loopK (fun k1 e1 w =>
 binI Go.BinOp.lss (e1 14) (e1 13) fun t15 =>
 condK t15
 (indexS 5 (e1 12) (e1 14) fun t16 =>
 loadN 5 t16 w fun t17 =>
 allocZ (Go.Value.agg #[(Go.Value.int Go.IntKind.u8 0), (Go.Value.int Go.IntKind.i64 0), (Go.Value.string { data := #[] }), (Go.Value.slice .none 0 0), (Go.Value.int Go.IntKind.i64 0)]) 47 w fun t5 w =>
 storeN 5 t5 t17 w fun w =>
 loadN 5 t5 w fun t19 =>
 callOn prog fn_value_Refs #[t19] w fun t20 w =>
 appendS 40 1 8 (Go.Value.int Go.IntKind.i64 0) (e1 3) t20 w fun t21 w =>
 binI Go.BinOp.add (e1 14) (Go.Value.int Go.IntKind.i64 1) fun t22 =>
 k1 (upd (upd (upd (upd (upd (upd (upd (upd (upd (upd (upd e1 15 t15) 16 t16) 17 t17) 5 t5) 18 (e1 3)) 19 t19) 20 t20) 21 t21) 3 t21) 22 t22) 14 t22) w)
 (fieldA 15 (e1 1) fun t23 =>
 load1 t23 w fun t24 =>
 lenL t24 fun t25 =>
 loopK (fun k2 e2 w =>
 binI Go.BinOp.lss (e2 26) (e2 25) fun t27 =>
 condK t27
 (indexS 6 (e2 24) (e2 26) fun t28 =>
 loadN 6 t28 w fun t29 =>
 allocZ (Go.Value.agg #[(Go.Value.string { data := #[] }), (Go.Value.int Go.IntKind.u8 0), (Go.Value.int Go.IntKind.i64 0), (Go.Value.string { data := #[] }), (Go.Value.slice .none 0 0), (Go.Value.int Go.IntKind.i64 0)]) 150 w fun t7 w =>
 storeN 6 t7 t29 w fun w =>
 fieldA 1 t7 fun t31 =>
 loadN 5 t31 w fun t32 =>
 callOn prog fn_value_Refs #[t32] w fun t33 w =>
 appendS 40 1 8 (Go.Value.int Go.IntKind.i64 0) (e2 3) t33 w fun t34 w =>
 binI Go.BinOp.add (e2 26) (Go.Value.int Go.IntKind.i64 1) fun t35 =>
 k2 (upd (upd (upd (upd (upd (upd (upd (upd (upd (upd (upd (upd e2 27 t27) 28 t28) 29 t29) 7 t7) 30 (e2 3)) 31 t31) 32 t32) 33 t33) 34 t34) 3 t34) 35 t35) 26 t35) w)
 (R (e2 3) w)) (upd (upd (upd (upd (upd e1 15 t15) 23 t23) 24 t24) 25 t25) 26 (Go.Value.int Go.IntKind.i64 0)) w)) (upd (upd (upd (upd (upd (upd (upd (upd (upd (upd (start [a0]) 1 t1) 2 (Go.Value.slice .none 0 0)) 8 t8) 9 t9) 10 t10) 3 t10) 11 t11) 12 t12) 13 t13) 14 (Go.Value.int Go.IntKind.i64 0)) w
theorem F_world_held_eq (a0 : Go.Value) (w : Go.World) (R : Go.Value → Go.World → Prop) : cK prog (bodyOf Try.f72) (resK prog Try.f72.results.toList R) (start [a0]) w = F_world_held a0 w R := by kernel_rfl
theorem F_world_held_on (a0 : Go.Value) (w : Go.World) (k : Go.Value → Go.World → Prop) (h : F_world_held a0 w k) : callOn prog fn_world_held #[a0] w k :=
  calls_list (args := [a0]) mixed Try.func72 (by kernel_rfl) (by kernel_rfl) (Eq.mpr (F_world_held_eq a0 w _) (Eq.mpr (congrArg (F_world_held a0 w) (on_eq k)) h))


/-- postern/value.Refs -/
def F_value_Refs (a0 : Go.Value) (w : Go.World) (R : Go.Value → Go.World → Prop) : Prop :=
 boxK 47 a0 w fun t1 w =>
 allocZ (Go.Value.slice .none 0 0) 75 w fun t3 w =>
 let J1 : Env → Go.World → Prop := fun e1 w =>
 (load1 (e1 3) w fun t9 =>
 R t9 w)
 loadN 5 t1 w fun t4 =>
 callOn prog fn_value_May #[t4] w fun t5 w =>
 condK t5
 (loadN 5 t1 w fun t6 =>
 callOn prog fn_value_walk #[t6, (Go.Value.slice .none 0 0), (Go.Value.func (Go.Fn.func 127) #[] #[t3])] w fun t8 w =>
 J1 (upd (upd (upd (upd (upd (upd (upd (upd (start [a0]) 1 t1) 2 (Go.Value.slice .none 0 0)) 3 t3) 4 t4) 5 t5) 6 t6) 7 (Go.Value.func (Go.Fn.func 127) #[] #[t3])) 8 t8) w)
 (J1 (upd (upd (upd (upd (upd (start [a0]) 1 t1) 2 (Go.Value.slice .none 0 0)) 3 t3) 4 t4) 5 t5) w)
theorem F_value_Refs_eq (a0 : Go.Value) (w : Go.World) (R : Go.Value → Go.World → Prop) : cK prog (bodyOf Try.f108) (resK prog Try.f108.results.toList R) (start [a0]) w = F_value_Refs a0 w R := by kernel_rfl
theorem F_value_Refs_on (a0 : Go.Value) (w : Go.World) (k : Go.Value → Go.World → Prop) (h : F_value_Refs a0 w k) : callOn prog fn_value_Refs #[a0] w k :=
  calls_list (args := [a0]) mixed Try.func108 (by kernel_rfl) (by kernel_rfl) (Eq.mpr (F_value_Refs_eq a0 w _) (Eq.mpr (congrArg (F_value_Refs a0 w) (on_eq k)) h))


/-- postern/value.Refs$1 -/
def F_value_Refs_1 (a0 : Go.Value) (a1 : Go.Value) (a2 : Go.Value) (w : Go.World) (R : Go.Value → Go.World → Prop) : Prop :=
 boxK 47 a1 w fun t4 w =>
 let J1 : Env → Go.World → Prop := fun e1 w =>
 (R (Go.Value.bool true) w)
 fieldA 0 t4 fun t6 =>
 load1 t6 w fun t7 =>
 binI Go.BinOp.eql t7 (Go.Value.int Go.IntKind.u8 4) fun t8 =>
 condK t8
 (load1 a2 w fun t9 =>
 fieldA 4 t4 fun t10 =>
 load1 t10 w fun t11 =>
 buildL 40 1 (Go.Value.int Go.IntKind.i64 0) 1 [(0, t11)] w fun t12 w =>
 appendS 40 1 8 (Go.Value.int Go.IntKind.i64 0) t9 t12 w fun t13 w =>
 storeN 1 a2 t13 w fun w =>
 J1 (upd (upd (upd (upd (upd (upd (upd (upd (upd (upd (start [a0, a1, a2]) 4 t4) 5 (Go.Value.bool false)) 6 t6) 7 t7) 8 t8) 9 t9) 10 t10) 11 t11) 12 t12) 13 t13) w)
 (J1 (upd (upd (upd (upd (upd (start [a0, a1, a2]) 4 t4) 5 (Go.Value.bool false)) 6 t6) 7 t7) 8 t8) w)
theorem F_value_Refs_1_eq (a0 : Go.Value) (a1 : Go.Value) (a2 : Go.Value) (w : Go.World) (R : Go.Value → Go.World → Prop) : cK prog (bodyOf Try.f127) (resK prog Try.f127.results.toList R) (start [a0, a1, a2]) w = F_value_Refs_1 a0 a1 a2 w R := by kernel_rfl
theorem F_value_Refs_1_on (a0 : Go.Value) (a1 : Go.Value) (a2 : Go.Value) (w : Go.World) (k : Go.Value → Go.World → Prop) (h : F_value_Refs_1 a0 a1 a2 w k) : callOn prog fn_value_Refs_1 #[a0, a1, a2] w k :=
  calls_list (args := [a0, a1, a2]) mixed Try.func127 (by kernel_rfl) (by kernel_rfl) (Eq.mpr (F_value_Refs_1_eq a0 a1 a2 w _) (Eq.mpr (congrArg (F_value_Refs_1 a0 a1 a2 w) (on_eq k)) h))


noncomputable def value_walk_R6 : Array Oper := regionOf (bodyOf Try.f126) 6
/-- postern/value.walk -/
def F_value_walk (a0 : Go.Value) (a1 : Go.Value) (a2 : Go.Value) (w : Go.World) (R : Go.Value → Go.World → Prop) : Prop :=
 boxK 47 a0 w fun t3 w =>
 loadN 5 t3 w fun t11 =>
 callT prog a2 [a1, t11] w fun t12 w =>
 unK Go.UnOp.not t12 fun t13 =>
 condK t13
 (R (Go.Value.bool false) w)
 (fieldA 3 t3 fun t14 =>
 load1 t14 w fun t15 =>
 lenL t15 fun t16 =>
 loopK (fun k1 e1 w =>
 binI Go.BinOp.lss (e1 17) (e1 16) fun t18 =>
 condK t18
 (indexS 5 (e1 15) (e1 17) fun t20 =>
 loadN 5 t20 w fun t21 =>
 allocZ (Go.Value.agg #[(Go.Value.int Go.IntKind.u8 0), (Go.Value.int Go.IntKind.i64 0), (Go.Value.string { data := #[] }), (Go.Value.slice .none 0 0), (Go.Value.int Go.IntKind.i64 0)]) 47 w fun t8 w =>
 storeN 5 t8 t21 w fun w =>
 drawK prog value_walk_R6 (upd (upd (upd (upd (upd (upd e1 18 t18) 19 (e1 17)) 20 t20) 21 t21) 8 t8) 7 (e1 17)) w.drew fun e2 w =>
 condK (e2 30)
 (R (Go.Value.bool false) w)
 (binI Go.BinOp.add (e2 17) (Go.Value.int Go.IntKind.i64 1) fun t31 =>
 k1 (upd (upd e2 31 t31) 17 t31) w))
 (R (Go.Value.bool true) w)) (upd (upd (upd (upd (upd (upd (upd (upd (upd (upd (upd (start [a0, a1, a2]) 3 t3) 6 (Go.Value.bool false)) 9 a2) 10 a1) 11 t11) 12 t12) 13 t13) 14 t14) 15 t15) 16 t16) 17 (Go.Value.int Go.IntKind.i64 0)) w)
theorem F_value_walk_eq (a0 : Go.Value) (a1 : Go.Value) (a2 : Go.Value) (w : Go.World) (R : Go.Value → Go.World → Prop) : cK prog (bodyOf Try.f126) (resK prog Try.f126.results.toList R) (start [a0, a1, a2]) w = F_value_walk a0 a1 a2 w R := by kernel_rfl
theorem F_value_walk_on (a0 : Go.Value) (a1 : Go.Value) (a2 : Go.Value) (w : Go.World) (k : Go.Value → Go.World → Prop) (h : F_value_walk a0 a1 a2 w k) : callOn prog fn_value_walk #[a0, a1, a2] w k :=
  calls_list (args := [a0, a1, a2]) mixed Try.func126 (by kernel_rfl) (by kernel_rfl) (Eq.mpr (F_value_walk_eq a0 a1 a2 w _) (Eq.mpr (congrArg (F_value_walk a0 a1 a2 w) (on_eq k)) h))


noncomputable def World_fits_R12 : Array Oper := regionOf (bodyOf Try.f68) 12
noncomputable def World_fits_R16 : Array Oper := regionOf (bodyOf Try.f68) 16
def Q_World_fits_R12 (C : Go.World → Prop) (e : Env) (Q : Env → Prop) : Prop :=
 qopK true C (fun w q => q (e 7) w) fun t56 =>
 qopK true C (fun w q => fieldA 11 (e 5) fun v => q v w) fun t57 =>
 qopK true C (fun w q => load1 t57 w fun v => q v w) fun t58 =>
 qopK true C (fun w q => callT prog t56 [t58, (Go.Value.int Go.IntKind.u8 13)] w q) fun t59 =>
 qopK true C (fun w q => q t59 w) fun t60 =>
 gqK t60 true (fun k => qopK true C (fun w q => load1 (e 3) w fun v => q v w) k) fun t61 =>
 gqK t60 true (fun k => qopK true C (fun w q => fieldA 10 (e 5) fun v => q v w) k) fun t62 =>
 gqK t60 true (fun k => qopK true C (fun w q => load1 t62 w fun v => q v w) k) fun t63 =>
 gqK t60 true (fun k => qopK true C (fun w q => callOn prog fn_World_Is #[t61, t63] w q) k) fun t64 =>
 qopK true C (fun w q => pickK t60 t64 (Go.Value.bool false) fun v => q v w) fun t65 =>
 qopK true C (fun w q => q t65 w) fun t66 =>
 gqK t66 true (fun k => qopK true C (fun w q => load1 (e 3) w fun v => q v w) k) fun t67 =>
 gqK t66 true (fun k => qopK true C (fun w q => nilK t67 fun v => q v w) k) fun t68 =>
 gqK t66 true (fun k => qopK true C (fun w q => fieldA 2 t68 fun v => q v w) k) fun t69 =>
 gqK t66 true (fun k => qopK true C (fun w q => load1 t69 w fun v => q v w) k) fun t70 =>
 gqK t66 true (fun k => qopK true C (fun w q => fieldA 11 (e 5) fun v => q v w) k) fun t71 =>
 gqK t66 true (fun k => qopK true C (fun w q => load1 t71 w fun v => q v w) k) fun t72 =>
 gqK t66 true (fun k => qopK true C (fun w q => lookM false (Go.Value.pointer .none) t70 t72 false w fun v => q v w) k) fun t73 =>
 gqK t66 true (fun k => qopK true C (fun w q => nilK t73 fun v => q v w) k) fun t74 =>
 gqK t66 true (fun k => qopK true C (fun w q => fieldA 10 t74 fun v => q v w) k) fun t75 =>
 gqK t66 true (fun k => qopK true C (fun w q => load1 t75 w fun v => q v w) k) fun t76 =>
 gqK t66 true (fun k => qopK true C (fun w q => q (e 1) w) k) fun t77 =>
 gqK t66 true (fun k => qopK true C (fun w q => binI Go.BinOp.eql t76 t77 fun v => q v w) k) fun t78 =>
 qopK true C (fun w q => pickK t66 t78 (Go.Value.bool false) fun v => q v w) fun t79 =>
 qopK true C (fun w q => q t79 w) fun t6 =>
 Q (upd (upd (upd (upd (upd (upd (upd (upd (upd (upd (upd (upd (upd (upd (upd (upd (upd (upd (upd (upd (upd (upd (upd (upd (upd e 56 t56) 57 t57) 58 t58) 59 t59) 60 t60) 61 t61) 62 t62) 63 t63) 64 t64) 65 t65) 66 t66) 67 t67) 68 t68) 69 t69) 70 t70) 71 t71) 72 t72) 73 t73) 74 t74) 75 t75) 76 t76) 77 t77) 78 t78) 79 t79) 6 t6)
theorem Q_World_fits_R12_eq (C : Go.World → Prop) (e : Env) (Q : Env → Prop) : quietK prog World_fits_R12.toList C World_fits_R12.toList e Q = Q_World_fits_R12 C e Q := by kernel_rfl
theorem Q_World_fits_R12_on {C : Go.World → Prop} {Q : Env → Prop} {e : Env} {w : Go.World} {k : Env → Go.World → Prop} (hC : C w) (h : Q_World_fits_R12 C e Q) (hk : ∀ e w, C w → Q e → k e w) : drawK prog World_fits_R12 e w k :=
  .inl ⟨C, Q, hC, by kernel_rfl, Eq.mpr (Q_World_fits_R12_eq C e Q) h, hk⟩
def Q_World_fits_R16 (C : Go.World → Prop) (e : Env) (Q : Env → Prop) : Prop :=
 qopK true C (fun w q => fieldA 10 (e 5) fun v => q v w) fun t94 =>
 qopK true C (fun w q => load1 t94 w fun v => q v w) fun t95 =>
 qopK true C (fun w q => binI Go.BinOp.eql t95 (Go.Value.int Go.IntKind.i64 0) fun v => q v w) fun t96 =>
 qopK true C (fun w q => q t96 w) fun t97 =>
 gqK t97 false (fun k => qopK true C (fun w q => load1 (e 3) w fun v => q v w) k) fun t98 =>
 gqK t97 false (fun k => qopK true C (fun w q => fieldA 10 (e 5) fun v => q v w) k) fun t99 =>
 gqK t97 false (fun k => qopK true C (fun w q => load1 t99 w fun v => q v w) k) fun t100 =>
 gqK t97 false (fun k => qopK true C (fun w q => callOn prog fn_World_Kind #[t98, t100] w q) k) fun t101 =>
 gqK t97 false (fun k => qopK true C (fun w q => binI Go.BinOp.eql t101 (Go.Value.int Go.IntKind.u8 15) fun v => q v w) k) fun t102 =>
 gqK t97 false (fun k => qopK true C (fun w q => q t102 w) k) fun t103 =>
 gqK t103 true (fun k => qopK true C (fun w q => load1 (e 3) w fun v => q v w) k) fun t104 =>
 gqK t103 true (fun k => qopK true C (fun w q => nilK t104 fun v => q v w) k) fun t105 =>
 gqK t103 true (fun k => qopK true C (fun w q => fieldA 2 t105 fun v => q v w) k) fun t106 =>
 gqK t103 true (fun k => qopK true C (fun w q => load1 t106 w fun v => q v w) k) fun t107 =>
 gqK t103 true (fun k => qopK true C (fun w q => fieldA 10 (e 5) fun v => q v w) k) fun t108 =>
 gqK t103 true (fun k => qopK true C (fun w q => load1 t108 w fun v => q v w) k) fun t109 =>
 gqK t103 true (fun k => qopK true C (fun w q => lookM false (Go.Value.pointer .none) t107 t109 false w fun v => q v w) k) fun t110 =>
 gqK t103 true (fun k => qopK true C (fun w q => nilK t110 fun v => q v w) k) fun t111 =>
 gqK t103 true (fun k => qopK true C (fun w q => fieldA 11 t111 fun v => q v w) k) fun t112 =>
 gqK t103 true (fun k => qopK true C (fun w q => load1 t112 w fun v => q v w) k) fun t113 =>
 gqK t103 true (fun k => qopK true C (fun w q => q (e 1) w) k) fun t114 =>
 gqK t103 true (fun k => qopK true C (fun w q => binI Go.BinOp.eql t113 t114 fun v => q v w) k) fun t115 =>
 gqK t97 false (fun k => qopK true C (fun w q => pickK t103 t115 (Go.Value.bool false) fun v => q v w) k) fun t116 =>
 qopK true C (fun w q => pickK t97 (Go.Value.bool true) t116 fun v => q v w) fun t117 =>
 qopK true C (fun w q => q t117 w) fun t6 =>
 Q (upd (upd (upd (upd (upd (upd (upd (upd (upd (upd (upd (upd (upd (upd (upd (upd (upd (upd (upd (upd (upd (upd (upd (upd (upd e 94 t94) 95 t95) 96 t96) 97 t97) 98 t98) 99 t99) 100 t100) 101 t101) 102 t102) 103 t103) 104 t104) 105 t105) 106 t106) 107 t107) 108 t108) 109 t109) 110 t110) 111 t111) 112 t112) 113 t113) 114 t114) 115 t115) 116 t116) 117 t117) 6 t6)
theorem Q_World_fits_R16_eq (C : Go.World → Prop) (e : Env) (Q : Env → Prop) : quietK prog World_fits_R16.toList C World_fits_R16.toList e Q = Q_World_fits_R16 C e Q := by kernel_rfl
theorem Q_World_fits_R16_on {C : Go.World → Prop} {Q : Env → Prop} {e : Env} {w : Go.World} {k : Env → Go.World → Prop} (hC : C w) (h : Q_World_fits_R16 C e Q) (hk : ∀ e w, C w → Q e → k e w) : drawK prog World_fits_R16 e w k :=
  .inl ⟨C, Q, hC, by kernel_rfl, Eq.mpr (Q_World_fits_R16_eq C e Q) h, hk⟩
/-- (*postern/world.World).fits -/
def F_World_fits (a0 : Go.Value) (a1 : Go.Value) (a2 : Go.Value) (w : Go.World) (R : Go.Value → Go.World → Prop) : Prop :=
 boxK 27 a0 w fun t3 w =>
 boxK 52 a2 w fun t5 w =>
 fieldA 0 t5 fun t12 =>
 load1 t12 w fun t13 =>
 binI Go.BinOp.eql t13 (Go.Value.int Go.IntKind.u8 6) fun t15 =>
 condK t15
 (fieldA 10 t5 fun t17 =>
 load1 t17 w fun t18 =>
 callT prog (Go.Value.func (Go.Fn.func 100) #[] #[t3, t5]) [t18, (Go.Value.int Go.IntKind.u8 5)] w fun t19 w =>
 gopK t19 true (fun k => load1 t3 w fun v => k v w) w fun t21 w =>
 gopK t19 true (fun k => k a1 w) w fun t22 w =>
 gopK t19 true (fun k => fieldA 10 t5 fun v => k v w) w fun t23 w =>
 gopK t19 true (fun k => load1 t23 w fun v => k v w) w fun t24 w =>
 gopK t19 true (fun k => callOn prog fn_World_other #[t21, t22, (Go.Value.int Go.IntKind.u8 6), t24] w k) w fun t25 w =>
 gopK t19 true (fun k => unK Go.UnOp.not t25 fun v => k v w) w fun t26 w =>
 pickK t19 t26 (Go.Value.bool false) fun t27 =>
 R t27 w)
 (binI Go.BinOp.eql t13 (Go.Value.int Go.IntKind.u8 7) fun t29 =>
 condK t29
 (fieldA 10 t5 fun t31 =>
 load1 t31 w fun t32 =>
 callT prog (Go.Value.func (Go.Fn.func 100) #[] #[t3, t5]) [t32, (Go.Value.int Go.IntKind.u8 5)] w fun t33 w =>
 R t33 w)
 (binI Go.BinOp.eql t13 (Go.Value.int Go.IntKind.u8 9) fun t35 =>
 condK t35
 (fieldA 10 t5 fun t37 =>
 load1 t37 w fun t38 =>
 callT prog (Go.Value.func (Go.Fn.func 100) #[] #[t3, t5]) [t38, (Go.Value.int Go.IntKind.u8 8)] w fun t39 w =>
 R t39 w)
 (binI Go.BinOp.eql t13 (Go.Value.int Go.IntKind.u8 11) fun t41 =>
 condK t41
 (fieldA 10 t5 fun t43 =>
 load1 t43 w fun t44 =>
 callT prog (Go.Value.func (Go.Fn.func 100) #[] #[t3, t5]) [t44, (Go.Value.int Go.IntKind.u8 10)] w fun t45 w =>
 gopK t45 true (fun k => load1 t3 w fun v => k v w) w fun t47 w =>
 gopK t45 true (fun k => k a1 w) w fun t48 w =>
 gopK t45 true (fun k => fieldA 10 t5 fun v => k v w) w fun t49 w =>
 gopK t45 true (fun k => load1 t49 w fun v => k v w) w fun t50 w =>
 gopK t45 true (fun k => callOn prog fn_World_other #[t47, t48, (Go.Value.int Go.IntKind.u8 11), t50] w k) w fun t51 w =>
 gopK t45 true (fun k => unK Go.UnOp.not t51 fun v => k v w) w fun t52 w =>
 pickK t45 t52 (Go.Value.bool false) fun t53 =>
 R t53 w)
 (binI Go.BinOp.eql t13 (Go.Value.int Go.IntKind.u8 15) fun t55 =>
 condK t55
 (drawK prog World_fits_R12 (upd (upd (upd (upd (upd (upd (upd (upd (upd (upd (upd (upd (upd (upd (upd (upd (upd (start [a0, a1, a2]) 3 t3) 5 t5) 6 (Go.Value.bool false)) 11 (Go.Value.func (Go.Fn.func 100) #[] #[t3, t5])) 7 (Go.Value.func (Go.Fn.func 100) #[] #[t3, t5])) 12 t12) 13 t13) 15 t15) 14 t15) 29 t29) 28 t29) 35 t35) 34 t35) 41 t41) 40 t41) 55 t55) 54 t55) w.drew fun e1 w =>
 R (e1 6) w)
 (binI Go.BinOp.eql t13 (Go.Value.int Go.IntKind.u8 16) fun t81 =>
 condK t81
 (fieldA 11 t5 fun t83 =>
 load1 t83 w fun t84 =>
 callT prog (Go.Value.func (Go.Fn.func 100) #[] #[t3, t5]) [t84, (Go.Value.int Go.IntKind.u8 3)] w fun t85 w =>
 gopK t85 true (fun k => load1 t3 w fun v => k v w) w fun t87 w =>
 gopK t85 true (fun k => fieldA 10 t5 fun v => k v w) w fun t88 w =>
 gopK t85 true (fun k => load1 t88 w fun v => k v w) w fun t89 w =>
 gopK t85 true (fun k => callOn prog fn_World_Is #[t87, t89] w k) w fun t90 w =>
 pickK t85 t90 (Go.Value.bool false) fun t91 =>
 R t91 w)
 (binI Go.BinOp.eql t13 (Go.Value.int Go.IntKind.u8 13) fun t93 =>
 condK t93
 (drawK prog World_fits_R16 (upd (upd (upd (upd (upd (upd (upd (upd (upd (upd (upd (upd (upd (upd (upd (upd (upd (upd (upd (upd (upd (start [a0, a1, a2]) 3 t3) 5 t5) 6 (Go.Value.bool false)) 11 (Go.Value.func (Go.Fn.func 100) #[] #[t3, t5])) 7 (Go.Value.func (Go.Fn.func 100) #[] #[t3, t5])) 12 t12) 13 t13) 15 t15) 14 t15) 29 t29) 28 t29) 35 t35) 34 t35) 41 t41) 40 t41) 55 t55) 54 t55) 81 t81) 80 t81) 93 t93) 92 t93) w.drew fun e2 w =>
 R (e2 6) w)
 (binI Go.BinOp.eql t13 (Go.Value.int Go.IntKind.u8 14) fun t119 =>
 condK t119
 (load1 t3 w fun t120 =>
 fieldA 10 t5 fun t121 =>
 load1 t121 w fun t122 =>
 callOn prog fn_World_Able #[t120, t122] w fun t123 w =>
 atDrew w fun (w : Go.World) =>
 load1 t3 w fun t125 =>
 nilK t125 fun t126 =>
 fieldA 3 t126 fun t127 =>
 load1 t127 w fun t128 =>
 fieldA 10 t5 fun t129 =>
 load1 t129 w fun t130 =>
 fieldA 12 t5 fun t131 =>
 load1 t131 w fun t132 =>
 buildS (Go.Value.agg #[(Go.Value.int Go.IntKind.i64 0), (Go.Value.int Go.IntKind.u8 0)]) [(0, 1), (1, 1)] [(0, t130), (1, t132)] fun t133 =>
 lookM true (Go.Value.int Go.IntKind.i64 0) t128 t133 true w fun t134 =>
 extractK t134 0 fun t135 =>
 extractK t134 1 fun t136 =>
 load1 t3 w fun t137 =>
 fieldA 10 t5 fun t138 =>
 load1 t138 w fun t139 =>
 callOn prog fn_World_Is #[t137, t139] w fun t140 w =>
 gopK t140 true (fun k => load1 t3 w fun v => k v w) w fun t142 w =>
 gopK t140 true (fun k => fieldA 10 t5 fun v => k v w) w fun t143 w =>
 gopK t140 true (fun k => load1 t143 w fun v => k v w) w fun t144 w =>
 gopK t140 true (fun k => callOn prog fn_World_Kind #[t142, t144] w k) w fun t145 w =>
 gopK t140 true (fun k => binI Go.BinOp.neq t145 (Go.Value.int Go.IntKind.u8 14) fun v => k v w) w fun t146 w =>
 pickK t140 t146 (Go.Value.bool false) fun t147 =>
 gopK t147 true (fun k => fieldA 12 t5 fun v => k v w) w fun t149 w =>
 gopK t147 true (fun k => load1 t149 w fun v => k v w) w fun t150 w =>
 gopK t147 true (fun k => k t123 w) w fun t151 w =>
 gopK t147 true (fun k => binI Go.BinOp.neq t150 t151 fun v => k v w) w fun t152 w =>
 pickK t147 t152 (Go.Value.bool false) fun t153 =>
 gopK t153 true (fun k => fieldA 12 t5 fun v => k v w) w fun t155 w =>
 gopK t153 true (fun k => load1 t155 w fun v => k v w) w fun t156 w =>
 gopK t153 true (fun k => k t123 w) w fun t157 w =>
 gopK t153 true (fun k => binI Go.BinOp.andNot t156 t157 fun v => k v w) w fun t158 w =>
 gopK t153 true (fun k => binI Go.BinOp.eql t158 (Go.Value.int Go.IntKind.u8 0) fun v => k v w) w fun t159 w =>
 pickK t153 t159 (Go.Value.bool false) fun t160 =>
 gopK t160 true (fun k => k t136 w) w fun t162 w =>
 gopK t160 true (fun k => unK Go.UnOp.not t162 fun v => k v w) w fun t163 w =>
 gopK t160 true (fun k => k t163 w) w fun t164 w =>
 gopK t164 false (fun k => k t135 w) w fun t165 w =>
 gopK t164 false (fun k => k a1 w) w fun t166 w =>
 gopK t164 false (fun k => binI Go.BinOp.eql t165 t166 fun v => k v w) w fun t167 w =>
 gopK t160 true (fun k => pickK t164 (Go.Value.bool true) t167 fun v => k v w) w fun t168 w =>
 pickK t160 t168 (Go.Value.bool false) fun t169 =>
 R t169 w)
 (R (Go.Value.bool true) w))))))))
theorem F_World_fits_eq (a0 : Go.Value) (a1 : Go.Value) (a2 : Go.Value) (w : Go.World) (R : Go.Value → Go.World → Prop) : cK prog (bodyOf Try.f68) (resK prog Try.f68.results.toList R) (start [a0, a1, a2]) w = F_World_fits a0 a1 a2 w R := by kernel_rfl
theorem F_World_fits_on (a0 : Go.Value) (a1 : Go.Value) (a2 : Go.Value) (w : Go.World) (k : Go.Value → Go.World → Prop) (h : F_World_fits a0 a1 a2 w k) : callOn prog fn_World_fits #[a0, a1, a2] w k :=
  calls_list (args := [a0, a1, a2]) mixed Try.func68 (by kernel_rfl) (by kernel_rfl) (Eq.mpr (F_World_fits_eq a0 a1 a2 w _) (Eq.mpr (congrArg (F_World_fits a0 a1 a2 w) (on_eq k)) h))


noncomputable def World_fits_1_R1 : Array Oper := regionOf (bodyOf Try.f100) 1
def Q_World_fits_1_R1 (C : Go.World → Prop) (e : Env) (Q : Env → Prop) : Prop :=
 qopK true C (fun w q => load1 (e 2) w fun v => q v w) fun t7 =>
 qopK true C (fun w q => q (e 0) w) fun t8 =>
 qopK true C (fun w q => callOn prog fn_World_Kind #[t7, t8] w q) fun t9 =>
 qopK true C (fun w q => q (e 1) w) fun t10 =>
 qopK true C (fun w q => binI Go.BinOp.eql t9 t10 fun v => q v w) fun t11 =>
 qopK true C (fun w q => q t11 w) fun t12 =>
 gqK t12 true (fun k => qopK true C (fun w q => load1 (e 2) w fun v => q v w) k) fun t13 =>
 gqK t12 true (fun k => qopK true C (fun w q => nilK t13 fun v => q v w) k) fun t14 =>
 gqK t12 true (fun k => qopK true C (fun w q => fieldA 2 t14 fun v => q v w) k) fun t15 =>
 gqK t12 true (fun k => qopK true C (fun w q => load1 t15 w fun v => q v w) k) fun t16 =>
 gqK t12 true (fun k => qopK true C (fun w q => q (e 0) w) k) fun t17 =>
 gqK t12 true (fun k => qopK true C (fun w q => lookM false (Go.Value.pointer .none) t16 t17 false w fun v => q v w) k) fun t18 =>
 gqK t12 true (fun k => qopK true C (fun w q => nilK t18 fun v => q v w) k) fun t19 =>
 gqK t12 true (fun k => qopK true C (fun w q => fieldA 1 t19 fun v => q v w) k) fun t20 =>
 gqK t12 true (fun k => qopK true C (fun w q => load1 t20 w fun v => q v w) k) fun t21 =>
 gqK t12 true (fun k => qopK true C (fun w q => fieldA 1 (e 3) fun v => q v w) k) fun t22 =>
 gqK t12 true (fun k => qopK true C (fun w q => load1 t22 w fun v => q v w) k) fun t23 =>
 gqK t12 true (fun k => qopK true C (fun w q => binI Go.BinOp.eql t21 t23 fun v => q v w) k) fun t24 =>
 qopK true C (fun w q => pickK t12 t24 (Go.Value.bool false) fun v => q v w) fun t25 =>
 qopK true C (fun w q => q t25 w) fun t6 =>
 Q (upd (upd (upd (upd (upd (upd (upd (upd (upd (upd (upd (upd (upd (upd (upd (upd (upd (upd (upd (upd e 7 t7) 8 t8) 9 t9) 10 t10) 11 t11) 12 t12) 13 t13) 14 t14) 15 t15) 16 t16) 17 t17) 18 t18) 19 t19) 20 t20) 21 t21) 22 t22) 23 t23) 24 t24) 25 t25) 6 t6)
theorem Q_World_fits_1_R1_eq (C : Go.World → Prop) (e : Env) (Q : Env → Prop) : quietK prog World_fits_1_R1.toList C World_fits_1_R1.toList e Q = Q_World_fits_1_R1 C e Q := by kernel_rfl
theorem Q_World_fits_1_R1_on {C : Go.World → Prop} {Q : Env → Prop} {e : Env} {w : Go.World} {k : Env → Go.World → Prop} (hC : C w) (h : Q_World_fits_1_R1 C e Q) (hk : ∀ e w, C w → Q e → k e w) : drawK prog World_fits_1_R1 e w k :=
  .inl ⟨C, Q, hC, by kernel_rfl, Eq.mpr (Q_World_fits_1_R1_eq C e Q) h, hk⟩
/-- (*postern/world.World).fits$1 -/
def F_World_fits_1 (a0 : Go.Value) (a1 : Go.Value) (a2 : Go.Value) (a3 : Go.Value) (w : Go.World) (R : Go.Value → Go.World → Prop) : Prop :=
 drawK prog World_fits_1_R1 (upd (start [a0, a1, a2, a3]) 6 (Go.Value.bool false)) w.drew fun e1 w =>
 R (e1 6) w
theorem F_World_fits_1_eq (a0 : Go.Value) (a1 : Go.Value) (a2 : Go.Value) (a3 : Go.Value) (w : Go.World) (R : Go.Value → Go.World → Prop) : cK prog (bodyOf Try.f100) (resK prog Try.f100.results.toList R) (start [a0, a1, a2, a3]) w = F_World_fits_1 a0 a1 a2 a3 w R := by kernel_rfl
theorem F_World_fits_1_on (a0 : Go.Value) (a1 : Go.Value) (a2 : Go.Value) (a3 : Go.Value) (w : Go.World) (k : Go.Value → Go.World → Prop) (h : F_World_fits_1 a0 a1 a2 a3 w k) : callOn prog fn_World_fits_1 #[a0, a1, a2, a3] w k :=
  calls_list (args := [a0, a1, a2, a3]) mixed Try.func100 (by kernel_rfl) (by kernel_rfl) (Eq.mpr (F_World_fits_1_eq a0 a1 a2 a3 w _) (Eq.mpr (congrArg (F_World_fits_1 a0 a1 a2 a3 w) (on_eq k)) h))


/-- (*postern/world.World).other -/
def F_World_other (a0 : Go.Value) (a1 : Go.Value) (a2 : Go.Value) (a3 : Go.Value) (w : Go.World) (R : Go.Value → Go.World → Prop) : Prop :=
 nilK a0 fun t12 =>
 fieldA 2 t12 fun t13 =>
 load1 t13 w fun t14 =>
 rangeM t14 w fun t15 w =>
 loopK (fun k1 e1 w =>
 nextK (e1 15) w fun t16 w =>
 extractK t16 0 fun t17 =>
 condK t17
 (entryK (e1 15) w fun t18 =>
 extractK t18 0 fun t19 =>
 extractK t18 1 fun t20 =>
 binI Go.BinOp.neq t19 (e1 1) fun t23 =>
 gopK t23 true (fun k => k t20 w) w fun t25 w =>
 gopK t23 true (fun k => nilK t25 fun v => k v w) w fun t26 w =>
 gopK t23 true (fun k => fieldA 0 t26 fun v => k v w) w fun t27 w =>
 gopK t23 true (fun k => load1 t27 w fun v => k v w) w fun t28 w =>
 gopK t23 true (fun k => k (e1 2) w) w fun t29 w =>
 gopK t23 true (fun k => binI Go.BinOp.eql t28 t29 fun v => k v w) w fun t30 w =>
 pickK t23 t30 (Go.Value.bool false) fun t31 =>
 gopK t31 true (fun k => k t20 w) w fun t33 w =>
 gopK t31 true (fun k => nilK t33 fun v => k v w) w fun t34 w =>
 gopK t31 true (fun k => fieldA 10 t34 fun v => k v w) w fun t35 w =>
 gopK t31 true (fun k => load1 t35 w fun v => k v w) w fun t36 w =>
 gopK t31 true (fun k => k (e1 3) w) w fun t37 w =>
 gopK t31 true (fun k => binI Go.BinOp.eql t36 t37 fun v => k v w) w fun t38 w =>
 pickK t31 t38 (Go.Value.bool false) fun t39 =>
 condK t39
 (R (Go.Value.bool true) w)
 (k1 (upd (upd (upd (upd (upd (upd (upd (upd (upd (upd (upd (upd (upd (upd (upd (upd (upd (upd (upd (upd (upd (upd (upd (upd (upd (upd e1 16 t16) 17 t17) 18 t18) 19 t19) 20 t20) 9 t19) 10 t20) 21 t19) 22 (e1 1)) 23 t23) 24 t23) 25 t25) 26 t26) 27 t27) 28 t28) 29 t29) 30 t30) 31 t31) 32 t31) 33 t33) 34 t34) 35 t35) 36 t36) 37 t37) 38 t38) 39 t39) w))
 (R (Go.Value.bool false) w)) (upd (upd (upd (upd (upd (upd (start [a0, a1, a2, a3]) 8 (Go.Value.bool false)) 11 a0) 12 t12) 13 t13) 14 t14) 15 t15) w
theorem F_World_other_eq (a0 : Go.Value) (a1 : Go.Value) (a2 : Go.Value) (a3 : Go.Value) (w : Go.World) (R : Go.Value → Go.World → Prop) : cK prog (bodyOf Try.f101) (resK prog Try.f101.results.toList R) (start [a0, a1, a2, a3]) w = F_World_other a0 a1 a2 a3 w R := by kernel_rfl
theorem F_World_other_on (a0 : Go.Value) (a1 : Go.Value) (a2 : Go.Value) (a3 : Go.Value) (w : Go.World) (k : Go.Value → Go.World → Prop) (h : F_World_other a0 a1 a2 a3 w k) : callOn prog fn_World_other #[a0, a1, a2, a3] w k :=
  calls_list (args := [a0, a1, a2, a3]) mixed Try.func101 (by kernel_rfl) (by kernel_rfl) (Eq.mpr (F_World_other_eq a0 a1 a2 a3 w _) (Eq.mpr (congrArg (F_World_other a0 a1 a2 a3 w) (on_eq k)) h))


/-- postern/world.own -/
def F_world_own (a0 : Go.Value) (w : Go.World) (R : Go.Value → Go.World → Prop) : Prop :=
 boxK 47 a0 w fun t1 w =>
 allocZ (Go.Value.agg #[(Go.Value.int Go.IntKind.u8 0), (Go.Value.int Go.IntKind.i64 0), (Go.Value.string { data := #[] }), (Go.Value.slice .none 0 0), (Go.Value.int Go.IntKind.i64 0)]) 47 w fun t2 w =>
 loadN 5 t1 w fun t6 =>
 callOn prog fn_value_Own #[t6] w fun t7 w =>
 extractK t7 0 fun t8 =>
 extractK t7 1 fun t9 =>
 allocZ (Go.Value.agg #[(Go.Value.int Go.IntKind.u8 0), (Go.Value.int Go.IntKind.i64 0), (Go.Value.string { data := #[] }), (Go.Value.slice .none 0 0), (Go.Value.int Go.IntKind.i64 0)]) 47 w fun t3 w =>
 storeN 5 t3 t8 w fun w =>
 loadN 5 t3 w fun t10 =>
 storeN 5 t2 t10 w fun w =>
 loadN 5 t2 w fun r1 =>
 R r1 w
theorem F_world_own_eq (a0 : Go.Value) (w : Go.World) (R : Go.Value → Go.World → Prop) : cK prog (bodyOf Try.f103) (resK prog Try.f103.results.toList R) (start [a0]) w = F_world_own a0 w R := by kernel_rfl
theorem F_world_own_on (a0 : Go.Value) (w : Go.World) (k : Go.Value → Go.World → Prop) (h : F_world_own a0 w k) : callOn prog fn_world_own #[a0] w k :=
  calls_list (args := [a0]) mixed Try.func103 (by kernel_rfl) (by kernel_rfl) (Eq.mpr (F_world_own_eq a0 w _) (Eq.mpr (congrArg (F_world_own a0 w) (on_eq k)) h))


/-- postern/value.Own -/
def F_value_Own (a0 : Go.Value) (w : Go.World) (R : Go.Value → Go.World → Prop) : Prop :=
 boxK 47 a0 w fun t1 w =>
 allocZ (Go.Value.agg #[(Go.Value.int Go.IntKind.u8 0), (Go.Value.int Go.IntKind.i64 0), (Go.Value.string { data := #[] }), (Go.Value.slice .none 0 0), (Go.Value.int Go.IntKind.i64 0)]) 47 w fun t2 w =>
 loadN 5 t1 w fun t4 =>
 callOn prog fn_value_May #[t4] w fun t5 w =>
 unK Go.UnOp.not t5 fun t6 =>
 condK t6
 (buildS (Go.Value.agg #[(Go.Value.int Go.IntKind.u8 0), (Go.Value.int Go.IntKind.i64 0), (Go.Value.string { data := #[] }), (Go.Value.slice .none 0 0), (Go.Value.int Go.IntKind.i64 0)]) [(0, 1), (1, 1), (2, 1), (3, 1), (4, 1)] [] fun t7 =>
 storeN 5 t2 t7 w fun w =>
 loadN 5 t2 w fun r1 =>
 R (Go.Value.tuple #[r1, (Go.Value.int Go.IntKind.i64 2)]) w)
 (loadN 5 t1 w fun t8 =>
 callOn prog fn_value_own #[t8] w fun t9 w =>
 storeN 5 t2 t9 w fun w =>
 loadN 5 t2 w fun r1 =>
 R (Go.Value.tuple #[r1, (Go.Value.int Go.IntKind.i64 0)]) w)
theorem F_value_Own_eq (a0 : Go.Value) (w : Go.World) (R : Go.Value → Go.World → Prop) : cK prog (bodyOf Try.f122) (resK prog Try.f122.results.toList R) (start [a0]) w = F_value_Own a0 w R := by kernel_rfl
theorem F_value_Own_on (a0 : Go.Value) (w : Go.World) (k : Go.Value → Go.World → Prop) (h : F_value_Own a0 w k) : callOn prog fn_value_Own #[a0] w k :=
  calls_list (args := [a0]) mixed Try.func122 (by kernel_rfl) (by kernel_rfl) (Eq.mpr (F_value_Own_eq a0 w _) (Eq.mpr (congrArg (F_value_Own a0 w) (on_eq k)) h))


/-- postern/value.own -/
def F_value_own (a0 : Go.Value) (w : Go.World) (R : Go.Value → Go.World → Prop) : Prop :=
 boxK 47 a0 w fun t1 w =>
 allocZ (Go.Value.agg #[(Go.Value.int Go.IntKind.u8 0), (Go.Value.int Go.IntKind.i64 0), (Go.Value.string { data := #[] }), (Go.Value.slice .none 0 0), (Go.Value.int Go.IntKind.i64 0)]) 47 w fun t2 w =>
 fieldA 3 t1 fun t6 =>
 load1 t6 w fun t7 =>
 lenL t7 fun t8 =>
 binI Go.BinOp.eql t8 (Go.Value.int Go.IntKind.i64 0) fun t9 =>
 condK t9
 (fieldA 3 t1 fun t10 =>
 storeN 1 t10 (Go.Value.slice .none 0 0) w fun w =>
 loadN 5 t1 w fun t11 =>
 storeN 5 t2 t11 w fun w =>
 loadN 5 t2 w fun r1 =>
 R r1 w)
 (fieldA 3 t1 fun t12 =>
 load1 t12 w fun t13 =>
 lenL t13 fun t14 =>
 makeS 47 5 64 (Go.Value.agg #[(Go.Value.int Go.IntKind.u8 0), (Go.Value.int Go.IntKind.i64 0), (Go.Value.string { data := #[] }), (Go.Value.slice .none 0 0), (Go.Value.int Go.IntKind.i64 0)]) t14 t14 w fun t15 w =>
 fieldA 3 t1 fun t16 =>
 load1 t16 w fun t17 =>
 lenL t17 fun t18 =>
 loopK (fun k1 e1 w =>
 binI Go.BinOp.lss (e1 19) (e1 18) fun t20 =>
 condK t20
 (indexS 5 (e1 17) (e1 19) fun t22 =>
 loadN 5 t22 w fun t23 =>
 allocZ (Go.Value.agg #[(Go.Value.int Go.IntKind.u8 0), (Go.Value.int Go.IntKind.i64 0), (Go.Value.string { data := #[] }), (Go.Value.slice .none 0 0), (Go.Value.int Go.IntKind.i64 0)]) 47 w fun t5 w =>
 storeN 5 t5 t23 w fun w =>
 loadN 5 t5 w fun t26 =>
 callOn prog fn_value_own #[t26] w fun t27 w =>
 indexS 5 (e1 3) (e1 19) fun t28 =>
 storeN 5 t28 t27 w fun w =>
 binI Go.BinOp.add (e1 19) (Go.Value.int Go.IntKind.i64 1) fun t29 =>
 k1 (upd (upd (upd (upd (upd (upd (upd (upd (upd (upd (upd (upd (upd e1 20 t20) 21 (e1 19)) 22 t22) 23 t23) 5 t5) 4 (e1 19)) 24 (e1 3)) 25 (e1 19)) 26 t26) 27 t27) 28 t28) 29 t29) 19 t29) w)
 (fieldA 3 (e1 1) fun t31 =>
 storeN 1 t31 (e1 3) w fun w =>
 loadN 5 (e1 1) w fun t32 =>
 storeN 5 (e1 2) t32 w fun w =>
 loadN 5 (e1 2) w fun r1 =>
 R r1 w)) (upd (upd (upd (upd (upd (upd (upd (upd (upd (upd (upd (upd (upd (upd (upd (start [a0]) 1 t1) 2 t2) 6 t6) 7 t7) 8 t8) 9 t9) 12 t12) 13 t13) 14 t14) 15 t15) 3 t15) 16 t16) 17 t17) 18 t18) 19 (Go.Value.int Go.IntKind.i64 0)) w)
theorem F_value_own_eq (a0 : Go.Value) (w : Go.World) (R : Go.Value → Go.World → Prop) : cK prog (bodyOf Try.f120) (resK prog Try.f120.results.toList R) (start [a0]) w = F_value_own a0 w R := by kernel_rfl
theorem F_value_own_on (a0 : Go.Value) (w : Go.World) (k : Go.Value → Go.World → Prop) (h : F_value_own a0 w k) : callOn prog fn_value_own #[a0] w k :=
  calls_list (args := [a0]) mixed Try.func120 (by kernel_rfl) (by kernel_rfl) (Eq.mpr (F_value_own_eq a0 w _) (Eq.mpr (congrArg (F_value_own a0 w) (on_eq k)) h))


noncomputable def world_ownWhat_R6 : Array Oper := regionOf (bodyOf Try.f70) 6
noncomputable def world_ownWhat_R12 : Array Oper := regionOf (bodyOf Try.f70) 12
/-- postern/world.ownWhat -/
def F_world_ownWhat (a0 : Go.Value) (w : Go.World) (R : Go.Value → Go.World → Prop) : Prop :=
 boxK 52 a0 w fun t1 w =>
 allocZ (Go.Value.agg #[(Go.Value.int Go.IntKind.u8 0), (Go.Value.int Go.IntKind.i64 0), (Go.Value.int Go.IntKind.u8 0), (Go.Value.int Go.IntKind.i64 0), (Go.Value.string { data := #[] }), (Go.Value.slice .none 0 0), (Go.Value.int Go.IntKind.i64 0), (Go.Value.slice .none 0 0), (Go.Value.int Go.IntKind.i64 0), (Go.Value.int Go.IntKind.i64 0), (Go.Value.int Go.IntKind.i64 0), (Go.Value.int Go.IntKind.i64 0), (Go.Value.int Go.IntKind.u8 0), (Go.Value.bool false), (Go.Value.slice .none 0 0), (Go.Value.slice .none 0 0)]) 52 w fun t2 w =>
 fieldA 2 t1 fun t7 =>
 loadN 5 t7 w fun t8 =>
 callOn prog fn_world_own #[t8] w fun t9 w =>
 fieldA 2 t1 fun t10 =>
 storeN 5 t10 t9 w fun w =>
 fieldA 7 t1 fun t11 =>
 load1 t11 w fun t12 =>
 callOn prog fn_slices_Clone_Value #[t12] w fun t13 w =>
 fieldA 7 t1 fun t14 =>
 storeN 1 t14 t13 w fun w =>
 fieldA 7 t1 fun t15 =>
 load1 t15 w fun t16 =>
 lenL t16 fun t17 =>
 loopK (fun k1 e1 w =>
 binI Go.BinOp.lss (e1 18) (e1 17) fun t19 =>
 condK t19
 (indexS 5 (e1 16) (e1 18) fun t21 =>
 loadN 5 t21 w fun t22 =>
 allocZ (Go.Value.agg #[(Go.Value.int Go.IntKind.u8 0), (Go.Value.int Go.IntKind.i64 0), (Go.Value.string { data := #[] }), (Go.Value.slice .none 0 0), (Go.Value.int Go.IntKind.i64 0)]) 47 w fun t4 w =>
 storeN 5 t4 t22 w fun w =>
 drawK prog world_ownWhat_R6 (upd (upd (upd (upd (upd (upd e1 19 t19) 20 (e1 18)) 21 t21) 22 t22) 4 t4) 3 (e1 18)) w.drew fun e2 w =>
 binI Go.BinOp.add (e2 18) (Go.Value.int Go.IntKind.i64 1) fun t29 =>
 k1 (upd (upd e2 29 t29) 18 t29) w)
 (fieldA 15 (e1 1) fun t30 =>
 load1 t30 w fun t31 =>
 callOn prog fn_slices_Clone_Name #[t31] w fun t32 w =>
 fieldA 15 (e1 1) fun t33 =>
 storeN 1 t33 t32 w fun w =>
 fieldA 15 (e1 1) fun t34 =>
 load1 t34 w fun t35 =>
 lenL t35 fun t36 =>
 loopK (fun k3 e3 w =>
 binI Go.BinOp.lss (e3 37) (e3 36) fun t38 =>
 condK t38
 (indexS 6 (e3 35) (e3 37) fun t40 =>
 loadN 6 t40 w fun t41 =>
 allocZ (Go.Value.agg #[(Go.Value.string { data := #[] }), (Go.Value.int Go.IntKind.u8 0), (Go.Value.int Go.IntKind.i64 0), (Go.Value.string { data := #[] }), (Go.Value.slice .none 0 0), (Go.Value.int Go.IntKind.i64 0)]) 150 w fun t6 w =>
 storeN 6 t6 t41 w fun w =>
 drawK prog world_ownWhat_R12 (upd (upd (upd (upd (upd (upd e3 38 t38) 39 (e3 37)) 40 t40) 41 t41) 6 t6) 5 (e3 37)) w.drew fun e4 w =>
 binI Go.BinOp.add (e4 37) (Go.Value.int Go.IntKind.i64 1) fun t50 =>
 k3 (upd (upd e4 50 t50) 37 t50) w)
 (fieldA 14 (e3 1) fun t51 =>
 load1 t51 w fun t52 =>
 callOn prog fn_world_ownCode #[t52] w fun t53 w =>
 fieldA 14 (e3 1) fun t54 =>
 storeN 1 t54 t53 w fun w =>
 loadN 16 (e3 1) w fun t55 =>
 storeN 16 (e3 2) t55 w fun w =>
 loadN 16 (e3 2) w fun r1 =>
 R r1 w)) (upd (upd (upd (upd (upd (upd (upd (upd (upd e1 19 t19) 30 t30) 31 t31) 32 t32) 33 t33) 34 t34) 35 t35) 36 t36) 37 (Go.Value.int Go.IntKind.i64 0)) w)) (upd (upd (upd (upd (upd (upd (upd (upd (upd (upd (upd (upd (upd (upd (start [a0]) 1 t1) 2 t2) 7 t7) 8 t8) 9 t9) 10 t10) 11 t11) 12 t12) 13 t13) 14 t14) 15 t15) 16 t16) 17 t17) 18 (Go.Value.int Go.IntKind.i64 0)) w
theorem F_world_ownWhat_eq (a0 : Go.Value) (w : Go.World) (R : Go.Value → Go.World → Prop) : cK prog (bodyOf Try.f70) (resK prog Try.f70.results.toList R) (start [a0]) w = F_world_ownWhat a0 w R := by kernel_rfl
theorem F_world_ownWhat_on (a0 : Go.Value) (w : Go.World) (k : Go.Value → Go.World → Prop) (h : F_world_ownWhat a0 w k) : callOn prog fn_world_ownWhat #[a0] w k :=
  calls_list (args := [a0]) mixed Try.func70 (by kernel_rfl) (by kernel_rfl) (Eq.mpr (F_world_ownWhat_eq a0 w _) (Eq.mpr (congrArg (F_world_ownWhat a0 w) (on_eq k)) h))


noncomputable def world_ownCode_R5 : Array Oper := regionOf (bodyOf Try.f106) 5
noncomputable def world_ownCode_R6 : Array Oper := regionOf (bodyOf Try.f106) 6
/-- postern/world.ownCode -/
def F_world_ownCode (a0 : Go.Value) (w : Go.World) (R : Go.Value → Go.World → Prop) : Prop :=
 callOn prog fn_slices_Clone_Stmt #[a0] w fun t6 w =>
 lenL t6 fun t8 =>
 loopK (fun k1 e1 w =>
 binI Go.BinOp.lss (e1 9) (e1 8) fun t10 =>
 condK t10
 (indexS 17 (e1 7) (e1 9) fun t12 =>
 loadN 17 t12 w fun t13 =>
 allocZ (Go.Value.agg #[(Go.Value.int Go.IntKind.u8 0), (Go.Value.string { data := #[] }), (Go.Value.string { data := #[] }), (Go.Value.int Go.IntKind.u8 0), (Go.Value.int Go.IntKind.u8 0), (Go.Value.int Go.IntKind.u8 0), (Go.Value.int Go.IntKind.i64 0), (Go.Value.string { data := #[] }), (Go.Value.slice .none 0 0), (Go.Value.int Go.IntKind.u8 0), (Go.Value.int Go.IntKind.i64 0), (Go.Value.string { data := #[] }), (Go.Value.slice .none 0 0), (Go.Value.slice .none 0 0), (Go.Value.slice .none 0 0), (Go.Value.slice .none 0 0), (Go.Value.slice .none 0 0)]) 181 w fun t4 w =>
 storeN 17 t4 t13 w fun w =>
 drawK prog world_ownCode_R5 (upd (upd (upd (upd (upd (upd e1 10 t10) 11 (e1 9)) 12 t12) 13 t13) 4 t4) 3 (e1 9)) w.drew fun e2 w =>
 drawK prog world_ownCode_R6 e2 w.drew fun e3 w =>
 fieldA 16 (e3 4) fun t34 =>
 load1 t34 w fun t35 =>
 callOn prog fn_slices_Clone_string #[t35] w fun t36 w =>
 fieldA 16 (e3 4) fun t37 =>
 storeN 1 t37 t36 w fun w =>
 loadN 17 (e3 4) w fun t40 =>
 indexS 17 (e3 0) (e3 3) fun t41 =>
 storeN 17 t41 t40 w fun w =>
 binI Go.BinOp.add (e3 9) (Go.Value.int Go.IntKind.i64 1) fun t42 =>
 k1 (upd (upd (upd (upd (upd (upd (upd (upd (upd (upd e3 34 t34) 35 t35) 36 t36) 37 t37) 38 (e3 0)) 39 (e3 3)) 40 t40) 41 t41) 42 t42) 9 t42) w)
 (R (e1 0) w)) (upd (upd (upd (upd (upd (upd (upd (start [a0]) 2 (Go.Value.slice .none 0 0)) 5 a0) 6 t6) 0 t6) 7 t6) 8 t8) 9 (Go.Value.int Go.IntKind.i64 0)) w
theorem F_world_ownCode_eq (a0 : Go.Value) (w : Go.World) (R : Go.Value → Go.World → Prop) : cK prog (bodyOf Try.f106) (resK prog Try.f106.results.toList R) (start [a0]) w = F_world_ownCode a0 w R := by kernel_rfl
theorem F_world_ownCode_on (a0 : Go.Value) (w : Go.World) (k : Go.Value → Go.World → Prop) (h : F_world_ownCode a0 w k) : callOn prog fn_world_ownCode #[a0] w k :=
  calls_list (args := [a0]) mixed Try.func106 (by kernel_rfl) (by kernel_rfl) (Eq.mpr (F_world_ownCode_eq a0 w _) (Eq.mpr (congrArg (F_world_ownCode a0 w) (on_eq k)) h))


/-- slices.Clone[[]postern/api.Side,postern/api.Side] -/
def F_slices_Clone_Side (a0 : Go.Value) (w : Go.World) (R : Go.Value → Go.World → Prop) : Prop :=
 binL Go.BinOp.eql a0 (Go.Value.slice .none 0 0) fun t4 =>
 condK t4
 (R (Go.Value.slice .none 0 0) w)
 (buildL 25 1 (Go.Value.int Go.IntKind.i64 0) 0 [] w fun t5 w =>
 appendS 25 1 8 (Go.Value.int Go.IntKind.i64 0) t5 a0 w fun t7 w =>
 R t7 w)
theorem F_slices_Clone_Side_eq (a0 : Go.Value) (w : Go.World) (R : Go.Value → Go.World → Prop) : cK prog (bodyOf Try.f60) (resK prog Try.f60.results.toList R) (start [a0]) w = F_slices_Clone_Side a0 w R := by kernel_rfl
theorem F_slices_Clone_Side_on (a0 : Go.Value) (w : Go.World) (k : Go.Value → Go.World → Prop) (h : F_slices_Clone_Side a0 w k) : callOn prog fn_slices_Clone_Side #[a0] w k :=
  calls_list (args := [a0]) mixed Try.func60 (by kernel_rfl) (by kernel_rfl) (Eq.mpr (F_slices_Clone_Side_eq a0 w _) (Eq.mpr (congrArg (F_slices_Clone_Side a0 w) (on_eq k)) h))


/-- slices.Clone[[]int,int] -/
def F_slices_Clone_int (a0 : Go.Value) (w : Go.World) (R : Go.Value → Go.World → Prop) : Prop :=
 binL Go.BinOp.eql a0 (Go.Value.slice .none 0 0) fun t4 =>
 condK t4
 (R (Go.Value.slice .none 0 0) w)
 (buildL 3 1 (Go.Value.int Go.IntKind.i64 0) 0 [] w fun t5 w =>
 appendS 3 1 8 (Go.Value.int Go.IntKind.i64 0) t5 a0 w fun t7 w =>
 R t7 w)
theorem F_slices_Clone_int_eq (a0 : Go.Value) (w : Go.World) (R : Go.Value → Go.World → Prop) : cK prog (bodyOf Try.f87) (resK prog Try.f87.results.toList R) (start [a0]) w = F_slices_Clone_int a0 w R := by kernel_rfl
theorem F_slices_Clone_int_on (a0 : Go.Value) (w : Go.World) (k : Go.Value → Go.World → Prop) (h : F_slices_Clone_int a0 w k) : callOn prog fn_slices_Clone_int #[a0] w k :=
  calls_list (args := [a0]) mixed Try.func87 (by kernel_rfl) (by kernel_rfl) (Eq.mpr (F_slices_Clone_int_eq a0 w _) (Eq.mpr (congrArg (F_slices_Clone_int a0 w) (on_eq k)) h))


/-- slices.Clone[[]bool,bool] -/
def F_slices_Clone_bool (a0 : Go.Value) (w : Go.World) (R : Go.Value → Go.World → Prop) : Prop :=
 binL Go.BinOp.eql a0 (Go.Value.slice .none 0 0) fun t4 =>
 condK t4
 (R (Go.Value.slice .none 0 0) w)
 (buildL 4 1 (Go.Value.bool false) 0 [] w fun t5 w =>
 appendS 4 1 1 (Go.Value.bool false) t5 a0 w fun t7 w =>
 R t7 w)
theorem F_slices_Clone_bool_eq (a0 : Go.Value) (w : Go.World) (R : Go.Value → Go.World → Prop) : cK prog (bodyOf Try.f109) (resK prog Try.f109.results.toList R) (start [a0]) w = F_slices_Clone_bool a0 w R := by kernel_rfl
theorem F_slices_Clone_bool_on (a0 : Go.Value) (w : Go.World) (k : Go.Value → Go.World → Prop) (h : F_slices_Clone_bool a0 w k) : callOn prog fn_slices_Clone_bool #[a0] w k :=
  calls_list (args := [a0]) mixed Try.func109 (by kernel_rfl) (by kernel_rfl) (Eq.mpr (F_slices_Clone_bool_eq a0 w _) (Eq.mpr (congrArg (F_slices_Clone_bool a0 w) (on_eq k)) h))


/-- slices.Clone[[]postern/api.Value,postern/api.Value] -/
def F_slices_Clone_Value (a0 : Go.Value) (w : Go.World) (R : Go.Value → Go.World → Prop) : Prop :=
 binL Go.BinOp.eql a0 (Go.Value.slice .none 0 0) fun t4 =>
 condK t4
 (R (Go.Value.slice .none 0 0) w)
 (buildL 47 5 (Go.Value.agg #[(Go.Value.int Go.IntKind.u8 0), (Go.Value.int Go.IntKind.i64 0), (Go.Value.string { data := #[] }), (Go.Value.slice .none 0 0), (Go.Value.int Go.IntKind.i64 0)]) 0 [] w fun t5 w =>
 appendS 47 5 64 (Go.Value.agg #[(Go.Value.int Go.IntKind.u8 0), (Go.Value.int Go.IntKind.i64 0), (Go.Value.string { data := #[] }), (Go.Value.slice .none 0 0), (Go.Value.int Go.IntKind.i64 0)]) t5 a0 w fun t7 w =>
 R t7 w)
theorem F_slices_Clone_Value_eq (a0 : Go.Value) (w : Go.World) (R : Go.Value → Go.World → Prop) : cK prog (bodyOf Try.f104) (resK prog Try.f104.results.toList R) (start [a0]) w = F_slices_Clone_Value a0 w R := by kernel_rfl
theorem F_slices_Clone_Value_on (a0 : Go.Value) (w : Go.World) (k : Go.Value → Go.World → Prop) (h : F_slices_Clone_Value a0 w k) : callOn prog fn_slices_Clone_Value #[a0] w k :=
  calls_list (args := [a0]) mixed Try.func104 (by kernel_rfl) (by kernel_rfl) (Eq.mpr (F_slices_Clone_Value_eq a0 w _) (Eq.mpr (congrArg (F_slices_Clone_Value a0 w) (on_eq k)) h))


/-- slices.Clone[[]postern/api.Name,postern/api.Name] -/
def F_slices_Clone_Name (a0 : Go.Value) (w : Go.World) (R : Go.Value → Go.World → Prop) : Prop :=
 binL Go.BinOp.eql a0 (Go.Value.slice .none 0 0) fun t4 =>
 condK t4
 (R (Go.Value.slice .none 0 0) w)
 (buildL 150 6 (Go.Value.agg #[(Go.Value.string { data := #[] }), (Go.Value.int Go.IntKind.u8 0), (Go.Value.int Go.IntKind.i64 0), (Go.Value.string { data := #[] }), (Go.Value.slice .none 0 0), (Go.Value.int Go.IntKind.i64 0)]) 0 [] w fun t5 w =>
 appendS 150 6 80 (Go.Value.agg #[(Go.Value.string { data := #[] }), (Go.Value.int Go.IntKind.u8 0), (Go.Value.int Go.IntKind.i64 0), (Go.Value.string { data := #[] }), (Go.Value.slice .none 0 0), (Go.Value.int Go.IntKind.i64 0)]) t5 a0 w fun t7 w =>
 R t7 w)
theorem F_slices_Clone_Name_eq (a0 : Go.Value) (w : Go.World) (R : Go.Value → Go.World → Prop) : cK prog (bodyOf Try.f105) (resK prog Try.f105.results.toList R) (start [a0]) w = F_slices_Clone_Name a0 w R := by kernel_rfl
theorem F_slices_Clone_Name_on (a0 : Go.Value) (w : Go.World) (k : Go.Value → Go.World → Prop) (h : F_slices_Clone_Name a0 w k) : callOn prog fn_slices_Clone_Name #[a0] w k :=
  calls_list (args := [a0]) mixed Try.func105 (by kernel_rfl) (by kernel_rfl) (Eq.mpr (F_slices_Clone_Name_eq a0 w _) (Eq.mpr (congrArg (F_slices_Clone_Name a0 w) (on_eq k)) h))


/-- slices.Clone[[]postern/api.Stmt,postern/api.Stmt] -/
def F_slices_Clone_Stmt (a0 : Go.Value) (w : Go.World) (R : Go.Value → Go.World → Prop) : Prop :=
 binL Go.BinOp.eql a0 (Go.Value.slice .none 0 0) fun t4 =>
 condK t4
 (R (Go.Value.slice .none 0 0) w)
 (buildL 181 17 (Go.Value.agg #[(Go.Value.int Go.IntKind.u8 0), (Go.Value.string { data := #[] }), (Go.Value.string { data := #[] }), (Go.Value.int Go.IntKind.u8 0), (Go.Value.int Go.IntKind.u8 0), (Go.Value.int Go.IntKind.u8 0), (Go.Value.int Go.IntKind.i64 0), (Go.Value.string { data := #[] }), (Go.Value.slice .none 0 0), (Go.Value.int Go.IntKind.u8 0), (Go.Value.int Go.IntKind.i64 0), (Go.Value.string { data := #[] }), (Go.Value.slice .none 0 0), (Go.Value.slice .none 0 0), (Go.Value.slice .none 0 0), (Go.Value.slice .none 0 0), (Go.Value.slice .none 0 0)]) 0 [] w fun t5 w =>
 appendS 181 17 256 (Go.Value.agg #[(Go.Value.int Go.IntKind.u8 0), (Go.Value.string { data := #[] }), (Go.Value.string { data := #[] }), (Go.Value.int Go.IntKind.u8 0), (Go.Value.int Go.IntKind.u8 0), (Go.Value.int Go.IntKind.u8 0), (Go.Value.int Go.IntKind.i64 0), (Go.Value.string { data := #[] }), (Go.Value.slice .none 0 0), (Go.Value.int Go.IntKind.u8 0), (Go.Value.int Go.IntKind.i64 0), (Go.Value.string { data := #[] }), (Go.Value.slice .none 0 0), (Go.Value.slice .none 0 0), (Go.Value.slice .none 0 0), (Go.Value.slice .none 0 0), (Go.Value.slice .none 0 0)]) t5 a0 w fun t7 w =>
 R t7 w)
theorem F_slices_Clone_Stmt_eq (a0 : Go.Value) (w : Go.World) (R : Go.Value → Go.World → Prop) : cK prog (bodyOf Try.f123) (resK prog Try.f123.results.toList R) (start [a0]) w = F_slices_Clone_Stmt a0 w R := by kernel_rfl
theorem F_slices_Clone_Stmt_on (a0 : Go.Value) (w : Go.World) (k : Go.Value → Go.World → Prop) (h : F_slices_Clone_Stmt a0 w k) : callOn prog fn_slices_Clone_Stmt #[a0] w k :=
  calls_list (args := [a0]) mixed Try.func123 (by kernel_rfl) (by kernel_rfl) (Eq.mpr (F_slices_Clone_Stmt_eq a0 w _) (Eq.mpr (congrArg (F_slices_Clone_Stmt a0 w) (on_eq k)) h))


/-- slices.ContainsFunc[[]postern/api.Ref,postern/api.Ref] -/
def F_slices_ContainsFunc_Ref (a0 : Go.Value) (a1 : Go.Value) (w : Go.World) (R : Go.Value → Go.World → Prop) : Prop :=
 callOn prog fn_slices_IndexFunc_Ref #[a0, a1] w fun t7 w =>
 binI Go.BinOp.geq t7 (Go.Value.int Go.IntKind.i64 0) fun t8 =>
 R t8 w
theorem F_slices_ContainsFunc_Ref_eq (a0 : Go.Value) (a1 : Go.Value) (w : Go.World) (R : Go.Value → Go.World → Prop) : cK prog (bodyOf Try.f71) (resK prog Try.f71.results.toList R) (start [a0, a1]) w = F_slices_ContainsFunc_Ref a0 a1 w R := by kernel_rfl
theorem F_slices_ContainsFunc_Ref_on (a0 : Go.Value) (a1 : Go.Value) (w : Go.World) (k : Go.Value → Go.World → Prop) (h : F_slices_ContainsFunc_Ref a0 a1 w k) : callOn prog fn_slices_ContainsFunc_Ref #[a0, a1] w k :=
  calls_list (args := [a0, a1]) mixed Try.func71 (by kernel_rfl) (by kernel_rfl) (Eq.mpr (F_slices_ContainsFunc_Ref_eq a0 a1 w _) (Eq.mpr (congrArg (F_slices_ContainsFunc_Ref a0 a1 w) (on_eq k)) h))


/-- slices.IndexFunc[[]postern/api.Ref,postern/api.Ref] -/
def F_slices_IndexFunc_Ref (a0 : Go.Value) (a1 : Go.Value) (w : Go.World) (R : Go.Value → Go.World → Prop) : Prop :=
 lenL a0 fun t7 =>
 loopK (fun k1 e1 w =>
 binI Go.BinOp.lss (e1 8) (e1 7) fun t9 =>
 condK t9
 (indexS 1 (e1 0) (e1 8) fun t14 =>
 load1 t14 w fun t15 =>
 callT prog (e1 1) [t15] w fun t16 w =>
 condK t16
 (R (e1 8) w)
 (binI Go.BinOp.add (e1 8) (Go.Value.int Go.IntKind.i64 1) fun t18 =>
 k1 (upd (upd (upd (upd (upd (upd (upd (upd (upd (upd (upd e1 9 t9) 10 (e1 8)) 5 (e1 8)) 11 (e1 1)) 12 (e1 0)) 13 (e1 8)) 14 t14) 15 t15) 16 t16) 18 t18) 8 t18) w))
 (R (Go.Value.int Go.IntKind.i64 (-1)) w)) (upd (upd (upd (upd (start [a0, a1]) 4 (Go.Value.int Go.IntKind.i64 0)) 6 a0) 7 t7) 8 (Go.Value.int Go.IntKind.i64 0)) w
theorem F_slices_IndexFunc_Ref_eq (a0 : Go.Value) (a1 : Go.Value) (w : Go.World) (R : Go.Value → Go.World → Prop) : cK prog (bodyOf Try.f107) (resK prog Try.f107.results.toList R) (start [a0, a1]) w = F_slices_IndexFunc_Ref a0 a1 w R := by kernel_rfl
theorem F_slices_IndexFunc_Ref_on (a0 : Go.Value) (a1 : Go.Value) (w : Go.World) (k : Go.Value → Go.World → Prop) (h : F_slices_IndexFunc_Ref a0 a1 w k) : callOn prog fn_slices_IndexFunc_Ref #[a0, a1] w k :=
  calls_list (args := [a0, a1]) mixed Try.func107 (by kernel_rfl) (by kernel_rfl) (Eq.mpr (F_slices_IndexFunc_Ref_eq a0 a1 w _) (Eq.mpr (congrArg (F_slices_IndexFunc_Ref a0 a1 w) (on_eq k)) h))


end Go.X
