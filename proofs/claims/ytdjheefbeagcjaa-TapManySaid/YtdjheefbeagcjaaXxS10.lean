/- The calculator's word on functions of this program, each with its proof: written by a program of this family (shallow.py). -/
import Derived.Test.YtdjheefbeagcjaaXxP
import Derived.Test.YtdjheefbeagcjaaXxX
set_option linter.unusedVariables false
set_option maxRecDepth 100000
namespace Go.X
open Go Go.Proofs
/-- postern/purse.Mint -/
def F_purse_Mint (a0 : Go.Value) (a1 : Go.Value) (w : Go.World) (R : Go.Value → Go.World → Prop) : Prop :=
 binP Go.BinOp.eql a0 (Go.Value.pointer .none) fun t9 =>
 condK t9
 (R (Go.Value.tuple #[(Go.Value.int Go.IntKind.i64 0), (Go.Value.int Go.IntKind.i64 1)]) w)
 (buildS (Go.Value.agg #[(Go.Value.int Go.IntKind.u8 0), (Go.Value.int Go.IntKind.i64 0), (Go.Value.int Go.IntKind.u8 0), (Go.Value.int Go.IntKind.i64 0), (Go.Value.string { data := #[] }), (Go.Value.slice .none 0 0), (Go.Value.int Go.IntKind.i64 0), (Go.Value.slice .none 0 0), (Go.Value.int Go.IntKind.i64 0), (Go.Value.int Go.IntKind.i64 0), (Go.Value.int Go.IntKind.i64 0), (Go.Value.int Go.IntKind.i64 0), (Go.Value.int Go.IntKind.u8 0), (Go.Value.bool false), (Go.Value.slice .none 0 0), (Go.Value.slice .none 0 0)]) [(0, 1), (1, 1), (2, 5), (7, 1), (8, 1), (9, 1), (10, 1), (11, 1), (12, 1), (13, 1), (14, 1), (15, 1)] [(0, (Go.Value.int Go.IntKind.u8 8)), (1, a1)] fun t13 =>
 callOn prog fn_World_Make #[a0, t13] w fun t14 w =>
 extractK t14 0 fun t15 =>
 extractK t14 1 fun t16 =>
 let J1 : Env → Go.World → Prop := fun e1 w =>
 (R (Go.Value.tuple #[(e1 6), (e1 7)]) w)
 binI Go.BinOp.eql t16 (Go.Value.int Go.IntKind.i64 70) fun t18 =>
 condK t18
 (J1 (upd (upd (upd (upd (upd (upd (upd (upd (upd (upd (upd (upd (upd (upd (upd (upd (start [a0, a1]) 4 (Go.Value.int Go.IntKind.i64 0)) 5 (Go.Value.int Go.IntKind.i64 0)) 8 a0) 9 t9) 11 a0) 12 a1) 13 t13) 14 t14) 10 t14) 15 t15) 16 t16) 6 t15) 7 t16) 17 t16) 18 t18) 7 (Go.Value.int Go.IntKind.i64 2)) w)
 (J1 (upd (upd (upd (upd (upd (upd (upd (upd (upd (upd (upd (upd (upd (upd (upd (start [a0, a1]) 4 (Go.Value.int Go.IntKind.i64 0)) 5 (Go.Value.int Go.IntKind.i64 0)) 8 a0) 9 t9) 11 a0) 12 a1) 13 t13) 14 t14) 10 t14) 15 t15) 16 t16) 6 t15) 7 t16) 17 t16) 18 t18) w))
theorem F_purse_Mint_eq (a0 : Go.Value) (a1 : Go.Value) (w : Go.World) (R : Go.Value → Go.World → Prop) : cK prog (bodyOf Try.f50) (resK prog Try.f50.results.toList R) (start [a0, a1]) w = F_purse_Mint a0 a1 w R := by kernel_rfl
theorem F_purse_Mint_on (a0 : Go.Value) (a1 : Go.Value) (w : Go.World) (k : Go.Value → Go.World → Prop) (h : F_purse_Mint a0 a1 w k) : callOn prog fn_purse_Mint #[a0, a1] w k :=
  calls_list (args := [a0, a1]) mixed Try.func50 (by kernel_rfl) (by kernel_rfl) (Eq.mpr (F_purse_Mint_eq a0 a1 w _) (Eq.mpr (congrArg (F_purse_Mint a0 a1 w) (on_eq k)) h))


/-- postern/purse.Ask -/
def F_purse_Ask (a0 : Go.Value) (a1 : Go.Value) (a2 : Go.Value) (w : Go.World) (R : Go.Value → Go.World → Prop) : Prop :=
 callOn prog fn_purse_find #[a0, a1, (Go.Value.int Go.IntKind.u8 8)] w fun t14 w =>
 extractK t14 0 fun t15 =>
 extractK t14 1 fun t16 =>
 allocZ (Go.Value.agg #[(Go.Value.int Go.IntKind.u8 0), (Go.Value.int Go.IntKind.i64 0), (Go.Value.int Go.IntKind.u8 0), (Go.Value.int Go.IntKind.i64 0), (Go.Value.string { data := #[] }), (Go.Value.slice .none 0 0), (Go.Value.int Go.IntKind.i64 0), (Go.Value.slice .none 0 0), (Go.Value.int Go.IntKind.i64 0), (Go.Value.int Go.IntKind.i64 0), (Go.Value.int Go.IntKind.i64 0), (Go.Value.int Go.IntKind.i64 0), (Go.Value.int Go.IntKind.u8 0), (Go.Value.bool false), (Go.Value.slice .none 0 0), (Go.Value.slice .none 0 0)]) 52 w fun t8 w =>
 storeN 16 t8 t15 w fun w =>
 binI Go.BinOp.neq t16 (Go.Value.int Go.IntKind.i64 0) fun t19 =>
 condK t19
 (R (Go.Value.tuple #[(Go.Value.int Go.IntKind.i64 0), t16]) w)
 (binI Go.BinOp.lss a2 (Go.Value.int Go.IntKind.i64 0) fun t23 =>
 condK t23
 (R (Go.Value.tuple #[(Go.Value.int Go.IntKind.i64 0), (Go.Value.int Go.IntKind.i64 2)]) w)
 (fieldA 8 t8 fun t26 =>
 load1 t26 w fun t27 =>
 binI Go.BinOp.sub (Go.Value.int Go.IntKind.i64 9007199254740992) t27 fun t28 =>
 binI Go.BinOp.gtr a2 t28 fun t29 =>
 condK t29
 (R (Go.Value.tuple #[(Go.Value.int Go.IntKind.i64 0), (Go.Value.int Go.IntKind.i64 8)]) w)
 (fieldA 1 t8 fun t32 =>
 load1 t32 w fun t33 =>
 buildS (Go.Value.agg #[(Go.Value.int Go.IntKind.u8 0), (Go.Value.int Go.IntKind.i64 0), (Go.Value.int Go.IntKind.u8 0), (Go.Value.int Go.IntKind.i64 0), (Go.Value.string { data := #[] }), (Go.Value.slice .none 0 0), (Go.Value.int Go.IntKind.i64 0), (Go.Value.slice .none 0 0), (Go.Value.int Go.IntKind.i64 0), (Go.Value.int Go.IntKind.i64 0), (Go.Value.int Go.IntKind.i64 0), (Go.Value.int Go.IntKind.i64 0), (Go.Value.int Go.IntKind.u8 0), (Go.Value.bool false), (Go.Value.slice .none 0 0), (Go.Value.slice .none 0 0)]) [(0, 1), (1, 1), (2, 5), (7, 1), (8, 1), (9, 1), (10, 1), (11, 1), (12, 1), (13, 1), (14, 1), (15, 1)] [(0, (Go.Value.int Go.IntKind.u8 9)), (1, t33), (6, a1), (4, a2)] fun t36 =>
 callOn prog fn_World_Make #[a0, t36] w fun t37 w =>
 extractK t37 0 fun t38 =>
 extractK t37 1 fun t39 =>
 binI Go.BinOp.neq t39 (Go.Value.int Go.IntKind.i64 0) fun t41 =>
 condK t41
 (R (Go.Value.tuple #[(Go.Value.int Go.IntKind.i64 0), t39]) w)
 (fieldA 8 t8 fun t43 =>
 load1 t43 w fun t44 =>
 binI Go.BinOp.add t44 a2 fun t46 =>
 fieldA 8 t8 fun t47 =>
 storeN 1 t47 t46 w fun w =>
 loadN 16 t8 w fun t51 =>
 callOn prog fn_World_Lay #[a0, a1, t51] w fun t52 w =>
 R (Go.Value.tuple #[t38, t52]) w))))
theorem F_purse_Ask_eq (a0 : Go.Value) (a1 : Go.Value) (a2 : Go.Value) (w : Go.World) (R : Go.Value → Go.World → Prop) : cK prog (bodyOf Try.f51) (resK prog Try.f51.results.toList R) (start [a0, a1, a2]) w = F_purse_Ask a0 a1 a2 w R := by kernel_rfl
theorem F_purse_Ask_on (a0 : Go.Value) (a1 : Go.Value) (a2 : Go.Value) (w : Go.World) (k : Go.Value → Go.World → Prop) (h : F_purse_Ask a0 a1 a2 w k) : callOn prog fn_purse_Ask #[a0, a1, a2] w k :=
  calls_list (args := [a0, a1, a2]) mixed Try.func51 (by kernel_rfl) (by kernel_rfl) (Eq.mpr (F_purse_Ask_eq a0 a1 a2 w _) (Eq.mpr (congrArg (F_purse_Ask a0 a1 a2 w) (on_eq k)) h))


/-- postern/purse.Take -/
def F_purse_Take (a0 : Go.Value) (a1 : Go.Value) (a2 : Go.Value) (w : Go.World) (R : Go.Value → Go.World → Prop) : Prop :=
 callOn prog fn_purse_find #[a0, a1, (Go.Value.int Go.IntKind.u8 9)] w fun t14 w =>
 extractK t14 0 fun t15 =>
 extractK t14 1 fun t16 =>
 allocZ (Go.Value.agg #[(Go.Value.int Go.IntKind.u8 0), (Go.Value.int Go.IntKind.i64 0), (Go.Value.int Go.IntKind.u8 0), (Go.Value.int Go.IntKind.i64 0), (Go.Value.string { data := #[] }), (Go.Value.slice .none 0 0), (Go.Value.int Go.IntKind.i64 0), (Go.Value.slice .none 0 0), (Go.Value.int Go.IntKind.i64 0), (Go.Value.int Go.IntKind.i64 0), (Go.Value.int Go.IntKind.i64 0), (Go.Value.int Go.IntKind.i64 0), (Go.Value.int Go.IntKind.u8 0), (Go.Value.bool false), (Go.Value.slice .none 0 0), (Go.Value.slice .none 0 0)]) 52 w fun t8 w =>
 storeN 16 t8 t15 w fun w =>
 binI Go.BinOp.neq t16 (Go.Value.int Go.IntKind.i64 0) fun t19 =>
 condK t19
 (R (Go.Value.tuple #[(Go.Value.int Go.IntKind.i64 0), t16]) w)
 (binI Go.BinOp.lss a2 (Go.Value.int Go.IntKind.i64 0) fun t23 =>
 condK t23
 (R (Go.Value.tuple #[(Go.Value.int Go.IntKind.i64 0), (Go.Value.int Go.IntKind.i64 2)]) w)
 (fieldA 8 t8 fun t26 =>
 load1 t26 w fun t27 =>
 binI Go.BinOp.gtr a2 t27 fun t28 =>
 condK t28
 (R (Go.Value.tuple #[(Go.Value.int Go.IntKind.i64 0), (Go.Value.int Go.IntKind.i64 81)]) w)
 (fieldA 1 t8 fun t31 =>
 load1 t31 w fun t32 =>
 fieldA 10 t8 fun t33 =>
 load1 t33 w fun t34 =>
 buildS (Go.Value.agg #[(Go.Value.int Go.IntKind.u8 0), (Go.Value.int Go.IntKind.i64 0), (Go.Value.int Go.IntKind.u8 0), (Go.Value.int Go.IntKind.i64 0), (Go.Value.string { data := #[] }), (Go.Value.slice .none 0 0), (Go.Value.int Go.IntKind.i64 0), (Go.Value.slice .none 0 0), (Go.Value.int Go.IntKind.i64 0), (Go.Value.int Go.IntKind.i64 0), (Go.Value.int Go.IntKind.i64 0), (Go.Value.int Go.IntKind.i64 0), (Go.Value.int Go.IntKind.u8 0), (Go.Value.bool false), (Go.Value.slice .none 0 0), (Go.Value.slice .none 0 0)]) [(0, 1), (1, 1), (2, 5), (7, 1), (8, 1), (9, 1), (10, 1), (11, 1), (12, 1), (13, 1), (14, 1), (15, 1)] [(0, (Go.Value.int Go.IntKind.u8 9)), (1, t32), (6, t34), (4, a2)] fun t36 =>
 callOn prog fn_World_Make #[a0, t36] w fun t37 w =>
 extractK t37 0 fun t38 =>
 extractK t37 1 fun t39 =>
 binI Go.BinOp.neq t39 (Go.Value.int Go.IntKind.i64 0) fun t41 =>
 condK t41
 (R (Go.Value.tuple #[(Go.Value.int Go.IntKind.i64 0), t39]) w)
 (fieldA 8 t8 fun t43 =>
 load1 t43 w fun t44 =>
 binI Go.BinOp.sub t44 a2 fun t46 =>
 fieldA 8 t8 fun t47 =>
 storeN 1 t47 t46 w fun w =>
 loadN 16 t8 w fun t51 =>
 callOn prog fn_World_Lay #[a0, a1, t51] w fun t52 w =>
 R (Go.Value.tuple #[t38, t52]) w))))
theorem F_purse_Take_eq (a0 : Go.Value) (a1 : Go.Value) (a2 : Go.Value) (w : Go.World) (R : Go.Value → Go.World → Prop) : cK prog (bodyOf Try.f52) (resK prog Try.f52.results.toList R) (start [a0, a1, a2]) w = F_purse_Take a0 a1 a2 w R := by kernel_rfl
theorem F_purse_Take_on (a0 : Go.Value) (a1 : Go.Value) (a2 : Go.Value) (w : Go.World) (k : Go.Value → Go.World → Prop) (h : F_purse_Take a0 a1 a2 w k) : callOn prog fn_purse_Take #[a0, a1, a2] w k :=
  calls_list (args := [a0, a1, a2]) mixed Try.func52 (by kernel_rfl) (by kernel_rfl) (Eq.mpr (F_purse_Take_eq a0 a1 a2 w _) (Eq.mpr (congrArg (F_purse_Take a0 a1 a2 w) (on_eq k)) h))


/-- postern/purse.Get -/
def F_purse_Get (a0 : Go.Value) (a1 : Go.Value) (w : Go.World) (R : Go.Value → Go.World → Prop) : Prop :=
 callOn prog fn_purse_find #[a0, a1, (Go.Value.int Go.IntKind.u8 9)] w fun t11 w =>
 extractK t11 0 fun t12 =>
 extractK t11 1 fun t13 =>
 allocZ (Go.Value.agg #[(Go.Value.int Go.IntKind.u8 0), (Go.Value.int Go.IntKind.i64 0), (Go.Value.int Go.IntKind.u8 0), (Go.Value.int Go.IntKind.i64 0), (Go.Value.string { data := #[] }), (Go.Value.slice .none 0 0), (Go.Value.int Go.IntKind.i64 0), (Go.Value.slice .none 0 0), (Go.Value.int Go.IntKind.i64 0), (Go.Value.int Go.IntKind.i64 0), (Go.Value.int Go.IntKind.i64 0), (Go.Value.int Go.IntKind.i64 0), (Go.Value.int Go.IntKind.u8 0), (Go.Value.bool false), (Go.Value.slice .none 0 0), (Go.Value.slice .none 0 0)]) 52 w fun t6 w =>
 storeN 16 t6 t12 w fun w =>
 binI Go.BinOp.neq t13 (Go.Value.int Go.IntKind.i64 0) fun t15 =>
 condK t15
 (R (Go.Value.tuple #[(Go.Value.int Go.IntKind.i64 0), t13]) w)
 (fieldA 8 t6 fun t17 =>
 load1 t17 w fun t18 =>
 R (Go.Value.tuple #[t18, (Go.Value.int Go.IntKind.i64 0)]) w)
theorem F_purse_Get_eq (a0 : Go.Value) (a1 : Go.Value) (w : Go.World) (R : Go.Value → Go.World → Prop) : cK prog (bodyOf Try.f53) (resK prog Try.f53.results.toList R) (start [a0, a1]) w = F_purse_Get a0 a1 w R := by kernel_rfl
theorem F_purse_Get_on (a0 : Go.Value) (a1 : Go.Value) (w : Go.World) (k : Go.Value → Go.World → Prop) (h : F_purse_Get a0 a1 w k) : callOn prog fn_purse_Get #[a0, a1] w k :=
  calls_list (args := [a0, a1]) mixed Try.func53 (by kernel_rfl) (by kernel_rfl) (Eq.mpr (F_purse_Get_eq a0 a1 w _) (Eq.mpr (congrArg (F_purse_Get a0 a1 w) (on_eq k)) h))


/-- postern/purse.Move -/
def F_purse_Move (a0 : Go.Value) (a1 : Go.Value) (a2 : Go.Value) (w : Go.World) (R : Go.Value → Go.World → Prop) : Prop :=
 callOn prog fn_purse_find #[a0, a1, (Go.Value.int Go.IntKind.u8 9)] w fun t15 w =>
 extractK t15 0 fun t16 =>
 extractK t15 1 fun t17 =>
 allocZ (Go.Value.agg #[(Go.Value.int Go.IntKind.u8 0), (Go.Value.int Go.IntKind.i64 0), (Go.Value.int Go.IntKind.u8 0), (Go.Value.int Go.IntKind.i64 0), (Go.Value.string { data := #[] }), (Go.Value.slice .none 0 0), (Go.Value.int Go.IntKind.i64 0), (Go.Value.slice .none 0 0), (Go.Value.int Go.IntKind.i64 0), (Go.Value.int Go.IntKind.i64 0), (Go.Value.int Go.IntKind.i64 0), (Go.Value.int Go.IntKind.i64 0), (Go.Value.int Go.IntKind.u8 0), (Go.Value.bool false), (Go.Value.slice .none 0 0), (Go.Value.slice .none 0 0)]) 52 w fun t7 w =>
 storeN 16 t7 t16 w fun w =>
 callOn prog fn_purse_find #[a0, a2, (Go.Value.int Go.IntKind.u8 9)] w fun t21 w =>
 extractK t21 0 fun t22 =>
 extractK t21 1 fun t23 =>
 allocZ (Go.Value.agg #[(Go.Value.int Go.IntKind.u8 0), (Go.Value.int Go.IntKind.i64 0), (Go.Value.int Go.IntKind.u8 0), (Go.Value.int Go.IntKind.i64 0), (Go.Value.string { data := #[] }), (Go.Value.slice .none 0 0), (Go.Value.int Go.IntKind.i64 0), (Go.Value.slice .none 0 0), (Go.Value.int Go.IntKind.i64 0), (Go.Value.int Go.IntKind.i64 0), (Go.Value.int Go.IntKind.i64 0), (Go.Value.int Go.IntKind.i64 0), (Go.Value.int Go.IntKind.u8 0), (Go.Value.bool false), (Go.Value.slice .none 0 0), (Go.Value.slice .none 0 0)]) 52 w fun t9 w =>
 storeN 16 t9 t22 w fun w =>
 binI Go.BinOp.eql t17 (Go.Value.int Go.IntKind.i64 1) fun t26 =>
 gopK t26 false (fun k => k t17 w) w fun t28 w =>
 gopK t26 false (fun k => binI Go.BinOp.eql t28 (Go.Value.int Go.IntKind.i64 5) fun v => k v w) w fun t29 w =>
 pickK t26 (Go.Value.bool true) t29 fun t30 =>
 condK t30
 (R t17 w)
 (binI Go.BinOp.eql t23 (Go.Value.int Go.IntKind.i64 5) fun t34 =>
 condK t34
 (R t23 w)
 (binI Go.BinOp.neq t17 (Go.Value.int Go.IntKind.i64 0) fun t38 =>
 gopK t38 false (fun k => k t23 w) w fun t40 w =>
 gopK t38 false (fun k => binI Go.BinOp.neq t40 (Go.Value.int Go.IntKind.i64 0) fun v => k v w) w fun t41 w =>
 pickK t38 (Go.Value.bool true) t41 fun t42 =>
 gopK t42 false (fun k => k a1 w) w fun t44 w =>
 gopK t42 false (fun k => k a2 w) w fun t45 w =>
 gopK t42 false (fun k => binI Go.BinOp.eql t44 t45 fun v => k v w) w fun t46 w =>
 pickK t42 (Go.Value.bool true) t46 fun t47 =>
 gopK t47 false (fun k => fieldA 10 t7 fun v => k v w) w fun t49 w =>
 gopK t47 false (fun k => load1 t49 w fun v => k v w) w fun t50 w =>
 gopK t47 false (fun k => fieldA 10 t9 fun v => k v w) w fun t51 w =>
 gopK t47 false (fun k => load1 t51 w fun v => k v w) w fun t52 w =>
 gopK t47 false (fun k => binI Go.BinOp.neq t50 t52 fun v => k v w) w fun t53 w =>
 pickK t47 (Go.Value.bool true) t53 fun t54 =>
 condK t54
 (R (Go.Value.int Go.IntKind.i64 100) w)
 (fieldA 8 t9 fun t56 =>
 load1 t56 w fun t57 =>
 fieldA 8 t7 fun t58 =>
 load1 t58 w fun t59 =>
 binI Go.BinOp.sub (Go.Value.int Go.IntKind.i64 9007199254740992) t59 fun t60 =>
 binI Go.BinOp.gtr t57 t60 fun t61 =>
 condK t61
 (R (Go.Value.int Go.IntKind.i64 8) w)
 (fieldA 8 t7 fun t62 =>
 load1 t62 w fun t63 =>
 fieldA 8 t9 fun t64 =>
 load1 t64 w fun t65 =>
 binI Go.BinOp.add t63 t65 fun t66 =>
 fieldA 8 t7 fun t67 =>
 storeN 1 t67 t66 w fun w =>
 fieldA 8 t9 fun t68 =>
 storeN 1 t68 (Go.Value.int Go.IntKind.i64 0) w fun w =>
 loadN 16 t7 w fun t71 =>
 callOn prog fn_World_Lay #[a0, a1, t71] w fun t72 w =>
 binI Go.BinOp.neq t72 (Go.Value.int Go.IntKind.i64 0) fun t74 =>
 condK t74
 (R t72 w)
 (loadN 16 t9 w fun t78 =>
 callOn prog fn_World_Lay #[a0, a2, t78] w fun t79 w =>
 R t79 w)))))
theorem F_purse_Move_eq (a0 : Go.Value) (a1 : Go.Value) (a2 : Go.Value) (w : Go.World) (R : Go.Value → Go.World → Prop) : cK prog (bodyOf Try.f54) (resK prog Try.f54.results.toList R) (start [a0, a1, a2]) w = F_purse_Move a0 a1 a2 w R := by kernel_rfl
theorem F_purse_Move_on (a0 : Go.Value) (a1 : Go.Value) (a2 : Go.Value) (w : Go.World) (k : Go.Value → Go.World → Prop) (h : F_purse_Move a0 a1 a2 w k) : callOn prog fn_purse_Move #[a0, a1, a2] w k :=
  calls_list (args := [a0, a1, a2]) mixed Try.func54 (by kernel_rfl) (by kernel_rfl) (Eq.mpr (F_purse_Move_eq a0 a1 a2 w _) (Eq.mpr (congrArg (F_purse_Move a0 a1 a2 w) (on_eq k)) h))


/-- postern/purse.Check -/
def F_purse_Check (a0 : Go.Value) (w : Go.World) (R : Go.Value → Go.World → Prop) : Prop :=
 boxK 27 a0 w fun t1 w =>
 allocZ (Go.Value.int Go.IntKind.i64 0) 28 w fun t2 w =>
 load1 t1 w fun t9 =>
 binP Go.BinOp.eql t9 (Go.Value.pointer .none) fun t10 =>
 gopK t10 false (fun k => load1 t1 w fun v => k v w) w fun t12 w =>
 gopK t10 false (fun k => callOn prog fn_World_Sides #[t12] w k) w fun t13 w =>
 gopK t10 false (fun k => binI Go.BinOp.eql t13 (Go.Value.int Go.IntKind.i64 0) fun v => k v w) w fun t14 w =>
 pickK t10 (Go.Value.bool true) t14 fun t15 =>
 condK t15
 (storeN 1 t2 (Go.Value.int Go.IntKind.i64 1) w fun w =>
 load1 t2 w fun r1 =>
 R r1 w)
 (load1 t1 w fun t16 =>
 callOn prog fn_World_Things #[t16] w fun t17 w =>
 rangeX prog t17 2 (fun lp oR oB oD ky vs w => (fun (eb : Env) (w : Go.World) =>
 (w.heap[lp]? = some oR ∧ (fun (w : Go.World) =>
 let J1 : Env → Go.World → Prop := fun e1 w =>
 ((w.heap[lp]? = some oB ∧ ky (.bool true) (w.putObj lp oR)))
 binI Go.BinOp.neq (eb 19) (Go.Value.int Go.IntKind.u8 8) fun t21 =>
 condK t21
 (J1 (upd (upd (upd (upd eb 3 (eb 18)) 4 (eb 19)) 20 (eb 19)) 21 t21) w)
 (load1 (eb 1) w fun t23 =>
 callOn prog fn_purse_Sum #[t23, (eb 18)] w fun t25 w =>
 extractK t25 0 fun t26 =>
 extractK t25 1 fun t27 =>
 extractK t25 2 fun t28 =>
 extractK t25 3 fun t29 =>
 binI Go.BinOp.sub t28 t27 fun t32 =>
 binI Go.BinOp.neq t32 t26 fun t34 =>
 condK t34
 (storeN 1 (eb 2) (Go.Value.int Go.IntKind.i64 101) w fun w =>
 (w.heap[lp]? = some oB ∧ ky (.bool false) (w.putObj lp (oD .ret))))
 (J1 (upd (upd (upd (upd (upd (upd (upd (upd (upd (upd (upd (upd (upd (upd (upd (upd (upd (upd (upd (upd (upd eb 3 (eb 18)) 4 (eb 19)) 20 (eb 19)) 21 t21) 23 t23) 24 (eb 18)) 25 t25) 22 t25) 26 t26) 27 t27) 28 t28) 29 t29) 5 t26) 6 t27) 7 t28) 8 t29) 30 t28) 31 t27) 32 t32) 33 t26) 34 t34) w))) (w.putObj lp oB))) (updL (upd (upd (upd (upd (upd (upd (upd (upd (upd (upd (upd (start [a0]) 1 t1) 2 t2) 9 t9) 10 t10) 11 t10) 12 t12) 13 t13) 14 t14) 15 t15) 16 t16) 17 t17) [18, 19] vs) w)
 (fun d2 w =>
 storeN 1 t2 (Go.Value.int Go.IntKind.i64 0) w fun w =>
 leaveK prog d2 (fun (w : Go.World) =>
 load1 t2 w fun r1 =>
 R r1 w) w)
 (fun d2 w =>
 leaveK prog d2 (fun (w : Go.World) =>
 load1 t2 w fun r1 =>
 R r1 w) w)
 [] [] w)
theorem F_purse_Check_eq (a0 : Go.Value) (w : Go.World) (R : Go.Value → Go.World → Prop) : cX prog (bodyOf Try.f55) (resX prog Try.f55.results.toList R) [] (start [a0]) w = F_purse_Check a0 w R := by kernel_rfl
theorem F_purse_Check_on (a0 : Go.Value) (w : Go.World) (k : Go.Value → Go.World → Prop) (h : F_purse_Check a0 w k) : callOn prog fn_purse_Check #[a0] w k :=
  callsX_list (args := [a0]) mixed Try.func55 (by kernel_rfl) (by kernel_rfl) (Eq.mpr (F_purse_Check_eq a0 w _) h)


/-- postern/purse.Of -/
def F_purse_Of (a0 : Go.Value) (a1 : Go.Value) (w : Go.World) (R : Go.Value → Go.World → Prop) : Prop :=
 callOn prog fn_purse_find #[a0, a1, (Go.Value.int Go.IntKind.u8 8)] w fun t13 w =>
 extractK t13 0 fun t14 =>
 extractK t13 1 fun t15 =>
 allocZ (Go.Value.agg #[(Go.Value.int Go.IntKind.u8 0), (Go.Value.int Go.IntKind.i64 0), (Go.Value.int Go.IntKind.u8 0), (Go.Value.int Go.IntKind.i64 0), (Go.Value.string { data := #[] }), (Go.Value.slice .none 0 0), (Go.Value.int Go.IntKind.i64 0), (Go.Value.slice .none 0 0), (Go.Value.int Go.IntKind.i64 0), (Go.Value.int Go.IntKind.i64 0), (Go.Value.int Go.IntKind.i64 0), (Go.Value.int Go.IntKind.i64 0), (Go.Value.int Go.IntKind.u8 0), (Go.Value.bool false), (Go.Value.slice .none 0 0), (Go.Value.slice .none 0 0)]) 52 w fun t6 w =>
 storeN 16 t6 t14 w fun w =>
 binI Go.BinOp.neq t15 (Go.Value.int Go.IntKind.i64 100) fun t17 =>
 condK t17
 (binI Go.BinOp.neq t15 (Go.Value.int Go.IntKind.i64 0) fun t19 =>
 condK t19
 (R (Go.Value.tuple #[(Go.Value.int Go.IntKind.i64 0), t15]) w)
 (R (Go.Value.tuple #[a1, (Go.Value.int Go.IntKind.i64 0)]) w))
 (callOn prog fn_purse_find #[a0, a1, (Go.Value.int Go.IntKind.u8 9)] w fun t25 w =>
 extractK t25 0 fun t26 =>
 extractK t25 1 fun t27 =>
 allocZ (Go.Value.agg #[(Go.Value.int Go.IntKind.u8 0), (Go.Value.int Go.IntKind.i64 0), (Go.Value.int Go.IntKind.u8 0), (Go.Value.int Go.IntKind.i64 0), (Go.Value.string { data := #[] }), (Go.Value.slice .none 0 0), (Go.Value.int Go.IntKind.i64 0), (Go.Value.slice .none 0 0), (Go.Value.int Go.IntKind.i64 0), (Go.Value.int Go.IntKind.i64 0), (Go.Value.int Go.IntKind.i64 0), (Go.Value.int Go.IntKind.i64 0), (Go.Value.int Go.IntKind.u8 0), (Go.Value.bool false), (Go.Value.slice .none 0 0), (Go.Value.slice .none 0 0)]) 52 w fun t8 w =>
 storeN 16 t8 t26 w fun w =>
 binI Go.BinOp.neq t27 (Go.Value.int Go.IntKind.i64 0) fun t29 =>
 condK t29
 (R (Go.Value.tuple #[(Go.Value.int Go.IntKind.i64 0), t27]) w)
 (fieldA 10 t8 fun t31 =>
 load1 t31 w fun t32 =>
 R (Go.Value.tuple #[t32, (Go.Value.int Go.IntKind.i64 0)]) w))
theorem F_purse_Of_eq (a0 : Go.Value) (a1 : Go.Value) (w : Go.World) (R : Go.Value → Go.World → Prop) : cK prog (bodyOf Try.f56) (resK prog Try.f56.results.toList R) (start [a0, a1]) w = F_purse_Of a0 a1 w R := by kernel_rfl
theorem F_purse_Of_on (a0 : Go.Value) (a1 : Go.Value) (w : Go.World) (k : Go.Value → Go.World → Prop) (h : F_purse_Of a0 a1 w k) : callOn prog fn_purse_Of #[a0, a1] w k :=
  calls_list (args := [a0, a1]) mixed Try.func56 (by kernel_rfl) (by kernel_rfl) (Eq.mpr (F_purse_Of_eq a0 a1 w _) (Eq.mpr (congrArg (F_purse_Of a0 a1 w) (on_eq k)) h))


/-- postern/purse.Purses -/
def F_purse_Purses (a0 : Go.Value) (a1 : Go.Value) (w : Go.World) (R : Go.Value → Go.World → Prop) : Prop :=
 boxK 27 a0 w fun t2 w =>
 boxK 40 a1 w fun t3 w =>
 load1 t2 w fun t14 =>
 load1 t3 w fun t15 =>
 callOn prog fn_purse_find #[t14, t15, (Go.Value.int Go.IntKind.u8 8)] w fun t16 w =>
 extractK t16 0 fun t17 =>
 extractK t16 1 fun t18 =>
 allocZ (Go.Value.agg #[(Go.Value.int Go.IntKind.u8 0), (Go.Value.int Go.IntKind.i64 0), (Go.Value.int Go.IntKind.u8 0), (Go.Value.int Go.IntKind.i64 0), (Go.Value.string { data := #[] }), (Go.Value.slice .none 0 0), (Go.Value.int Go.IntKind.i64 0), (Go.Value.slice .none 0 0), (Go.Value.int Go.IntKind.i64 0), (Go.Value.int Go.IntKind.i64 0), (Go.Value.int Go.IntKind.i64 0), (Go.Value.int Go.IntKind.i64 0), (Go.Value.int Go.IntKind.u8 0), (Go.Value.bool false), (Go.Value.slice .none 0 0), (Go.Value.slice .none 0 0)]) 52 w fun t6 w =>
 storeN 16 t6 t17 w fun w =>
 binI Go.BinOp.neq t18 (Go.Value.int Go.IntKind.i64 0) fun t20 =>
 condK t20
 (R (Go.Value.tuple #[(Go.Value.slice .none 0 0), t18]) w)
 (allocZ (Go.Value.slice .none 0 0) 75 w fun t8 w =>
 load1 t2 w fun t22 =>
 callOn prog fn_World_Things #[t22] w fun t23 w =>
 rangeX prog t23 2 (fun lp oR oB oD ky vs w => (fun (eb : Env) (w : Go.World) =>
 (w.heap[lp]? = some oR ∧ (fun (w : Go.World) =>
 let J1 : Env → Go.World → Prop := fun e1 w =>
 ((w.heap[lp]? = some oB ∧ ky (.bool true) (w.putObj lp oR)))
 binI Go.BinOp.neq (eb 25) (Go.Value.int Go.IntKind.u8 9) fun t27 =>
 condK t27
 (J1 (upd (upd (upd (upd eb 9 (eb 24)) 10 (eb 25)) 26 (eb 25)) 27 t27) w)
 (load1 (eb 2) w fun t29 =>
 callOn prog fn_World_What #[t29, (eb 24)] w fun t31 w =>
 extractK t31 0 fun t32 =>
 extractK t31 1 fun t33 =>
 allocZ (Go.Value.agg #[(Go.Value.int Go.IntKind.u8 0), (Go.Value.int Go.IntKind.i64 0), (Go.Value.int Go.IntKind.u8 0), (Go.Value.int Go.IntKind.i64 0), (Go.Value.string { data := #[] }), (Go.Value.slice .none 0 0), (Go.Value.int Go.IntKind.i64 0), (Go.Value.slice .none 0 0), (Go.Value.int Go.IntKind.i64 0), (Go.Value.int Go.IntKind.i64 0), (Go.Value.int Go.IntKind.i64 0), (Go.Value.int Go.IntKind.i64 0), (Go.Value.int Go.IntKind.u8 0), (Go.Value.bool false), (Go.Value.slice .none 0 0), (Go.Value.slice .none 0 0)]) 52 w fun t11 w =>
 storeN 16 t11 t32 w fun w =>
 fieldA 10 t11 fun t34 =>
 load1 t34 w fun t35 =>
 load1 (eb 3) w fun t36 =>
 binI Go.BinOp.eql t35 t36 fun t37 =>
 condK t37
 (load1 (eb 8) w fun t38 =>
 buildL 40 1 (Go.Value.int Go.IntKind.i64 0) 1 [(0, (eb 24))] w fun t40 w =>
 appendS 40 1 8 (Go.Value.int Go.IntKind.i64 0) t38 t40 w fun t41 w =>
 storeN 1 (eb 8) t41 w fun w =>
 J1 (upd (upd (upd (upd (upd (upd (upd (upd (upd (upd (upd (upd (upd (upd (upd (upd (upd (upd (upd (upd eb 9 (eb 24)) 10 (eb 25)) 26 (eb 25)) 27 t27) 29 t29) 30 (eb 24)) 31 t31) 28 t31) 32 t32) 33 t33) 11 t11) 12 t33) 34 t34) 35 t35) 36 t36) 37 t37) 38 t38) 39 (eb 24)) 40 t40) 41 t41) w)
 (J1 (upd (upd (upd (upd (upd (upd (upd (upd (upd (upd (upd (upd (upd (upd (upd (upd eb 9 (eb 24)) 10 (eb 25)) 26 (eb 25)) 27 t27) 29 t29) 30 (eb 24)) 31 t31) 28 t31) 32 t32) 33 t33) 11 t11) 12 t33) 34 t34) 35 t35) 36 t36) 37 t37) w))) (w.putObj lp oB))) (updL (upd (upd (upd (upd (upd (upd (upd (upd (upd (upd (upd (upd (upd (upd (upd (upd (upd (start [a0, a1]) 2 t2) 3 t3) 4 (Go.Value.slice .none 0 0)) 5 (Go.Value.int Go.IntKind.i64 0)) 14 t14) 15 t15) 16 t16) 13 t16) 17 t17) 18 t18) 6 t6) 7 t18) 19 t18) 20 t20) 8 t8) 22 t22) 23 t23) [24, 25] vs) w)
 (fun d2 w =>
 load1 t8 w fun t42 =>
 leaveK prog d2 (fun (w : Go.World) =>
 R (Go.Value.tuple #[t42, (Go.Value.int Go.IntKind.i64 0)]) w) w)
 (fun d2 w =>
 leaveK prog d2 (fun (w : Go.World) =>
 R (Go.Value.tuple #[(Go.Value.slice .none 0 0), (Go.Value.int Go.IntKind.i64 0)]) w) w)
 [] [] w)
theorem F_purse_Purses_eq (a0 : Go.Value) (a1 : Go.Value) (w : Go.World) (R : Go.Value → Go.World → Prop) : cX prog (bodyOf Try.f57) (resX prog Try.f57.results.toList R) [] (start [a0, a1]) w = F_purse_Purses a0 a1 w R := by kernel_rfl
theorem F_purse_Purses_on (a0 : Go.Value) (a1 : Go.Value) (w : Go.World) (k : Go.Value → Go.World → Prop) (h : F_purse_Purses a0 a1 w k) : callOn prog fn_purse_Purses #[a0, a1] w k :=
  callsX_list (args := [a0, a1]) mixed Try.func57 (by kernel_rfl) (by kernel_rfl) (Eq.mpr (F_purse_Purses_eq a0 a1 w _) h)


/-- postern/purse.Sum -/
def F_purse_Sum (a0 : Go.Value) (a1 : Go.Value) (w : Go.World) (R : Go.Value → Go.World → Prop) : Prop :=
 callOn prog fn_purse_Purses #[a0, a1] w fun t18 w =>
 extractK t18 0 fun t19 =>
 extractK t18 1 fun t20 =>
 binI Go.BinOp.neq t20 (Go.Value.int Go.IntKind.i64 0) fun t22 =>
 condK t22
 (R (Go.Value.tuple #[(Go.Value.int Go.IntKind.i64 0), (Go.Value.int Go.IntKind.i64 0), (Go.Value.int Go.IntKind.i64 0), t20]) w)
 (lenL t19 fun t25 =>
 loopK (fun k1 e1 w =>
 binI Go.BinOp.lss (e1 26) (e1 25) fun t27 =>
 condK t27
 (indexS 1 (e1 24) (e1 26) fun t28 =>
 load1 t28 w fun t29 =>
 callOn prog fn_purse_Get #[(e1 0), t29] w fun t33 w =>
 extractK t33 0 fun t34 =>
 extractK t33 1 fun t35 =>
 binI Go.BinOp.sub (Go.Value.int Go.IntKind.i64 9007199254740993) (e1 4) fun t39 =>
 minK [t34, t39] fun t40 =>
 binI Go.BinOp.add (e1 4) t40 fun t41 =>
 binI Go.BinOp.add (e1 26) (Go.Value.int Go.IntKind.i64 1) fun t42 =>
 k1 (upd (upd (upd (upd (upd (upd (upd (upd (upd (upd (upd (upd (upd (upd (upd (upd (upd (upd (upd (upd (upd e1 27 t27) 28 t28) 29 t29) 10 t29) 31 (e1 0)) 32 t29) 33 t33) 30 t33) 34 t34) 35 t35) 11 t34) 12 t35) 36 (e1 4)) 37 t34) 38 (e1 4)) 39 t39) 40 t40) 41 t41) 4 t41) 42 t42) 26 t42) w)
 (callOn prog fn_World_What #[(e1 0), (e1 1)] w fun t46 w =>
 extractK t46 0 fun t47 =>
 extractK t46 1 fun t48 =>
 allocZ (Go.Value.agg #[(Go.Value.int Go.IntKind.u8 0), (Go.Value.int Go.IntKind.i64 0), (Go.Value.int Go.IntKind.u8 0), (Go.Value.int Go.IntKind.i64 0), (Go.Value.string { data := #[] }), (Go.Value.slice .none 0 0), (Go.Value.int Go.IntKind.i64 0), (Go.Value.slice .none 0 0), (Go.Value.int Go.IntKind.i64 0), (Go.Value.int Go.IntKind.i64 0), (Go.Value.int Go.IntKind.i64 0), (Go.Value.int Go.IntKind.i64 0), (Go.Value.int Go.IntKind.u8 0), (Go.Value.bool false), (Go.Value.slice .none 0 0), (Go.Value.slice .none 0 0)]) 52 w fun t13 w =>
 storeN 16 t13 t47 w fun w =>
 atDrew w fun (w : Go.World) =>
 fieldA 9 t13 fun t50 =>
 load1 t50 w fun t51 =>
 fieldA 8 t13 fun t52 =>
 load1 t52 w fun t53 =>
 R (Go.Value.tuple #[(e1 4), t51, t53, (Go.Value.int Go.IntKind.i64 0)]) w)) (upd (upd (upd (upd (upd (upd (upd (upd (upd (upd (upd (upd (upd (upd (upd (upd (upd (start [a0, a1]) 4 (Go.Value.int Go.IntKind.i64 0)) 5 (Go.Value.int Go.IntKind.i64 0)) 6 (Go.Value.int Go.IntKind.i64 0)) 7 (Go.Value.int Go.IntKind.i64 0)) 16 a0) 17 a1) 18 t18) 15 t18) 19 t19) 20 t20) 8 t19) 7 t20) 21 t20) 22 t22) 24 t19) 25 t25) 26 (Go.Value.int Go.IntKind.i64 0)) w)
theorem F_purse_Sum_eq (a0 : Go.Value) (a1 : Go.Value) (w : Go.World) (R : Go.Value → Go.World → Prop) : cK prog (bodyOf Try.f58) (resK prog Try.f58.results.toList R) (start [a0, a1]) w = F_purse_Sum a0 a1 w R := by kernel_rfl
theorem F_purse_Sum_on (a0 : Go.Value) (a1 : Go.Value) (w : Go.World) (k : Go.Value → Go.World → Prop) (h : F_purse_Sum a0 a1 w k) : callOn prog fn_purse_Sum #[a0, a1] w k :=
  calls_list (args := [a0, a1]) mixed Try.func58 (by kernel_rfl) (by kernel_rfl) (Eq.mpr (F_purse_Sum_eq a0 a1 w _) (Eq.mpr (congrArg (F_purse_Sum a0 a1 w) (on_eq k)) h))


noncomputable def purse_find_R6 : Array Oper := regionOf (bodyOf Try.f90) 6
-- not quiet: purse_find_R6: quiet store
-- no tree: purse_find_R6: too many orders
def purse_find_R6_pre : List (List Nat) := [[], [], [], [1, 2], [], [4], [1, 3, 5], [0, 6], [0, 1, 2, 3, 4, 5, 6, 7]]
theorem purse_find_R6_ok : factsOk purse_find_R6 purse_find_R6_pre = true := by kernel_rfl
theorem purse_find_R6_ap : apartOk purse_find_R6 = true := by kernel_rfl
def O_purse_find_R6_0 (k : Env → Go.World → Prop) (e : Env) (w : Go.World) : Prop :=
 loadN 16 (e 8) w fun t23 =>
 k (upd e 23 t23) w
theorem O_purse_find_R6_0_eq (k : Env → Go.World → Prop) (e : Env) (w : Go.World) : (match purse_find_R6[0]? with | some o => opsK prog purse_find_R6.toList [o] e w k | none => True) = O_purse_find_R6_0 k e w := by kernel_rfl
theorem O_purse_find_R6_0_on {k : Env → Go.World → Prop} {e : Env} {w : Go.World} {o : Oper} (ho : purse_find_R6[0]? = some o) (h : O_purse_find_R6_0 k e w) : opsK prog purse_find_R6.toList [o] e w k := by
  have := O_purse_find_R6_0_eq k e w
  rw [ho] at this
  exact Eq.mpr this h
def O_purse_find_R6_1 (k : Env → Go.World → Prop) (e : Env) (w : Go.World) : Prop :=
 callOn prog fn_purse_rules #[] w fun t24 w =>
 k (upd e 24 t24) w
theorem O_purse_find_R6_1_eq (k : Env → Go.World → Prop) (e : Env) (w : Go.World) : (match purse_find_R6[1]? with | some o => opsK prog purse_find_R6.toList [o] e w k | none => True) = O_purse_find_R6_1 k e w := by kernel_rfl
theorem O_purse_find_R6_1_on {k : Env → Go.World → Prop} {e : Env} {w : Go.World} {o : Oper} (ho : purse_find_R6[1]? = some o) (h : O_purse_find_R6_1 k e w) : opsK prog purse_find_R6.toList [o] e w k := by
  have := O_purse_find_R6_1_eq k e w
  rw [ho] at this
  exact Eq.mpr this h
def O_purse_find_R6_2 (k : Env → Go.World → Prop) (e : Env) (w : Go.World) : Prop :=
 k (upd e 25 (e 2)) w
theorem O_purse_find_R6_2_eq (k : Env → Go.World → Prop) (e : Env) (w : Go.World) : (match purse_find_R6[2]? with | some o => opsK prog purse_find_R6.toList [o] e w k | none => True) = O_purse_find_R6_2 k e w := by kernel_rfl
theorem O_purse_find_R6_2_on {k : Env → Go.World → Prop} {e : Env} {w : Go.World} {o : Oper} (ho : purse_find_R6[2]? = some o) (h : O_purse_find_R6_2 k e w) : opsK prog purse_find_R6.toList [o] e w k := by
  have := O_purse_find_R6_2_eq k e w
  rw [ho] at this
  exact Eq.mpr this h
def O_purse_find_R6_3 (k : Env → Go.World → Prop) (e : Env) (w : Go.World) : Prop :=
 lookM false Go.Value.nilFunc (e 24) (e 25) false w fun t26 =>
 k (upd e 26 t26) w
theorem O_purse_find_R6_3_eq (k : Env → Go.World → Prop) (e : Env) (w : Go.World) : (match purse_find_R6[3]? with | some o => opsK prog purse_find_R6.toList [o] e w k | none => True) = O_purse_find_R6_3 k e w := by kernel_rfl
theorem O_purse_find_R6_3_on {k : Env → Go.World → Prop} {e : Env} {w : Go.World} {o : Oper} (ho : purse_find_R6[3]? = some o) (h : O_purse_find_R6_3 k e w) : opsK prog purse_find_R6.toList [o] e w k := by
  have := O_purse_find_R6_3_eq k e w
  rw [ho] at this
  exact Eq.mpr this h
def O_purse_find_R6_4 (k : Env → Go.World → Prop) (e : Env) (w : Go.World) : Prop :=
 fieldA 0 (e 8) fun t27 =>
 k (upd e 27 t27) w
theorem O_purse_find_R6_4_eq (k : Env → Go.World → Prop) (e : Env) (w : Go.World) : (match purse_find_R6[4]? with | some o => opsK prog purse_find_R6.toList [o] e w k | none => True) = O_purse_find_R6_4 k e w := by kernel_rfl
theorem O_purse_find_R6_4_on {k : Env → Go.World → Prop} {e : Env} {w : Go.World} {o : Oper} (ho : purse_find_R6[4]? = some o) (h : O_purse_find_R6_4 k e w) : opsK prog purse_find_R6.toList [o] e w k := by
  have := O_purse_find_R6_4_eq k e w
  rw [ho] at this
  exact Eq.mpr this h
def O_purse_find_R6_5 (k : Env → Go.World → Prop) (e : Env) (w : Go.World) : Prop :=
 load1 (e 27) w fun t28 =>
 k (upd e 28 t28) w
theorem O_purse_find_R6_5_eq (k : Env → Go.World → Prop) (e : Env) (w : Go.World) : (match purse_find_R6[5]? with | some o => opsK prog purse_find_R6.toList [o] e w k | none => True) = O_purse_find_R6_5 k e w := by kernel_rfl
theorem O_purse_find_R6_5_on {k : Env → Go.World → Prop} {e : Env} {w : Go.World} {o : Oper} (ho : purse_find_R6[5]? = some o) (h : O_purse_find_R6_5 k e w) : opsK prog purse_find_R6.toList [o] e w k := by
  have := O_purse_find_R6_5_eq k e w
  rw [ho] at this
  exact Eq.mpr this h
def O_purse_find_R6_6 (k : Env → Go.World → Prop) (e : Env) (w : Go.World) : Prop :=
 callT prog (e 26) [(e 28)] w fun t29 w =>
 k (upd e 29 t29) w
theorem O_purse_find_R6_6_eq (k : Env → Go.World → Prop) (e : Env) (w : Go.World) : (match purse_find_R6[6]? with | some o => opsK prog purse_find_R6.toList [o] e w k | none => True) = O_purse_find_R6_6 k e w := by kernel_rfl
theorem O_purse_find_R6_6_on {k : Env → Go.World → Prop} {e : Env} {w : Go.World} {o : Oper} (ho : purse_find_R6[6]? = some o) (h : O_purse_find_R6_6 k e w) : opsK prog purse_find_R6.toList [o] e w k := by
  have := O_purse_find_R6_6_eq k e w
  rw [ho] at this
  exact Eq.mpr this h
def O_purse_find_R6_7 (k : Env → Go.World → Prop) (e : Env) (w : Go.World) : Prop :=
 storeN 16 (e 6) (e 23) w fun w =>
 k e w
theorem O_purse_find_R6_7_eq (k : Env → Go.World → Prop) (e : Env) (w : Go.World) : (match purse_find_R6[7]? with | some o => opsK prog purse_find_R6.toList [o] e w k | none => True) = O_purse_find_R6_7 k e w := by kernel_rfl
theorem O_purse_find_R6_7_on {k : Env → Go.World → Prop} {e : Env} {w : Go.World} {o : Oper} (ho : purse_find_R6[7]? = some o) (h : O_purse_find_R6_7 k e w) : opsK prog purse_find_R6.toList [o] e w k := by
  have := O_purse_find_R6_7_eq k e w
  rw [ho] at this
  exact Eq.mpr this h
def O_purse_find_R6_8 (k : Env → Go.World → Prop) (e : Env) (w : Go.World) : Prop :=
 k (upd e 7 (e 29)) w
theorem O_purse_find_R6_8_eq (k : Env → Go.World → Prop) (e : Env) (w : Go.World) : (match purse_find_R6[8]? with | some o => opsK prog purse_find_R6.toList [o] e w k | none => True) = O_purse_find_R6_8 k e w := by kernel_rfl
theorem O_purse_find_R6_8_on {k : Env → Go.World → Prop} {e : Env} {w : Go.World} {o : Oper} (ho : purse_find_R6[8]? = some o) (h : O_purse_find_R6_8 k e w) : opsK prog purse_find_R6.toList [o] e w k := by
  have := O_purse_find_R6_8_eq k e w
  rw [ho] at this
  exact Eq.mpr this h
/-- postern/purse.find -/
def F_purse_find (a0 : Go.Value) (a1 : Go.Value) (a2 : Go.Value) (w : Go.World) (R : Go.Value → Go.World → Prop) : Prop :=
 allocZ (Go.Value.agg #[(Go.Value.int Go.IntKind.u8 0), (Go.Value.int Go.IntKind.i64 0), (Go.Value.int Go.IntKind.u8 0), (Go.Value.int Go.IntKind.i64 0), (Go.Value.string { data := #[] }), (Go.Value.slice .none 0 0), (Go.Value.int Go.IntKind.i64 0), (Go.Value.slice .none 0 0), (Go.Value.int Go.IntKind.i64 0), (Go.Value.int Go.IntKind.i64 0), (Go.Value.int Go.IntKind.i64 0), (Go.Value.int Go.IntKind.i64 0), (Go.Value.int Go.IntKind.u8 0), (Go.Value.bool false), (Go.Value.slice .none 0 0), (Go.Value.slice .none 0 0)]) 52 w fun t6 w =>
 binP Go.BinOp.eql a0 (Go.Value.pointer .none) fun t11 =>
 condK t11
 (buildS (Go.Value.agg #[(Go.Value.int Go.IntKind.u8 0), (Go.Value.int Go.IntKind.i64 0), (Go.Value.int Go.IntKind.u8 0), (Go.Value.int Go.IntKind.i64 0), (Go.Value.string { data := #[] }), (Go.Value.slice .none 0 0), (Go.Value.int Go.IntKind.i64 0), (Go.Value.slice .none 0 0), (Go.Value.int Go.IntKind.i64 0), (Go.Value.int Go.IntKind.i64 0), (Go.Value.int Go.IntKind.i64 0), (Go.Value.int Go.IntKind.i64 0), (Go.Value.int Go.IntKind.u8 0), (Go.Value.bool false), (Go.Value.slice .none 0 0), (Go.Value.slice .none 0 0)]) [(0, 1), (1, 1), (2, 5), (7, 1), (8, 1), (9, 1), (10, 1), (11, 1), (12, 1), (13, 1), (14, 1), (15, 1)] [] fun t12 =>
 storeN 16 t6 t12 w fun w =>
 loadN 16 t6 w fun r1 =>
 R (Go.Value.tuple #[r1, (Go.Value.int Go.IntKind.i64 1)]) w)
 (callOn prog fn_World_What #[a0, a1] w fun t16 w =>
 extractK t16 0 fun t17 =>
 extractK t16 1 fun t18 =>
 allocZ (Go.Value.agg #[(Go.Value.int Go.IntKind.u8 0), (Go.Value.int Go.IntKind.i64 0), (Go.Value.int Go.IntKind.u8 0), (Go.Value.int Go.IntKind.i64 0), (Go.Value.string { data := #[] }), (Go.Value.slice .none 0 0), (Go.Value.int Go.IntKind.i64 0), (Go.Value.slice .none 0 0), (Go.Value.int Go.IntKind.i64 0), (Go.Value.int Go.IntKind.i64 0), (Go.Value.int Go.IntKind.i64 0), (Go.Value.int Go.IntKind.i64 0), (Go.Value.int Go.IntKind.u8 0), (Go.Value.bool false), (Go.Value.slice .none 0 0), (Go.Value.slice .none 0 0)]) 52 w fun t8 w =>
 storeN 16 t8 t17 w fun w =>
 binI Go.BinOp.neq t18 (Go.Value.int Go.IntKind.i64 0) fun t20 =>
 condK t20
 (buildS (Go.Value.agg #[(Go.Value.int Go.IntKind.u8 0), (Go.Value.int Go.IntKind.i64 0), (Go.Value.int Go.IntKind.u8 0), (Go.Value.int Go.IntKind.i64 0), (Go.Value.string { data := #[] }), (Go.Value.slice .none 0 0), (Go.Value.int Go.IntKind.i64 0), (Go.Value.slice .none 0 0), (Go.Value.int Go.IntKind.i64 0), (Go.Value.int Go.IntKind.i64 0), (Go.Value.int Go.IntKind.i64 0), (Go.Value.int Go.IntKind.i64 0), (Go.Value.int Go.IntKind.u8 0), (Go.Value.bool false), (Go.Value.slice .none 0 0), (Go.Value.slice .none 0 0)]) [(0, 1), (1, 1), (2, 5), (7, 1), (8, 1), (9, 1), (10, 1), (11, 1), (12, 1), (13, 1), (14, 1), (15, 1)] [] fun t21 =>
 storeN 16 t6 t21 w fun w =>
 loadN 16 t6 w fun r1 =>
 R (Go.Value.tuple #[r1, t18]) w)
 (drawK prog purse_find_R6 (upd (upd (upd (upd (upd (upd (upd (upd (upd (upd (upd (upd (upd (upd (start [a0, a1, a2]) 6 t6) 7 (Go.Value.int Go.IntKind.i64 0)) 10 a0) 11 t11) 14 a0) 15 a1) 16 t16) 13 t16) 17 t17) 18 t18) 8 t8) 9 t18) 19 t18) 20 t20) w.drew fun e1 w =>
 loadN 16 (e1 6) w fun r1 =>
 R (Go.Value.tuple #[r1, (e1 7)]) w))
theorem F_purse_find_eq (a0 : Go.Value) (a1 : Go.Value) (a2 : Go.Value) (w : Go.World) (R : Go.Value → Go.World → Prop) : cK prog (bodyOf Try.f90) (resK prog Try.f90.results.toList R) (start [a0, a1, a2]) w = F_purse_find a0 a1 a2 w R := by kernel_rfl
theorem F_purse_find_on (a0 : Go.Value) (a1 : Go.Value) (a2 : Go.Value) (w : Go.World) (k : Go.Value → Go.World → Prop) (h : F_purse_find a0 a1 a2 w k) : callOn prog fn_purse_find #[a0, a1, a2] w k :=
  calls_list (args := [a0, a1, a2]) mixed Try.func90 (by kernel_rfl) (by kernel_rfl) (Eq.mpr (F_purse_find_eq a0 a1 a2 w _) (Eq.mpr (congrArg (F_purse_find a0 a1 a2 w) (on_eq k)) h))


/-- postern/purse.rules -/
def F_purse_rules  (w : Go.World) (R : Go.Value → Go.World → Prop) : Prop :=
 True ∧ (fun (t2 : Go.Value) (w : Go.World) =>
 callT prog (Go.Value.func (Go.Fn.func 133) #[] #[]) [(Go.Value.int Go.IntKind.u8 8)] w fun t4 w =>
 updM false t2 (Go.Value.int Go.IntKind.u8 8) t4 w fun w =>
 callT prog (Go.Value.func (Go.Fn.func 133) #[] #[]) [(Go.Value.int Go.IntKind.u8 9)] w fun t6 w =>
 updM false t2 (Go.Value.int Go.IntKind.u8 9) t6 w fun w =>
 R t2 w) (.map (some w.heap.size)) (w.alloc (.map #[] 0))
theorem F_purse_rules_eq  (w : Go.World) (R : Go.Value → Go.World → Prop) : cK prog (bodyOf Try.f115) (resK prog Try.f115.results.toList R) (start []) w = F_purse_rules  w R := by kernel_rfl
theorem F_purse_rules_on  (w : Go.World) (k : Go.Value → Go.World → Prop) (h : F_purse_rules  w k) : callOn prog fn_purse_rules #[] w k :=
  calls_list (args := []) mixed Try.func115 (by kernel_rfl) (by kernel_rfl) (Eq.mpr (F_purse_rules_eq  w _) (Eq.mpr (congrArg (F_purse_rules  w) (on_eq k)) h))


/-- postern/purse.rules$1 -/
def F_purse_rules_1 (a0 : Go.Value) (w : Go.World) (R : Go.Value → Go.World → Prop) : Prop :=
 boxK 43 a0 w fun t1 w =>
 R (Go.Value.func (Go.Fn.func 134) #[] #[t1]) w
theorem F_purse_rules_1_eq (a0 : Go.Value) (w : Go.World) (R : Go.Value → Go.World → Prop) : cK prog (bodyOf Try.f133) (resK prog Try.f133.results.toList R) (start [a0]) w = F_purse_rules_1 a0 w R := by kernel_rfl
theorem F_purse_rules_1_on (a0 : Go.Value) (w : Go.World) (k : Go.Value → Go.World → Prop) (h : F_purse_rules_1 a0 w k) : callOn prog fn_purse_rules_1 #[a0] w k :=
  calls_list (args := [a0]) mixed Try.func133 (by kernel_rfl) (by kernel_rfl) (Eq.mpr (F_purse_rules_1_eq a0 w _) (Eq.mpr (congrArg (F_purse_rules_1 a0 w) (on_eq k)) h))


/-- postern/purse.rules$1$1 -/
def F_purse_rules_1_1 (a0 : Go.Value) (a1 : Go.Value) (w : Go.World) (R : Go.Value → Go.World → Prop) : Prop :=
 load1 a1 w fun t5 =>
 binI Go.BinOp.neq a0 t5 fun t6 =>
 condK t6
 (R (Go.Value.int Go.IntKind.i64 100) w)
 (R (Go.Value.int Go.IntKind.i64 0) w)
theorem F_purse_rules_1_1_eq (a0 : Go.Value) (a1 : Go.Value) (w : Go.World) (R : Go.Value → Go.World → Prop) : cK prog (bodyOf Try.f134) (resK prog Try.f134.results.toList R) (start [a0, a1]) w = F_purse_rules_1_1 a0 a1 w R := by kernel_rfl
theorem F_purse_rules_1_1_on (a0 : Go.Value) (a1 : Go.Value) (w : Go.World) (k : Go.Value → Go.World → Prop) (h : F_purse_rules_1_1 a0 a1 w k) : callOn prog fn_purse_rules_1_1 #[a0, a1] w k :=
  calls_list (args := [a0, a1]) mixed Try.func134 (by kernel_rfl) (by kernel_rfl) (Eq.mpr (F_purse_rules_1_1_eq a0 a1 w _) (Eq.mpr (congrArg (F_purse_rules_1_1 a0 a1 w) (on_eq k)) h))


/-- postern/posternlaw10.lives -/
def F_law10_lives  (w : Go.World) (R : Go.Value → Go.World → Prop) : Prop :=
 callOn prog fn_world_New #[(Go.Value.slice .none 0 0)] w fun t17 w =>
 extractK t17 0 fun t18 =>
 extractK t17 1 fun t19 =>
 callOn prog fn_purse_Mint #[t18, (Go.Value.int Go.IntKind.i64 0)] w fun t22 w =>
 extractK t22 0 fun t23 =>
 extractK t22 1 fun t24 =>
 callOn prog fn_purse_Ask #[t18, t23, (Go.Value.int Go.IntKind.i64 10)] w fun t28 w =>
 extractK t28 0 fun t29 =>
 extractK t28 1 fun t30 =>
 callOn prog fn_purse_Ask #[t18, t23, (Go.Value.int Go.IntKind.i64 (-1))] w fun t34 w =>
 extractK t34 0 fun t35 =>
 extractK t34 1 fun t36 =>
 callOn prog fn_purse_Take #[t18, t29, (Go.Value.int Go.IntKind.i64 3)] w fun t40 w =>
 extractK t40 0 fun t41 =>
 extractK t40 1 fun t42 =>
 callOn prog fn_purse_Get #[t18, t29] w fun t46 w =>
 extractK t46 0 fun t47 =>
 extractK t46 1 fun t48 =>
 callOn prog fn_purse_Move #[t18, t41, t29] w fun t52 w =>
 callOn prog fn_purse_Get #[t18, t41] w fun t56 w =>
 extractK t56 0 fun t57 =>
 extractK t56 1 fun t58 =>
 binI Go.BinOp.eql t23 (Go.Value.int Go.IntKind.i64 1) fun t60 =>
 gopK t60 true (fun k => k t24 w) w fun t62 w =>
 gopK t60 true (fun k => binI Go.BinOp.eql t62 (Go.Value.int Go.IntKind.i64 0) fun v => k v w) w fun t63 w =>
 pickK t60 t63 (Go.Value.bool false) fun t64 =>
 gopK t64 true (fun k => k t29 w) w fun t66 w =>
 gopK t64 true (fun k => binI Go.BinOp.eql t66 (Go.Value.int Go.IntKind.i64 2) fun v => k v w) w fun t67 w =>
 pickK t64 t67 (Go.Value.bool false) fun t68 =>
 gopK t68 true (fun k => k t30 w) w fun t70 w =>
 gopK t68 true (fun k => binI Go.BinOp.eql t70 (Go.Value.int Go.IntKind.i64 0) fun v => k v w) w fun t71 w =>
 pickK t68 t71 (Go.Value.bool false) fun t72 =>
 gopK t72 true (fun k => k t36 w) w fun t74 w =>
 gopK t72 true (fun k => binI Go.BinOp.eql t74 (Go.Value.int Go.IntKind.i64 2) fun v => k v w) w fun t75 w =>
 pickK t72 t75 (Go.Value.bool false) fun t76 =>
 gopK t76 true (fun k => k t41 w) w fun t78 w =>
 gopK t76 true (fun k => binI Go.BinOp.eql t78 (Go.Value.int Go.IntKind.i64 3) fun v => k v w) w fun t79 w =>
 pickK t76 t79 (Go.Value.bool false) fun t80 =>
 gopK t80 true (fun k => k t42 w) w fun t82 w =>
 gopK t80 true (fun k => binI Go.BinOp.eql t82 (Go.Value.int Go.IntKind.i64 0) fun v => k v w) w fun t83 w =>
 pickK t80 t83 (Go.Value.bool false) fun t84 =>
 gopK t84 true (fun k => k t47 w) w fun t86 w =>
 gopK t84 true (fun k => binI Go.BinOp.eql t86 (Go.Value.int Go.IntKind.i64 7) fun v => k v w) w fun t87 w =>
 pickK t84 t87 (Go.Value.bool false) fun t88 =>
 gopK t88 true (fun k => k t48 w) w fun t90 w =>
 gopK t88 true (fun k => binI Go.BinOp.eql t90 (Go.Value.int Go.IntKind.i64 0) fun v => k v w) w fun t91 w =>
 pickK t88 t91 (Go.Value.bool false) fun t92 =>
 gopK t92 true (fun k => k t52 w) w fun t94 w =>
 gopK t92 true (fun k => binI Go.BinOp.eql t94 (Go.Value.int Go.IntKind.i64 0) fun v => k v w) w fun t95 w =>
 pickK t92 t95 (Go.Value.bool false) fun t96 =>
 gopK t96 true (fun k => k t57 w) w fun t98 w =>
 gopK t96 true (fun k => binI Go.BinOp.eql t98 (Go.Value.int Go.IntKind.i64 10) fun v => k v w) w fun t99 w =>
 pickK t96 t99 (Go.Value.bool false) fun t100 =>
 gopK t100 true (fun k => k t58 w) w fun t102 w =>
 gopK t100 true (fun k => binI Go.BinOp.eql t102 (Go.Value.int Go.IntKind.i64 0) fun v => k v w) w fun t103 w =>
 pickK t100 t103 (Go.Value.bool false) fun t104 =>
 gopK t104 true (fun k => k t18 w) w fun t106 w =>
 gopK t104 true (fun k => callOn prog fn_purse_Check #[t106] w k) w fun t107 w =>
 gopK t104 true (fun k => binI Go.BinOp.eql t107 (Go.Value.int Go.IntKind.i64 0) fun v => k v w) w fun t108 w =>
 pickK t104 t108 (Go.Value.bool false) fun t109 =>
 R t109 w
theorem F_law10_lives_eq  (w : Go.World) (R : Go.Value → Go.World → Prop) : cK prog (bodyOf Try.f49) (resK prog Try.f49.results.toList R) (start []) w = F_law10_lives  w R := by kernel_rfl
theorem F_law10_lives_on  (w : Go.World) (k : Go.Value → Go.World → Prop) (h : F_law10_lives  w k) : callOn prog fn_law10_lives #[] w k :=
  calls_list (args := []) mixed Try.func49 (by kernel_rfl) (by kernel_rfl) (Eq.mpr (F_law10_lives_eq  w _) (Eq.mpr (congrArg (F_law10_lives  w) (on_eq k)) h))


/-- postern/posternlaw10.PurseNames -/
def F_law10_PurseNames  (w : Go.World) (R : Go.Value → Go.World → Prop) : Prop :=
 gopK (Go.Value.bool true) true (fun k => callOn prog fn_law10_lives #[] w k) w fun t2 w =>
 pickK (Go.Value.bool true) t2 (Go.Value.bool false) fun t3 =>
 R t3 w
theorem F_law10_PurseNames_eq  (w : Go.World) (R : Go.Value → Go.World → Prop) : cK prog (bodyOf Try.f12) (resK prog Try.f12.results.toList R) (start []) w = F_law10_PurseNames  w R := by kernel_rfl
theorem F_law10_PurseNames_on  (w : Go.World) (k : Go.Value → Go.World → Prop) (h : F_law10_PurseNames  w k) : callOn prog fn_law10_PurseNames #[] w k :=
  calls_list (args := []) mixed Try.func12 (by kernel_rfl) (by kernel_rfl) (Eq.mpr (F_law10_PurseNames_eq  w _) (Eq.mpr (congrArg (F_law10_PurseNames  w) (on_eq k)) h))


end Go.X
