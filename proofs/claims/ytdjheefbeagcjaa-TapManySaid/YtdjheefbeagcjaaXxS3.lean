/- The calculator's word on functions of this program, each with its proof: written by a program of this family (shallow.py). -/
import Derived.Test.YtdjheefbeagcjaaXxP
set_option linter.unusedVariables false
set_option maxRecDepth 100000
namespace Go.X
open Go Go.Proofs
/-- postern/posternlaw07.lives -/
def F_law07_lives  (w : Go.World) (R : Go.Value → Go.World → Prop) : Prop :=
 buildL 25 1 (Go.Value.int Go.IntKind.i64 0) 3 [(0, (Go.Value.int Go.IntKind.i64 0)), (1, (Go.Value.int Go.IntKind.i64 0)), (2, (Go.Value.int Go.IntKind.i64 1))] w fun t15 w =>
 callOn prog fn_world_New #[t15] w fun t16 w =>
 extractK t16 0 fun t17 =>
 extractK t16 1 fun t18 =>
 buildL 25 1 (Go.Value.int Go.IntKind.i64 0) 2 [(0, (Go.Value.int Go.IntKind.i64 0)), (1, (Go.Value.int Go.IntKind.i64 2))] w fun t20 w =>
 callOn prog fn_world_New #[t20] w fun t21 w =>
 extractK t21 0 fun t22 =>
 extractK t21 1 fun t23 =>
 binP Go.BinOp.eql t17 (Go.Value.pointer .none) fun t25 =>
 gopK t25 false (fun k => k t18 w) w fun t27 w =>
 gopK t25 false (fun k => binI Go.BinOp.neq t27 (Go.Value.int Go.IntKind.i64 0) fun v => k v w) w fun t28 w =>
 pickK t25 (Go.Value.bool true) t28 fun t29 =>
 gopK t29 false (fun k => k t23 w) w fun t31 w =>
 gopK t29 false (fun k => binI Go.BinOp.neq t31 (Go.Value.int Go.IntKind.i64 71) fun v => k v w) w fun t32 w =>
 pickK t29 (Go.Value.bool true) t32 fun t33 =>
 condK t33
 (R (Go.Value.bool false) w)
 (buildS (Go.Value.agg #[(Go.Value.int Go.IntKind.u8 0), (Go.Value.int Go.IntKind.i64 0), (Go.Value.string { data := #[] }), (Go.Value.slice .none 0 0), (Go.Value.int Go.IntKind.i64 0)]) [(0, 1), (1, 1), (2, 1), (3, 1), (4, 1)] [(0, (Go.Value.int Go.IntKind.u8 1)), (1, (Go.Value.int Go.IntKind.i64 7))] fun t36 =>
 buildS (Go.Value.agg #[(Go.Value.int Go.IntKind.u8 0), (Go.Value.int Go.IntKind.i64 0), (Go.Value.int Go.IntKind.u8 0), (Go.Value.int Go.IntKind.i64 0), (Go.Value.string { data := #[] }), (Go.Value.slice .none 0 0), (Go.Value.int Go.IntKind.i64 0), (Go.Value.slice .none 0 0), (Go.Value.int Go.IntKind.i64 0), (Go.Value.int Go.IntKind.i64 0), (Go.Value.int Go.IntKind.i64 0), (Go.Value.int Go.IntKind.i64 0), (Go.Value.int Go.IntKind.u8 0), (Go.Value.bool false), (Go.Value.slice .none 0 0), (Go.Value.slice .none 0 0)]) [(0, 1), (1, 1), (2, 5), (7, 1), (8, 1), (9, 1), (10, 1), (11, 1), (12, 1), (13, 1), (14, 1), (15, 1)] [(0, (Go.Value.int Go.IntKind.u8 1)), (1, (Go.Value.int Go.IntKind.i64 1)), (2, t36)] fun t37 =>
 callOn prog fn_World_Make #[t17, t37] w fun t38 w =>
 extractK t38 0 fun t39 =>
 extractK t38 1 fun t40 =>
 callOn prog fn_World_Facet #[t17, (Go.Value.int Go.IntKind.i64 1), (Go.Value.int Go.IntKind.u8 1)] w fun t43 w =>
 extractK t43 0 fun t44 =>
 extractK t43 1 fun t45 =>
 callOn prog fn_World_Facet #[t17, (Go.Value.int Go.IntKind.i64 1), (Go.Value.int Go.IntKind.u8 1)] w fun t48 w =>
 extractK t48 0 fun t49 =>
 extractK t48 1 fun t50 =>
 callOn prog fn_World_Facet #[t17, (Go.Value.int Go.IntKind.i64 1), (Go.Value.int Go.IntKind.u8 3)] w fun t53 w =>
 extractK t53 0 fun t54 =>
 extractK t53 1 fun t55 =>
 callOn prog fn_World_CutEdge #[t17, (Go.Value.int Go.IntKind.i64 1)] w fun t57 w =>
 binI Go.BinOp.eql t39 (Go.Value.int Go.IntKind.i64 1) fun t59 =>
 gopK t59 true (fun k => k t40 w) w fun t61 w =>
 gopK t59 true (fun k => binI Go.BinOp.eql t61 (Go.Value.int Go.IntKind.i64 0) fun v => k v w) w fun t62 w =>
 pickK t59 t62 (Go.Value.bool false) fun t63 =>
 gopK t63 true (fun k => k t44 w) w fun t65 w =>
 gopK t63 true (fun k => binI Go.BinOp.eql t65 (Go.Value.int Go.IntKind.i64 2) fun v => k v w) w fun t66 w =>
 pickK t63 t66 (Go.Value.bool false) fun t67 =>
 gopK t67 true (fun k => k t45 w) w fun t69 w =>
 gopK t67 true (fun k => binI Go.BinOp.eql t69 (Go.Value.int Go.IntKind.i64 0) fun v => k v w) w fun t70 w =>
 pickK t67 t70 (Go.Value.bool false) fun t71 =>
 gopK t71 true (fun k => k t49 w) w fun t73 w =>
 gopK t71 true (fun k => binI Go.BinOp.eql t73 (Go.Value.int Go.IntKind.i64 2) fun v => k v w) w fun t74 w =>
 pickK t71 t74 (Go.Value.bool false) fun t75 =>
 gopK t75 true (fun k => k t50 w) w fun t77 w =>
 gopK t75 true (fun k => binI Go.BinOp.eql t77 (Go.Value.int Go.IntKind.i64 0) fun v => k v w) w fun t78 w =>
 pickK t75 t78 (Go.Value.bool false) fun t79 =>
 gopK t79 true (fun k => k t55 w) w fun t81 w =>
 gopK t79 true (fun k => binI Go.BinOp.eql t81 (Go.Value.int Go.IntKind.i64 70) fun v => k v w) w fun t82 w =>
 pickK t79 t82 (Go.Value.bool false) fun t83 =>
 gopK t83 true (fun k => k t17 w) w fun t85 w =>
 gopK t83 true (fun k => callOn prog fn_World_Able #[t85, (Go.Value.int Go.IntKind.i64 2)] w k) w fun t86 w =>
 gopK t83 true (fun k => binI Go.BinOp.eql t86 (Go.Value.int Go.IntKind.u8 1) fun v => k v w) w fun t87 w =>
 pickK t83 t87 (Go.Value.bool false) fun t88 =>
 gopK t88 true (fun k => k t17 w) w fun t90 w =>
 gopK t88 true (fun k => callOn prog fn_World_Base #[t90, (Go.Value.int Go.IntKind.i64 2)] w k) w fun t91 w =>
 gopK t88 true (fun k => binI Go.BinOp.eql t91 (Go.Value.int Go.IntKind.i64 1) fun v => k v w) w fun t92 w =>
 pickK t88 t92 (Go.Value.bool false) fun t93 =>
 gopK t93 true (fun k => k t57 w) w fun t95 w =>
 gopK t93 true (fun k => binI Go.BinOp.eql t95 (Go.Value.int Go.IntKind.i64 0) fun v => k v w) w fun t96 w =>
 pickK t93 t96 (Go.Value.bool false) fun t97 =>
 gopK t97 true (fun k => k t17 w) w fun t99 w =>
 gopK t97 true (fun k => callOn prog fn_World_Free #[t99, (Go.Value.int Go.IntKind.i64 0), (Go.Value.int Go.IntKind.i64 2)] w k) w fun t100 w =>
 gopK t97 true (fun k => binI Go.BinOp.eql t100 (Go.Value.int Go.IntKind.i64 7) fun v => k v w) w fun t101 w =>
 pickK t97 t101 (Go.Value.bool false) fun t102 =>
 gopK t102 true (fun k => k t17 w) w fun t104 w =>
 gopK t102 true (fun k => callOn prog fn_World_Free #[t104, (Go.Value.int Go.IntKind.i64 3), (Go.Value.int Go.IntKind.i64 2)] w k) w fun t105 w =>
 gopK t102 true (fun k => binI Go.BinOp.eql t105 (Go.Value.int Go.IntKind.i64 0) fun v => k v w) w fun t106 w =>
 pickK t102 t106 (Go.Value.bool false) fun t107 =>
 gopK t107 true (fun k => k t17 w) w fun t109 w =>
 gopK t107 true (fun k => callOn prog fn_World_Len #[t109] w k) w fun t110 w =>
 gopK t107 true (fun k => binI Go.BinOp.eql t110 (Go.Value.int Go.IntKind.i64 2) fun v => k v w) w fun t111 w =>
 pickK t107 t111 (Go.Value.bool false) fun t112 =>
 gopK t112 true (fun k => k t17 w) w fun t114 w =>
 gopK t112 true (fun k => callOn prog fn_World_Made #[t114, (Go.Value.int Go.IntKind.i64 1)] w k) w fun t115 w =>
 gopK t112 true (fun k => binI Go.BinOp.eql t115 (Go.Value.int Go.IntKind.i64 1) fun v => k v w) w fun t116 w =>
 pickK t112 t116 (Go.Value.bool false) fun t117 =>
 R t117 w)
theorem F_law07_lives_eq  (w : Go.World) (R : Go.Value → Go.World → Prop) : cK prog (bodyOf Try.f17) (resK prog Try.f17.results.toList R) (start []) w = F_law07_lives  w R := by kernel_rfl
theorem F_law07_lives_on  (w : Go.World) (k : Go.Value → Go.World → Prop) (h : F_law07_lives  w k) : callOn prog fn_law07_lives #[] w k :=
  calls_list (args := []) mixed Try.func17 (by kernel_rfl) (by kernel_rfl) (Eq.mpr (F_law07_lives_eq  w _) (Eq.mpr (congrArg (F_law07_lives  w) (on_eq k)) h))


/-- postern/posternlaw07.WorldNames -/
def F_law07_WorldNames  (w : Go.World) (R : Go.Value → Go.World → Prop) : Prop :=
 gopK (Go.Value.bool true) true (fun k => callOn prog fn_law07_lives #[] w k) w fun t2 w =>
 pickK (Go.Value.bool true) t2 (Go.Value.bool false) fun t3 =>
 R t3 w
theorem F_law07_WorldNames_eq  (w : Go.World) (R : Go.Value → Go.World → Prop) : cK prog (bodyOf Try.f3) (resK prog Try.f3.results.toList R) (start []) w = F_law07_WorldNames  w R := by kernel_rfl
theorem F_law07_WorldNames_on  (w : Go.World) (k : Go.Value → Go.World → Prop) (h : F_law07_WorldNames  w k) : callOn prog fn_law07_WorldNames #[] w k :=
  calls_list (args := []) mixed Try.func3 (by kernel_rfl) (by kernel_rfl) (Eq.mpr (F_law07_WorldNames_eq  w _) (Eq.mpr (congrArg (F_law07_WorldNames  w) (on_eq k)) h))


/-- postern/posternlaw07.mod -/
def F_law07_mod (a0 : Go.Value) (a1 : Go.Value) (w : Go.World) (R : Go.Value → Go.World → Prop) : Prop :=
 binI Go.BinOp.rem a0 a1 fun t7 =>
 binI Go.BinOp.add t7 a1 fun t9 =>
 binI Go.BinOp.rem t9 a1 fun t11 =>
 R t11 w
theorem F_law07_mod_eq (a0 : Go.Value) (a1 : Go.Value) (w : Go.World) (R : Go.Value → Go.World → Prop) : cK prog (bodyOf Try.f20) (resK prog Try.f20.results.toList R) (start [a0, a1]) w = F_law07_mod a0 a1 w R := by kernel_rfl
theorem F_law07_mod_on (a0 : Go.Value) (a1 : Go.Value) (w : Go.World) (k : Go.Value → Go.World → Prop) (h : F_law07_mod a0 a1 w k) : callOn prog fn_law07_mod #[a0, a1] w k :=
  calls_list (args := [a0, a1]) mixed Try.func20 (by kernel_rfl) (by kernel_rfl) (Eq.mpr (F_law07_mod_eq a0 a1 w _) (Eq.mpr (congrArg (F_law07_mod a0 a1 w) (on_eq k)) h))


end Go.X
