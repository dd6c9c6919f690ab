/- The calculator's word on functions of this program, each with its proof: written by a program of this family (shallow.py). -/
import Derived.Test.YtdjheefbeagcjaaXxP
set_option linter.unusedVariables false
set_option maxRecDepth 100000
namespace Go.X
open Go Go.Proofs
/-- postern/posternlaw07.lives -/
def F_law07_lives  (w : Go.World) (R : Go.Value → Go.World → Prop) : Prop :=
 buildL 25 1 (Go.Value.int Go.IntKind.i64 0) 3 [(0, (Go.Value.int Go.IntKind.i64 0)), (1, (Go.Value.int Go.IntKind.i64 0)), (2, (Go.Value.int Go.IntKind.i64 1))] w fun t15 w =>
 callOn prog fn_world_New #[t15] w fun t16 w =>
 extractK t16 0 fun t17 =>
 extractK t16 1 fun t18 =>
 buildL 25 1 (Go.Value.int Go.IntKind.i64 0) 2 [(0, (Go.Value.int Go.IntKind.i64 0)), (1, (Go.Value.int Go.IntKind.i64 2))] w fun t20 w =>
 callOn prog fn_world_New #[t20] w fun t21 w =>
 extractK t21 0 fun t22 =>
 extractK t21 1 fun t23 =>
 binP Go.BinOp.eql t17 (Go.Value.pointer .none) fun t25 =>
 gopK t25 false (fun k => k t18 w) w fun t27 w =>
 gopK t25 false (fun k => binI Go.BinOp.neq t27 (Go.Value.int Go.IntKind.i64 0) fun v => k v w) w fun t28 w =>
 pickK t25 (Go.Value.bool true) t28 fun t29 =>
 gopK t29 false (fun k => k t23 w) w fun t31 w =>
 gopK t29 false (fun k => binI Go.BinOp.neq t31 (Go.Value.int Go.IntKind.i64 71) fun v => k v w) w fun t32 w =>
 pickK t29 (Go.Value.bool true) t32 fun t33 =>
 condK t33
 (R (Go.Value.bool false) w)
 (buildS (Go.Value.agg #[(Go.Value.int Go.IntKind.u8 0), (Go.Value.int Go.IntKind.i64 0), (Go.Value.string { data := #[] }), (Go.Value.slice .none 0 0), (Go.Value.int Go.IntKind.i64 0)]) [(0, 1), (1, 1), (2, 1), (3, 1), (4, 1)] [(0, (Go.Value.int Go.IntKind.u8 1)), (1, (Go.Value.int Go.IntKind.i64 7))] fun t36 =>
 buildS (Go.Value.agg #[(Go.Value.int Go.IntKind.u8 0), (Go.Value.int Go.IntKind.i64 0), (Go.Value.int Go.IntKind.u8 0), (Go.Value.int Go.IntKind.i64 0), (Go.Value.string { data := #[] }), (Go.Value.slice .none 0 0), (Go.Value.int Go.IntKind.i64 0), (Go.Value.slice .none 0 0), (Go.Value.int Go.IntKind.i64 0), (Go.Value.int Go.IntKind.i64 0), (Go.Value.int Go.IntKind.i64 0), (Go.Value.int Go.IntKind.i64 0), (Go.Value.int Go.IntKind.u8 0), (Go.Value.bool false), (Go.Value.slice .none 0 0), (Go.Value.slice .none 0 0)]) [(0, 1), (1, 1), (2, 5), (7, 1), (8, 1), (9, 1), (10, 1), (11, 1), (12, 1), (13, 1), (14, 1), (15, 1)] [(0, (Go.Value.int Go.IntKind.u8 1)), (1, (Go.Value.int Go.IntKind.i64 1)), (2, t36)] fun t37 =>
 callOn prog fn_World_Make #[t17, t37] w fun t38 w =>
 extractK t38 0 fun t39 =>
 extractK t38 1 fun t40 =>
 callOn prog fn_World_Facet #[t17, (Go.Value.int Go.IntKind.i64 1), (Go.Value.int Go.IntKind.u8 1)] w fun t43 w =>
 extractK t43 0 fun t44 =>
 extractK t43 1 fun t45 =>
 callOn prog fn_World_Facet #[t17, (Go.Value.int Go.IntKind.i64 1), (Go.Value.int Go.IntKind.u8 1)] w fun t48 w =>
 extractK t48 0 fun t49 =>
 extractK t48 1 fun t50 =>
 callOn prog fn_World_Facet #[t17, (Go.Value.int Go.IntKind.i64 1), (Go.Value.int Go.IntKind.u8 3)] w fun t53 w =>
 extractK t53 0 fun t54 =>
 extractK t53 1 fun t55 =>
 callOn prog fn_World_CutEdge #[t17, (Go.Value.int Go.IntKind.i64 1)] w fun t57 w =>
 binI Go.BinOp.eql t39 (Go.Value.int Go.IntKind.i64 1) fun t59 =>
 gopK t59 true (fun k => k t40 w) w fun t61 w =>
 gopK t59 true (fun k => binI Go.BinOp.eql t61 (Go.Value.int Go.IntKind.i64 0) fun v => k v w) w fun t62 w =>
 pickK t59 t62 (Go.Value.bool false) fun t63 =>
 gopK t63 true (fun k => k t44 w) w fun t65 w =>
 gopK t63 true (fun k => binI Go.BinOp.eql t65 (Go.Value.int Go.IntKind.i64 2) fun v => k v w) w fun t66 w =>
 pickK t63 t66 (Go.Value.bool false) fun t67 =>
 gopK t67 true (fun k => k t45 w) w fun t69 w =>
 gopK t67 true (fun k => binI Go.BinOp.eql t69 (Go.Value.int Go.IntKind.i64 0) fun v => k v w) w fun t70 w =>
 pickK t67 t70 (Go.Value.bool false) fun t71 =>
 gopK t71 true (fun k => k t49 w) w fun t73 w =>
 gopK t71 true (fun k => binI Go.BinOp.eql t73 (Go.Value.int Go.IntKind.i64 2) fun v => k v w) w fun t74 w =>
 pickK t71 t74 (Go.Value.bool false) fun t75 =>
 gopK t75 true (fun k => k t50 w) w fun t77 w =>
 gopK t75 true (fun k => binI Go.BinOp.eql t77 (Go.Value.int Go.IntKind.i64 0) fun v => k v w) w fun t78 w =>
 pickK t75 t78 (Go.Value.bool false) fun t79 =>
 gopK t79 true (fun k => k t55 w) w fun t81 w =>
 gopK t79 true (fun k => binI Go.BinOp.eql t81 (Go.Value.int Go.IntKind.i64 70) fun v => k v w) w fun t82 w =>
 pickK t79 t82 (Go.Value.bool false) fun t83 =>
 gopK t83 true (fun k => k t17 w) w fun t85 w =>
 gopK t83 true (fun k => callOn prog fn_World_Able #[t85, (Go.Value.int Go.IntKind.i64 2)] w k) w fun t86 w =>
 gopK t83 true (fun k => binI Go.BinOp.eql t86 (Go.Value.int Go.IntKind.u8 1) fun v => k v w) w fun t87 w =>
 pickK t83 t87 (Go.Value.bool false) fun t88 =>
 gopK t88 true (fun k => k t17 w) w fun t90 w =>
 gopK t88 true (fun k => callOn prog fn_World_Base #[t90, (Go.Value.int Go.IntKind.i64 2)] w k) w fun t91 w =>
 gopK t88 true (fun k => binI Go.BinOp.eql t91 (Go.Value.int Go.IntKind.i64 1) fun v => k v w) w fun t92 w =>
 pickK t88 t92 (Go.Value.bool false) fun t93 =>
 gopK t93 true (fun k => k t57 w) w fun t95 w =>
 gopK t93 true (fun k => binI Go.BinOp.eql t95 (Go.Value.int Go.IntKind.i64 0) fun v => k v w) w fun t96 w =>
 pickK t93 t96 (Go.Value.bool false) fun t97 =>
 gopK t97 true (fun k => k t17 w) w fun t99 w =>
 gopK t97 true (fun k => callOn prog fn_World_Free #[t99, (Go.Value.int Go.IntKind.i64 0), (Go.Value.int Go.IntKind.i64 2)] w k) w fun t100 w =>
 gopK t97 true (fun k => binI Go.BinOp.eql t100 (Go.Value.int Go.IntKind.i64 7) fun v => k v w) w fun t101 w =>
 pickK t97 t101 (Go.Value.bool false) fun t102 =>
 gopK t102 true (fun k => k t17 w) w fun t104 w =>
 gopK t102 true (fun k => callOn prog fn_World_Free #[t104, (Go.Value.int Go.IntKind.i64 3), (Go.Value.int Go.IntKind.i64 2)] w k) w fun t105 w =>
 gopK t102 true (fun k => binI Go.BinOp.eql t105 (Go.Value.int Go.IntKind.i64 0) fun v => k v w) w fun t106 w =>
 pickK t102 t106 (Go.Value.bool false) fun t107 =>
 gopK t107 true (fun k => k t17 w) w fun t109 w =>
 gopK t107 true (fun k => callOn prog fn_World_Len #[t109] w k) w fun t110 w =>
 gopK t107 true (fun k => binI Go.BinOp.eql t110 (Go.Value.int Go.IntKind.i64 2) fun v => k v w) w fun t111 w =>
 pickK t107 t111 (Go.Value.bool false) fun t112 =>
 gopK t112 true (fun k => k t17 w) w fun t114 w =>
 gopK t112 true (fun k => callOn prog fn_World_Made #[t114, (Go.Value.int Go.IntKind.i64 1)] w k) w fun t115 w =>
 gopK t112 true (fun k => binI Go.BinOp.eql t115 (Go.Value.int Go.IntKind.i64 1) fun v => k v w) w fun t116 w =>
 pickK t112 t116 (Go.Value.bool false) fun t117 =>
 R t117 w)
theorem F_law07_lives_eq  (w : Go.World) (R : Go.Value → Go.World → Prop) : cK prog (bodyOf Try.f17) (resK prog Try.f17.results.toList R) (start []) w = F_law07_lives  w R := by kernel_rfl
theorem F_law07_lives_on  (w : Go.World) (k : Go.Value → Go.World → Prop) (h : F_law07_lives  w k) : callOn prog fn_law07_lives #[] w k :=
  calls_list (args := []) mixed Try.func17 (by kernel_rfl) (by kernel_rfl) (Eq.mpr (F_law07_lives_eq  w _) (Eq.mpr (congrArg (F_law07_lives  w) (on_eq k)) h))


/-- postern/posternlaw07.WorldNames -/
def F_law07_WorldNames  (w : Go.World) (R : Go.Value → Go.World → Prop) : Prop :=
 gopK (Go.Value.bool true) true (fun k => callOn prog fn_law07_lives #[] w k) w fun t2 w =>
 pickK (Go.Value.bool true) t2 (Go.Value.bool false) fun t3 =>
 R t3 w
theorem F_law07_WorldNames_eq  (w : Go.World) (R : Go.Value → Go.World → Prop) : cK prog (bodyOf Try.f3) (resK prog Try.f3.results.toList R) (start []) w = F_law07_WorldNames  w R := by kernel_rfl
theorem F_law07_WorldNames_on  (w : Go.World) (k : Go.Value → Go.World → Prop) (h : F_law07_WorldNames  w k) : callOn prog fn_law07_WorldNames #[] w k :=
  calls_list (args := []) mixed Try.func3 (by kernel_rfl) (by kernel_rfl) (Eq.mpr (F_law07_WorldNames_eq  w _) (Eq.mpr (congrArg (F_law07_WorldNames  w) (on_eq k)) h))


/-- postern/posternlaw07.mod -/
def F_law07_mod (a0 : Go.Value) (a1 : Go.Value) (w : Go.World) (R : Go.Value → Go.World → Prop) : Prop :=
 binI Go.BinOp.rem a0 a1 fun t7 =>
 binI Go.BinOp.add t7 a1 fun t9 =>
 binI Go.BinOp.rem t9 a1 fun t11 =>
 R t11 w
theorem F_law07_mod_eq (a0 : Go.Value) (a1 : Go.Value) (w : Go.World) (R : Go.Value → Go.World → Prop) : cK prog (bodyOf Try.f20) (resK prog Try.f20.results.toList R) (start [a0, a1]) w = F_law07_mod a0 a1 w R := by kernel_rfl
theorem F_law07_mod_on (a0 : Go.Value) (a1 : Go.Value) (w : Go.World) (k : Go.Value → Go.World → Prop) (h : F_law07_mod a0 a1 w k) : callOn prog fn_law07_mod #[a0, a1] w k :=
  calls_list (args := [a0, a1]) mixed Try.func20 (by kernel_rfl) (by kernel_rfl) (Eq.mpr (F_law07_mod_eq a0 a1 w _) (Eq.mpr (congrArg (F_law07_mod a0 a1 w) (on_eq k)) h))


noncomputable def law07_WorldSides_R7 : Array Oper := regionOf (bodyOf Try.f4) 7
def Q_law07_WorldSides_R7 (C : Go.World → Prop) (e : Env) (Q : Env → Prop) : Prop :=
 qopK true C (fun w q => indexA 3 1 (e 5) (Go.Value.int Go.IntKind.i64 0) fun v => q v w) fun t57 =>
 qopK true C (fun w q => load1 t57 w fun v => q v w) fun t58 =>
 qopK true C (fun w q => q (e 9) w) fun t59 =>
 qopK true C (fun w q => callOn prog fn_law07_mod #[t58, t59] w q) fun t60 =>
 qopK true C (fun w q => indexA 3 1 (e 5) (Go.Value.int Go.IntKind.i64 1) fun v => q v w) fun t61 =>
 qopK true C (fun w q => load1 t61 w fun v => q v w) fun t62 =>
 qopK true C (fun w q => q (e 9) w) fun t63 =>
 qopK true C (fun w q => callOn prog fn_law07_mod #[t62, t63] w q) fun t64 =>
 qopK true C (fun w q => indexA 3 1 (e 5) (Go.Value.int Go.IntKind.i64 2) fun v => q v w) fun t65 =>
 qopK true C (fun w q => load1 t65 w fun v => q v w) fun t66 =>
 qopK true C (fun w q => q (e 9) w) fun t67 =>
 qopK true C (fun w q => callOn prog fn_law07_mod #[t66, t67] w q) fun t68 =>
 qopK true C (fun w q => q t60 w) fun t10 =>
 qopK true C (fun w q => q t64 w) fun t11 =>
 qopK true C (fun w q => q t68 w) fun t12 =>
 Q (upd (upd (upd (upd (upd (upd (upd (upd (upd (upd (upd (upd (upd (upd (upd e 57 t57) 58 t58) 59 t59) 60 t60) 61 t61) 62 t62) 63 t63) 64 t64) 65 t65) 66 t66) 67 t67) 68 t68) 10 t10) 11 t11) 12 t12)
theorem Q_law07_WorldSides_R7_eq (C : Go.World → Prop) (e : Env) (Q : Env → Prop) : quietK prog law07_WorldSides_R7.toList C law07_WorldSides_R7.toList e Q = Q_law07_WorldSides_R7 C e Q := by kernel_rfl
theorem Q_law07_WorldSides_R7_on {C : Go.World → Prop} {Q : Env → Prop} {e : Env} {w : Go.World} {k : Env → Go.World → Prop} (hC : C w) (h : Q_law07_WorldSides_R7 C e Q) (hk : ∀ e w, C w → Q e → k e w) : drawK prog law07_WorldSides_R7 e w k :=
  .inl ⟨C, Q, hC, by kernel_rfl, Eq.mpr (Q_law07_WorldSides_R7_eq C e Q) h, hk⟩
/-- postern/posternlaw07.WorldSides -/
def F_law07_WorldSides (a0 : Go.Value) (a1 : Go.Value) (a2 : Go.Value) (w : Go.World) (R : Go.Value → Go.World → Prop) : Prop :=
 boxK 26 a2 w fun t5 w =>
 callOn prog fn_world_New #[a0] w fun t32 w =>
 extractK t32 0 fun t33 =>
 extractK t32 1 fun t34 =>
 binI Go.BinOp.neq t34 (Go.Value.int Go.IntKind.i64 0) fun t36 =>
 gopK t36 false (fun k => k t33 w) w fun t38 w =>
 gopK t36 false (fun k => binP Go.BinOp.eql t38 (Go.Value.pointer .none) fun v => k v w) w fun t39 w =>
 pickK t36 (Go.Value.bool true) t39 fun t40 =>
 condK t40
 (binP Go.BinOp.eql t33 (Go.Value.pointer .none) fun t42 =>
 gopK t42 true (fun k => k t34 w) w fun t44 w =>
 gopK t42 true (fun k => binI Go.BinOp.eql t44 (Go.Value.int Go.IntKind.i64 71) fun v => k v w) w fun t45 w =>
 pickK t42 t45 (Go.Value.bool false) fun t46 =>
 gopK t46 true (fun k => callOn prog fn_law07_lives #[] w k) w fun t48 w =>
 pickK t46 t48 (Go.Value.bool false) fun t49 =>
 R t49 w)
 (callOn prog fn_World_Sides #[t33] w fun t51 w =>
 lenL a0 fun t54 =>
 binI Go.BinOp.add t54 (Go.Value.int Go.IntKind.i64 1) fun t55 =>
 binI Go.BinOp.neq t51 t55 fun t56 =>
 condK t56
 (R (Go.Value.bool false) w)
 (drawK prog law07_WorldSides_R7 (upd (upd (upd (upd (upd (upd (upd (upd (upd (upd (upd (upd (upd (upd (upd (upd (upd (upd (upd (upd (upd (upd (upd (start [a0, a1, a2]) 5 t5) 6 (Go.Value.bool false)) 31 a0) 32 t32) 30 t32) 33 t33) 34 t34) 7 t33) 8 t34) 35 t34) 36 t36) 37 t36) 38 t38) 39 t39) 40 t40) 50 t33) 51 t51) 9 t51) 52 t51) 53 a0) 54 t54) 55 t55) 56 t56) w.drew fun e1 w =>
 loopK (fun k2 e2 w =>
 lenL (e2 1) fun t71 =>
 binI Go.BinOp.lss (e2 14) t71 fun t72 =>
 gopK t72 true (fun k => k (e2 14) w) w fun t74 w =>
 gopK t72 true (fun k => binI Go.BinOp.lss t74 (Go.Value.int Go.IntKind.i64 40) fun v => k v w) w fun t75 w =>
 pickK t72 t75 (Go.Value.bool false) fun t76 =>
 condK t76
 (callOn prog fn_World_Open #[(e2 7), (e2 10), (e2 11)] w fun t82 w =>
 callOn prog fn_World_Open #[(e2 7), (e2 11), (e2 12)] w fun t86 w =>
 callOn prog fn_World_Open #[(e2 7), (e2 10), (e2 12)] w fun t90 w =>
 buildA (Go.Value.agg #[(Go.Value.bool false), (Go.Value.bool false), (Go.Value.bool false)]) 1 [(0, t82), (1, t86), (2, t90)] fun t91 =>
 allocZ (Go.Value.agg #[(Go.Value.bool false), (Go.Value.bool false), (Go.Value.bool false)]) 34 w fun t15 w =>
 storeN 3 t15 t91 w fun w =>
 indexS 1 (e2 1) (e2 14) fun t95 =>
 load1 t95 w fun t96 =>
 callOn prog fn_World_IsCut #[(e2 7), t96] w fun t97 w =>
 indexS 1 (e2 1) (e2 14) fun t101 =>
 load1 t101 w fun t102 =>
 callOn prog fn_World_CutEdge #[(e2 7), t102] w fun t103 w =>
 binI Go.BinOp.eql t103 (Go.Value.int Go.IntKind.i64 0) fun t105 =>
 indexS 1 (e2 1) (e2 14) fun t108 =>
 load1 t108 w fun t109 =>
 binI Go.BinOp.geq t109 (Go.Value.int Go.IntKind.i64 1) fun t110 =>
 gopK t110 true (fun k => k (e2 1) w) w fun t112 w =>
 gopK t110 true (fun k => k (e2 14) w) w fun t113 w =>
 gopK t110 true (fun k => indexS 1 t112 t113 fun v => k v w) w fun t114 w =>
 gopK t110 true (fun k => load1 t114 w fun v => k v w) w fun t115 w =>
 gopK t110 true (fun k => k (e2 9) w) w fun t116 w =>
 gopK t110 true (fun k => binI Go.BinOp.lss t115 t116 fun v => k v w) w fun t117 w =>
 pickK t110 t117 (Go.Value.bool false) fun t118 =>
 binB Go.BinOp.neq t105 t118 fun t119 =>
 gopK t119 false (fun k => k t103 w) w fun t121 w =>
 gopK t119 false (fun k => binI Go.BinOp.neq t121 (Go.Value.int Go.IntKind.i64 0) fun v => k v w) w fun t122 w =>
 gopK t119 false (fun k => k t122 w) w fun t123 w =>
 gopK t123 true (fun k => k t103 w) w fun t124 w =>
 gopK t123 true (fun k => binI Go.BinOp.neq t124 (Go.Value.int Go.IntKind.i64 2) fun v => k v w) w fun t125 w =>
 gopK t119 false (fun k => pickK t123 t125 (Go.Value.bool false) fun v => k v w) w fun t126 w =>
 pickK t119 (Go.Value.bool true) t126 fun t127 =>
 gopK t127 false (fun k => k (e2 7) w) w fun t129 w =>
 gopK t127 false (fun k => k (e2 1) w) w fun t130 w =>
 gopK t127 false (fun k => k (e2 14) w) w fun t131 w =>
 gopK t127 false (fun k => indexS 1 t130 t131 fun v => k v w) w fun t132 w =>
 gopK t127 false (fun k => load1 t132 w fun v => k v w) w fun t133 w =>
 gopK t127 false (fun k => callOn prog fn_World_IsCut #[t129, t133] w k) w fun t134 w =>
 gopK t127 false (fun k => k t103 w) w fun t135 w =>
 gopK t127 false (fun k => binI Go.BinOp.eql t135 (Go.Value.int Go.IntKind.i64 0) fun v => k v w) w fun t136 w =>
 gopK t127 false (fun k => binB Go.BinOp.neq t134 t136 fun v => k v w) w fun t137 w =>
 pickK t127 (Go.Value.bool true) t137 fun t138 =>
 condK t138
 (R (Go.Value.bool false) w)
 (let J3 : Env → Go.World → Prop := fun e3 w =>
 (callOn prog fn_World_Open #[(e3 7), (e3 10), (e3 11)] w fun t150 w =>
 callOn prog fn_World_Open #[(e3 7), (e3 11), (e3 12)] w fun t154 w =>
 callOn prog fn_World_Open #[(e3 7), (e3 10), (e3 12)] w fun t158 w =>
 buildA (Go.Value.agg #[(Go.Value.bool false), (Go.Value.bool false), (Go.Value.bool false)]) 1 [(0, t150), (1, t154), (2, t158)] fun t159 =>
 allocZ (Go.Value.agg #[(Go.Value.bool false), (Go.Value.bool false), (Go.Value.bool false)]) 34 w fun t18 w =>
 storeN 3 t18 t159 w fun w =>
 loopK (fun k4 e4 w =>
 binI Go.BinOp.lss (e4 19) (Go.Value.int Go.IntKind.i64 3) fun t161 =>
 condK t161
 (indexA 3 1 (e4 18) (e4 19) fun t165 =>
 load1 t165 w fun t166 =>
 gopK t166 true (fun k => k (e4 19) w) w fun t168 w =>
 gopK t166 true (fun k => indexA 3 1 (e4 15) t168 fun v => k v w) w fun t169 w =>
 gopK t166 true (fun k => load1 t169 w fun v => k v w) w fun t170 w =>
 gopK t166 true (fun k => unK Go.UnOp.not t170 fun v => k v w) w fun t171 w =>
 pickK t166 t171 (Go.Value.bool false) fun t172 =>
 condK t172
 (R (Go.Value.bool false) w)
 (binI Go.BinOp.add (e4 19) (Go.Value.int Go.IntKind.i64 1) fun t163 =>
 k4 (upd (upd (upd (upd (upd (upd (upd (upd (upd (upd (upd (upd (upd (upd e4 160 (e4 19)) 161 t161) 164 (e4 19)) 165 t165) 166 t166) 167 t166) 168 t168) 169 t169) 170 t170) 171 t171) 172 t172) 162 (e4 19)) 163 t163) 19 t163) w))
 (binI Go.BinOp.add (e4 14) (Go.Value.int Go.IntKind.i64 1) fun t78 =>
 k2 (upd (upd (upd (upd (upd e4 160 (e4 19)) 161 t161) 77 (e4 14)) 78 t78) 14 t78) w)) (upd (upd (upd (upd (upd (upd (upd (upd (upd (upd (upd (upd (upd (upd (upd e3 147 (e3 7)) 148 (e3 10)) 149 (e3 11)) 150 t150) 151 (e3 7)) 152 (e3 11)) 153 (e3 12)) 154 t154) 155 (e3 7)) 156 (e3 10)) 157 (e3 12)) 158 t158) 159 t159) 18 t18) 19 (Go.Value.int Go.IntKind.i64 0)) w)
 binI Go.BinOp.eql t103 (Go.Value.int Go.IntKind.i64 0) fun t140 =>
 gopK t140 true (fun k => k t97 w) w fun t142 w =>
 gopK t140 true (fun k => unK Go.UnOp.not t142 fun v => k v w) w fun t143 w =>
 pickK t140 t143 (Go.Value.bool false) fun t144 =>
 condK t144
 (binI Go.BinOp.add (e2 13) (Go.Value.int Go.IntKind.i64 1) fun t146 =>
 J3 (upd (upd (upd (upd (upd (upd (upd (upd (upd (upd (upd (upd (upd (upd (upd (upd (upd (upd (upd (upd (upd (upd (upd (upd (upd (upd (upd (upd (upd (upd (upd (upd (upd (upd (upd (upd (upd (upd (upd (upd (upd (upd (upd (upd (upd (upd (upd (upd (upd (upd (upd (upd (upd (upd (upd (upd (upd (upd (upd (upd (upd (upd (upd (upd (upd (upd (upd (upd (upd (upd (upd (upd (upd (upd (upd (upd (upd (upd (upd (upd e2 69 (e2 14)) 70 (e2 1)) 71 t71) 72 t72) 73 t72) 74 t74) 75 t75) 76 t76) 79 (e2 7)) 80 (e2 10)) 81 (e2 11)) 82 t82) 83 (e2 7)) 84 (e2 11)) 85 (e2 12)) 86 t86) 87 (e2 7)) 88 (e2 10)) 89 (e2 12)) 90 t90) 91 t91) 15 t15) 92 (e2 7)) 93 (e2 1)) 94 (e2 14)) 95 t95) 96 t96) 97 t97) 16 t97) 98 (e2 7)) 99 (e2 1)) 100 (e2 14)) 101 t101) 102 t102) 103 t103) 17 t103) 104 t103) 105 t105) 106 (e2 1)) 107 (e2 14)) 108 t108) 109 t109) 110 t110) 111 t110) 112 t112) 113 t113) 114 t114) 115 t115) 116 t116) 117 t117) 118 t118) 119 t119) 120 t119) 121 t121) 122 t122) 123 t123) 124 t124) 125 t125) 126 t126) 127 t127) 128 t127) 129 t129) 130 t130) 131 t131) 132 t132) 133 t133) 134 t134) 135 t135) 136 t136) 137 t137) 138 t138) 139 t103) 140 t140) 141 t140) 142 t142) 143 t143) 144 t144) 145 (e2 13)) 146 t146) 13 t146) w)
 (J3 (upd (upd (upd (upd (upd (upd (upd (upd (upd (upd (upd (upd (upd (upd (upd (upd (upd (upd (upd (upd (upd (upd (upd (upd (upd (upd (upd (upd (upd (upd (upd (upd (upd (upd (upd (upd (upd (upd (upd (upd (upd (upd (upd (upd (upd (upd (upd (upd (upd (upd (upd (upd (upd (upd (upd (upd (upd (upd (upd (upd (upd (upd (upd (upd (upd (upd (upd (upd (upd (upd (upd (upd (upd (upd (upd (upd (upd e2 69 (e2 14)) 70 (e2 1)) 71 t71) 72 t72) 73 t72) 74 t74) 75 t75) 76 t76) 79 (e2 7)) 80 (e2 10)) 81 (e2 11)) 82 t82) 83 (e2 7)) 84 (e2 11)) 85 (e2 12)) 86 t86) 87 (e2 7)) 88 (e2 10)) 89 (e2 12)) 90 t90) 91 t91) 15 t15) 92 (e2 7)) 93 (e2 1)) 94 (e2 14)) 95 t95) 96 t96) 97 t97) 16 t97) 98 (e2 7)) 99 (e2 1)) 100 (e2 14)) 101 t101) 102 t102) 103 t103) 17 t103) 104 t103) 105 t105) 106 (e2 1)) 107 (e2 14)) 108 t108) 109 t109) 110 t110) 111 t110) 112 t112) 113 t113) 114 t114) 115 t115) 116 t116) 117 t117) 118 t118) 119 t119) 120 t119) 121 t121) 122 t122) 123 t123) 124 t124) 125 t125) 126 t126) 127 t127) 128 t127) 129 t129) 130 t130) 131 t131) 132 t132) 133 t133) 134 t134) 135 t135) 136 t136) 137 t137) 138 t138) 139 t103) 140 t140) 141 t140) 142 t142) 143 t143) 144 t144) w)))
 (callOn prog fn_World_Open #[(e2 7), (e2 10), (e2 11)] w fun t176 w =>
 callOn prog fn_World_Open #[(e2 7), (e2 11), (e2 12)] w fun t180 w =>
 callOn prog fn_World_Open #[(e2 7), (e2 10), (e2 12)] w fun t184 w =>
 callOn prog fn_World_Open #[(e2 7), (e2 10), (e2 10)] w fun t188 w =>
 unK Go.UnOp.not t188 fun t189 =>
 gopK t189 false (fun k => k t176 w) w fun t191 w =>
 gopK t189 false (fun k => k (e2 7) w) w fun t192 w =>
 gopK t189 false (fun k => k (e2 11) w) w fun t193 w =>
 gopK t189 false (fun k => k (e2 10) w) w fun t194 w =>
 gopK t189 false (fun k => callOn prog fn_World_Open #[t192, t193, t194] w k) w fun t195 w =>
 gopK t189 false (fun k => binB Go.BinOp.neq t191 t195 fun v => k v w) w fun t196 w =>
 pickK t189 (Go.Value.bool true) t196 fun t197 =>
 gopK t197 false (fun k => k t176 w) w fun t199 w =>
 gopK t197 false (fun k => k t199 w) w fun t200 w =>
 gopK t200 true (fun k => k t180 w) w fun t201 w =>
 gopK t197 false (fun k => pickK t200 t201 (Go.Value.bool false) fun v => k v w) w fun t202 w =>
 gopK t197 false (fun k => k t202 w) w fun t203 w =>
 gopK t203 true (fun k => k t184 w) w fun t204 w =>
 gopK t203 true (fun k => unK Go.UnOp.not t204 fun v => k v w) w fun t205 w =>
 gopK t197 false (fun k => pickK t203 t205 (Go.Value.bool false) fun v => k v w) w fun t206 w =>
 pickK t197 (Go.Value.bool true) t206 fun t207 =>
 gopK t207 false (fun k => k t176 w) w fun t209 w =>
 gopK t207 false (fun k => k t209 w) w fun t210 w =>
 gopK t210 true (fun k => k t184 w) w fun t211 w =>
 gopK t207 false (fun k => pickK t210 t211 (Go.Value.bool false) fun v => k v w) w fun t212 w =>
 gopK t207 false (fun k => k t212 w) w fun t213 w =>
 gopK t213 true (fun k => k t180 w) w fun t214 w =>
 gopK t213 true (fun k => unK Go.UnOp.not t214 fun v => k v w) w fun t215 w =>
 gopK t207 false (fun k => pickK t213 t215 (Go.Value.bool false) fun v => k v w) w fun t216 w =>
 pickK t207 (Go.Value.bool true) t216 fun t217 =>
 gopK t217 false (fun k => k (e2 7) w) w fun t219 w =>
 gopK t217 false (fun k => k (e2 10) w) w fun t220 w =>
 gopK t217 false (fun k => callOn prog fn_World_Open #[t219, t220, (Go.Value.int Go.IntKind.i64 (-1))] w k) w fun t221 w =>
 pickK t217 (Go.Value.bool true) t221 fun t222 =>
 gopK t222 false (fun k => k (e2 7) w) w fun t224 w =>
 gopK t222 false (fun k => k (e2 9) w) w fun t225 w =>
 gopK t222 false (fun k => k (e2 10) w) w fun t226 w =>
 gopK t222 false (fun k => callOn prog fn_World_Open #[t224, t225, t226] w k) w fun t227 w =>
 pickK t222 (Go.Value.bool true) t227 fun t228 =>
 condK t228
 (R (Go.Value.bool false) w)
 (loopK (fun k5 e5 w =>
 binI Go.BinOp.lss (e5 23) (e5 9) fun t231 =>
 condK t231
 (callOn prog fn_World_Parent #[(e5 7), (e5 23)] w fun t237 w =>
 extractK t237 0 fun t238 =>
 extractK t237 1 fun t239 =>
 binI Go.BinOp.neq t239 (Go.Value.int Go.IntKind.i64 0) fun t241 =>
 gopK t241 false (fun k => k (e5 7) w) w fun t243 w =>
 gopK t241 false (fun k => k (e5 23) w) w fun t244 w =>
 gopK t241 false (fun k => k t238 w) w fun t245 w =>
 gopK t241 false (fun k => callOn prog fn_World_Open #[t243, t244, t245] w k) w fun t246 w =>
 gopK t241 false (fun k => k (e5 7) w) w fun t247 w =>
 gopK t241 false (fun k => k (e5 23) w) w fun t248 w =>
 gopK t241 false (fun k => callOn prog fn_World_IsCut #[t247, t248] w k) w fun t249 w =>
 gopK t241 false (fun k => binB Go.BinOp.eql t246 t249 fun v => k v w) w fun t250 w =>
 pickK t241 (Go.Value.bool true) t250 fun t251 =>
 condK t251
 (R (Go.Value.bool false) w)
 (binI Go.BinOp.add (e5 23) (Go.Value.int Go.IntKind.i64 1) fun t233 =>
 k5 (upd (upd (upd (upd (upd (upd (upd (upd (upd (upd (upd (upd (upd (upd (upd (upd (upd (upd (upd (upd (upd (upd (upd (upd (upd (upd e5 229 (e5 23)) 230 (e5 9)) 231 t231) 235 (e5 7)) 236 (e5 23)) 237 t237) 234 t237) 238 t238) 239 t239) 24 t238) 25 t239) 240 t239) 241 t241) 242 t241) 243 t243) 244 t244) 245 t245) 246 t246) 247 t247) 248 t248) 249 t249) 250 t250) 251 t251) 232 (e5 23)) 233 t233) 23 t233) w))
 (loopK (fun k6 e6 w =>
 binI Go.BinOp.lss (e6 27) (e6 9) fun t254 =>
 condK t254
 (let J7 : Env → Go.World → Prop := fun e7 w =>
 (binI Go.BinOp.add (e7 27) (Go.Value.int Go.IntKind.i64 1) fun t256 =>
 k6 (upd (upd (upd e7 255 (e7 27)) 256 t256) 27 t256) w)
 let J8 : Env → Go.World → Prop := fun e8 w =>
 (J7 e8 w)
 loopK (fun k9 e9 w =>
 binI Go.BinOp.lss (e9 29) (e9 27) fun t259 =>
 condK t259
 (gopK (e9 28) true (fun k => k (e9 7) w) w fun t264 w =>
 gopK (e9 28) true (fun k => k (e9 29) w) w fun t265 w =>
 gopK (e9 28) true (fun k => k (e9 27) w) w fun t266 w =>
 gopK (e9 28) true (fun k => callOn prog fn_World_Open #[t264, t265, t266] w k) w fun t267 w =>
 gopK (e9 28) true (fun k => unK Go.UnOp.not t267 fun v => k v w) w fun t268 w =>
 pickK (e9 28) t268 (Go.Value.bool false) fun t269 =>
 binI Go.BinOp.add (e9 29) (Go.Value.int Go.IntKind.i64 1) fun t261 =>
 k9 (upd (upd (upd (upd (upd (upd (upd (upd (upd (upd (upd (upd (upd (upd (upd e9 257 (e9 29)) 258 (e9 27)) 259 t259) 262 (e9 28)) 263 (e9 28)) 264 t264) 265 t265) 266 t266) 267 t267) 268 t268) 269 t269) 28 t269) 260 (e9 29)) 261 t261) 29 t261) w)
 (condK (e9 28)
 (binI Go.BinOp.add (e9 26) (Go.Value.int Go.IntKind.i64 1) fun t272 =>
 J8 (upd (upd (upd (upd (upd (upd (upd e9 257 (e9 29)) 258 (e9 27)) 259 t259) 270 (e9 28)) 271 (e9 26)) 272 t272) 26 t272) w)
 (J8 (upd (upd (upd (upd e9 257 (e9 29)) 258 (e9 27)) 259 t259) 270 (e9 28)) w))) (upd (upd (upd (upd (upd e6 252 (e6 27)) 253 (e6 9)) 254 t254) 28 (Go.Value.bool true)) 29 (Go.Value.int Go.IntKind.i64 0)) w)
 (binI Go.BinOp.eql (e6 26) (e6 13) fun t275 =>
 gopK t275 true (fun k => callOn prog fn_law07_lives #[] w k) w fun t277 w =>
 pickK t275 t277 (Go.Value.bool false) fun t278 =>
 R t278 w)) (upd (upd (upd (upd (upd e5 229 (e5 23)) 230 (e5 9)) 231 t231) 26 (Go.Value.int Go.IntKind.i64 0)) 27 (Go.Value.int Go.IntKind.i64 0)) w)) (upd (upd (upd (upd (upd (upd (upd (upd (upd (upd (upd (upd (upd (upd (upd (upd (upd (upd (upd (upd (upd (upd (upd (upd (upd (upd (upd (upd (upd (upd (upd (upd (upd (upd (upd (upd (upd (upd (upd (upd (upd (upd (upd (upd (upd (upd (upd (upd (upd (upd (upd (upd (upd (upd (upd (upd (upd (upd (upd (upd (upd (upd (upd (upd (upd (upd (upd (upd e2 69 (e2 14)) 70 (e2 1)) 71 t71) 72 t72) 73 t72) 74 t74) 75 t75) 76 t76) 173 (e2 7)) 174 (e2 10)) 175 (e2 11)) 176 t176) 177 (e2 7)) 178 (e2 11)) 179 (e2 12)) 180 t180) 181 (e2 7)) 182 (e2 10)) 183 (e2 12)) 184 t184) 20 t176) 21 t180) 22 t184) 185 (e2 7)) 186 (e2 10)) 187 (e2 10)) 188 t188) 189 t189) 190 t189) 191 t191) 192 t192) 193 t193) 194 t194) 195 t195) 196 t196) 197 t197) 198 t197) 199 t199) 200 t200) 201 t201) 202 t202) 203 t203) 204 t204) 205 t205) 206 t206) 207 t207) 208 t207) 209 t209) 210 t210) 211 t211) 212 t212) 213 t213) 214 t214) 215 t215) 216 t216) 217 t217) 218 t217) 219 t219) 220 t220) 221 t221) 222 t222) 223 t222) 224 t224) 225 t225) 226 t226) 227 t227) 228 t228) 23 (Go.Value.int Go.IntKind.i64 1)) w))) (upd (upd e1 13 (Go.Value.int Go.IntKind.i64 1)) 14 (Go.Value.int Go.IntKind.i64 0)) w))
theorem F_law07_WorldSides_eq (a0 : Go.Value) (a1 : Go.Value) (a2 : Go.Value) (w : Go.World) (R : Go.Value → Go.World → Prop) : cK prog (bodyOf Try.f4) (resK prog Try.f4.results.toList R) (start [a0, a1, a2]) w = F_law07_WorldSides a0 a1 a2 w R := by kernel_rfl
theorem F_law07_WorldSides_on (a0 : Go.Value) (a1 : Go.Value) (a2 : Go.Value) (w : Go.World) (k : Go.Value → Go.World → Prop) (h : F_law07_WorldSides a0 a1 a2 w k) : callOn prog fn_law07_WorldSides #[a0, a1, a2] w k :=
  calls_list (args := [a0, a1, a2]) mixed Try.func4 (by kernel_rfl) (by kernel_rfl) (Eq.mpr (F_law07_WorldSides_eq a0 a1 a2 w _) (Eq.mpr (congrArg (F_law07_WorldSides a0 a1 a2 w) (on_eq k)) h))


/-- postern/posternlaw07.WorldMany -/
def F_law07_WorldMany  (w : Go.World) (R : Go.Value → Go.World → Prop) : Prop :=
 makeS 25 1 8 (Go.Value.int Go.IntKind.i64 0) (Go.Value.int Go.IntKind.i64 15) (Go.Value.int Go.IntKind.i64 15) w fun t22 w =>
 callOn prog fn_world_New #[t22] w fun t23 w =>
 extractK t23 0 fun t24 =>
 extractK t23 1 fun t25 =>
 makeS 25 1 8 (Go.Value.int Go.IntKind.i64 0) (Go.Value.int Go.IntKind.i64 16) (Go.Value.int Go.IntKind.i64 16) w fun t27 w =>
 callOn prog fn_world_New #[t27] w fun t28 w =>
 extractK t28 0 fun t29 =>
 extractK t28 1 fun t30 =>
 buildL 25 1 (Go.Value.int Go.IntKind.i64 0) 1 [(0, (Go.Value.int Go.IntKind.i64 0))] w fun t32 w =>
 callOn prog fn_world_New #[t32] w fun t33 w =>
 extractK t33 0 fun t34 =>
 extractK t33 1 fun t35 =>
 binP Go.BinOp.eql t24 (Go.Value.pointer .none) fun t37 =>
 gopK t37 false (fun k => k t25 w) w fun t39 w =>
 gopK t37 false (fun k => binI Go.BinOp.neq t39 (Go.Value.int Go.IntKind.i64 0) fun v => k v w) w fun t40 w =>
 pickK t37 (Go.Value.bool true) t40 fun t41 =>
 gopK t41 false (fun k => k t29 w) w fun t43 w =>
 gopK t41 false (fun k => binP Go.BinOp.neq t43 (Go.Value.pointer .none) fun v => k v w) w fun t44 w =>
 pickK t41 (Go.Value.bool true) t44 fun t45 =>
 gopK t45 false (fun k => k t30 w) w fun t47 w =>
 gopK t45 false (fun k => binI Go.BinOp.neq t47 (Go.Value.int Go.IntKind.i64 71) fun v => k v w) w fun t48 w =>
 pickK t45 (Go.Value.bool true) t48 fun t49 =>
 gopK t49 false (fun k => k t34 w) w fun t51 w =>
 gopK t49 false (fun k => binP Go.BinOp.eql t51 (Go.Value.pointer .none) fun v => k v w) w fun t52 w =>
 pickK t49 (Go.Value.bool true) t52 fun t53 =>
 gopK t53 false (fun k => k t35 w) w fun t55 w =>
 gopK t53 false (fun k => binI Go.BinOp.neq t55 (Go.Value.int Go.IntKind.i64 0) fun v => k v w) w fun t56 w =>
 pickK t53 (Go.Value.bool true) t56 fun t57 =>
 condK t57
 (R (Go.Value.bool false) w)
 (loopK (fun k1 e1 w =>
 binI Go.BinOp.leq (e1 7) (Go.Value.int Go.IntKind.i64 512) fun t59 =>
 condK t59
 (buildS (Go.Value.agg #[(Go.Value.int Go.IntKind.u8 0), (Go.Value.int Go.IntKind.i64 0), (Go.Value.int Go.IntKind.u8 0), (Go.Value.int Go.IntKind.i64 0), (Go.Value.string { data := #[] }), (Go.Value.slice .none 0 0), (Go.Value.int Go.IntKind.i64 0), (Go.Value.slice .none 0 0), (Go.Value.int Go.IntKind.i64 0), (Go.Value.int Go.IntKind.i64 0), (Go.Value.int Go.IntKind.i64 0), (Go.Value.int Go.IntKind.i64 0), (Go.Value.int Go.IntKind.u8 0), (Go.Value.bool false), (Go.Value.slice .none 0 0), (Go.Value.slice .none 0 0)]) [(0, 1), (1, 1), (2, 5), (7, 1), (8, 1), (9, 1), (10, 1), (11, 1), (12, 1), (13, 1), (14, 1), (15, 1)] [(0, (Go.Value.int Go.IntKind.u8 1))] fun t64 =>
 callOn prog fn_World_Make #[(e1 5), t64] w fun t65 w =>
 extractK t65 0 fun t66 =>
 extractK t65 1 fun t67 =>
 binI Go.BinOp.neq t67 (Go.Value.int Go.IntKind.i64 0) fun t69 =>
 gopK t69 false (fun k => k t66 w) w fun t71 w =>
 gopK t69 false (fun k => k (e1 7) w) w fun t72 w =>
 gopK t69 false (fun k => binI Go.BinOp.neq t71 t72 fun v => k v w) w fun t73 w =>
 pickK t69 (Go.Value.bool true) t73 fun t74 =>
 condK t74
 (R (Go.Value.bool false) w)
 (binI Go.BinOp.add (e1 7) (Go.Value.int Go.IntKind.i64 1) fun t61 =>
 k1 (upd (upd (upd (upd (upd (upd (upd (upd (upd (upd (upd (upd (upd (upd (upd (upd (upd (upd (upd (upd e1 58 (e1 7)) 59 t59) 63 (e1 5)) 64 t64) 65 t65) 62 t65) 66 t66) 67 t67) 8 t66) 9 t67) 68 t67) 69 t69) 70 t69) 71 t71) 72 t72) 73 t73) 74 t74) 60 (e1 7)) 61 t61) 7 t61) w))
 (buildS (Go.Value.agg #[(Go.Value.int Go.IntKind.u8 0), (Go.Value.int Go.IntKind.i64 0), (Go.Value.int Go.IntKind.u8 0), (Go.Value.int Go.IntKind.i64 0), (Go.Value.string { data := #[] }), (Go.Value.slice .none 0 0), (Go.Value.int Go.IntKind.i64 0), (Go.Value.slice .none 0 0), (Go.Value.int Go.IntKind.i64 0), (Go.Value.int Go.IntKind.i64 0), (Go.Value.int Go.IntKind.i64 0), (Go.Value.int Go.IntKind.i64 0), (Go.Value.int Go.IntKind.u8 0), (Go.Value.bool false), (Go.Value.slice .none 0 0), (Go.Value.slice .none 0 0)]) [(0, 1), (1, 1), (2, 5), (7, 1), (8, 1), (9, 1), (10, 1), (11, 1), (12, 1), (13, 1), (14, 1), (15, 1)] [(0, (Go.Value.int Go.IntKind.u8 2))] fun t77 =>
 callOn prog fn_World_Make #[(e1 5), t77] w fun t78 w =>
 extractK t78 0 fun t79 =>
 extractK t78 1 fun t80 =>
 buildL 40 1 (Go.Value.int Go.IntKind.i64 0) 3 [(0, (Go.Value.int Go.IntKind.i64 1)), (1, (Go.Value.int Go.IntKind.i64 2)), (2, (Go.Value.int Go.IntKind.i64 3))] w fun t82 w =>
 callOn prog fn_World_Drop #[(e1 5), t82] w fun t83 w =>
 buildS (Go.Value.agg #[(Go.Value.int Go.IntKind.u8 0), (Go.Value.int Go.IntKind.i64 0), (Go.Value.int Go.IntKind.u8 0), (Go.Value.int Go.IntKind.i64 0), (Go.Value.string { data := #[] }), (Go.Value.slice .none 0 0), (Go.Value.int Go.IntKind.i64 0), (Go.Value.slice .none 0 0), (Go.Value.int Go.IntKind.i64 0), (Go.Value.int Go.IntKind.i64 0), (Go.Value.int Go.IntKind.i64 0), (Go.Value.int Go.IntKind.i64 0), (Go.Value.int Go.IntKind.u8 0), (Go.Value.bool false), (Go.Value.slice .none 0 0), (Go.Value.slice .none 0 0)]) [(0, 1), (1, 1), (2, 5), (7, 1), (8, 1), (9, 1), (10, 1), (11, 1), (12, 1), (13, 1), (14, 1), (15, 1)] [(0, (Go.Value.int Go.IntKind.u8 2))] fun t86 =>
 callOn prog fn_World_Make #[(e1 5), t86] w fun t87 w =>
 extractK t87 0 fun t88 =>
 extractK t87 1 fun t89 =>
 callOn prog fn_World_Facet #[(e1 5), (Go.Value.int Go.IntKind.i64 7), (Go.Value.int Go.IntKind.u8 1)] w fun t92 w =>
 extractK t92 0 fun t93 =>
 extractK t92 1 fun t94 =>
 makeS 47 5 64 (Go.Value.agg #[(Go.Value.int Go.IntKind.u8 0), (Go.Value.int Go.IntKind.i64 0), (Go.Value.string { data := #[] }), (Go.Value.slice .none 0 0), (Go.Value.int Go.IntKind.i64 0)]) (Go.Value.int Go.IntKind.i64 511) (Go.Value.int Go.IntKind.i64 511) w fun t97 w =>
 buildS (Go.Value.agg #[(Go.Value.int Go.IntKind.u8 0), (Go.Value.int Go.IntKind.i64 0), (Go.Value.int Go.IntKind.u8 0), (Go.Value.int Go.IntKind.i64 0), (Go.Value.string { data := #[] }), (Go.Value.slice .none 0 0), (Go.Value.int Go.IntKind.i64 0), (Go.Value.slice .none 0 0), (Go.Value.int Go.IntKind.i64 0), (Go.Value.int Go.IntKind.i64 0), (Go.Value.int Go.IntKind.i64 0), (Go.Value.int Go.IntKind.i64 0), (Go.Value.int Go.IntKind.u8 0), (Go.Value.bool false), (Go.Value.slice .none 0 0), (Go.Value.slice .none 0 0)]) [(0, 1), (1, 1), (2, 5), (7, 1), (8, 1), (9, 1), (10, 1), (11, 1), (12, 1), (13, 1), (14, 1), (15, 1)] [(0, (Go.Value.int Go.IntKind.u8 2)), (1, (Go.Value.int Go.IntKind.i64 1)), (3, t97)] fun t98 =>
 callOn prog fn_World_Make #[(e1 5), t98] w fun t99 w =>
 extractK t99 0 fun t100 =>
 extractK t99 1 fun t101 =>
 makeS 47 5 64 (Go.Value.agg #[(Go.Value.int Go.IntKind.u8 0), (Go.Value.int Go.IntKind.i64 0), (Go.Value.string { data := #[] }), (Go.Value.slice .none 0 0), (Go.Value.int Go.IntKind.i64 0)]) (Go.Value.int Go.IntKind.i64 512) (Go.Value.int Go.IntKind.i64 512) w fun t104 w =>
 buildS (Go.Value.agg #[(Go.Value.int Go.IntKind.u8 0), (Go.Value.int Go.IntKind.i64 0), (Go.Value.int Go.IntKind.u8 0), (Go.Value.int Go.IntKind.i64 0), (Go.Value.string { data := #[] }), (Go.Value.slice .none 0 0), (Go.Value.int Go.IntKind.i64 0), (Go.Value.slice .none 0 0), (Go.Value.int Go.IntKind.i64 0), (Go.Value.int Go.IntKind.i64 0), (Go.Value.int Go.IntKind.i64 0), (Go.Value.int Go.IntKind.i64 0), (Go.Value.int Go.IntKind.u8 0), (Go.Value.bool false), (Go.Value.slice .none 0 0), (Go.Value.slice .none 0 0)]) [(0, 1), (1, 1), (2, 5), (7, 1), (8, 1), (9, 1), (10, 1), (11, 1), (12, 1), (13, 1), (14, 1), (15, 1)] [(0, (Go.Value.int Go.IntKind.u8 2)), (1, (Go.Value.int Go.IntKind.i64 1)), (3, t104)] fun t105 =>
 callOn prog fn_World_Make #[(e1 5), t105] w fun t106 w =>
 extractK t106 0 fun t107 =>
 extractK t106 1 fun t108 =>
 binI Go.BinOp.eql t80 (Go.Value.int Go.IntKind.i64 8) fun t110 =>
 gopK t110 true (fun k => k t83 w) w fun t112 w =>
 gopK t110 true (fun k => binI Go.BinOp.eql t112 (Go.Value.int Go.IntKind.i64 0) fun v => k v w) w fun t113 w =>
 pickK t110 t113 (Go.Value.bool false) fun t114 =>
 gopK t114 true (fun k => k t89 w) w fun t116 w =>
 gopK t114 true (fun k => binI Go.BinOp.eql t116 (Go.Value.int Go.IntKind.i64 8) fun v => k v w) w fun t117 w =>
 pickK t114 t117 (Go.Value.bool false) fun t118 =>
 gopK t118 true (fun k => k t93 w) w fun t120 w =>
 gopK t118 true (fun k => binI Go.BinOp.eql t120 (Go.Value.int Go.IntKind.i64 513) fun v => k v w) w fun t121 w =>
 pickK t118 t121 (Go.Value.bool false) fun t122 =>
 gopK t122 true (fun k => k t94 w) w fun t124 w =>
 gopK t122 true (fun k => binI Go.BinOp.eql t124 (Go.Value.int Go.IntKind.i64 0) fun v => k v w) w fun t125 w =>
 pickK t122 t125 (Go.Value.bool false) fun t126 =>
 gopK t126 true (fun k => k t100 w) w fun t128 w =>
 gopK t126 true (fun k => binI Go.BinOp.eql t128 (Go.Value.int Go.IntKind.i64 514) fun v => k v w) w fun t129 w =>
 pickK t126 t129 (Go.Value.bool false) fun t130 =>
 gopK t130 true (fun k => k t101 w) w fun t132 w =>
 gopK t130 true (fun k => binI Go.BinOp.eql t132 (Go.Value.int Go.IntKind.i64 0) fun v => k v w) w fun t133 w =>
 pickK t130 t133 (Go.Value.bool false) fun t134 =>
 gopK t134 true (fun k => k t108 w) w fun t136 w =>
 gopK t134 true (fun k => binI Go.BinOp.eql t136 (Go.Value.int Go.IntKind.i64 70) fun v => k v w) w fun t137 w =>
 pickK t134 t137 (Go.Value.bool false) fun t138 =>
 gopK t138 true (fun k => k (e1 5) w) w fun t140 w =>
 gopK t138 true (fun k => callOn prog fn_World_Made #[t140, (Go.Value.int Go.IntKind.i64 0)] w k) w fun t141 w =>
 gopK t138 true (fun k => binI Go.BinOp.eql t141 (Go.Value.int Go.IntKind.i64 512) fun v => k v w) w fun t142 w =>
 pickK t138 t142 (Go.Value.bool false) fun t143 =>
 gopK t143 true (fun k => k (e1 5) w) w fun t145 w =>
 gopK t143 true (fun k => callOn prog fn_World_Len #[t145] w k) w fun t146 w =>
 gopK t143 true (fun k => binI Go.BinOp.eql t146 (Go.Value.int Go.IntKind.i64 511) fun v => k v w) w fun t147 w =>
 pickK t143 t147 (Go.Value.bool false) fun t148 =>
 gopK t148 true (fun k => callOn prog fn_law07_lives #[] w k) w fun t150 w =>
 pickK t148 t150 (Go.Value.bool false) fun t151 =>
 R t151 w)) (upd (upd (upd (upd (upd (upd (upd (upd (upd (upd (upd (upd (upd (upd (upd (upd (upd (upd (upd (upd (upd (upd (upd (upd (upd (upd (upd (upd (upd (upd (upd (upd (upd (upd (upd (upd (upd (upd (upd (upd (upd (upd (upd (upd (upd (start []) 0 (Go.Value.bool false)) 22 t22) 23 t23) 21 t23) 24 t24) 25 t25) 1 t24) 2 t25) 27 t27) 28 t28) 26 t28) 29 t29) 30 t30) 3 t29) 4 t30) 32 t32) 33 t33) 31 t33) 34 t34) 35 t35) 5 t34) 6 t35) 36 t24) 37 t37) 38 t37) 39 t39) 40 t40) 41 t41) 42 t41) 43 t43) 44 t44) 45 t45) 46 t45) 47 t47) 48 t48) 49 t49) 50 t49) 51 t51) 52 t52) 53 t53) 54 t53) 55 t55) 56 t56) 57 t57) 7 (Go.Value.int Go.IntKind.i64 1)) w)
theorem F_law07_WorldMany_eq  (w : Go.World) (R : Go.Value → Go.World → Prop) : cK prog (bodyOf Try.f6) (resK prog Try.f6.results.toList R) (start []) w = F_law07_WorldMany  w R := by kernel_rfl
theorem F_law07_WorldMany_on  (w : Go.World) (k : Go.Value → Go.World → Prop) (h : F_law07_WorldMany  w k) : callOn prog fn_law07_WorldMany #[] w k :=
  calls_list (args := []) mixed Try.func6 (by kernel_rfl) (by kernel_rfl) (Eq.mpr (F_law07_WorldMany_eq  w _) (Eq.mpr (congrArg (F_law07_WorldMany  w) (on_eq k)) h))


noncomputable def law07_WorldNumbers_R9 : Array Oper := regionOf (bodyOf Try.f7) 9
def Q_law07_WorldNumbers_R9 (C : Go.World → Prop) (e : Env) (Q : Env → Prop) : Prop :=
 qopK true C (fun w q => q (e 7) w) fun t44 =>
 qopK true C (fun w q => q (e 11) w) fun t45 =>
 qopK true C (fun w q => q (e 1) w) fun t46 =>
 qopK true C (fun w q => q (e 10) w) fun t47 =>
 qopK true C (fun w q => indexS 1 t46 t47 fun v => q v w) fun t48 =>
 qopK true C (fun w q => load1 t48 w fun v => q v w) fun t49 =>
 qopK true C (fun w q => convI Go.IntKind.i64 t49 fun v => q v w) fun t50 =>
 qopK true C (fun w q => q (e 7) w) fun t51 =>
 qopK true C (fun w q => callOn prog fn_World_Sides #[t51] w q) fun t52 =>
 qopK true C (fun w q => callOn prog fn_law07_mod #[t50, t52] w q) fun t53 =>
 qopK true C (fun w q => buildS (Go.Value.agg #[(Go.Value.int Go.IntKind.u8 0), (Go.Value.int Go.IntKind.i64 0), (Go.Value.int Go.IntKind.u8 0), (Go.Value.int Go.IntKind.i64 0), (Go.Value.string { data := #[] }), (Go.Value.slice .none 0 0), (Go.Value.int Go.IntKind.i64 0), (Go.Value.slice .none 0 0), (Go.Value.int Go.IntKind.i64 0), (Go.Value.int Go.IntKind.i64 0), (Go.Value.int Go.IntKind.i64 0), (Go.Value.int Go.IntKind.i64 0), (Go.Value.int Go.IntKind.u8 0), (Go.Value.bool false), (Go.Value.slice .none 0 0), (Go.Value.slice .none 0 0)]) [(0, 1), (1, 1), (2, 5), (7, 1), (8, 1), (9, 1), (10, 1), (11, 1), (12, 1), (13, 1), (14, 1), (15, 1)] [(0, t45), (1, t53)] fun v => q v w) fun t54 =>
 qopK true C (fun w q => callOn prog fn_World_Make #[t44, t54] w q) fun t55 =>
 qopK true C (fun w q => q t55 w) fun t43 =>
 qopK true C (fun w q => extractK t43 0 fun v => q v w) fun t56 =>
 qopK true C (fun w q => extractK t43 1 fun v => q v w) fun t57 =>
 qopK true C (fun w q => q t56 w) fun t12 =>
 qopK true C (fun w q => q t57 w) fun t13 =>
 Q (upd (upd (upd (upd (upd (upd (upd (upd (upd (upd (upd (upd (upd (upd (upd (upd (upd e 44 t44) 45 t45) 46 t46) 47 t47) 48 t48) 49 t49) 50 t50) 51 t51) 52 t52) 53 t53) 54 t54) 55 t55) 43 t43) 56 t56) 57 t57) 12 t12) 13 t13)
theorem Q_law07_WorldNumbers_R9_eq (C : Go.World → Prop) (e : Env) (Q : Env → Prop) : quietK prog law07_WorldNumbers_R9.toList C law07_WorldNumbers_R9.toList e Q = Q_law07_WorldNumbers_R9 C e Q := by kernel_rfl
theorem Q_law07_WorldNumbers_R9_on {C : Go.World → Prop} {Q : Env → Prop} {e : Env} {w : Go.World} {k : Env → Go.World → Prop} (hC : C w) (h : Q_law07_WorldNumbers_R9 C e Q) (hk : ∀ e w, C w → Q e → k e w) : drawK prog law07_WorldNumbers_R9 e w k :=
  .inl ⟨C, Q, hC, by kernel_rfl, Eq.mpr (Q_law07_WorldNumbers_R9_eq C e Q) h, hk⟩
/-- postern/posternlaw07.WorldNumbers -/
def F_law07_WorldNumbers (a0 : Go.Value) (a1 : Go.Value) (a2 : Go.Value) (w : Go.World) (R : Go.Value → Go.World → Prop) : Prop :=
 callOn prog fn_world_New #[a0] w fun t16 w =>
 extractK t16 0 fun t17 =>
 extractK t16 1 fun t18 =>
 binI Go.BinOp.neq t18 (Go.Value.int Go.IntKind.i64 0) fun t20 =>
 gopK t20 false (fun k => k t17 w) w fun t22 w =>
 gopK t20 false (fun k => binP Go.BinOp.eql t22 (Go.Value.pointer .none) fun v => k v w) w fun t23 w =>
 pickK t20 (Go.Value.bool true) t23 fun t24 =>
 condK t24
 (callOn prog fn_law07_lives #[] w fun t25 w =>
 R t25 w)
 (loopK (fun k1 e1 w =>
 lenL (e1 1) fun t28 =>
 binI Go.BinOp.lss (e1 10) t28 fun t29 =>
 gopK t29 true (fun k => k (e1 10) w) w fun t31 w =>
 gopK t29 true (fun k => binI Go.BinOp.lss t31 (Go.Value.int Go.IntKind.i64 300) fun v => k v w) w fun t32 w =>
 pickK t29 t32 (Go.Value.bool false) fun t33 =>
 condK t33
 (let J2 : Env → Go.World → Prop := fun e2 w =>
 (binI Go.BinOp.add (e2 10) (Go.Value.int Go.IntKind.i64 1) fun t35 =>
 k1 (upd (upd (upd e2 34 (e2 10)) 35 t35) 10 t35) w)
 let J3 : Env → Go.World → Prop := fun e3 w =>
 (J2 e3 w)
 buildA (Go.Value.agg #[(Go.Value.int Go.IntKind.u8 0), (Go.Value.int Go.IntKind.u8 0), (Go.Value.int Go.IntKind.u8 0), (Go.Value.int Go.IntKind.u8 0), (Go.Value.int Go.IntKind.u8 0)]) 1 [(0, (Go.Value.int Go.IntKind.u8 1)), (1, (Go.Value.int Go.IntKind.u8 2)), (2, (Go.Value.int Go.IntKind.u8 3)), (3, (Go.Value.int Go.IntKind.u8 8)), (4, (Go.Value.int Go.IntKind.u8 13))] fun t36 =>
 indexS 1 (e1 1) (e1 10) fun t39 =>
 load1 t39 w fun t40 =>
 binI Go.BinOp.rem t40 (Go.Value.int Go.IntKind.u8 5) fun t41 =>
 indexV1 5 1 t36 t41 fun t42 =>
 drawK prog law07_WorldNumbers_R9 (upd (upd (upd (upd (upd (upd (upd (upd (upd (upd (upd (upd (upd (upd (upd (upd e1 26 (e1 10)) 27 (e1 1)) 28 t28) 29 t29) 30 t29) 31 t31) 32 t32) 33 t33) 36 t36) 37 (e1 1)) 38 (e1 10)) 39 t39) 40 t40) 41 t41) 42 t42) 11 t42) w.drew fun e4 w =>
 binI Go.BinOp.neq (e4 13) (Go.Value.int Go.IntKind.i64 0) fun t59 =>
 gopK t59 false (fun k => k (e4 12) w) w fun t61 w =>
 gopK t59 false (fun k => k (e4 9) w) w fun t62 w =>
 gopK t59 false (fun k => binI Go.BinOp.add t62 (Go.Value.int Go.IntKind.i64 1) fun v => k v w) w fun t63 w =>
 gopK t59 false (fun k => binI Go.BinOp.neq t61 t63 fun v => k v w) w fun t64 w =>
 pickK t59 (Go.Value.bool true) t64 fun t65 =>
 gopK t65 false (fun k => k (e4 7) w) w fun t67 w =>
 gopK t65 false (fun k => k (e4 12) w) w fun t68 w =>
 gopK t65 false (fun k => callOn prog fn_World_Is #[t67, t68] w k) w fun t69 w =>
 gopK t65 false (fun k => unK Go.UnOp.not t69 fun v => k v w) w fun t70 w =>
 pickK t65 (Go.Value.bool true) t70 fun t71 =>
 gopK t71 false (fun k => k (e4 7) w) w fun t73 w =>
 gopK t71 false (fun k => k (e4 12) w) w fun t74 w =>
 gopK t71 false (fun k => callOn prog fn_World_Kind #[t73, t74] w k) w fun t75 w =>
 gopK t71 false (fun k => k (e4 11) w) w fun t76 w =>
 gopK t71 false (fun k => binI Go.BinOp.neq t75 t76 fun v => k v w) w fun t77 w =>
 pickK t71 (Go.Value.bool true) t77 fun t78 =>
 condK t78
 (R (Go.Value.bool false) w)
 (lenL (e4 2) fun t82 =>
 binI Go.BinOp.lss (e4 10) t82 fun t83 =>
 gopK t83 true (fun k => k (e4 2) w) w fun t85 w =>
 gopK t83 true (fun k => k (e4 10) w) w fun t86 w =>
 gopK t83 true (fun k => indexS 1 t85 t86 fun v => k v w) w fun t87 w =>
 gopK t83 true (fun k => load1 t87 w fun v => k v w) w fun t88 w =>
 pickK t83 t88 (Go.Value.bool false) fun t89 =>
 condK t89
 (buildL 40 1 (Go.Value.int Go.IntKind.i64 0) 1 [(0, (e4 12))] w fun t92 w =>
 callOn prog fn_World_Drop #[(e4 7), t92] w fun t93 w =>
 binI Go.BinOp.neq t93 (Go.Value.int Go.IntKind.i64 0) fun t94 =>
 gopK t94 false (fun k => k (e4 7) w) w fun t96 w =>
 gopK t94 false (fun k => k (e4 12) w) w fun t97 w =>
 gopK t94 false (fun k => callOn prog fn_World_Is #[t96, t97] w k) w fun t98 w =>
 pickK t94 (Go.Value.bool true) t98 fun t99 =>
 gopK t99 false (fun k => k (e4 7) w) w fun t101 w =>
 gopK t99 false (fun k => k (e4 12) w) w fun t102 w =>
 gopK t99 false (fun k => buildL 40 1 (Go.Value.int Go.IntKind.i64 0) 1 [(0, t102)] w k) w fun t103 w =>
 gopK t99 false (fun k => callOn prog fn_World_Drop #[t101, t103] w k) w fun t104 w =>
 gopK t99 false (fun k => binI Go.BinOp.neq t104 (Go.Value.int Go.IntKind.i64 5) fun v => k v w) w fun t105 w =>
 pickK t99 (Go.Value.bool true) t105 fun t106 =>
 condK t106
 (R (Go.Value.bool false) w)
 (J3 (upd (upd (upd (upd (upd (upd (upd (upd (upd (upd (upd (upd (upd (upd (upd (upd (upd (upd (upd (upd (upd (upd (upd (upd (upd (upd (upd (upd (upd (upd (upd (upd (upd (upd (upd (upd (upd (upd (upd (upd (upd (upd (upd (upd (upd (upd (upd (upd (upd (upd e4 58 (e4 13)) 59 t59) 60 t59) 61 t61) 62 t62) 63 t63) 64 t64) 65 t65) 66 t65) 67 t67) 68 t68) 69 t69) 70 t70) 71 t71) 72 t71) 73 t73) 74 t74) 75 t75) 76 t76) 77 t77) 78 t78) 79 (e4 12)) 9 (e4 12)) 80 (e4 10)) 81 (e4 2)) 82 t82) 83 t83) 84 t83) 85 t85) 86 t86) 87 t87) 88 t88) 89 t89) 90 (e4 7)) 91 (e4 12)) 92 t92) 93 t93) 94 t94) 95 t94) 96 t96) 97 t97) 98 t98) 99 t99) 100 t99) 101 t101) 102 t102) 103 t103) 104 t104) 105 t105) 106 t106) w))
 (J3 (upd (upd (upd (upd (upd (upd (upd (upd (upd (upd (upd (upd (upd (upd (upd (upd (upd (upd (upd (upd (upd (upd (upd (upd (upd (upd (upd (upd (upd (upd (upd (upd (upd e4 58 (e4 13)) 59 t59) 60 t59) 61 t61) 62 t62) 63 t63) 64 t64) 65 t65) 66 t65) 67 t67) 68 t68) 69 t69) 70 t70) 71 t71) 72 t71) 73 t73) 74 t74) 75 t75) 76 t76) 77 t77) 78 t78) 79 (e4 12)) 9 (e4 12)) 80 (e4 10)) 81 (e4 2)) 82 t82) 83 t83) 84 t83) 85 t85) 86 t86) 87 t87) 88 t88) 89 t89) w)))
 (callOn prog fn_law07_lives #[] w fun t107 w =>
 R t107 w)) (upd (upd (upd (upd (upd (upd (upd (upd (upd (upd (upd (upd (upd (upd (upd (upd (start [a0, a1, a2]) 6 (Go.Value.bool false)) 15 a0) 16 t16) 14 t16) 17 t17) 18 t18) 7 t17) 8 t18) 19 t18) 20 t20) 21 t20) 22 t22) 23 t23) 24 t24) 9 (Go.Value.int Go.IntKind.i64 0)) 10 (Go.Value.int Go.IntKind.i64 0)) w)
theorem F_law07_WorldNumbers_eq (a0 : Go.Value) (a1 : Go.Value) (a2 : Go.Value) (w : Go.World) (R : Go.Value → Go.World → Prop) : cK prog (bodyOf Try.f7) (resK prog Try.f7.results.toList R) (start [a0, a1, a2]) w = F_law07_WorldNumbers a0 a1 a2 w R := by kernel_rfl
theorem F_law07_WorldNumbers_on (a0 : Go.Value) (a1 : Go.Value) (a2 : Go.Value) (w : Go.World) (k : Go.Value → Go.World → Prop) (h : F_law07_WorldNumbers a0 a1 a2 w k) : callOn prog fn_law07_WorldNumbers #[a0, a1, a2] w k :=
  calls_list (args := [a0, a1, a2]) mixed Try.func7 (by kernel_rfl) (by kernel_rfl) (Eq.mpr (F_law07_WorldNumbers_eq a0 a1 a2 w _) (Eq.mpr (congrArg (F_law07_WorldNumbers a0 a1 a2 w) (on_eq k)) h))


/-- postern/posternlaw07.WorldMoney -/
def F_law07_WorldMoney (a0 : Go.Value) (a1 : Go.Value) (w : Go.World) (R : Go.Value → Go.World → Prop) : Prop :=
 callOn prog fn_world_New #[(Go.Value.slice .none 0 0)] w fun t18 w =>
 extractK t18 0 fun t19 =>
 extractK t18 1 fun t20 =>
 binI Go.BinOp.neq t20 (Go.Value.int Go.IntKind.i64 0) fun t22 =>
 gopK t22 false (fun k => k t19 w) w fun t24 w =>
 gopK t22 false (fun k => binP Go.BinOp.eql t24 (Go.Value.pointer .none) fun v => k v w) w fun t25 w =>
 pickK t22 (Go.Value.bool true) t25 fun t26 =>
 gopK t26 false (fun k => k a0 w) w fun t28 w =>
 gopK t26 false (fun k => lenL t28 fun v => k v w) w fun t29 w =>
 gopK t26 false (fun k => binI Go.BinOp.gtr t29 (Go.Value.int Go.IntKind.i64 200) fun v => k v w) w fun t30 w =>
 pickK t26 (Go.Value.bool true) t30 fun t31 =>
 condK t31
 (binP Go.BinOp.neq t19 (Go.Value.pointer .none) fun t33 =>
 gopK t33 true (fun k => callOn prog fn_law07_lives #[] w k) w fun t35 w =>
 pickK t33 t35 (Go.Value.bool false) fun t36 =>
 R t36 w)
 (loopK (fun k1 e1 w =>
 lenL (e1 0) fun t39 =>
 binI Go.BinOp.lss (e1 8) t39 fun t40 =>
 condK t40
 (indexS 1 (e1 0) (e1 8) fun t46 =>
 load1 t46 w fun t47 =>
 convI Go.IntKind.i64 t47 fun t48 =>
 binI Go.BinOp.add (e1 7) t48 fun t49 =>
 binI Go.BinOp.add (e1 8) (Go.Value.int Go.IntKind.i64 1) fun t42 =>
 k1 (upd (upd (upd (upd (upd (upd (upd (upd (upd (upd (upd (upd (upd (upd (upd e1 37 (e1 8)) 38 (e1 0)) 39 t39) 40 t40) 43 (e1 7)) 44 (e1 0)) 45 (e1 8)) 46 t46) 47 t47) 48 t48) 49 t49) 7 t49) 41 (e1 8)) 42 t42) 8 t42) w)
 (buildS (Go.Value.agg #[(Go.Value.int Go.IntKind.u8 0), (Go.Value.int Go.IntKind.i64 0), (Go.Value.int Go.IntKind.u8 0), (Go.Value.int Go.IntKind.i64 0), (Go.Value.string { data := #[] }), (Go.Value.slice .none 0 0), (Go.Value.int Go.IntKind.i64 0), (Go.Value.slice .none 0 0), (Go.Value.int Go.IntKind.i64 0), (Go.Value.int Go.IntKind.i64 0), (Go.Value.int Go.IntKind.i64 0), (Go.Value.int Go.IntKind.i64 0), (Go.Value.int Go.IntKind.u8 0), (Go.Value.bool false), (Go.Value.slice .none 0 0), (Go.Value.slice .none 0 0)]) [(0, 1), (1, 1), (2, 5), (7, 1), (8, 1), (9, 1), (10, 1), (11, 1), (12, 1), (13, 1), (14, 1), (15, 1)] [(0, (Go.Value.int Go.IntKind.u8 8)), (4, (e1 7))] fun t53 =>
 callOn prog fn_World_Make #[(e1 5), t53] w fun t54 w =>
 extractK t54 0 fun t55 =>
 extractK t54 1 fun t56 =>
 binI Go.BinOp.neq t56 (Go.Value.int Go.IntKind.i64 0) fun t58 =>
 condK t58
 (R (Go.Value.bool false) w)
 (loopK (fun k2 e2 w =>
 lenL (e2 0) fun t61 =>
 binI Go.BinOp.lss (e2 12) t61 fun t62 =>
 condK t62
 (let J3 : Env → Go.World → Prop := fun e3 w =>
 (binI Go.BinOp.add (e3 12) (Go.Value.int Go.IntKind.i64 1) fun t64 =>
 k2 (upd (upd (upd e3 63 (e3 12)) 64 t64) 12 t64) w)
 let J4 : Env → Go.World → Prop := fun e4 w =>
 (J3 e4 w)
 indexS 1 (e2 0) (e2 12) fun t70 =>
 load1 t70 w fun t71 =>
 convI Go.IntKind.i64 t71 fun t72 =>
 buildS (Go.Value.agg #[(Go.Value.int Go.IntKind.u8 0), (Go.Value.int Go.IntKind.i64 0), (Go.Value.int Go.IntKind.u8 0), (Go.Value.int Go.IntKind.i64 0), (Go.Value.string { data := #[] }), (Go.Value.slice .none 0 0), (Go.Value.int Go.IntKind.i64 0), (Go.Value.slice .none 0 0), (Go.Value.int Go.IntKind.i64 0), (Go.Value.int Go.IntKind.i64 0), (Go.Value.int Go.IntKind.i64 0), (Go.Value.int Go.IntKind.i64 0), (Go.Value.int Go.IntKind.u8 0), (Go.Value.bool false), (Go.Value.slice .none 0 0), (Go.Value.slice .none 0 0)]) [(0, 1), (1, 1), (2, 5), (7, 1), (8, 1), (9, 1), (10, 1), (11, 1), (12, 1), (13, 1), (14, 1), (15, 1)] [(0, (Go.Value.int Go.IntKind.u8 9)), (6, (e2 9)), (4, t72)] fun t73 =>
 callOn prog fn_World_Make #[(e2 5), t73] w fun t74 w =>
 extractK t74 0 fun t75 =>
 extractK t74 1 fun t76 =>
 binI Go.BinOp.neq t76 (Go.Value.int Go.IntKind.i64 0) fun t78 =>
 condK t78
 (R (Go.Value.bool false) w)
 (lenL (e2 1) fun t81 =>
 binI Go.BinOp.lss (e2 12) t81 fun t82 =>
 gopK t82 true (fun k => k (e2 1) w) w fun t84 w =>
 gopK t82 true (fun k => k (e2 12) w) w fun t85 w =>
 gopK t82 true (fun k => indexS 1 t84 t85 fun v => k v w) w fun t86 w =>
 gopK t82 true (fun k => load1 t86 w fun v => k v w) w fun t87 w =>
 pickK t82 t87 (Go.Value.bool false) fun t88 =>
 condK t88
 (indexS 1 (e2 0) (e2 12) fun t92 =>
 load1 t92 w fun t93 =>
 convI Go.IntKind.i64 t93 fun t94 =>
 binI Go.BinOp.add (e2 11) t94 fun t95 =>
 buildL 40 1 (Go.Value.int Go.IntKind.i64 0) 1 [(0, t75)] w fun t98 w =>
 callOn prog fn_World_Drop #[(e2 5), t98] w fun t99 w =>
 binI Go.BinOp.neq t99 (Go.Value.int Go.IntKind.i64 0) fun t100 =>
 condK t100
 (R (Go.Value.bool false) w)
 (J4 (upd (upd (upd (upd (upd (upd (upd (upd (upd (upd (upd (upd (upd (upd (upd (upd (upd (upd (upd (upd (upd (upd (upd (upd (upd (upd (upd (upd (upd (upd (upd (upd (upd (upd (upd (upd (upd (upd (upd (upd (upd (upd (upd e2 59 (e2 12)) 60 (e2 0)) 61 t61) 62 t62) 66 (e2 5)) 67 (e2 9)) 68 (e2 0)) 69 (e2 12)) 70 t70) 71 t71) 72 t72) 73 t73) 74 t74) 65 t74) 75 t75) 76 t76) 13 t75) 14 t76) 77 t76) 78 t78) 79 (e2 12)) 80 (e2 1)) 81 t81) 82 t82) 83 t82) 84 t84) 85 t85) 86 t86) 87 t87) 88 t88) 89 (e2 11)) 90 (e2 0)) 91 (e2 12)) 92 t92) 93 t93) 94 t94) 95 t95) 11 t95) 96 (e2 5)) 97 t75) 98 t98) 99 t99) 100 t100) w))
 (J4 (upd (upd (upd (upd (upd (upd (upd (upd (upd (upd (upd (upd (upd (upd (upd (upd (upd (upd (upd (upd (upd (upd (upd (upd (upd (upd (upd (upd (upd (upd e2 59 (e2 12)) 60 (e2 0)) 61 t61) 62 t62) 66 (e2 5)) 67 (e2 9)) 68 (e2 0)) 69 (e2 12)) 70 t70) 71 t71) 72 t72) 73 t73) 74 t74) 65 t74) 75 t75) 76 t76) 13 t75) 14 t76) 77 t76) 78 t78) 79 (e2 12)) 80 (e2 1)) 81 t81) 82 t82) 83 t82) 84 t84) 85 t85) 86 t86) 87 t87) 88 t88) w)))
 (callOn prog fn_World_What #[(e2 5), (e2 9)] w fun t104 w =>
 extractK t104 0 fun t105 =>
 extractK t104 1 fun t106 =>
 allocZ (Go.Value.agg #[(Go.Value.int Go.IntKind.u8 0), (Go.Value.int Go.IntKind.i64 0), (Go.Value.int Go.IntKind.u8 0), (Go.Value.int Go.IntKind.i64 0), (Go.Value.string { data := #[] }), (Go.Value.slice .none 0 0), (Go.Value.int Go.IntKind.i64 0), (Go.Value.slice .none 0 0), (Go.Value.int Go.IntKind.i64 0), (Go.Value.int Go.IntKind.i64 0), (Go.Value.int Go.IntKind.i64 0), (Go.Value.int Go.IntKind.i64 0), (Go.Value.int Go.IntKind.u8 0), (Go.Value.bool false), (Go.Value.slice .none 0 0), (Go.Value.slice .none 0 0)]) 52 w fun t15 w =>
 storeN 16 t15 t105 w fun w =>
 binI Go.BinOp.eql t106 (Go.Value.int Go.IntKind.i64 0) fun t108 =>
 gopK t108 true (fun k => fieldA 8 t15 fun v => k v w) w fun t110 w =>
 gopK t108 true (fun k => load1 t110 w fun v => k v w) w fun t111 w =>
 gopK t108 true (fun k => k (e2 7) w) w fun t112 w =>
 gopK t108 true (fun k => binI Go.BinOp.eql t111 t112 fun v => k v w) w fun t113 w =>
 pickK t108 t113 (Go.Value.bool false) fun t114 =>
 gopK t114 true (fun k => fieldA 9 t15 fun v => k v w) w fun t116 w =>
 gopK t114 true (fun k => load1 t116 w fun v => k v w) w fun t117 w =>
 gopK t114 true (fun k => k (e2 11) w) w fun t118 w =>
 gopK t114 true (fun k => binI Go.BinOp.eql t117 t118 fun v => k v w) w fun t119 w =>
 pickK t114 t119 (Go.Value.bool false) fun t120 =>
 gopK t120 true (fun k => k (e2 5) w) w fun t122 w =>
 gopK t120 true (fun k => k (e2 9) w) w fun t123 w =>
 gopK t120 true (fun k => buildL 40 1 (Go.Value.int Go.IntKind.i64 0) 1 [(0, t123)] w k) w fun t124 w =>
 gopK t120 true (fun k => callOn prog fn_World_Drop #[t122, t124] w k) w fun t125 w =>
 gopK t120 true (fun k => binI Go.BinOp.eql t125 (Go.Value.int Go.IntKind.i64 72) fun v => k v w) w fun t126 w =>
 gopK t120 true (fun k => k (e2 5) w) w fun t127 w =>
 gopK t120 true (fun k => callOn prog fn_World_Len #[t127] w k) w fun t128 w =>
 gopK t120 true (fun k => binI Go.BinOp.gtr t128 (Go.Value.int Go.IntKind.i64 1) fun v => k v w) w fun t129 w =>
 gopK t120 true (fun k => binB Go.BinOp.eql t126 t129 fun v => k v w) w fun t130 w =>
 pickK t120 t130 (Go.Value.bool false) fun t131 =>
 gopK t131 true (fun k => callOn prog fn_law07_lives #[] w k) w fun t133 w =>
 pickK t131 t133 (Go.Value.bool false) fun t134 =>
 R t134 w)) (upd (upd (upd (upd (upd (upd (upd (upd (upd (upd (upd (upd (upd (upd (upd (upd (upd e1 37 (e1 8)) 38 (e1 0)) 39 t39) 40 t40) 51 (e1 5)) 52 (e1 7)) 53 t53) 54 t54) 50 t54) 55 t55) 56 t56) 9 t55) 10 t56) 57 t56) 58 t58) 11 (Go.Value.int Go.IntKind.i64 0)) 12 (Go.Value.int Go.IntKind.i64 0)) w))) (upd (upd (upd (upd (upd (upd (upd (upd (upd (upd (upd (upd (upd (upd (upd (upd (upd (upd (upd (upd (start [a0, a1]) 4 (Go.Value.bool false)) 18 t18) 17 t18) 19 t19) 20 t20) 5 t19) 6 t20) 21 t20) 22 t22) 23 t22) 24 t24) 25 t25) 26 t26) 27 t26) 28 t28) 29 t29) 30 t30) 31 t31) 7 (Go.Value.int Go.IntKind.i64 0)) 8 (Go.Value.int Go.IntKind.i64 0)) w)
theorem F_law07_WorldMoney_eq (a0 : Go.Value) (a1 : Go.Value) (w : Go.World) (R : Go.Value → Go.World → Prop) : cK prog (bodyOf Try.f8) (resK prog Try.f8.results.toList R) (start [a0, a1]) w = F_law07_WorldMoney a0 a1 w R := by kernel_rfl
theorem F_law07_WorldMoney_on (a0 : Go.Value) (a1 : Go.Value) (w : Go.World) (k : Go.Value → Go.World → Prop) (h : F_law07_WorldMoney a0 a1 w k) : callOn prog fn_law07_WorldMoney #[a0, a1] w k :=
  calls_list (args := [a0, a1]) mixed Try.func8 (by kernel_rfl) (by kernel_rfl) (Eq.mpr (F_law07_WorldMoney_eq a0 a1 w _) (Eq.mpr (congrArg (F_law07_WorldMoney a0 a1 w) (on_eq k)) h))


end Go.X
