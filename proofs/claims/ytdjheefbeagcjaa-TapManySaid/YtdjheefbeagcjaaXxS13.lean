/- The calculator's word on functions of this program, each with its proof: written by a program of this family (shallow.py). -/
import Derived.Test.YtdjheefbeagcjaaXxP
set_option linter.unusedVariables false
set_option maxRecDepth 100000
namespace Go.X
open Go Go.Proofs
abbrev F_law13_TapMany_s1 (k1 : Env → Go.World → Prop) (q16 : Env) (t96 : Go.Value) (w : Go.World) (R : Go.Value → Go.World → Prop) : Prop :=
 extractK t96 0 fun t97 =>
 extractK t96 1 fun t98 =>
 binI Go.BinOp.neq t98 (Go.Value.int Go.IntKind.i64 0) fun t100 =>
 condK t100
 (R (Go.Value.bool false) w)
 (binI Go.BinOp.add (q16 13) (Go.Value.int Go.IntKind.i64 1) fun t92 =>
 k1 (upd (upd (upd (upd (upd (upd (upd (upd (upd (upd q16 93 t96) 97 t97) 98 t98) 14 t97) 15 t98) 99 t98) 100 t100) 91 (q16 13)) 92 t92) 13 t92) w)
abbrev F_law13_TapMany_s2 (q29 : Env) (t102 : Go.Value) (t149 : Go.Value) (w : Go.World) (R : Go.Value → Go.World → Prop) : Prop :=
 gopK t149 true (fun k => k (q29 1) w) w fun t151 w =>
 gopK t149 true (fun k => callOn prog fn_World_Len #[t151] w k) w fun t152 w =>
 gopK t149 true (fun k => k t102 w) w fun t153 w =>
 gopK t149 true (fun k => binI Go.BinOp.add t153 (Go.Value.int Go.IntKind.i64 1) fun v => k v w) w fun t154 w =>
 gopK t149 true (fun k => binI Go.BinOp.eql t152 t154 fun v => k v w) w fun t155 w =>
 pickK t149 t155 (Go.Value.bool false) fun t156 =>
 gopK t156 true (fun k => callOn prog fn_law13_lives #[] w k) w fun t158 w =>
 pickK t156 t158 (Go.Value.bool false) fun t159 =>
 R t159 w
abbrev F_law13_TapMany_s3 (q28 : Env) (t102 : Go.Value) (t123 : Go.Value) (t145 : Go.Value) (w : Go.World) (R : Go.Value → Go.World → Prop) : Prop :=
 gopK t145 true (fun k => k t123 w) w fun t147 w =>
 gopK t145 true (fun k => binI Go.BinOp.eql t147 (Go.Value.int Go.IntKind.i64 8) fun v => k v w) w fun t148 w =>
 pickK t145 t148 (Go.Value.bool false) fun t149 =>
 F_law13_TapMany_s2 (upd (upd (upd (upd q28 146 t145) 147 t147) 148 t148) 149 t149) t102 t149 w R
abbrev F_law13_TapMany_s4 (q27 : Env) (t102 : Go.Value) (t116 : Go.Value) (t123 : Go.Value) (t141 : Go.Value) (w : Go.World) (R : Go.Value → Go.World → Prop) : Prop :=
 gopK t141 true (fun k => k t116 w) w fun t143 w =>
 gopK t141 true (fun k => binI Go.BinOp.eql t143 (Go.Value.int Go.IntKind.i64 0) fun v => k v w) w fun t144 w =>
 pickK t141 t144 (Go.Value.bool false) fun t145 =>
 F_law13_TapMany_s3 (upd (upd (upd (upd q27 142 t141) 143 t143) 144 t144) 145 t145) t102 t123 t145 w R
abbrev F_law13_TapMany_s5 (q26 : Env) (t102 : Go.Value) (t109 : Go.Value) (t116 : Go.Value) (t123 : Go.Value) (t137 : Go.Value) (w : Go.World) (R : Go.Value → Go.World → Prop) : Prop :=
 gopK t137 true (fun k => k t109 w) w fun t139 w =>
 gopK t137 true (fun k => binI Go.BinOp.eql t139 (Go.Value.int Go.IntKind.i64 8) fun v => k v w) w fun t140 w =>
 pickK t137 t140 (Go.Value.bool false) fun t141 =>
 F_law13_TapMany_s4 (upd (upd (upd (upd q26 138 t137) 139 t139) 140 t140) 141 t141) t102 t116 t123 t141 w R
abbrev F_law13_TapMany_s6 (q25 : Env) (t102 : Go.Value) (t108 : Go.Value) (t109 : Go.Value) (t116 : Go.Value) (t123 : Go.Value) (t133 : Go.Value) (w : Go.World) (R : Go.Value → Go.World → Prop) : Prop :=
 gopK t133 true (fun k => k t108 w) w fun t135 w =>
 gopK t133 true (fun k => binI Go.BinOp.eql t135 (Go.Value.int Go.IntKind.i64 0) fun v => k v w) w fun t136 w =>
 pickK t133 t136 (Go.Value.bool false) fun t137 =>
 F_law13_TapMany_s5 (upd (upd (upd (upd q25 134 t133) 135 t135) 136 t136) 137 t137) t102 t109 t116 t123 t137 w R
abbrev F_law13_TapMany_s7 (q24 : Env) (t102 : Go.Value) (t107 : Go.Value) (t108 : Go.Value) (t109 : Go.Value) (t116 : Go.Value) (t123 : Go.Value) (t129 : Go.Value) (w : Go.World) (R : Go.Value → Go.World → Prop) : Prop :=
 gopK t129 true (fun k => k t107 w) w fun t131 w =>
 gopK t129 true (fun k => binI Go.BinOp.eql t131 (Go.Value.int Go.IntKind.i64 0) fun v => k v w) w fun t132 w =>
 pickK t129 t132 (Go.Value.bool false) fun t133 =>
 F_law13_TapMany_s6 (upd (upd (upd (upd q24 130 t129) 131 t131) 132 t132) 133 t133) t102 t108 t109 t116 t123 t133 w R
abbrev F_law13_TapMany_s8 (q23 : Env) (t102 : Go.Value) (t107 : Go.Value) (t108 : Go.Value) (t109 : Go.Value) (t116 : Go.Value) (t121 : Go.Value) (w : Go.World) (R : Go.Value → Go.World → Prop) : Prop :=
 extractK t121 0 fun t122 =>
 extractK t121 1 fun t123 =>
 binI Go.BinOp.eql (q23 11) (Go.Value.int Go.IntKind.i64 9007199254740992) fun t125 =>
 gopK t125 true (fun k => k (q23 12) w) w fun t127 w =>
 gopK t125 true (fun k => binI Go.BinOp.eql t127 (Go.Value.int Go.IntKind.i64 0) fun v => k v w) w fun t128 w =>
 pickK t125 t128 (Go.Value.bool false) fun t129 =>
 F_law13_TapMany_s7 (upd (upd (upd (upd (upd (upd (upd (upd (upd (upd (upd q23 117 t121) 122 t122) 123 t123) 22 t122) 23 t123) 124 (q23 11)) 125 t125) 126 t125) 127 t127) 128 t128) 129 t129) t102 t107 t108 t109 t116 t123 t129 w R
abbrev F_law13_TapMany_s9 (q22 : Env) (t102 : Go.Value) (t107 : Go.Value) (t108 : Go.Value) (t109 : Go.Value) (t114 : Go.Value) (w : Go.World) (R : Go.Value → Go.World → Prop) : Prop :=
 extractK t114 0 fun t115 =>
 extractK t114 1 fun t116 =>
 callOn prog fn_tap_With #[(q22 1), (Go.Value.int Go.IntKind.i64 0), (q22 3), (q22 5)] w fun t121 w =>
 F_law13_TapMany_s8 (upd (upd (upd (upd (upd (upd (upd (upd (upd q22 110 t114) 115 t115) 116 t116) 20 t115) 21 t116) 118 (q22 1)) 119 (q22 3)) 120 (q22 5)) 121 t121) t102 t107 t108 t109 t116 t121 w R
abbrev F_law13_TapMany_s10 (q21 : Env) (t102 : Go.Value) (t106 : Go.Value) (w : Go.World) (R : Go.Value → Go.World → Prop) : Prop :=
 extractK t106 0 fun t107 =>
 extractK t106 1 fun t108 =>
 extractK t106 2 fun t109 =>
 callOn prog fn_tap_With #[(q21 1), (Go.Value.int Go.IntKind.i64 0), (q21 3), (q21 5)] w fun t114 w =>
 F_law13_TapMany_s9 (upd (upd (upd (upd (upd (upd (upd (upd (upd (upd (upd q21 103 t106) 107 t107) 108 t108) 109 t109) 17 t107) 18 t108) 19 t109) 111 (q21 1)) 112 (q21 3)) 113 (q21 5)) 114 t114) t102 t107 t108 t109 t114 w R
abbrev F_law13_TapMany_s11 (k1 : Env → Go.World → Prop) (q14 : Env) (t90 : Go.Value) (w : Go.World) (R : Go.Value → Go.World → Prop) : Prop :=
 condK t90
 (buildS (Go.Value.agg #[(Go.Value.int Go.IntKind.u8 0), (Go.Value.int Go.IntKind.i64 0), (Go.Value.int Go.IntKind.u8 0), (Go.Value.int Go.IntKind.i64 0), (Go.Value.string { data := #[] }), (Go.Value.slice .none 0 0), (Go.Value.int Go.IntKind.i64 0), (Go.Value.slice .none 0 0), (Go.Value.int Go.IntKind.i64 0), (Go.Value.int Go.IntKind.i64 0), (Go.Value.int Go.IntKind.i64 0), (Go.Value.int Go.IntKind.i64 0), (Go.Value.int Go.IntKind.u8 0), (Go.Value.bool false), (Go.Value.slice .none 0 0), (Go.Value.slice .none 0 0)]) [(0, 1), (1, 1), (2, 5), (7, 1), (8, 1), (9, 1), (10, 1), (11, 1), (12, 1), (13, 1), (14, 1), (15, 1)] [(0, (Go.Value.int Go.IntKind.u8 2))] fun t95 =>
 callOn prog fn_World_Make #[(q14 1), t95] w fun t96 w =>
 F_law13_TapMany_s1 k1 (upd (upd (upd q14 94 (q14 1)) 95 t95) 96 t96) t96 w R)
 (callOn prog fn_World_Len #[(q14 1)] w fun t102 w =>
 callOn prog fn_tap_Make #[((upd (upd q14 101 (q14 1)) 102 t102) 1), (Go.Value.int Go.IntKind.i64 0), ((upd (upd q14 101 (q14 1)) 102 t102) 3)] w fun t106 w =>
 F_law13_TapMany_s10 (upd (upd (upd (upd (upd (upd q14 101 (q14 1)) 102 t102) 16 t102) 104 ((upd (upd q14 101 (q14 1)) 102 t102) 1)) 105 ((upd (upd q14 101 (q14 1)) 102 t102) 3)) 106 t106) t102 t106 w R)
abbrev F_law13_TapMany_s12 (e1 : Env) (k1 : Env → Go.World → Prop) (w : Go.World) (R : Go.Value → Go.World → Prop) : Prop :=
 binI Go.BinOp.lss (e1 13) (Go.Value.int Go.IntKind.i64 600) fun t85 =>
 gopK t85 true (fun k => k (e1 1) w) w fun t87 w =>
 gopK t85 true (fun k => callOn prog fn_World_Made #[t87, (Go.Value.int Go.IntKind.i64 0)] w k) w fun t88 w =>
 gopK t85 true (fun k => binI Go.BinOp.lss t88 (Go.Value.int Go.IntKind.i64 511) fun v => k v w) w fun t89 w =>
 pickK t85 t89 (Go.Value.bool false) fun t90 =>
 F_law13_TapMany_s11 k1 (upd (upd (upd (upd (upd (upd (upd e1 84 (e1 13)) 85 t85) 86 t85) 87 t87) 88 t88) 89 t89) 90 t90) t90 w R
abbrev F_law13_TapMany_s13 (q13 : Env) (t81 : Go.Value) (w : Go.World) (R : Go.Value → Go.World → Prop) : Prop :=
 extractK t81 0 fun t82 =>
 extractK t81 1 fun t83 =>
 loopK (fun k1 e1 w =>
 F_law13_TapMany_s12 e1 k1 w R) (upd (upd (upd (upd (upd (upd q13 78 t81) 82 t82) 83 t83) 11 t82) 12 t83) 13 (Go.Value.int Go.IntKind.i64 0)) w
abbrev F_law13_TapMany_s14 (q10 : Env) (t26 : Go.Value) (t45 : Go.Value) (t77 : Go.Value) (w : Go.World) (R : Go.Value → Go.World → Prop) : Prop :=
 condK t77
 (R (Go.Value.bool false) w)
 (callOn prog fn_tap_Count #[t26, t45] w fun t81 w =>
 F_law13_TapMany_s13 (upd (upd (upd q10 79 t26) 80 t45) 81 t81) t81 w R)
abbrev F_law13_TapMany_s15 (q9 : Env) (t26 : Go.Value) (t45 : Go.Value) (t52 : Go.Value) (t71 : Go.Value) (w : Go.World) (R : Go.Value → Go.World → Prop) : Prop :=
 gopK t71 false (fun k => k t26 w) w fun t73 w =>
 gopK t71 false (fun k => k t52 w) w fun t74 w =>
 gopK t71 false (fun k => callOn prog fn_tap_Pass #[t73, t74] w k) w fun t75 w =>
 gopK t71 false (fun k => binI Go.BinOp.neq t75 (Go.Value.int Go.IntKind.i64 0) fun v => k v w) w fun t76 w =>
 pickK t71 (Go.Value.bool true) t76 fun t77 =>
 F_law13_TapMany_s14 (upd (upd (upd (upd (upd (upd q9 72 t71) 73 t73) 74 t74) 75 t75) 76 t76) 77 t77) t26 t45 t77 w R
abbrev F_law13_TapMany_s16 (q8 : Env) (t26 : Go.Value) (t45 : Go.Value) (t52 : Go.Value) (t53 : Go.Value) (t67 : Go.Value) (w : Go.World) (R : Go.Value → Go.World → Prop) : Prop :=
 gopK t67 false (fun k => k t53 w) w fun t69 w =>
 gopK t67 false (fun k => binI Go.BinOp.neq t69 (Go.Value.int Go.IntKind.i64 0) fun v => k v w) w fun t70 w =>
 pickK t67 (Go.Value.bool true) t70 fun t71 =>
 F_law13_TapMany_s15 (upd (upd (upd (upd q8 68 t67) 69 t69) 70 t70) 71 t71) t26 t45 t52 t71 w R
abbrev F_law13_TapMany_s17 (q7 : Env) (t26 : Go.Value) (t45 : Go.Value) (t46 : Go.Value) (t52 : Go.Value) (t53 : Go.Value) (t63 : Go.Value) (w : Go.World) (R : Go.Value → Go.World → Prop) : Prop :=
 gopK t63 false (fun k => k t46 w) w fun t65 w =>
 gopK t63 false (fun k => binI Go.BinOp.neq t65 (Go.Value.int Go.IntKind.i64 0) fun v => k v w) w fun t66 w =>
 pickK t63 (Go.Value.bool true) t66 fun t67 =>
 F_law13_TapMany_s16 (upd (upd (upd (upd q7 64 t63) 65 t65) 66 t66) 67 t67) t26 t45 t52 t53 t67 w R
abbrev F_law13_TapMany_s18 (q6 : Env) (t26 : Go.Value) (t39 : Go.Value) (t45 : Go.Value) (t46 : Go.Value) (t52 : Go.Value) (t53 : Go.Value) (t59 : Go.Value) (w : Go.World) (R : Go.Value → Go.World → Prop) : Prop :=
 gopK t59 false (fun k => k t39 w) w fun t61 w =>
 gopK t59 false (fun k => binI Go.BinOp.neq t61 (Go.Value.int Go.IntKind.i64 0) fun v => k v w) w fun t62 w =>
 pickK t59 (Go.Value.bool true) t62 fun t63 =>
 F_law13_TapMany_s17 (upd (upd (upd (upd q6 60 t59) 61 t61) 62 t62) 63 t63) t26 t45 t46 t52 t53 t63 w R
abbrev F_law13_TapMany_s19 (q5 : Env) (t26 : Go.Value) (t27 : Go.Value) (t33 : Go.Value) (t39 : Go.Value) (t45 : Go.Value) (t46 : Go.Value) (t51 : Go.Value) (w : Go.World) (R : Go.Value → Go.World → Prop) : Prop :=
 extractK t51 0 fun t52 =>
 extractK t51 1 fun t53 =>
 binI Go.BinOp.neq t27 (Go.Value.int Go.IntKind.i64 0) fun t55 =>
 gopK t55 false (fun k => k t33 w) w fun t57 w =>
 gopK t55 false (fun k => binI Go.BinOp.neq t57 (Go.Value.int Go.IntKind.i64 0) fun v => k v w) w fun t58 w =>
 pickK t55 (Go.Value.bool true) t58 fun t59 =>
 F_law13_TapMany_s18 (upd (upd (upd (upd (upd (upd (upd (upd (upd (upd (upd q5 47 t51) 52 t52) 53 t53) 9 t52) 10 t53) 54 t27) 55 t55) 56 t55) 57 t57) 58 t58) 59 t59) t26 t39 t45 t46 t52 t53 t59 w R
abbrev F_law13_TapMany_s20 (q4 : Env) (t26 : Go.Value) (t27 : Go.Value) (t33 : Go.Value) (t38 : Go.Value) (t39 : Go.Value) (t44 : Go.Value) (w : Go.World) (R : Go.Value → Go.World → Prop) : Prop :=
 extractK t44 0 fun t45 =>
 extractK t44 1 fun t46 =>
 callOn prog fn_tap_With #[t26, (Go.Value.int Go.IntKind.i64 0), t45, t38] w fun t51 w =>
 F_law13_TapMany_s19 (upd (upd (upd (upd (upd (upd (upd (upd (upd q4 40 t44) 45 t45) 46 t46) 7 t45) 8 t46) 48 t26) 49 t45) 50 t38) 51 t51) t26 t27 t33 t39 t45 t46 t51 w R
abbrev F_law13_TapMany_s21 (q3 : Env) (t26 : Go.Value) (t27 : Go.Value) (t32 : Go.Value) (t33 : Go.Value) (t37 : Go.Value) (w : Go.World) (R : Go.Value → Go.World → Prop) : Prop :=
 extractK t37 0 fun t38 =>
 extractK t37 1 fun t39 =>
 callOn prog fn_tap_With #[t26, (Go.Value.int Go.IntKind.i64 0), t32, t38] w fun t44 w =>
 F_law13_TapMany_s20 (upd (upd (upd (upd (upd (upd (upd (upd (upd q3 34 t37) 38 t38) 39 t39) 5 t38) 6 t39) 41 t26) 42 t32) 43 t38) 44 t44) t26 t27 t33 t38 t39 t44 w R
abbrev F_law13_TapMany_s22 (q2 : Env) (t26 : Go.Value) (t27 : Go.Value) (t31 : Go.Value) (w : Go.World) (R : Go.Value → Go.World → Prop) : Prop :=
 extractK t31 0 fun t32 =>
 extractK t31 1 fun t33 =>
 buildS (Go.Value.agg #[(Go.Value.int Go.IntKind.u8 0), (Go.Value.int Go.IntKind.i64 0), (Go.Value.int Go.IntKind.u8 0), (Go.Value.int Go.IntKind.i64 0), (Go.Value.string { data := #[] }), (Go.Value.slice .none 0 0), (Go.Value.int Go.IntKind.i64 0), (Go.Value.slice .none 0 0), (Go.Value.int Go.IntKind.i64 0), (Go.Value.int Go.IntKind.i64 0), (Go.Value.int Go.IntKind.i64 0), (Go.Value.int Go.IntKind.i64 0), (Go.Value.int Go.IntKind.u8 0), (Go.Value.bool false), (Go.Value.slice .none 0 0), (Go.Value.slice .none 0 0)]) [(0, 1), (1, 1), (2, 5), (7, 1), (8, 1), (9, 1), (10, 1), (11, 1), (12, 1), (13, 1), (14, 1), (15, 1)] [(0, (Go.Value.int Go.IntKind.u8 3)), (4, (Go.Value.int Go.IntKind.i64 9007199254740991))] fun t36 =>
 callOn prog fn_World_Make #[t26, t36] w fun t37 w =>
 F_law13_TapMany_s21 (upd (upd (upd (upd (upd (upd (upd (upd q2 28 t31) 32 t32) 33 t33) 3 t32) 4 t33) 35 t26) 36 t36) 37 t37) t26 t27 t32 t33 t37 w R
abbrev F_law13_TapMany_s23 (q1 : Env) (t25 : Go.Value) (w : Go.World) (R : Go.Value → Go.World → Prop) : Prop :=
 extractK t25 0 fun t26 =>
 extractK t25 1 fun t27 =>
 buildS (Go.Value.agg #[(Go.Value.int Go.IntKind.u8 0), (Go.Value.int Go.IntKind.i64 0), (Go.Value.int Go.IntKind.u8 0), (Go.Value.int Go.IntKind.i64 0), (Go.Value.string { data := #[] }), (Go.Value.slice .none 0 0), (Go.Value.int Go.IntKind.i64 0), (Go.Value.slice .none 0 0), (Go.Value.int Go.IntKind.i64 0), (Go.Value.int Go.IntKind.i64 0), (Go.Value.int Go.IntKind.i64 0), (Go.Value.int Go.IntKind.i64 0), (Go.Value.int Go.IntKind.u8 0), (Go.Value.bool false), (Go.Value.slice .none 0 0), (Go.Value.slice .none 0 0)]) [(0, 1), (1, 1), (2, 5), (7, 1), (8, 1), (9, 1), (10, 1), (11, 1), (12, 1), (13, 1), (14, 1), (15, 1)] [(0, (Go.Value.int Go.IntKind.u8 1))] fun t30 =>
 callOn prog fn_World_Make #[t26, t30] w fun t31 w =>
 F_law13_TapMany_s22 (upd (upd (upd (upd (upd (upd (upd (upd q1 24 t25) 26 t26) 27 t27) 1 t26) 2 t27) 29 t26) 30 t30) 31 t31) t26 t27 t31 w R
/-- postern/posternlaw13.TapMany -/
def F_law13_TapMany  (w : Go.World) (R : Go.Value → Go.World → Prop) : Prop :=
 callOn prog fn_world_New #[(Go.Value.slice .none 0 0)] w fun t25 w =>
 F_law13_TapMany_s23 (upd (upd (start []) 0 (Go.Value.bool false)) 25 t25) t25 w R
theorem F_law13_TapMany_eq  (w : Go.World) (R : Go.Value → Go.World → Prop) : cK prog (bodyOf Try.f9) (resK prog Try.f9.results.toList R) (start []) w = F_law13_TapMany  w R := by kernel_rfl
theorem F_law13_TapMany_on  (w : Go.World) (k : Go.Value → Go.World → Prop) (h : F_law13_TapMany  w k) : callOn prog fn_law13_TapMany #[] w k :=
  calls_list (args := []) mixed Try.func9 (by kernel_rfl) (by kernel_rfl) (Eq.mpr (F_law13_TapMany_eq  w _) (Eq.mpr (congrArg (F_law13_TapMany  w) (on_eq k)) h))


end Go.X
