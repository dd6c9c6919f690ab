/- The calculator's word on functions of this program, each with its proof: written by a program of this family (shallow.py). -/
import Derived.Test.YtdjheefbeagcjaaXxP
set_option linter.unusedVariables false
set_option maxRecDepth 100000
namespace Go.X
open Go Go.Proofs
noncomputable def law07_WorldSides_R7 : Array Oper := regionOf (bodyOf Try.f4) 7
def Q_law07_WorldSides_R7 (C : Go.World → Prop) (e : Env) (Q : Env → Prop) : Prop :=
 qopK true C (fun w q => indexA 3 1 (e 5) (Go.Value.int Go.IntKind.i64 0) fun v => q v w) fun t57 =>
 qopK true C (fun w q => load1 t57 w fun v => q v w) fun t58 =>
 qopK true C (fun w q => q (e 9) w) fun t59 =>
 qopK true C (fun w q => callOn prog fn_law07_mod #[t58, t59] w q) fun t60 =>
 qopK true C (fun w q => indexA 3 1 (e 5) (Go.Value.int Go.IntKind.i64 1) fun v => q v w) fun t61 =>
 qopK true C (fun w q => load1 t61 w fun v => q v w) fun t62 =>
 qopK true C (fun w q => q (e 9) w) fun t63 =>
 qopK true C (fun w q => callOn prog fn_law07_mod #[t62, t63] w q) fun t64 =>
 qopK true C (fun w q => indexA 3 1 (e 5) (Go.Value.int Go.IntKind.i64 2) fun v => q v w) fun t65 =>
 qopK true C (fun w q => load1 t65 w fun v => q v w) fun t66 =>
 qopK true C (fun w q => q (e 9) w) fun t67 =>
 qopK true C (fun w q => callOn prog fn_law07_mod #[t66, t67] w q) fun t68 =>
 qopK true C (fun w q => q t60 w) fun t10 =>
 qopK true C (fun w q => q t64 w) fun t11 =>
 qopK true C (fun w q => q t68 w) fun t12 =>
 Q (upd (upd (upd (upd (upd (upd (upd (upd (upd (upd (upd (upd (upd (upd (upd e 57 t57) 58 t58) 59 t59) 60 t60) 61 t61) 62 t62) 63 t63) 64 t64) 65 t65) 66 t66) 67 t67) 68 t68) 10 t10) 11 t11) 12 t12)
theorem Q_law07_WorldSides_R7_eq (C : Go.World → Prop) (e : Env) (Q : Env → Prop) : quietK prog law07_WorldSides_R7.toList C law07_WorldSides_R7.toList e Q = Q_law07_WorldSides_R7 C e Q := by kernel_rfl
theorem Q_law07_WorldSides_R7_on {C : Go.World → Prop} {Q : Env → Prop} {e : Env} {w : Go.World} {k : Env → Go.World → Prop} (hC : C w) (h : Q_law07_WorldSides_R7 C e Q) (hk : ∀ e w, C w → Q e → k e w) : drawK prog law07_WorldSides_R7 e w k :=
  .inl ⟨C, Q, hC, by kernel_rfl, Eq.mpr (Q_law07_WorldSides_R7_eq C e Q) h, hk⟩
abbrev F_law07_WorldSides_s1 (t33 : Go.Value) (t34 : Go.Value) (w : Go.World) (R : Go.Value → Go.World → Prop) : Prop :=
 binP Go.BinOp.eql t33 (Go.Value.pointer .none) fun t42 =>
 gopK t42 true (fun k => k t34 w) w fun t44 w =>
 gopK t42 true (fun k => binI Go.BinOp.eql t44 (Go.Value.int Go.IntKind.i64 71) fun v => k v w) w fun t45 w =>
 pickK t42 t45 (Go.Value.bool false) fun t46 =>
 gopK t46 true (fun k => callOn prog fn_law07_lives #[] w k) w fun t48 w =>
 pickK t46 t48 (Go.Value.bool false) fun t49 =>
 R t49 w
abbrev F_law07_WorldSides_s2 (k4 : Env → Go.World → Prop) (q32 : Env) (t172 : Go.Value) (w : Go.World) (R : Go.Value → Go.World → Prop) : Prop :=
 condK t172
 (R (Go.Value.bool false) w)
 (binI Go.BinOp.add (q32 19) (Go.Value.int Go.IntKind.i64 1) fun t163 =>
 k4 (upd (upd (upd q32 162 (q32 19)) 163 t163) 19 t163) w)
abbrev F_law07_WorldSides_s3 (k4 : Env → Go.World → Prop) (q31 : Env) (w : Go.World) (R : Go.Value → Go.World → Prop) : Prop :=
 indexA 3 1 (q31 18) (q31 19) fun t165 =>
 load1 t165 w fun t166 =>
 gopK t166 true (fun k => k (q31 19) w) w fun t168 w =>
 gopK t166 true (fun k => indexA 3 1 (q31 15) t168 fun v => k v w) w fun t169 w =>
 gopK t166 true (fun k => load1 t169 w fun v => k v w) w fun t170 w =>
 gopK t166 true (fun k => unK Go.UnOp.not t170 fun v => k v w) w fun t171 w =>
 pickK t166 t171 (Go.Value.bool false) fun t172 =>
 F_law07_WorldSides_s2 k4 (upd (upd (upd (upd (upd (upd (upd (upd (upd q31 164 (q31 19)) 165 t165) 166 t166) 167 t166) 168 t168) 169 t169) 170 t170) 171 t171) 172 t172) t172 w R
abbrev F_law07_WorldSides_s4 (e4 : Env) (k2 : Env → Go.World → Prop) (k4 : Env → Go.World → Prop) (w : Go.World) (R : Go.Value → Go.World → Prop) : Prop :=
 binI Go.BinOp.lss (e4 19) (Go.Value.int Go.IntKind.i64 3) fun t161 =>
 condK t161
 (F_law07_WorldSides_s3 k4 (upd (upd e4 160 (e4 19)) 161 t161) w R)
 (binI Go.BinOp.add (e4 14) (Go.Value.int Go.IntKind.i64 1) fun t78 =>
 k2 (upd (upd (upd (upd (upd e4 160 (e4 19)) 161 t161) 77 (e4 14)) 78 t78) 14 t78) w)
abbrev F_law07_WorldSides_s5 (k2 : Env → Go.World → Prop) (q29 : Env) (t150 : Go.Value) (t154 : Go.Value) (t158 : Go.Value) (w : Go.World) (R : Go.Value → Go.World → Prop) : Prop :=
 buildA (Go.Value.agg #[(Go.Value.bool false), (Go.Value.bool false), (Go.Value.bool false)]) 1 [(0, t150), (1, t154), (2, t158)] fun t159 =>
 allocZ (Go.Value.agg #[(Go.Value.bool false), (Go.Value.bool false), (Go.Value.bool false)]) 34 w fun t18 w =>
 storeN 3 t18 t159 w fun w =>
 loopK (fun k4 e4 w =>
 F_law07_WorldSides_s4 e4 k2 k4 w R) (upd (upd (upd q29 159 t159) 18 t18) 19 (Go.Value.int Go.IntKind.i64 0)) w
abbrev F_law07_WorldSides_s6 (e3 : Env) (k2 : Env → Go.World → Prop) (w : Go.World) (R : Go.Value → Go.World → Prop) : Prop :=
 callOn prog fn_World_Open #[(e3 7), (e3 10), (e3 11)] w fun t150 w =>
 callOn prog fn_World_Open #[((upd (upd (upd (upd e3 147 (e3 7)) 148 (e3 10)) 149 (e3 11)) 150 t150) 7), ((upd (upd (upd (upd e3 147 (e3 7)) 148 (e3 10)) 149 (e3 11)) 150 t150) 11), ((upd (upd (upd (upd e3 147 (e3 7)) 148 (e3 10)) 149 (e3 11)) 150 t150) 12)] w fun t154 w =>
 callOn prog fn_World_Open #[((upd (upd (upd (upd (upd (upd (upd (upd e3 147 (e3 7)) 148 (e3 10)) 149 (e3 11)) 150 t150) 151 ((upd (upd (upd (upd e3 147 (e3 7)) 148 (e3 10)) 149 (e3 11)) 150 t150) 7)) 152 ((upd (upd (upd (upd e3 147 (e3 7)) 148 (e3 10)) 149 (e3 11)) 150 t150) 11)) 153 ((upd (upd (upd (upd e3 147 (e3 7)) 148 (e3 10)) 149 (e3 11)) 150 t150) 12)) 154 t154) 7), ((upd (upd (upd (upd (upd (upd (upd (upd e3 147 (e3 7)) 148 (e3 10)) 149 (e3 11)) 150 t150) 151 ((upd (upd (upd (upd e3 147 (e3 7)) 148 (e3 10)) 149 (e3 11)) 150 t150) 7)) 152 ((upd (upd (upd (upd e3 147 (e3 7)) 148 (e3 10)) 149 (e3 11)) 150 t150) 11)) 153 ((upd (upd (upd (upd e3 147 (e3 7)) 148 (e3 10)) 149 (e3 11)) 150 t150) 12)) 154 t154) 10), ((upd (upd (upd (upd (upd (upd (upd (upd e3 147 (e3 7)) 148 (e3 10)) 149 (e3 11)) 150 t150) 151 ((upd (upd (upd (upd e3 147 (e3 7)) 148 (e3 10)) 149 (e3 11)) 150 t150) 7)) 152 ((upd (upd (upd (upd e3 147 (e3 7)) 148 (e3 10)) 149 (e3 11)) 150 t150) 11)) 153 ((upd (upd (upd (upd e3 147 (e3 7)) 148 (e3 10)) 149 (e3 11)) 150 t150) 12)) 154 t154) 12)] w fun t158 w =>
 F_law07_WorldSides_s5 k2 (upd (upd (upd (upd (upd (upd (upd (upd (upd (upd (upd (upd e3 147 (e3 7)) 148 (e3 10)) 149 (e3 11)) 150 t150) 151 ((upd (upd (upd (upd e3 147 (e3 7)) 148 (e3 10)) 149 (e3 11)) 150 t150) 7)) 152 ((upd (upd (upd (upd e3 147 (e3 7)) 148 (e3 10)) 149 (e3 11)) 150 t150) 11)) 153 ((upd (upd (upd (upd e3 147 (e3 7)) 148 (e3 10)) 149 (e3 11)) 150 t150) 12)) 154 t154) 155 ((upd (upd (upd (upd (upd (upd (upd (upd e3 147 (e3 7)) 148 (e3 10)) 149 (e3 11)) 150 t150) 151 ((upd (upd (upd (upd e3 147 (e3 7)) 148 (e3 10)) 149 (e3 11)) 150 t150) 7)) 152 ((upd (upd (upd (upd e3 147 (e3 7)) 148 (e3 10)) 149 (e3 11)) 150 t150) 11)) 153 ((upd (upd (upd (upd e3 147 (e3 7)) 148 (e3 10)) 149 (e3 11)) 150 t150) 12)) 154 t154) 7)) 156 ((upd (upd (upd (upd (upd (upd (upd (upd e3 147 (e3 7)) 148 (e3 10)) 149 (e3 11)) 150 t150) 151 ((upd (upd (upd (upd e3 147 (e3 7)) 148 (e3 10)) 149 (e3 11)) 150 t150) 7)) 152 ((upd (upd (upd (upd e3 147 (e3 7)) 148 (e3 10)) 149 (e3 11)) 150 t150) 11)) 153 ((upd (upd (upd (upd e3 147 (e3 7)) 148 (e3 10)) 149 (e3 11)) 150 t150) 12)) 154 t154) 10)) 157 ((upd (upd (upd (upd (upd (upd (upd (upd e3 147 (e3 7)) 148 (e3 10)) 149 (e3 11)) 150 t150) 151 ((upd (upd (upd (upd e3 147 (e3 7)) 148 (e3 10)) 149 (e3 11)) 150 t150) 7)) 152 ((upd (upd (upd (upd e3 147 (e3 7)) 148 (e3 10)) 149 (e3 11)) 150 t150) 11)) 153 ((upd (upd (upd (upd e3 147 (e3 7)) 148 (e3 10)) 149 (e3 11)) 150 t150) 12)) 154 t154) 12)) 158 t158) t150 t154 t158 w R
abbrev F_law07_WorldSides_s7 (J3 : Env → Go.World → Prop) (q36 : Env) (t144 : Go.Value) (w : Go.World) : Prop :=
 condK t144
 (binI Go.BinOp.add (q36 13) (Go.Value.int Go.IntKind.i64 1) fun t146 =>
 J3 (upd (upd (upd q36 145 (q36 13)) 146 t146) 13 t146) w)
 (J3 q36 w)
abbrev F_law07_WorldSides_s8 (k2 : Env → Go.World → Prop) (q26 : Env) (t97 : Go.Value) (t103 : Go.Value) (w : Go.World) (R : Go.Value → Go.World → Prop) : Prop :=
 let J3 : Env → Go.World → Prop := fun e3 w =>
 (F_law07_WorldSides_s6 e3 k2 w R)
 binI Go.BinOp.eql t103 (Go.Value.int Go.IntKind.i64 0) fun t140 =>
 gopK t140 true (fun k => k t97 w) w fun t142 w =>
 gopK t140 true (fun k => unK Go.UnOp.not t142 fun v => k v w) w fun t143 w =>
 pickK t140 t143 (Go.Value.bool false) fun t144 =>
 F_law07_WorldSides_s7 J3 (upd (upd (upd (upd (upd (upd q26 139 t103) 140 t140) 141 t140) 142 t142) 143 t143) 144 t144) t144 w
abbrev F_law07_WorldSides_s9 (k2 : Env → Go.World → Prop) (q23 : Env) (t97 : Go.Value) (t103 : Go.Value) (t127 : Go.Value) (w : Go.World) (R : Go.Value → Go.World → Prop) : Prop :=
 gopK t127 false (fun k => k (q23 7) w) w fun t129 w =>
 gopK t127 false (fun k => k (q23 1) w) w fun t130 w =>
 gopK t127 false (fun k => k (q23 14) w) w fun t131 w =>
 gopK t127 false (fun k => indexS 1 t130 t131 fun v => k v w) w fun t132 w =>
 gopK t127 false (fun k => load1 t132 w fun v => k v w) w fun t133 w =>
 gopK t127 false (fun k => callOn prog fn_World_IsCut #[t129, t133] w k) w fun t134 w =>
 gopK t127 false (fun k => k t103 w) w fun t135 w =>
 gopK t127 false (fun k => binI Go.BinOp.eql t135 (Go.Value.int Go.IntKind.i64 0) fun v => k v w) w fun t136 w =>
 gopK t127 false (fun k => binB Go.BinOp.neq t134 t136 fun v => k v w) w fun t137 w =>
 pickK t127 (Go.Value.bool true) t137 fun t138 =>
 condK t138
 (R (Go.Value.bool false) w)
 (F_law07_WorldSides_s8 k2 (upd (upd (upd (upd (upd (upd (upd (upd (upd (upd (upd q23 128 t127) 129 t129) 130 t130) 131 t131) 132 t132) 133 t133) 134 t134) 135 t135) 136 t136) 137 t137) 138 t138) t97 t103 w R)
abbrev F_law07_WorldSides_s10 (k2 : Env → Go.World → Prop) (q22 : Env) (t97 : Go.Value) (t103 : Go.Value) (t105 : Go.Value) (t118 : Go.Value) (w : Go.World) (R : Go.Value → Go.World → Prop) : Prop :=
 binB Go.BinOp.neq t105 t118 fun t119 =>
 gopK t119 false (fun k => k t103 w) w fun t121 w =>
 gopK t119 false (fun k => binI Go.BinOp.neq t121 (Go.Value.int Go.IntKind.i64 0) fun v => k v w) w fun t122 w =>
 gopK t119 false (fun k => k t122 w) w fun t123 w =>
 gopK t123 true (fun k => k t103 w) w fun t124 w =>
 gopK t123 true (fun k => binI Go.BinOp.neq t124 (Go.Value.int Go.IntKind.i64 2) fun v => k v w) w fun t125 w =>
 gopK t119 false (fun k => pickK t123 t125 (Go.Value.bool false) fun v => k v w) w fun t126 w =>
 pickK t119 (Go.Value.bool true) t126 fun t127 =>
 F_law07_WorldSides_s9 k2 (upd (upd (upd (upd (upd (upd (upd (upd (upd q22 119 t119) 120 t119) 121 t121) 122 t122) 123 t123) 124 t124) 125 t125) 126 t126) 127 t127) t97 t103 t127 w R
abbrev F_law07_WorldSides_s11 (k2 : Env → Go.World → Prop) (q21 : Env) (t97 : Go.Value) (t103 : Go.Value) (w : Go.World) (R : Go.Value → Go.World → Prop) : Prop :=
 binI Go.BinOp.eql t103 (Go.Value.int Go.IntKind.i64 0) fun t105 =>
 indexS 1 (q21 1) (q21 14) fun t108 =>
 load1 t108 w fun t109 =>
 binI Go.BinOp.geq t109 (Go.Value.int Go.IntKind.i64 1) fun t110 =>
 gopK t110 true (fun k => k (q21 1) w) w fun t112 w =>
 gopK t110 true (fun k => k (q21 14) w) w fun t113 w =>
 gopK t110 true (fun k => indexS 1 t112 t113 fun v => k v w) w fun t114 w =>
 gopK t110 true (fun k => load1 t114 w fun v => k v w) w fun t115 w =>
 gopK t110 true (fun k => k (q21 9) w) w fun t116 w =>
 gopK t110 true (fun k => binI Go.BinOp.lss t115 t116 fun v => k v w) w fun t117 w =>
 pickK t110 t117 (Go.Value.bool false) fun t118 =>
 F_law07_WorldSides_s10 k2 (upd (upd (upd (upd (upd (upd (upd (upd (upd (upd (upd (upd (upd (upd (upd (upd q21 17 t103) 104 t103) 105 t105) 106 (q21 1)) 107 (q21 14)) 108 t108) 109 t109) 110 t110) 111 t110) 112 t112) 113 t113) 114 t114) 115 t115) 116 t116) 117 t117) 118 t118) t97 t103 t105 t118 w R
abbrev F_law07_WorldSides_s12 (k2 : Env → Go.World → Prop) (q20 : Env) (t97 : Go.Value) (w : Go.World) (R : Go.Value → Go.World → Prop) : Prop :=
 indexS 1 (q20 1) (q20 14) fun t101 =>
 load1 t101 w fun t102 =>
 callOn prog fn_World_CutEdge #[(q20 7), t102] w fun t103 w =>
 F_law07_WorldSides_s11 k2 (upd (upd (upd (upd (upd (upd (upd q20 16 t97) 98 (q20 7)) 99 (q20 1)) 100 (q20 14)) 101 t101) 102 t102) 103 t103) t97 t103 w R
abbrev F_law07_WorldSides_s13 (k2 : Env → Go.World → Prop) (q19 : Env) (t15 : Go.Value) (t91 : Go.Value) (w : Go.World) (R : Go.Value → Go.World → Prop) : Prop :=
 storeN 3 t15 t91 w fun w =>
 indexS 1 (q19 1) (q19 14) fun t95 =>
 load1 t95 w fun t96 =>
 callOn prog fn_World_IsCut #[(q19 7), t96] w fun t97 w =>
 F_law07_WorldSides_s12 k2 (upd (upd (upd (upd (upd (upd q19 92 (q19 7)) 93 (q19 1)) 94 (q19 14)) 95 t95) 96 t96) 97 t97) t97 w R
abbrev F_law07_WorldSides_s14 (k2 : Env → Go.World → Prop) (q17 : Env) (t82 : Go.Value) (t86 : Go.Value) (w : Go.World) (R : Go.Value → Go.World → Prop) : Prop :=
 callOn prog fn_World_Open #[(q17 7), (q17 10), (q17 12)] w fun t90 w =>
 buildA (Go.Value.agg #[(Go.Value.bool false), (Go.Value.bool false), (Go.Value.bool false)]) 1 [(0, t82), (1, t86), (2, t90)] fun t91 =>
 allocZ (Go.Value.agg #[(Go.Value.bool false), (Go.Value.bool false), (Go.Value.bool false)]) 34 w fun t15 w =>
 F_law07_WorldSides_s13 k2 (upd (upd (upd (upd (upd (upd q17 87 (q17 7)) 88 (q17 10)) 89 (q17 12)) 90 t90) 91 t91) 15 t15) t15 t91 w R
abbrev F_law07_WorldSides_s15 (k5 : Env → Go.World → Prop) (q53 : Env) (t251 : Go.Value) (w : Go.World) (R : Go.Value → Go.World → Prop) : Prop :=
 condK t251
 (R (Go.Value.bool false) w)
 (binI Go.BinOp.add (q53 23) (Go.Value.int Go.IntKind.i64 1) fun t233 =>
 k5 (upd (upd (upd q53 232 (q53 23)) 233 t233) 23 t233) w)
abbrev F_law07_WorldSides_s16 (k5 : Env → Go.World → Prop) (q52 : Env) (t237 : Go.Value) (w : Go.World) (R : Go.Value → Go.World → Prop) : Prop :=
 extractK t237 0 fun t238 =>
 extractK t237 1 fun t239 =>
 binI Go.BinOp.neq t239 (Go.Value.int Go.IntKind.i64 0) fun t241 =>
 gopK t241 false (fun k => k (q52 7) w) w fun t243 w =>
 gopK t241 false (fun k => k (q52 23) w) w fun t244 w =>
 gopK t241 false (fun k => k t238 w) w fun t245 w =>
 gopK t241 false (fun k => callOn prog fn_World_Open #[t243, t244, t245] w k) w fun t246 w =>
 gopK t241 false (fun k => k (q52 7) w) w fun t247 w =>
 gopK t241 false (fun k => k (q52 23) w) w fun t248 w =>
 gopK t241 false (fun k => callOn prog fn_World_IsCut #[t247, t248] w k) w fun t249 w =>
 gopK t241 false (fun k => binB Go.BinOp.eql t246 t249 fun v => k v w) w fun t250 w =>
 pickK t241 (Go.Value.bool true) t250 fun t251 =>
 F_law07_WorldSides_s15 k5 (upd (upd (upd (upd (upd (upd (upd (upd (upd (upd (upd (upd (upd (upd (upd (upd (upd q52 234 t237) 238 t238) 239 t239) 24 t238) 25 t239) 240 t239) 241 t241) 242 t241) 243 t243) 244 t244) 245 t245) 246 t246) 247 t247) 248 t248) 249 t249) 250 t250) 251 t251) t251 w R
abbrev F_law07_WorldSides_s17 (k9 : Env → Go.World → Prop) (q58 : Env) (w : Go.World) : Prop :=
 gopK (q58 28) true (fun k => k (q58 7) w) w fun t264 w =>
 gopK (q58 28) true (fun k => k (q58 29) w) w fun t265 w =>
 gopK (q58 28) true (fun k => k (q58 27) w) w fun t266 w =>
 gopK (q58 28) true (fun k => callOn prog fn_World_Open #[t264, t265, t266] w k) w fun t267 w =>
 gopK (q58 28) true (fun k => unK Go.UnOp.not t267 fun v => k v w) w fun t268 w =>
 pickK (q58 28) t268 (Go.Value.bool false) fun t269 =>
 binI Go.BinOp.add (q58 29) (Go.Value.int Go.IntKind.i64 1) fun t261 =>
 k9 (upd (upd (upd (upd (upd (upd (upd (upd (upd (upd (upd (upd q58 262 (q58 28)) 263 (q58 28)) 264 t264) 265 t265) 266 t266) 267 t267) 268 t268) 269 t269) 28 t269) 260 (q58 29)) 261 t261) 29 t261) w
abbrev F_law07_WorldSides_s18 (J8 : Env → Go.World → Prop) (q60 : Env) (w : Go.World) : Prop :=
 condK (q60 28)
 (binI Go.BinOp.add (q60 26) (Go.Value.int Go.IntKind.i64 1) fun t272 =>
 J8 (upd (upd (upd (upd q60 270 (q60 28)) 271 (q60 26)) 272 t272) 26 t272) w)
 (J8 (upd q60 270 (q60 28)) w)
abbrev F_law07_WorldSides_s19 (J8 : Env → Go.World → Prop) (e9 : Env) (k9 : Env → Go.World → Prop) (w : Go.World) : Prop :=
 binI Go.BinOp.lss (e9 29) (e9 27) fun t259 =>
 condK t259
 (F_law07_WorldSides_s17 k9 (upd (upd (upd e9 257 (e9 29)) 258 (e9 27)) 259 t259) w)
 (F_law07_WorldSides_s18 J8 (upd (upd (upd e9 257 (e9 29)) 258 (e9 27)) 259 t259) w)
abbrev F_law07_WorldSides_s20 (k6 : Env → Go.World → Prop) (q57 : Env) (w : Go.World) : Prop :=
 let J7 : Env → Go.World → Prop := fun e7 w =>
 (binI Go.BinOp.add (e7 27) (Go.Value.int Go.IntKind.i64 1) fun t256 =>
 k6 (upd (upd (upd e7 255 (e7 27)) 256 t256) 27 t256) w)
 let J8 : Env → Go.World → Prop := fun e8 w =>
 (J7 e8 w)
 loopK (fun k9 e9 w =>
 F_law07_WorldSides_s19 J8 e9 k9 w) (upd (upd q57 28 (Go.Value.bool true)) 29 (Go.Value.int Go.IntKind.i64 0)) w
abbrev F_law07_WorldSides_s21 (q63 : Env) (w : Go.World) (R : Go.Value → Go.World → Prop) : Prop :=
 binI Go.BinOp.eql (q63 26) (q63 13) fun t275 =>
 gopK t275 true (fun k => callOn prog fn_law07_lives #[] w k) w fun t277 w =>
 pickK t275 t277 (Go.Value.bool false) fun t278 =>
 R t278 w
abbrev F_law07_WorldSides_s22 (e6 : Env) (k6 : Env → Go.World → Prop) (w : Go.World) (R : Go.Value → Go.World → Prop) : Prop :=
 binI Go.BinOp.lss (e6 27) (e6 9) fun t254 =>
 condK t254
 (F_law07_WorldSides_s20 k6 (upd (upd (upd e6 252 (e6 27)) 253 (e6 9)) 254 t254) w)
 (F_law07_WorldSides_s21 (upd (upd (upd e6 252 (e6 27)) 253 (e6 9)) 254 t254) w R)
abbrev F_law07_WorldSides_s23 (e5 : Env) (k5 : Env → Go.World → Prop) (w : Go.World) (R : Go.Value → Go.World → Prop) : Prop :=
 binI Go.BinOp.lss (e5 23) (e5 9) fun t231 =>
 condK t231
 (callOn prog fn_World_Parent #[((upd (upd (upd e5 229 (e5 23)) 230 (e5 9)) 231 t231) 7), ((upd (upd (upd e5 229 (e5 23)) 230 (e5 9)) 231 t231) 23)] w fun t237 w =>
 F_law07_WorldSides_s16 k5 (upd (upd (upd (upd (upd (upd e5 229 (e5 23)) 230 (e5 9)) 231 t231) 235 ((upd (upd (upd e5 229 (e5 23)) 230 (e5 9)) 231 t231) 7)) 236 ((upd (upd (upd e5 229 (e5 23)) 230 (e5 9)) 231 t231) 23)) 237 t237) t237 w R)
 (loopK (fun k6 e6 w =>
 F_law07_WorldSides_s22 e6 k6 w R) (upd (upd (upd (upd (upd e5 229 (e5 23)) 230 (e5 9)) 231 t231) 26 (Go.Value.int Go.IntKind.i64 0)) 27 (Go.Value.int Go.IntKind.i64 0)) w)
abbrev F_law07_WorldSides_s24 (q48 : Env) (t228 : Go.Value) (w : Go.World) (R : Go.Value → Go.World → Prop) : Prop :=
 condK t228
 (R (Go.Value.bool false) w)
 (loopK (fun k5 e5 w =>
 F_law07_WorldSides_s23 e5 k5 w R) (upd q48 23 (Go.Value.int Go.IntKind.i64 1)) w)
abbrev F_law07_WorldSides_s25 (q47 : Env) (t222 : Go.Value) (w : Go.World) (R : Go.Value → Go.World → Prop) : Prop :=
 gopK t222 false (fun k => k (q47 7) w) w fun t224 w =>
 gopK t222 false (fun k => k (q47 9) w) w fun t225 w =>
 gopK t222 false (fun k => k (q47 10) w) w fun t226 w =>
 gopK t222 false (fun k => callOn prog fn_World_Open #[t224, t225, t226] w k) w fun t227 w =>
 pickK t222 (Go.Value.bool true) t227 fun t228 =>
 F_law07_WorldSides_s24 (upd (upd (upd (upd (upd (upd q47 223 t222) 224 t224) 225 t225) 226 t226) 227 t227) 228 t228) t228 w R
abbrev F_law07_WorldSides_s26 (q46 : Env) (t217 : Go.Value) (w : Go.World) (R : Go.Value → Go.World → Prop) : Prop :=
 gopK t217 false (fun k => k (q46 7) w) w fun t219 w =>
 gopK t217 false (fun k => k (q46 10) w) w fun t220 w =>
 gopK t217 false (fun k => callOn prog fn_World_Open #[t219, t220, (Go.Value.int Go.IntKind.i64 (-1))] w k) w fun t221 w =>
 pickK t217 (Go.Value.bool true) t221 fun t222 =>
 F_law07_WorldSides_s25 (upd (upd (upd (upd (upd q46 218 t217) 219 t219) 220 t220) 221 t221) 222 t222) t222 w R
abbrev F_law07_WorldSides_s27 (q45 : Env) (t176 : Go.Value) (t180 : Go.Value) (t184 : Go.Value) (t207 : Go.Value) (w : Go.World) (R : Go.Value → Go.World → Prop) : Prop :=
 gopK t207 false (fun k => k t176 w) w fun t209 w =>
 gopK t207 false (fun k => k t209 w) w fun t210 w =>
 gopK t210 true (fun k => k t184 w) w fun t211 w =>
 gopK t207 false (fun k => pickK t210 t211 (Go.Value.bool false) fun v => k v w) w fun t212 w =>
 gopK t207 false (fun k => k t212 w) w fun t213 w =>
 gopK t213 true (fun k => k t180 w) w fun t214 w =>
 gopK t213 true (fun k => unK Go.UnOp.not t214 fun v => k v w) w fun t215 w =>
 gopK t207 false (fun k => pickK t213 t215 (Go.Value.bool false) fun v => k v w) w fun t216 w =>
 pickK t207 (Go.Value.bool true) t216 fun t217 =>
 F_law07_WorldSides_s26 (upd (upd (upd (upd (upd (upd (upd (upd (upd (upd q45 208 t207) 209 t209) 210 t210) 211 t211) 212 t212) 213 t213) 214 t214) 215 t215) 216 t216) 217 t217) t217 w R
abbrev F_law07_WorldSides_s28 (q44 : Env) (t176 : Go.Value) (t180 : Go.Value) (t184 : Go.Value) (t197 : Go.Value) (w : Go.World) (R : Go.Value → Go.World → Prop) : Prop :=
 gopK t197 false (fun k => k t176 w) w fun t199 w =>
 gopK t197 false (fun k => k t199 w) w fun t200 w =>
 gopK t200 true (fun k => k t180 w) w fun t201 w =>
 gopK t197 false (fun k => pickK t200 t201 (Go.Value.bool false) fun v => k v w) w fun t202 w =>
 gopK t197 false (fun k => k t202 w) w fun t203 w =>
 gopK t203 true (fun k => k t184 w) w fun t204 w =>
 gopK t203 true (fun k => unK Go.UnOp.not t204 fun v => k v w) w fun t205 w =>
 gopK t197 false (fun k => pickK t203 t205 (Go.Value.bool false) fun v => k v w) w fun t206 w =>
 pickK t197 (Go.Value.bool true) t206 fun t207 =>
 F_law07_WorldSides_s27 (upd (upd (upd (upd (upd (upd (upd (upd (upd (upd q44 198 t197) 199 t199) 200 t200) 201 t201) 202 t202) 203 t203) 204 t204) 205 t205) 206 t206) 207 t207) t176 t180 t184 t207 w R
abbrev F_law07_WorldSides_s29 (q43 : Env) (t176 : Go.Value) (t180 : Go.Value) (t184 : Go.Value) (t188 : Go.Value) (w : Go.World) (R : Go.Value → Go.World → Prop) : Prop :=
 unK Go.UnOp.not t188 fun t189 =>
 gopK t189 false (fun k => k t176 w) w fun t191 w =>
 gopK t189 false (fun k => k (q43 7) w) w fun t192 w =>
 gopK t189 false (fun k => k (q43 11) w) w fun t193 w =>
 gopK t189 false (fun k => k (q43 10) w) w fun t194 w =>
 gopK t189 false (fun k => callOn prog fn_World_Open #[t192, t193, t194] w k) w fun t195 w =>
 gopK t189 false (fun k => binB Go.BinOp.neq t191 t195 fun v => k v w) w fun t196 w =>
 pickK t189 (Go.Value.bool true) t196 fun t197 =>
 F_law07_WorldSides_s28 (upd (upd (upd (upd (upd (upd (upd (upd (upd q43 189 t189) 190 t189) 191 t191) 192 t192) 193 t193) 194 t194) 195 t195) 196 t196) 197 t197) t176 t180 t184 t197 w R
abbrev F_law07_WorldSides_s30 (q40 : Env) (t176 : Go.Value) (w : Go.World) (R : Go.Value → Go.World → Prop) : Prop :=
 callOn prog fn_World_Open #[(q40 7), (q40 11), (q40 12)] w fun t180 w =>
 callOn prog fn_World_Open #[((upd (upd (upd (upd q40 177 (q40 7)) 178 (q40 11)) 179 (q40 12)) 180 t180) 7), ((upd (upd (upd (upd q40 177 (q40 7)) 178 (q40 11)) 179 (q40 12)) 180 t180) 10), ((upd (upd (upd (upd q40 177 (q40 7)) 178 (q40 11)) 179 (q40 12)) 180 t180) 12)] w fun t184 w =>
 callOn prog fn_World_Open #[((upd (upd (upd (upd (upd (upd (upd (upd q40 177 (q40 7)) 178 (q40 11)) 179 (q40 12)) 180 t180) 181 ((upd (upd (upd (upd q40 177 (q40 7)) 178 (q40 11)) 179 (q40 12)) 180 t180) 7)) 182 ((upd (upd (upd (upd q40 177 (q40 7)) 178 (q40 11)) 179 (q40 12)) 180 t180) 10)) 183 ((upd (upd (upd (upd q40 177 (q40 7)) 178 (q40 11)) 179 (q40 12)) 180 t180) 12)) 184 t184) 7), ((upd (upd (upd (upd (upd (upd (upd (upd q40 177 (q40 7)) 178 (q40 11)) 179 (q40 12)) 180 t180) 181 ((upd (upd (upd (upd q40 177 (q40 7)) 178 (q40 11)) 179 (q40 12)) 180 t180) 7)) 182 ((upd (upd (upd (upd q40 177 (q40 7)) 178 (q40 11)) 179 (q40 12)) 180 t180) 10)) 183 ((upd (upd (upd (upd q40 177 (q40 7)) 178 (q40 11)) 179 (q40 12)) 180 t180) 12)) 184 t184) 10), ((upd (upd (upd (upd (upd (upd (upd (upd q40 177 (q40 7)) 178 (q40 11)) 179 (q40 12)) 180 t180) 181 ((upd (upd (upd (upd q40 177 (q40 7)) 178 (q40 11)) 179 (q40 12)) 180 t180) 7)) 182 ((upd (upd (upd (upd q40 177 (q40 7)) 178 (q40 11)) 179 (q40 12)) 180 t180) 10)) 183 ((upd (upd (upd (upd q40 177 (q40 7)) 178 (q40 11)) 179 (q40 12)) 180 t180) 12)) 184 t184) 10)] w fun t188 w =>
 F_law07_WorldSides_s29 (upd (upd (upd (upd (upd (upd (upd (upd (upd (upd (upd (upd (upd (upd (upd q40 177 (q40 7)) 178 (q40 11)) 179 (q40 12)) 180 t180) 181 ((upd (upd (upd (upd q40 177 (q40 7)) 178 (q40 11)) 179 (q40 12)) 180 t180) 7)) 182 ((upd (upd (upd (upd q40 177 (q40 7)) 178 (q40 11)) 179 (q40 12)) 180 t180) 10)) 183 ((upd (upd (upd (upd q40 177 (q40 7)) 178 (q40 11)) 179 (q40 12)) 180 t180) 12)) 184 t184) 20 t176) 21 t180) 22 t184) 185 ((upd (upd (upd (upd (upd (upd (upd (upd q40 177 (q40 7)) 178 (q40 11)) 179 (q40 12)) 180 t180) 181 ((upd (upd (upd (upd q40 177 (q40 7)) 178 (q40 11)) 179 (q40 12)) 180 t180) 7)) 182 ((upd (upd (upd (upd q40 177 (q40 7)) 178 (q40 11)) 179 (q40 12)) 180 t180) 10)) 183 ((upd (upd (upd (upd q40 177 (q40 7)) 178 (q40 11)) 179 (q40 12)) 180 t180) 12)) 184 t184) 7)) 186 ((upd (upd (upd (upd (upd (upd (upd (upd q40 177 (q40 7)) 178 (q40 11)) 179 (q40 12)) 180 t180) 181 ((upd (upd (upd (upd q40 177 (q40 7)) 178 (q40 11)) 179 (q40 12)) 180 t180) 7)) 182 ((upd (upd (upd (upd q40 177 (q40 7)) 178 (q40 11)) 179 (q40 12)) 180 t180) 10)) 183 ((upd (upd (upd (upd q40 177 (q40 7)) 178 (q40 11)) 179 (q40 12)) 180 t180) 12)) 184 t184) 10)) 187 ((upd (upd (upd (upd (upd (upd (upd (upd q40 177 (q40 7)) 178 (q40 11)) 179 (q40 12)) 180 t180) 181 ((upd (upd (upd (upd q40 177 (q40 7)) 178 (q40 11)) 179 (q40 12)) 180 t180) 7)) 182 ((upd (upd (upd (upd q40 177 (q40 7)) 178 (q40 11)) 179 (q40 12)) 180 t180) 10)) 183 ((upd (upd (upd (upd q40 177 (q40 7)) 178 (q40 11)) 179 (q40 12)) 180 t180) 12)) 184 t184) 10)) 188 t188) t176 t180 t184 t188 w R
abbrev F_law07_WorldSides_s31 (k2 : Env → Go.World → Prop) (q14 : Env) (t76 : Go.Value) (w : Go.World) (R : Go.Value → Go.World → Prop) : Prop :=
 condK t76
 (callOn prog fn_World_Open #[(q14 7), (q14 10), (q14 11)] w fun t82 w =>
 callOn prog fn_World_Open #[((upd (upd (upd (upd q14 79 (q14 7)) 80 (q14 10)) 81 (q14 11)) 82 t82) 7), ((upd (upd (upd (upd q14 79 (q14 7)) 80 (q14 10)) 81 (q14 11)) 82 t82) 11), ((upd (upd (upd (upd q14 79 (q14 7)) 80 (q14 10)) 81 (q14 11)) 82 t82) 12)] w fun t86 w =>
 F_law07_WorldSides_s14 k2 (upd (upd (upd (upd (upd (upd (upd (upd q14 79 (q14 7)) 80 (q14 10)) 81 (q14 11)) 82 t82) 83 ((upd (upd (upd (upd q14 79 (q14 7)) 80 (q14 10)) 81 (q14 11)) 82 t82) 7)) 84 ((upd (upd (upd (upd q14 79 (q14 7)) 80 (q14 10)) 81 (q14 11)) 82 t82) 11)) 85 ((upd (upd (upd (upd q14 79 (q14 7)) 80 (q14 10)) 81 (q14 11)) 82 t82) 12)) 86 t86) t82 t86 w R)
 (callOn prog fn_World_Open #[(q14 7), (q14 10), (q14 11)] w fun t176 w =>
 F_law07_WorldSides_s30 (upd (upd (upd (upd q14 173 (q14 7)) 174 (q14 10)) 175 (q14 11)) 176 t176) t176 w R)
abbrev F_law07_WorldSides_s32 (e2 : Env) (k2 : Env → Go.World → Prop) (q13 : Env) (t71 : Go.Value) (w : Go.World) (R : Go.Value → Go.World → Prop) : Prop :=
 binI Go.BinOp.lss (e2 14) t71 fun t72 =>
 gopK t72 true (fun k => k (q13 14) w) w fun t74 w =>
 gopK t72 true (fun k => binI Go.BinOp.lss t74 (Go.Value.int Go.IntKind.i64 40) fun v => k v w) w fun t75 w =>
 pickK t72 t75 (Go.Value.bool false) fun t76 =>
 F_law07_WorldSides_s31 k2 (upd (upd (upd (upd (upd q13 72 t72) 73 t72) 74 t74) 75 t75) 76 t76) t76 w R
abbrev F_law07_WorldSides_s33 (q12 : Env) (w : Go.World) (R : Go.Value → Go.World → Prop) : Prop :=
 drawK prog law07_WorldSides_R7 q12 w.drew fun e1 w =>
 loopK (fun k2 e2 w =>
 lenL (e2 1) fun t71 =>
 F_law07_WorldSides_s32 e2 k2 (upd (upd (upd e2 69 (e2 14)) 70 (e2 1)) 71 t71) t71 w R) (upd (upd e1 13 (Go.Value.int Go.IntKind.i64 1)) 14 (Go.Value.int Go.IntKind.i64 0)) w
abbrev F_law07_WorldSides_s34 (q10 : Env) (t51 : Go.Value) (t54 : Go.Value) (w : Go.World) (R : Go.Value → Go.World → Prop) : Prop :=
 binI Go.BinOp.add t54 (Go.Value.int Go.IntKind.i64 1) fun t55 =>
 binI Go.BinOp.neq t51 t55 fun t56 =>
 condK t56
 (R (Go.Value.bool false) w)
 (F_law07_WorldSides_s33 (upd (upd q10 55 t55) 56 t56) w R)
abbrev F_law07_WorldSides_s35 (a0 : Go.Value) (q3 : Env) (t33 : Go.Value) (t34 : Go.Value) (t40 : Go.Value) (w : Go.World) (R : Go.Value → Go.World → Prop) : Prop :=
 condK t40
 (F_law07_WorldSides_s1 t33 t34 w R)
 (callOn prog fn_World_Sides #[t33] w fun t51 w =>
 lenL a0 fun t54 =>
 F_law07_WorldSides_s34 (upd (upd (upd (upd (upd (upd q3 50 t33) 51 t51) 9 t51) 52 t51) 53 a0) 54 t54) t51 t54 w R)
abbrev F_law07_WorldSides_s36 (a0 : Go.Value) (q2 : Env) (t32 : Go.Value) (w : Go.World) (R : Go.Value → Go.World → Prop) : Prop :=
 extractK t32 0 fun t33 =>
 extractK t32 1 fun t34 =>
 binI Go.BinOp.neq t34 (Go.Value.int Go.IntKind.i64 0) fun t36 =>
 gopK t36 false (fun k => k t33 w) w fun t38 w =>
 gopK t36 false (fun k => binP Go.BinOp.eql t38 (Go.Value.pointer .none) fun v => k v w) w fun t39 w =>
 pickK t36 (Go.Value.bool true) t39 fun t40 =>
 F_law07_WorldSides_s35 a0 (upd (upd (upd (upd (upd (upd (upd (upd (upd (upd (upd q2 30 t32) 33 t33) 34 t34) 7 t33) 8 t34) 35 t34) 36 t36) 37 t36) 38 t38) 39 t39) 40 t40) t33 t34 t40 w R
/-- postern/posternlaw07.WorldSides -/
def F_law07_WorldSides (a0 : Go.Value) (a1 : Go.Value) (a2 : Go.Value) (w : Go.World) (R : Go.Value → Go.World → Prop) : Prop :=
 boxK 26 a2 w fun t5 w =>
 callOn prog fn_world_New #[a0] w fun t32 w =>
 F_law07_WorldSides_s36 a0 (upd (upd (upd (upd (start [a0, a1, a2]) 5 t5) 6 (Go.Value.bool false)) 31 a0) 32 t32) t32 w R
theorem F_law07_WorldSides_eq (a0 : Go.Value) (a1 : Go.Value) (a2 : Go.Value) (w : Go.World) (R : Go.Value → Go.World → Prop) : cK prog (bodyOf Try.f4) (resK prog Try.f4.results.toList R) (start [a0, a1, a2]) w = F_law07_WorldSides a0 a1 a2 w R := by kernel_rfl
theorem F_law07_WorldSides_on (a0 : Go.Value) (a1 : Go.Value) (a2 : Go.Value) (w : Go.World) (k : Go.Value → Go.World → Prop) (h : F_law07_WorldSides a0 a1 a2 w k) : callOn prog fn_law07_WorldSides #[a0, a1, a2] w k :=
  calls_list (args := [a0, a1, a2]) mixed Try.func4 (by kernel_rfl) (by kernel_rfl) (Eq.mpr (F_law07_WorldSides_eq a0 a1 a2 w _) (Eq.mpr (congrArg (F_law07_WorldSides a0 a1 a2 w) (on_eq k)) h))


end Go.X
