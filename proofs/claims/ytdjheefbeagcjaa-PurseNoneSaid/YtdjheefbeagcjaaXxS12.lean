/- The calculator's word on functions of this program, each with its proof: written by a program of this family (shallow.py). -/
import Derived.Test.YtdjheefbeagcjaaXxP
set_option linter.unusedVariables false
set_option maxRecDepth 100000
namespace Go.X
open Go Go.Proofs
abbrev F_law10_PurseBack_s1 (t34 : Go.Value) (t39 : Go.Value) (w : Go.World) (R : Go.Value → Go.World → Prop) : Prop :=
 binI Go.BinOp.eql t34 (Go.Value.int Go.IntKind.i64 0) fun t57 =>
 gopK t57 true (fun k => k t39 w) w fun t59 w =>
 gopK t57 true (fun k => binI Go.BinOp.eql t59 (Go.Value.int Go.IntKind.i64 0) fun v => k v w) w fun t60 w =>
 pickK t57 t60 (Go.Value.bool false) fun t61 =>
 gopK t61 true (fun k => callOn prog fn_law10_lives #[] w k) w fun t63 w =>
 pickK t61 t63 (Go.Value.bool false) fun t64 =>
 R t64 w
abbrev F_law10_PurseBack_s2 (k1 : Env → Go.World → Prop) (q15 : Env) (t80 : Go.Value) (w : Go.World) : Prop :=
 indexS 1 (q15 0) (q15 13) fun t87 =>
 load1 t87 w fun t88 =>
 convI Go.IntKind.i64 t88 fun t89 =>
 binI Go.BinOp.add (q15 12) t89 fun t90 =>
 buildL 40 1 (Go.Value.int Go.IntKind.i64 0) 1 [(0, t80)] w fun t93 w =>
 appendS 40 1 8 (Go.Value.int Go.IntKind.i64 0) (q15 11) t93 w fun t94 w =>
 binI Go.BinOp.add (q15 13) (Go.Value.int Go.IntKind.i64 1) fun t70 =>
 k1 (upd (upd (upd (upd (upd (upd (upd (upd (upd (upd (upd (upd (upd (upd (upd (upd q15 84 (q15 12)) 85 (q15 0)) 86 (q15 13)) 87 t87) 88 t88) 89 t89) 90 t90) 12 t90) 91 (q15 11)) 92 t80) 93 t93) 94 t94) 11 t94) 69 (q15 13)) 70 t70) 13 t70) w
abbrev F_law10_PurseBack_s3 (k1 : Env → Go.World → Prop) (q13 : Env) (t79 : Go.Value) (w : Go.World) (R : Go.Value → Go.World → Prop) : Prop :=
 extractK t79 0 fun t80 =>
 extractK t79 1 fun t81 =>
 binI Go.BinOp.neq t81 (Go.Value.int Go.IntKind.i64 0) fun t83 =>
 condK t83
 (R (Go.Value.bool false) w)
 (F_law10_PurseBack_s2 k1 (upd (upd (upd (upd (upd (upd (upd q13 71 t79) 80 t80) 81 t81) 14 t80) 15 t81) 82 t81) 83 t83) t80 w)
abbrev F_law10_PurseBack_s4 (k1 : Env → Go.World → Prop) (q12 : Env) (w : Go.World) (R : Go.Value → Go.World → Prop) : Prop :=
 indexS 1 (q12 0) (q12 13) fun t76 =>
 load1 t76 w fun t77 =>
 convI Go.IntKind.i64 t77 fun t78 =>
 callOn prog fn_purse_Ask #[(q12 7), (q12 9), t78] w fun t79 w =>
 F_law10_PurseBack_s3 k1 (upd (upd (upd (upd (upd (upd (upd (upd q12 72 (q12 7)) 73 (q12 9)) 74 (q12 0)) 75 (q12 13)) 76 t76) 77 t77) 78 t78) 79 t79) t79 w R
abbrev F_law10_PurseBack_s5 (k3 : Env → Go.World → Prop) (q28 : Env) (t196 : Go.Value) (t202 : Go.Value) (w : Go.World) (R : Go.Value → Go.World → Prop) : Prop :=
 binI Go.BinOp.eql t202 (Go.Value.int Go.IntKind.i64 0) fun t204 =>
 indexS 1 (q28 11) (Go.Value.int Go.IntKind.i64 0) fun t207 =>
 load1 t207 w fun t208 =>
 binI Go.BinOp.neq t196 t208 fun t209 =>
 binB Go.BinOp.neq t204 t209 fun t210 =>
 condK t210
 (R (Go.Value.bool false) w)
 (binI Go.BinOp.add (q28 25) (Go.Value.int Go.IntKind.i64 1) fun t180 =>
 k3 (upd (upd (upd (upd (upd (upd (upd (upd (upd (upd (upd (upd q28 27 t202) 203 t202) 204 t204) 205 t196) 206 (q28 11)) 207 t207) 208 t208) 209 t209) 210 t210) 179 (q28 25)) 180 t180) 25 t180) w)
abbrev F_law10_PurseBack_s6 (k3 : Env → Go.World → Prop) (q24 : Env) (q27 : Env) (t191 : Go.Value) (t193 : Go.Value) (w : Go.World) (R : Go.Value → Go.World → Prop) : Prop :=
 binI Go.BinOp.rem t191 t193 fun t194 =>
 indexS 1 (q24 11) t194 fun t195 =>
 load1 t195 w fun t196 =>
 indexS 1 (q27 11) (Go.Value.int Go.IntKind.i64 0) fun t199 =>
 load1 t199 w fun t200 =>
 callOn prog fn_purse_Move #[(q27 7), t200, t196] w fun t202 w =>
 F_law10_PurseBack_s5 k3 (upd (upd (upd (upd (upd (upd (upd (upd (upd (upd q27 194 t194) 195 t195) 196 t196) 26 t196) 197 (q27 7)) 198 (q27 11)) 199 t199) 200 t200) 201 t196) 202 t202) t196 t202 w R
abbrev F_law10_PurseBack_s7 (k3 : Env → Go.World → Prop) (q24 : Env) (q25 : Env) (t185 : Go.Value) (t187 : Go.Value) (w : Go.World) (R : Go.Value → Go.World → Prop) : Prop :=
 binI Go.BinOp.rem t185 t187 fun t188 =>
 lenL (q25 11) fun t190 =>
 binI Go.BinOp.add t188 t190 fun t191 =>
 lenL ((upd (upd (upd q25 188 t188) 189 (q25 11)) 190 t190) 11) fun t193 =>
 F_law10_PurseBack_s6 k3 q24 (upd (upd (upd (upd (upd (upd q25 188 t188) 189 (q25 11)) 190 t190) 191 t191) 192 ((upd (upd (upd q25 188 t188) 189 (q25 11)) 190 t190) 11)) 193 t193) t191 t193 w R
abbrev F_law10_PurseBack_s8 (k3 : Env → Go.World → Prop) (q24 : Env) (w : Go.World) (R : Go.Value → Go.World → Prop) : Prop :=
 indexS 1 (q24 1) (q24 25) fun t184 =>
 load1 t184 w fun t185 =>
 lenL (q24 11) fun t187 =>
 F_law10_PurseBack_s7 k3 q24 (upd (upd (upd (upd (upd (upd (upd q24 181 (q24 11)) 182 (q24 1)) 183 (q24 25)) 184 t184) 185 t185) 186 (q24 11)) 187 t187) t185 t187 w R
abbrev F_law10_PurseBack_s9 (k4 : Env → Go.World → Prop) (q34 : Env) (t225 : Go.Value) (w : Go.World) (R : Go.Value → Go.World → Prop) : Prop :=
 binI Go.BinOp.neq t225 (Go.Value.int Go.IntKind.i64 0) fun t226 =>
 condK t226
 (R (Go.Value.bool false) w)
 (binI Go.BinOp.add (q34 28) (Go.Value.int Go.IntKind.i64 1) fun t216 =>
 k4 (upd (upd (upd (upd q34 226 t226) 215 (q34 28)) 216 t216) 28 t216) w)
abbrev F_law10_PurseBack_s10 (k4 : Env → Go.World → Prop) (q33 : Env) (w : Go.World) (R : Go.Value → Go.World → Prop) : Prop :=
 atDrew w fun (w : Go.World) =>
 indexS 1 (q33 11) (Go.Value.int Go.IntKind.i64 0) fun t219 =>
 load1 t219 w fun t220 =>
 indexS 1 (q33 11) (q33 28) fun t223 =>
 load1 t223 w fun t224 =>
 callOn prog fn_purse_Move #[(q33 7), t220, t224] w fun t225 w =>
 F_law10_PurseBack_s9 k4 (upd (upd (upd (upd (upd (upd (upd (upd (upd q33 217 (q33 7)) 218 (q33 11)) 219 t219) 220 t220) 221 (q33 11)) 222 (q33 28)) 223 t223) 224 t224) 225 t225) t225 w R
abbrev F_law10_PurseBack_s11 (q38 : Env) (t232 : Go.Value) (w : Go.World) (R : Go.Value → Go.World → Prop) : Prop :=
 extractK t232 0 fun t233 =>
 extractK t232 1 fun t234 =>
 binI Go.BinOp.eql t233 (q38 12) fun t237 =>
 gopK t237 true (fun k => callOn prog fn_law10_lives #[] w k) w fun t239 w =>
 pickK t237 t239 (Go.Value.bool false) fun t240 =>
 R t240 w
abbrev F_law10_PurseBack_s12 (q37 : Env) (w : Go.World) (R : Go.Value → Go.World → Prop) : Prop :=
 indexS 1 (q37 11) (Go.Value.int Go.IntKind.i64 0) fun t230 =>
 load1 t230 w fun t231 =>
 callOn prog fn_purse_Get #[(q37 7), t231] w fun t232 w =>
 F_law10_PurseBack_s11 (upd (upd (upd (upd (upd q37 228 (q37 7)) 229 (q37 11)) 230 t230) 231 t231) 232 t232) t232 w R
abbrev F_law10_PurseBack_s13 (e4 : Env) (k4 : Env → Go.World → Prop) (q32 : Env) (t213 : Go.Value) (w : Go.World) (R : Go.Value → Go.World → Prop) : Prop :=
 binI Go.BinOp.lss (e4 28) t213 fun t214 =>
 condK t214
 (F_law10_PurseBack_s10 k4 (upd q32 214 t214) w R)
 (F_law10_PurseBack_s12 (upd q32 214 t214) w R)
abbrev F_law10_PurseBack_s14 (k3 : Env → Go.World → Prop) (q23 : Env) (t178 : Go.Value) (w : Go.World) (R : Go.Value → Go.World → Prop) : Prop :=
 condK t178
 (F_law10_PurseBack_s8 k3 q23 w R)
 (loopK (fun k4 e4 w =>
 lenL (e4 11) fun t213 =>
 F_law10_PurseBack_s13 e4 k4 (upd (upd (upd e4 211 (e4 28)) 212 (e4 11)) 213 t213) t213 w R) (upd q23 28 (Go.Value.int Go.IntKind.i64 1)) w)
abbrev F_law10_PurseBack_s15 (e3 : Env) (k3 : Env → Go.World → Prop) (q22 : Env) (t173 : Go.Value) (w : Go.World) (R : Go.Value → Go.World → Prop) : Prop :=
 binI Go.BinOp.lss (e3 25) t173 fun t174 =>
 gopK t174 true (fun k => k (q22 25) w) w fun t176 w =>
 gopK t174 true (fun k => binI Go.BinOp.lss t176 (Go.Value.int Go.IntKind.i64 100) fun v => k v w) w fun t177 w =>
 pickK t174 t177 (Go.Value.bool false) fun t178 =>
 F_law10_PurseBack_s14 k3 (upd (upd (upd (upd (upd q22 174 t174) 175 t174) 176 t176) 177 t177) 178 t178) t178 w R
abbrev F_law10_PurseBack_s16 (e2 : Env) (w : Go.World) (R : Go.Value → Go.World → Prop) : Prop :=
 loopK (fun k3 e3 w =>
 lenL (e3 1) fun t173 =>
 F_law10_PurseBack_s15 e3 k3 (upd (upd (upd e3 171 (e3 25)) 172 (e3 1)) 173 t173) t173 w R) (upd e2 25 (Go.Value.int Go.IntKind.i64 0)) w
abbrev F_law10_PurseBack_s17 (J2 : Env → Go.World → Prop) (q46 : Env) (t145 : Go.Value) (t166 : Go.Value) (w : Go.World) (R : Go.Value → Go.World → Prop) : Prop :=
 gopK t166 false (fun k => k t145 w) w fun t168 w =>
 gopK t166 false (fun k => binI Go.BinOp.neq t168 (Go.Value.int Go.IntKind.i64 0) fun v => k v w) w fun t169 w =>
 pickK t166 (Go.Value.bool true) t169 fun t170 =>
 condK t170
 (R (Go.Value.bool false) w)
 (J2 (upd (upd (upd (upd q46 167 t166) 168 t168) 169 t169) 170 t170) w)
abbrev F_law10_PurseBack_s18 (J2 : Env → Go.World → Prop) (q45 : Env) (t139 : Go.Value) (t145 : Go.Value) (t158 : Go.Value) (w : Go.World) (R : Go.Value → Go.World → Prop) : Prop :=
 gopK t158 false (fun k => k t139 w) w fun t160 w =>
 gopK t158 false (fun k => k (q45 0) w) w fun t161 w =>
 gopK t158 false (fun k => indexS 1 t161 (Go.Value.int Go.IntKind.i64 0) fun v => k v w) w fun t162 w =>
 gopK t158 false (fun k => load1 t162 w fun v => k v w) w fun t163 w =>
 gopK t158 false (fun k => convI Go.IntKind.i64 t163 fun v => k v w) w fun t164 w =>
 gopK t158 false (fun k => binI Go.BinOp.neq t160 t164 fun v => k v w) w fun t165 w =>
 pickK t158 (Go.Value.bool true) t165 fun t166 =>
 F_law10_PurseBack_s17 J2 (upd (upd (upd (upd (upd (upd (upd (upd q45 159 t158) 160 t160) 161 t161) 162 t162) 163 t163) 164 t164) 165 t165) 166 t166) t145 t166 w R
abbrev F_law10_PurseBack_s19 (J2 : Env → Go.World → Prop) (q44 : Env) (t125 : Go.Value) (t132 : Go.Value) (t139 : Go.Value) (t144 : Go.Value) (w : Go.World) (R : Go.Value → Go.World → Prop) : Prop :=
 extractK t144 0 fun t145 =>
 extractK t144 1 fun t146 =>
 indexS 1 (q44 0) (Go.Value.int Go.IntKind.i64 0) fun t149 =>
 load1 t149 w fun t150 =>
 convI Go.IntKind.i64 t150 fun t151 =>
 binI Go.BinOp.sub t151 (q44 2) fun t153 =>
 binI Go.BinOp.neq t125 t153 fun t154 =>
 gopK t154 false (fun k => k t132 w) w fun t156 w =>
 gopK t154 false (fun k => binI Go.BinOp.neq t156 (Go.Value.int Go.IntKind.i64 0) fun v => k v w) w fun t157 w =>
 pickK t154 (Go.Value.bool true) t157 fun t158 =>
 F_law10_PurseBack_s18 J2 (upd (upd (upd (upd (upd (upd (upd (upd (upd (upd (upd (upd (upd (upd (upd (upd (upd q44 141 t144) 145 t145) 146 t146) 23 t145) 24 t146) 147 t125) 148 (q44 0)) 149 t149) 150 t150) 151 t151) 152 (q44 2)) 153 t153) 154 t154) 155 t154) 156 t156) 157 t157) 158 t158) t139 t145 t158 w R
abbrev F_law10_PurseBack_s20 (J2 : Env → Go.World → Prop) (q43 : Env) (t102 : Go.Value) (t125 : Go.Value) (t132 : Go.Value) (t138 : Go.Value) (w : Go.World) (R : Go.Value → Go.World → Prop) : Prop :=
 extractK t138 0 fun t139 =>
 extractK t138 1 fun t140 =>
 callOn prog fn_purse_Get #[(q43 7), t102] w fun t144 w =>
 F_law10_PurseBack_s19 J2 (upd (upd (upd (upd (upd (upd (upd (upd q43 133 t138) 139 t139) 140 t140) 21 t139) 22 t140) 142 (q43 7)) 143 t102) 144 t144) t125 t132 t139 t144 w R
abbrev F_law10_PurseBack_s21 (J2 : Env → Go.World → Prop) (q42 : Env) (t102 : Go.Value) (t125 : Go.Value) (t132 : Go.Value) (w : Go.World) (R : Go.Value → Go.World → Prop) : Prop :=
 indexS 1 (q42 11) (Go.Value.int Go.IntKind.i64 0) fun t136 =>
 load1 t136 w fun t137 =>
 callOn prog fn_purse_Get #[(q42 7), t137] w fun t138 w =>
 F_law10_PurseBack_s20 J2 (upd (upd (upd (upd (upd (upd q42 20 t132) 134 (q42 7)) 135 (q42 11)) 136 t136) 137 t137) 138 t138) t102 t125 t132 t138 w R
abbrev F_law10_PurseBack_s22 (J2 : Env → Go.World → Prop) (q41 : Env) (t102 : Go.Value) (t124 : Go.Value) (w : Go.World) (R : Go.Value → Go.World → Prop) : Prop :=
 extractK t124 0 fun t125 =>
 extractK t124 1 fun t126 =>
 indexS 1 (q41 11) (Go.Value.int Go.IntKind.i64 0) fun t129 =>
 load1 t129 w fun t130 =>
 callOn prog fn_purse_Move #[(q41 7), t130, t102] w fun t132 w =>
 F_law10_PurseBack_s21 J2 (upd (upd (upd (upd (upd (upd (upd (upd (upd (upd (upd q41 119 t124) 125 t125) 126 t126) 18 t125) 19 t126) 127 (q41 7)) 128 (q41 11)) 129 t129) 130 t130) 131 t102) 132 t132) t102 t125 t132 w R
abbrev F_law10_PurseBack_s23 (J2 : Env → Go.World → Prop) (q40 : Env) (t102 : Go.Value) (w : Go.World) (R : Go.Value → Go.World → Prop) : Prop :=
 indexS 1 (q40 11) (Go.Value.int Go.IntKind.i64 0) fun t122 =>
 load1 t122 w fun t123 =>
 callOn prog fn_purse_Get #[(q40 7), t123] w fun t124 w =>
 F_law10_PurseBack_s22 J2 (upd (upd (upd (upd (upd q40 120 (q40 7)) 121 (q40 11)) 122 t122) 123 t123) 124 t124) t102 t124 w R
abbrev F_law10_PurseBack_s24 (q21 : Env) (t102 : Go.Value) (t103 : Go.Value) (w : Go.World) (R : Go.Value → Go.World → Prop) : Prop :=
 let J2 : Env → Go.World → Prop := fun e2 w =>
 (F_law10_PurseBack_s16 e2 w R)
 binI Go.BinOp.eql t103 (Go.Value.int Go.IntKind.i64 0) fun t118 =>
 condK t118
 (F_law10_PurseBack_s23 J2 (upd (upd q21 117 t103) 118 t118) t102 w R)
 (J2 (upd (upd q21 117 t103) 118 t118) w)
abbrev F_law10_PurseBack_s25 (q19 : Env) (t102 : Go.Value) (t103 : Go.Value) (t105 : Go.Value) (t115 : Go.Value) (w : Go.World) (R : Go.Value → Go.World → Prop) : Prop :=
 binB Go.BinOp.neq t105 t115 fun t116 =>
 condK t116
 (R (Go.Value.bool false) w)
 (F_law10_PurseBack_s24 (upd q19 116 t116) t102 t103 w R)
abbrev F_law10_PurseBack_s26 (q18 : Env) (t101 : Go.Value) (w : Go.World) (R : Go.Value → Go.World → Prop) : Prop :=
 extractK t101 0 fun t102 =>
 extractK t101 1 fun t103 =>
 binI Go.BinOp.eql t103 (Go.Value.int Go.IntKind.i64 0) fun t105 =>
 binI Go.BinOp.geq (q18 2) (Go.Value.int Go.IntKind.i64 0) fun t107 =>
 gopK t107 true (fun k => k (q18 2) w) w fun t109 w =>
 gopK t107 true (fun k => k (q18 0) w) w fun t110 w =>
 gopK t107 true (fun k => indexS 1 t110 (Go.Value.int Go.IntKind.i64 0) fun v => k v w) w fun t111 w =>
 gopK t107 true (fun k => load1 t111 w fun v => k v w) w fun t112 w =>
 gopK t107 true (fun k => convI Go.IntKind.i64 t112 fun v => k v w) w fun t113 w =>
 gopK t107 true (fun k => binI Go.BinOp.leq t109 t113 fun v => k v w) w fun t114 w =>
 pickK t107 t114 (Go.Value.bool false) fun t115 =>
 F_law10_PurseBack_s25 (upd (upd (upd (upd (upd (upd (upd (upd (upd (upd (upd (upd (upd (upd (upd (upd (upd q18 95 t101) 102 t102) 103 t103) 16 t102) 17 t103) 104 t103) 105 t105) 106 (q18 2)) 107 t107) 108 t107) 109 t109) 110 t110) 111 t111) 112 t112) 113 t113) 114 t114) 115 t115) t102 t103 t105 t115 w R
abbrev F_law10_PurseBack_s27 (q17 : Env) (w : Go.World) (R : Go.Value → Go.World → Prop) : Prop :=
 indexS 1 (q17 11) (Go.Value.int Go.IntKind.i64 0) fun t98 =>
 load1 t98 w fun t99 =>
 callOn prog fn_purse_Take #[(q17 7), t99, (q17 2)] w fun t101 w =>
 F_law10_PurseBack_s26 (upd (upd (upd (upd (upd (upd q17 96 (q17 7)) 97 (q17 11)) 98 t98) 99 t99) 100 (q17 2)) 101 t101) t101 w R
abbrev F_law10_PurseBack_s28 (e1 : Env) (k1 : Env → Go.World → Prop) (q11 : Env) (t67 : Go.Value) (w : Go.World) (R : Go.Value → Go.World → Prop) : Prop :=
 binI Go.BinOp.lss (e1 13) t67 fun t68 =>
 condK t68
 (F_law10_PurseBack_s4 k1 (upd q11 68 t68) w R)
 (F_law10_PurseBack_s27 (upd q11 68 t68) w R)
abbrev F_law10_PurseBack_s29 (q5 : Env) (t34 : Go.Value) (t39 : Go.Value) (t55 : Go.Value) (w : Go.World) (R : Go.Value → Go.World → Prop) : Prop :=
 condK t55
 (F_law10_PurseBack_s1 t34 t39 w R)
 (loopK (fun k1 e1 w =>
 lenL (e1 0) fun t67 =>
 F_law10_PurseBack_s28 e1 k1 (upd (upd (upd e1 65 (e1 13)) 66 (e1 0)) 67 t67) t67 w R) (upd (upd (upd q5 11 (Go.Value.slice .none 0 0)) 12 (Go.Value.int Go.IntKind.i64 0)) 13 (Go.Value.int Go.IntKind.i64 0)) w)
abbrev F_law10_PurseBack_s30 (a0 : Go.Value) (q4 : Env) (t34 : Go.Value) (t39 : Go.Value) (t50 : Go.Value) (w : Go.World) (R : Go.Value → Go.World → Prop) : Prop :=
 gopK t50 false (fun k => k a0 w) w fun t52 w =>
 gopK t50 false (fun k => lenL t52 fun v => k v w) w fun t53 w =>
 gopK t50 false (fun k => binI Go.BinOp.gtr t53 (Go.Value.int Go.IntKind.i64 60) fun v => k v w) w fun t54 w =>
 pickK t50 (Go.Value.bool true) t54 fun t55 =>
 F_law10_PurseBack_s29 (upd (upd (upd (upd (upd q4 51 t50) 52 t52) 53 t53) 54 t54) 55 t55) t34 t39 t55 w R
abbrev F_law10_PurseBack_s31 (a0 : Go.Value) (q3 : Env) (t34 : Go.Value) (t39 : Go.Value) (t45 : Go.Value) (w : Go.World) (R : Go.Value → Go.World → Prop) : Prop :=
 gopK t45 false (fun k => k a0 w) w fun t47 w =>
 gopK t45 false (fun k => lenL t47 fun v => k v w) w fun t48 w =>
 gopK t45 false (fun k => binI Go.BinOp.eql t48 (Go.Value.int Go.IntKind.i64 0) fun v => k v w) w fun t49 w =>
 pickK t45 (Go.Value.bool true) t49 fun t50 =>
 F_law10_PurseBack_s30 a0 (upd (upd (upd (upd (upd q3 46 t45) 47 t47) 48 t48) 49 t49) 50 t50) t34 t39 t50 w R
abbrev F_law10_PurseBack_s32 (a0 : Go.Value) (q2 : Env) (t34 : Go.Value) (t37 : Go.Value) (w : Go.World) (R : Go.Value → Go.World → Prop) : Prop :=
 extractK t37 0 fun t38 =>
 extractK t37 1 fun t39 =>
 binI Go.BinOp.neq t34 (Go.Value.int Go.IntKind.i64 0) fun t41 =>
 gopK t41 false (fun k => k t39 w) w fun t43 w =>
 gopK t41 false (fun k => binI Go.BinOp.neq t43 (Go.Value.int Go.IntKind.i64 0) fun v => k v w) w fun t44 w =>
 pickK t41 (Go.Value.bool true) t44 fun t45 =>
 F_law10_PurseBack_s31 a0 (upd (upd (upd (upd (upd (upd (upd (upd (upd (upd (upd q2 35 t37) 38 t38) 39 t39) 9 t38) 10 t39) 40 t34) 41 t41) 42 t41) 43 t43) 44 t44) 45 t45) t34 t39 t45 w R
abbrev F_law10_PurseBack_s33 (a0 : Go.Value) (q1 : Env) (t32 : Go.Value) (w : Go.World) (R : Go.Value → Go.World → Prop) : Prop :=
 extractK t32 0 fun t33 =>
 extractK t32 1 fun t34 =>
 callOn prog fn_purse_Mint #[t33, (Go.Value.int Go.IntKind.i64 0)] w fun t37 w =>
 F_law10_PurseBack_s32 a0 (upd (upd (upd (upd (upd (upd (upd q1 31 t32) 33 t33) 34 t34) 7 t33) 8 t34) 36 t33) 37 t37) t34 t37 w R
/-- postern/posternlaw10.PurseBack -/
def F_law10_PurseBack (a0 : Go.Value) (a1 : Go.Value) (a2 : Go.Value) (w : Go.World) (R : Go.Value → Go.World → Prop) : Prop :=
 callOn prog fn_world_New #[(Go.Value.slice .none 0 0)] w fun t32 w =>
 F_law10_PurseBack_s33 a0 (upd (upd (start [a0, a1, a2]) 6 (Go.Value.bool false)) 32 t32) t32 w R
theorem F_law10_PurseBack_eq (a0 : Go.Value) (a1 : Go.Value) (a2 : Go.Value) (w : Go.World) (R : Go.Value → Go.World → Prop) : cK prog (bodyOf Try.f13) (resK prog Try.f13.results.toList R) (start [a0, a1, a2]) w = F_law10_PurseBack a0 a1 a2 w R := by kernel_rfl
theorem F_law10_PurseBack_on (a0 : Go.Value) (a1 : Go.Value) (a2 : Go.Value) (w : Go.World) (k : Go.Value → Go.World → Prop) (h : F_law10_PurseBack a0 a1 a2 w k) : callOn prog fn_law10_PurseBack #[a0, a1, a2] w k :=
  calls_list (args := [a0, a1, a2]) mixed Try.func13 (by kernel_rfl) (by kernel_rfl) (Eq.mpr (F_law10_PurseBack_eq a0 a1 a2 w _) (Eq.mpr (congrArg (F_law10_PurseBack a0 a1 a2 w) (on_eq k)) h))


abbrev F_law10_PurseMany_s1 (k1 : Env → Go.World → Prop) (q14 : Env) (t87 : Go.Value) (w : Go.World) (R : Go.Value → Go.World → Prop) : Prop :=
 extractK t87 0 fun t88 =>
 extractK t87 1 fun t89 =>
 binI Go.BinOp.neq t89 (Go.Value.int Go.IntKind.i64 0) fun t91 =>
 condK t91
 (R (Go.Value.bool false) w)
 (binI Go.BinOp.add (q14 16) (Go.Value.int Go.IntKind.i64 1) fun t83 =>
 k1 (upd (upd (upd (upd (upd (upd (upd (upd (upd (upd q14 84 t87) 88 t88) 89 t89) 17 t88) 18 t89) 90 t89) 91 t91) 82 (q14 16)) 83 t83) 16 t83) w)
abbrev F_law10_PurseMany_s2 (q28 : Env) (t143 : Go.Value) (w : Go.World) (R : Go.Value → Go.World → Prop) : Prop :=
 gopK t143 true (fun k => k (q28 1) w) w fun t145 w =>
 gopK t143 true (fun k => callOn prog fn_purse_Check #[t145] w k) w fun t146 w =>
 gopK t143 true (fun k => binI Go.BinOp.eql t146 (Go.Value.int Go.IntKind.i64 0) fun v => k v w) w fun t147 w =>
 pickK t143 t147 (Go.Value.bool false) fun t148 =>
 gopK t148 true (fun k => callOn prog fn_law10_lives #[] w k) w fun t150 w =>
 pickK t148 t150 (Go.Value.bool false) fun t151 =>
 R t151 w
abbrev F_law10_PurseMany_s3 (q27 : Env) (t108 : Go.Value) (t139 : Go.Value) (w : Go.World) (R : Go.Value → Go.World → Prop) : Prop :=
 gopK t139 true (fun k => k t108 w) w fun t141 w =>
 gopK t139 true (fun k => binI Go.BinOp.eql t141 (Go.Value.int Go.IntKind.i64 9007199254740483) fun v => k v w) w fun t142 w =>
 pickK t139 t142 (Go.Value.bool false) fun t143 =>
 F_law10_PurseMany_s2 (upd (upd (upd (upd q27 140 t139) 141 t141) 142 t142) 143 t143) t143 w R
abbrev F_law10_PurseMany_s4 (q26 : Env) (t103 : Go.Value) (t108 : Go.Value) (t135 : Go.Value) (w : Go.World) (R : Go.Value → Go.World → Prop) : Prop :=
 gopK t135 true (fun k => k t103 w) w fun t137 w =>
 gopK t135 true (fun k => binI Go.BinOp.eql t137 (Go.Value.int Go.IntKind.i64 8) fun v => k v w) w fun t138 w =>
 pickK t135 t138 (Go.Value.bool false) fun t139 =>
 F_law10_PurseMany_s3 (upd (upd (upd (upd q26 136 t135) 137 t137) 138 t138) 139 t139) t108 t139 w R
abbrev F_law10_PurseMany_s5 (q25 : Env) (t97 : Go.Value) (t103 : Go.Value) (t108 : Go.Value) (t131 : Go.Value) (w : Go.World) (R : Go.Value → Go.World → Prop) : Prop :=
 gopK t131 true (fun k => k t97 w) w fun t133 w =>
 gopK t131 true (fun k => binI Go.BinOp.eql t133 (Go.Value.int Go.IntKind.i64 8) fun v => k v w) w fun t134 w =>
 pickK t131 t134 (Go.Value.bool false) fun t135 =>
 F_law10_PurseMany_s4 (upd (upd (upd (upd q25 132 t131) 133 t133) 134 t134) 135 t135) t103 t108 t135 w R
abbrev F_law10_PurseMany_s6 (q24 : Env) (t97 : Go.Value) (t103 : Go.Value) (t108 : Go.Value) (t127 : Go.Value) (w : Go.World) (R : Go.Value → Go.World → Prop) : Prop :=
 gopK t127 true (fun k => k (q24 14) w) w fun t129 w =>
 gopK t127 true (fun k => binI Go.BinOp.eql t129 (Go.Value.int Go.IntKind.i64 9007199254740992) fun v => k v w) w fun t130 w =>
 pickK t127 t130 (Go.Value.bool false) fun t131 =>
 F_law10_PurseMany_s5 (upd (upd (upd (upd q24 128 t127) 129 t129) 130 t130) 131 t131) t97 t103 t108 t131 w R
abbrev F_law10_PurseMany_s7 (q23 : Env) (t97 : Go.Value) (t103 : Go.Value) (t108 : Go.Value) (t123 : Go.Value) (w : Go.World) (R : Go.Value → Go.World → Prop) : Prop :=
 gopK t123 true (fun k => k (q23 13) w) w fun t125 w =>
 gopK t123 true (fun k => binI Go.BinOp.eql t125 (Go.Value.int Go.IntKind.i64 0) fun v => k v w) w fun t126 w =>
 pickK t123 t126 (Go.Value.bool false) fun t127 =>
 F_law10_PurseMany_s6 (upd (upd (upd (upd q23 124 t123) 125 t125) 126 t126) 127 t127) t97 t103 t108 t127 w R
abbrev F_law10_PurseMany_s8 (q22 : Env) (t97 : Go.Value) (t103 : Go.Value) (t108 : Go.Value) (t119 : Go.Value) (w : Go.World) (R : Go.Value → Go.World → Prop) : Prop :=
 gopK t119 true (fun k => k (q22 12) w) w fun t121 w =>
 gopK t119 true (fun k => binI Go.BinOp.eql t121 (Go.Value.int Go.IntKind.i64 8) fun v => k v w) w fun t122 w =>
 pickK t119 t122 (Go.Value.bool false) fun t123 =>
 F_law10_PurseMany_s7 (upd (upd (upd (upd q22 120 t119) 121 t121) 122 t122) 123 t123) t97 t103 t108 t123 w R
abbrev F_law10_PurseMany_s9 (q21 : Env) (t97 : Go.Value) (t103 : Go.Value) (t108 : Go.Value) (t115 : Go.Value) (w : Go.World) (R : Go.Value → Go.World → Prop) : Prop :=
 gopK t115 true (fun k => k (q21 10) w) w fun t117 w =>
 gopK t115 true (fun k => binI Go.BinOp.eql t117 (Go.Value.int Go.IntKind.i64 0) fun v => k v w) w fun t118 w =>
 pickK t115 t118 (Go.Value.bool false) fun t119 =>
 F_law10_PurseMany_s8 (upd (upd (upd (upd q21 116 t115) 117 t117) 118 t118) 119 t119) t97 t103 t108 t119 w R
abbrev F_law10_PurseMany_s10 (q20 : Env) (t97 : Go.Value) (t103 : Go.Value) (t107 : Go.Value) (w : Go.World) (R : Go.Value → Go.World → Prop) : Prop :=
 extractK t107 0 fun t108 =>
 extractK t107 1 fun t109 =>
 binI Go.BinOp.eql (q20 6) (Go.Value.int Go.IntKind.i64 0) fun t111 =>
 gopK t111 true (fun k => k (q20 8) w) w fun t113 w =>
 gopK t111 true (fun k => binI Go.BinOp.eql t113 (Go.Value.int Go.IntKind.i64 8) fun v => k v w) w fun t114 w =>
 pickK t111 t114 (Go.Value.bool false) fun t115 =>
 F_law10_PurseMany_s9 (upd (upd (upd (upd (upd (upd (upd (upd (upd (upd (upd q20 104 t107) 108 t108) 109 t109) 23 t108) 24 t109) 110 (q20 6)) 111 t111) 112 t111) 113 t113) 114 t114) 115 t115) t97 t103 t108 t115 w R
abbrev F_law10_PurseMany_s11 (q19 : Env) (t97 : Go.Value) (t101 : Go.Value) (w : Go.World) (R : Go.Value → Go.World → Prop) : Prop :=
 extractK t101 0 fun t102 =>
 extractK t101 1 fun t103 =>
 callOn prog fn_purse_Get #[(q19 1), (q19 5)] w fun t107 w =>
 F_law10_PurseMany_s10 (upd (upd (upd (upd (upd (upd (upd (upd q19 98 t101) 102 t102) 103 t103) 21 t102) 22 t103) 105 (q19 1)) 106 (q19 5)) 107 t107) t97 t103 t107 w R
abbrev F_law10_PurseMany_s12 (q18 : Env) (t95 : Go.Value) (w : Go.World) (R : Go.Value → Go.World → Prop) : Prop :=
 extractK t95 0 fun t96 =>
 extractK t95 1 fun t97 =>
 callOn prog fn_purse_Ask #[(q18 1), (q18 3), (Go.Value.int Go.IntKind.i64 0)] w fun t101 w =>
 F_law10_PurseMany_s11 (upd (upd (upd (upd (upd (upd (upd (upd q18 92 t95) 96 t96) 97 t97) 19 t96) 20 t97) 99 (q18 1)) 100 (q18 3)) 101 t101) t97 t101 w R
abbrev F_law10_PurseMany_s13 (k1 : Env → Go.World → Prop) (q12 : Env) (t81 : Go.Value) (w : Go.World) (R : Go.Value → Go.World → Prop) : Prop :=
 condK t81
 (callOn prog fn_purse_Take #[(q12 1), (q12 5), (Go.Value.int Go.IntKind.i64 1)] w fun t87 w =>
 F_law10_PurseMany_s1 k1 (upd (upd (upd q12 85 (q12 1)) 86 (q12 5)) 87 t87) t87 w R)
 (callOn prog fn_purse_Take #[(q12 1), (q12 5), (Go.Value.int Go.IntKind.i64 0)] w fun t95 w =>
 F_law10_PurseMany_s12 (upd (upd (upd q12 93 (q12 1)) 94 (q12 5)) 95 t95) t95 w R)
abbrev F_law10_PurseMany_s14 (e1 : Env) (k1 : Env → Go.World → Prop) (w : Go.World) (R : Go.Value → Go.World → Prop) : Prop :=
 binI Go.BinOp.lss (e1 16) (Go.Value.int Go.IntKind.i64 600) fun t76 =>
 gopK t76 true (fun k => k (e1 1) w) w fun t78 w =>
 gopK t76 true (fun k => callOn prog fn_World_Made #[t78, (Go.Value.int Go.IntKind.i64 1)] w k) w fun t79 w =>
 gopK t76 true (fun k => binI Go.BinOp.lss t79 (Go.Value.int Go.IntKind.i64 512) fun v => k v w) w fun t80 w =>
 pickK t76 t80 (Go.Value.bool false) fun t81 =>
 F_law10_PurseMany_s13 k1 (upd (upd (upd (upd (upd (upd (upd e1 75 (e1 16)) 76 t76) 77 t76) 78 t78) 79 t79) 80 t80) 81 t81) t81 w R
abbrev F_law10_PurseMany_s15 (q11 : Env) (t72 : Go.Value) (w : Go.World) (R : Go.Value → Go.World → Prop) : Prop :=
 extractK t72 0 fun t73 =>
 extractK t72 1 fun t74 =>
 loopK (fun k1 e1 w =>
 F_law10_PurseMany_s14 e1 k1 w R) (upd (upd (upd (upd (upd (upd q11 69 t72) 73 t73) 74 t74) 14 t73) 15 t74) 16 (Go.Value.int Go.IntKind.i64 0)) w
abbrev F_law10_PurseMany_s16 (q9 : Env) (t28 : Go.Value) (t45 : Go.Value) (t57 : Go.Value) (t62 : Go.Value) (w : Go.World) (R : Go.Value → Go.World → Prop) : Prop :=
 extractK t62 0 fun t63 =>
 extractK t62 1 fun t64 =>
 callOn prog fn_purse_Move #[t28, t45, t57] w fun t68 w =>
 callOn prog fn_purse_Get #[t28, t45] w fun t72 w =>
 F_law10_PurseMany_s15 (upd (upd (upd (upd (upd (upd (upd (upd (upd (upd (upd (upd (upd q9 59 t62) 63 t63) 64 t64) 11 t63) 12 t64) 65 t28) 66 t45) 67 t57) 68 t68) 13 t68) 70 t28) 71 t45) 72 t72) t72 w R
abbrev F_law10_PurseMany_s17 (q8 : Env) (t28 : Go.Value) (t33 : Go.Value) (t45 : Go.Value) (t56 : Go.Value) (w : Go.World) (R : Go.Value → Go.World → Prop) : Prop :=
 extractK t56 0 fun t57 =>
 extractK t56 1 fun t58 =>
 callOn prog fn_purse_Ask #[t28, t33, (Go.Value.int Go.IntKind.i64 1)] w fun t62 w =>
 F_law10_PurseMany_s16 (upd (upd (upd (upd (upd (upd (upd (upd q8 53 t56) 57 t57) 58 t58) 9 t57) 10 t58) 60 t28) 61 t33) 62 t62) t28 t45 t57 t62 w R
abbrev F_law10_PurseMany_s18 (q7 : Env) (t28 : Go.Value) (t33 : Go.Value) (t45 : Go.Value) (t50 : Go.Value) (w : Go.World) (R : Go.Value → Go.World → Prop) : Prop :=
 extractK t50 0 fun t51 =>
 extractK t50 1 fun t52 =>
 callOn prog fn_purse_Ask #[t28, t33, (Go.Value.int Go.IntKind.i64 3)] w fun t56 w =>
 F_law10_PurseMany_s17 (upd (upd (upd (upd (upd (upd (upd (upd q7 47 t50) 51 t51) 52 t52) 7 t51) 8 t52) 54 t28) 55 t33) 56 t56) t28 t33 t45 t56 w R
abbrev F_law10_PurseMany_s19 (q6 : Env) (t28 : Go.Value) (t33 : Go.Value) (t44 : Go.Value) (w : Go.World) (R : Go.Value → Go.World → Prop) : Prop :=
 extractK t44 0 fun t45 =>
 extractK t44 1 fun t46 =>
 callOn prog fn_purse_Ask #[t28, t33, (Go.Value.int Go.IntKind.i64 4)] w fun t50 w =>
 F_law10_PurseMany_s18 (upd (upd (upd (upd (upd (upd (upd (upd q6 41 t44) 45 t45) 46 t46) 5 t45) 6 t46) 48 t28) 49 t33) 50 t50) t28 t33 t45 t50 w R
abbrev F_law10_PurseMany_s20 (q3 : Env) (t28 : Go.Value) (t33 : Go.Value) (t40 : Go.Value) (w : Go.World) (R : Go.Value → Go.World → Prop) : Prop :=
 condK t40
 (R (Go.Value.bool false) w)
 (callOn prog fn_purse_Ask #[t28, t33, (Go.Value.int Go.IntKind.i64 9007199254740989)] w fun t44 w =>
 F_law10_PurseMany_s19 (upd (upd (upd q3 42 t28) 43 t33) 44 t44) t28 t33 t44 w R)
abbrev F_law10_PurseMany_s21 (q2 : Env) (t28 : Go.Value) (t29 : Go.Value) (t32 : Go.Value) (w : Go.World) (R : Go.Value → Go.World → Prop) : Prop :=
 extractK t32 0 fun t33 =>
 extractK t32 1 fun t34 =>
 binI Go.BinOp.neq t29 (Go.Value.int Go.IntKind.i64 0) fun t36 =>
 gopK t36 false (fun k => k t34 w) w fun t38 w =>
 gopK t36 false (fun k => binI Go.BinOp.neq t38 (Go.Value.int Go.IntKind.i64 0) fun v => k v w) w fun t39 w =>
 pickK t36 (Go.Value.bool true) t39 fun t40 =>
 F_law10_PurseMany_s20 (upd (upd (upd (upd (upd (upd (upd (upd (upd (upd (upd q2 30 t32) 33 t33) 34 t34) 3 t33) 4 t34) 35 t29) 36 t36) 37 t36) 38 t38) 39 t39) 40 t40) t28 t33 t40 w R
abbrev F_law10_PurseMany_s22 (q1 : Env) (t27 : Go.Value) (w : Go.World) (R : Go.Value → Go.World → Prop) : Prop :=
 extractK t27 0 fun t28 =>
 extractK t27 1 fun t29 =>
 callOn prog fn_purse_Mint #[t28, (Go.Value.int Go.IntKind.i64 1)] w fun t32 w =>
 F_law10_PurseMany_s21 (upd (upd (upd (upd (upd (upd (upd q1 25 t27) 28 t28) 29 t29) 1 t28) 2 t29) 31 t28) 32 t32) t28 t29 t32 w R
/-- postern/posternlaw10.PurseMany -/
def F_law10_PurseMany  (w : Go.World) (R : Go.Value → Go.World → Prop) : Prop :=
 buildL 25 1 (Go.Value.int Go.IntKind.i64 0) 1 [(0, (Go.Value.int Go.IntKind.i64 0))] w fun t26 w =>
 callOn prog fn_world_New #[t26] w fun t27 w =>
 F_law10_PurseMany_s22 (upd (upd (upd (start []) 0 (Go.Value.bool false)) 26 t26) 27 t27) t27 w R
theorem F_law10_PurseMany_eq  (w : Go.World) (R : Go.Value → Go.World → Prop) : cK prog (bodyOf Try.f14) (resK prog Try.f14.results.toList R) (start []) w = F_law10_PurseMany  w R := by kernel_rfl
theorem F_law10_PurseMany_on  (w : Go.World) (k : Go.Value → Go.World → Prop) (h : F_law10_PurseMany  w k) : callOn prog fn_law10_PurseMany #[] w k :=
  calls_list (args := []) mixed Try.func14 (by kernel_rfl) (by kernel_rfl) (Eq.mpr (F_law10_PurseMany_eq  w _) (Eq.mpr (congrArg (F_law10_PurseMany  w) (on_eq k)) h))


abbrev F_law10_PurseNone_s1 (k1 : Env → Go.World → Prop) (q25 : Env) (t154 : Go.Value) (w : Go.World) (R : Go.Value → Go.World → Prop) : Prop :=
 condK t154
 (R (Go.Value.bool false) w)
 (binI Go.BinOp.add (q25 9) (Go.Value.int Go.IntKind.i64 1) fun t34 =>
 k1 (upd (upd (upd q25 33 (q25 9)) 34 t34) 9 t34) w)
abbrev F_law10_PurseNone_s2 (k1 : Env → Go.World → Prop) (q24 : Env) (t37 : Go.Value) (t149 : Go.Value) (w : Go.World) (R : Go.Value → Go.World → Prop) : Prop :=
 gopK t149 false (fun k => k t37 w) w fun t151 w =>
 gopK t149 false (fun k => callOn prog fn_purse_Check #[t151] w k) w fun t152 w =>
 gopK t149 false (fun k => binI Go.BinOp.neq t152 (Go.Value.int Go.IntKind.i64 1) fun v => k v w) w fun t153 w =>
 pickK t149 (Go.Value.bool true) t153 fun t154 =>
 F_law10_PurseNone_s1 k1 (upd (upd (upd (upd (upd q24 150 t149) 151 t151) 152 t152) 153 t153) 154 t154) t154 w R
abbrev F_law10_PurseNone_s3 (k1 : Env → Go.World → Prop) (q23 : Env) (t37 : Go.Value) (t142 : Go.Value) (w : Go.World) (R : Go.Value → Go.World → Prop) : Prop :=
 gopK t142 false (fun k => k t37 w) w fun t144 w =>
 gopK t142 false (fun k => k (q23 0) w) w fun t145 w =>
 gopK t142 false (fun k => k (q23 1) w) w fun t146 w =>
 gopK t142 false (fun k => callOn prog fn_purse_Move #[t144, t145, t146] w k) w fun t147 w =>
 gopK t142 false (fun k => binI Go.BinOp.neq t147 (Go.Value.int Go.IntKind.i64 1) fun v => k v w) w fun t148 w =>
 pickK t142 (Go.Value.bool true) t148 fun t149 =>
 F_law10_PurseNone_s2 k1 (upd (upd (upd (upd (upd (upd (upd q23 143 t142) 144 t144) 145 t145) 146 t146) 147 t147) 148 t148) 149 t149) t37 t149 w R
abbrev F_law10_PurseNone_s4 (k1 : Env → Go.World → Prop) (q22 : Env) (t37 : Go.Value) (t83 : Go.Value) (t138 : Go.Value) (w : Go.World) (R : Go.Value → Go.World → Prop) : Prop :=
 gopK t138 false (fun k => k t83 w) w fun t140 w =>
 gopK t138 false (fun k => binI Go.BinOp.neq t140 (Go.Value.int Go.IntKind.i64 1) fun v => k v w) w fun t141 w =>
 pickK t138 (Go.Value.bool true) t141 fun t142 =>
 F_law10_PurseNone_s3 k1 (upd (upd (upd (upd q22 139 t138) 140 t140) 141 t141) 142 t142) t37 t142 w R
abbrev F_law10_PurseNone_s5 (k1 : Env → Go.World → Prop) (q21 : Env) (t37 : Go.Value) (t80 : Go.Value) (t81 : Go.Value) (t82 : Go.Value) (t83 : Go.Value) (t130 : Go.Value) (w : Go.World) (R : Go.Value → Go.World → Prop) : Prop :=
 gopK t130 false (fun k => k t80 w) w fun t132 w =>
 gopK t130 false (fun k => k t81 w) w fun t133 w =>
 gopK t130 false (fun k => binI Go.BinOp.add t132 t133 fun v => k v w) w fun t134 w =>
 gopK t130 false (fun k => k t82 w) w fun t135 w =>
 gopK t130 false (fun k => binI Go.BinOp.add t134 t135 fun v => k v w) w fun t136 w =>
 gopK t130 false (fun k => binI Go.BinOp.neq t136 (Go.Value.int Go.IntKind.i64 0) fun v => k v w) w fun t137 w =>
 pickK t130 (Go.Value.bool true) t137 fun t138 =>
 F_law10_PurseNone_s4 k1 (upd (upd (upd (upd (upd (upd (upd (upd q21 131 t130) 132 t132) 133 t133) 134 t134) 135 t135) 136 t136) 137 t137) 138 t138) t37 t83 t138 w R
abbrev F_law10_PurseNone_s6 (k1 : Env → Go.World → Prop) (q20 : Env) (t37 : Go.Value) (t75 : Go.Value) (t80 : Go.Value) (t81 : Go.Value) (t82 : Go.Value) (t83 : Go.Value) (t126 : Go.Value) (w : Go.World) (R : Go.Value → Go.World → Prop) : Prop :=
 gopK t126 false (fun k => k t75 w) w fun t128 w =>
 gopK t126 false (fun k => binI Go.BinOp.neq t128 (Go.Value.int Go.IntKind.i64 1) fun v => k v w) w fun t129 w =>
 pickK t126 (Go.Value.bool true) t129 fun t130 =>
 F_law10_PurseNone_s5 k1 (upd (upd (upd (upd q20 127 t126) 128 t128) 129 t129) 130 t130) t37 t80 t81 t82 t83 t130 w R
abbrev F_law10_PurseNone_s7 (k1 : Env → Go.World → Prop) (q19 : Env) (t37 : Go.Value) (t74 : Go.Value) (t75 : Go.Value) (t80 : Go.Value) (t81 : Go.Value) (t82 : Go.Value) (t83 : Go.Value) (t121 : Go.Value) (w : Go.World) (R : Go.Value → Go.World → Prop) : Prop :=
 gopK t121 false (fun k => k t74 w) w fun t123 w =>
 gopK t121 false (fun k => lenL t123 fun v => k v w) w fun t124 w =>
 gopK t121 false (fun k => binI Go.BinOp.neq t124 (Go.Value.int Go.IntKind.i64 0) fun v => k v w) w fun t125 w =>
 pickK t121 (Go.Value.bool true) t125 fun t126 =>
 F_law10_PurseNone_s6 k1 (upd (upd (upd (upd (upd q19 122 t121) 123 t123) 124 t124) 125 t125) 126 t126) t37 t75 t80 t81 t82 t83 t126 w R
abbrev F_law10_PurseNone_s8 (k1 : Env → Go.World → Prop) (q18 : Env) (t37 : Go.Value) (t69 : Go.Value) (t74 : Go.Value) (t75 : Go.Value) (t80 : Go.Value) (t81 : Go.Value) (t82 : Go.Value) (t83 : Go.Value) (t117 : Go.Value) (w : Go.World) (R : Go.Value → Go.World → Prop) : Prop :=
 gopK t117 false (fun k => k t69 w) w fun t119 w =>
 gopK t117 false (fun k => binI Go.BinOp.neq t119 (Go.Value.int Go.IntKind.i64 1) fun v => k v w) w fun t120 w =>
 pickK t117 (Go.Value.bool true) t120 fun t121 =>
 F_law10_PurseNone_s7 k1 (upd (upd (upd (upd q18 118 t117) 119 t119) 120 t120) 121 t121) t37 t74 t75 t80 t81 t82 t83 t121 w R
abbrev F_law10_PurseNone_s9 (k1 : Env → Go.World → Prop) (q17 : Env) (t37 : Go.Value) (t68 : Go.Value) (t69 : Go.Value) (t74 : Go.Value) (t75 : Go.Value) (t80 : Go.Value) (t81 : Go.Value) (t82 : Go.Value) (t83 : Go.Value) (t113 : Go.Value) (w : Go.World) (R : Go.Value → Go.World → Prop) : Prop :=
 gopK t113 false (fun k => k t68 w) w fun t115 w =>
 gopK t113 false (fun k => binI Go.BinOp.neq t115 (Go.Value.int Go.IntKind.i64 0) fun v => k v w) w fun t116 w =>
 pickK t113 (Go.Value.bool true) t116 fun t117 =>
 F_law10_PurseNone_s8 k1 (upd (upd (upd (upd q17 114 t113) 115 t115) 116 t116) 117 t117) t37 t69 t74 t75 t80 t81 t82 t83 t117 w R
abbrev F_law10_PurseNone_s10 (k1 : Env → Go.World → Prop) (q16 : Env) (t37 : Go.Value) (t63 : Go.Value) (t68 : Go.Value) (t69 : Go.Value) (t74 : Go.Value) (t75 : Go.Value) (t80 : Go.Value) (t81 : Go.Value) (t82 : Go.Value) (t83 : Go.Value) (t109 : Go.Value) (w : Go.World) (R : Go.Value → Go.World → Prop) : Prop :=
 gopK t109 false (fun k => k t63 w) w fun t111 w =>
 gopK t109 false (fun k => binI Go.BinOp.neq t111 (Go.Value.int Go.IntKind.i64 1) fun v => k v w) w fun t112 w =>
 pickK t109 (Go.Value.bool true) t112 fun t113 =>
 F_law10_PurseNone_s9 k1 (upd (upd (upd (upd q16 110 t109) 111 t111) 112 t112) 113 t113) t37 t68 t69 t74 t75 t80 t81 t82 t83 t113 w R
abbrev F_law10_PurseNone_s11 (k1 : Env → Go.World → Prop) (q15 : Env) (t37 : Go.Value) (t62 : Go.Value) (t63 : Go.Value) (t68 : Go.Value) (t69 : Go.Value) (t74 : Go.Value) (t75 : Go.Value) (t80 : Go.Value) (t81 : Go.Value) (t82 : Go.Value) (t83 : Go.Value) (t105 : Go.Value) (w : Go.World) (R : Go.Value → Go.World → Prop) : Prop :=
 gopK t105 false (fun k => k t62 w) w fun t107 w =>
 gopK t105 false (fun k => binI Go.BinOp.neq t107 (Go.Value.int Go.IntKind.i64 0) fun v => k v w) w fun t108 w =>
 pickK t105 (Go.Value.bool true) t108 fun t109 =>
 F_law10_PurseNone_s10 k1 (upd (upd (upd (upd q15 106 t105) 107 t107) 108 t108) 109 t109) t37 t63 t68 t69 t74 t75 t80 t81 t82 t83 t109 w R
abbrev F_law10_PurseNone_s12 (k1 : Env → Go.World → Prop) (q14 : Env) (t37 : Go.Value) (t56 : Go.Value) (t62 : Go.Value) (t63 : Go.Value) (t68 : Go.Value) (t69 : Go.Value) (t74 : Go.Value) (t75 : Go.Value) (t80 : Go.Value) (t81 : Go.Value) (t82 : Go.Value) (t83 : Go.Value) (t101 : Go.Value) (w : Go.World) (R : Go.Value → Go.World → Prop) : Prop :=
 gopK t101 false (fun k => k t56 w) w fun t103 w =>
 gopK t101 false (fun k => binI Go.BinOp.neq t103 (Go.Value.int Go.IntKind.i64 1) fun v => k v w) w fun t104 w =>
 pickK t101 (Go.Value.bool true) t104 fun t105 =>
 F_law10_PurseNone_s11 k1 (upd (upd (upd (upd q14 102 t101) 103 t103) 104 t104) 105 t105) t37 t62 t63 t68 t69 t74 t75 t80 t81 t82 t83 t105 w R
abbrev F_law10_PurseNone_s13 (k1 : Env → Go.World → Prop) (q13 : Env) (t37 : Go.Value) (t55 : Go.Value) (t56 : Go.Value) (t62 : Go.Value) (t63 : Go.Value) (t68 : Go.Value) (t69 : Go.Value) (t74 : Go.Value) (t75 : Go.Value) (t80 : Go.Value) (t81 : Go.Value) (t82 : Go.Value) (t83 : Go.Value) (t97 : Go.Value) (w : Go.World) (R : Go.Value → Go.World → Prop) : Prop :=
 gopK t97 false (fun k => k t55 w) w fun t99 w =>
 gopK t97 false (fun k => binI Go.BinOp.neq t99 (Go.Value.int Go.IntKind.i64 0) fun v => k v w) w fun t100 w =>
 pickK t97 (Go.Value.bool true) t100 fun t101 =>
 F_law10_PurseNone_s12 k1 (upd (upd (upd (upd q13 98 t97) 99 t99) 100 t100) 101 t101) t37 t56 t62 t63 t68 t69 t74 t75 t80 t81 t82 t83 t101 w R
abbrev F_law10_PurseNone_s14 (k1 : Env → Go.World → Prop) (q12 : Env) (t37 : Go.Value) (t50 : Go.Value) (t55 : Go.Value) (t56 : Go.Value) (t62 : Go.Value) (t63 : Go.Value) (t68 : Go.Value) (t69 : Go.Value) (t74 : Go.Value) (t75 : Go.Value) (t80 : Go.Value) (t81 : Go.Value) (t82 : Go.Value) (t83 : Go.Value) (t93 : Go.Value) (w : Go.World) (R : Go.Value → Go.World → Prop) : Prop :=
 gopK t93 false (fun k => k t50 w) w fun t95 w =>
 gopK t93 false (fun k => binI Go.BinOp.neq t95 (Go.Value.int Go.IntKind.i64 1) fun v => k v w) w fun t96 w =>
 pickK t93 (Go.Value.bool true) t96 fun t97 =>
 F_law10_PurseNone_s13 k1 (upd (upd (upd (upd q12 94 t93) 95 t95) 96 t96) 97 t97) t37 t55 t56 t62 t63 t68 t69 t74 t75 t80 t81 t82 t83 t97 w R
abbrev F_law10_PurseNone_s15 (k1 : Env → Go.World → Prop) (q11 : Env) (t37 : Go.Value) (t49 : Go.Value) (t50 : Go.Value) (t55 : Go.Value) (t56 : Go.Value) (t62 : Go.Value) (t63 : Go.Value) (t68 : Go.Value) (t69 : Go.Value) (t74 : Go.Value) (t75 : Go.Value) (t80 : Go.Value) (t81 : Go.Value) (t82 : Go.Value) (t83 : Go.Value) (t89 : Go.Value) (w : Go.World) (R : Go.Value → Go.World → Prop) : Prop :=
 gopK t89 false (fun k => k t49 w) w fun t91 w =>
 gopK t89 false (fun k => binI Go.BinOp.neq t91 (Go.Value.int Go.IntKind.i64 0) fun v => k v w) w fun t92 w =>
 pickK t89 (Go.Value.bool true) t92 fun t93 =>
 F_law10_PurseNone_s14 k1 (upd (upd (upd (upd q11 90 t89) 91 t91) 92 t92) 93 t93) t37 t50 t55 t56 t62 t63 t68 t69 t74 t75 t80 t81 t82 t83 t93 w R
abbrev F_law10_PurseNone_s16 (k1 : Env → Go.World → Prop) (q10 : Env) (t37 : Go.Value) (t42 : Go.Value) (t43 : Go.Value) (t49 : Go.Value) (t50 : Go.Value) (t55 : Go.Value) (t56 : Go.Value) (t62 : Go.Value) (t63 : Go.Value) (t68 : Go.Value) (t69 : Go.Value) (t74 : Go.Value) (t75 : Go.Value) (t79 : Go.Value) (w : Go.World) (R : Go.Value → Go.World → Prop) : Prop :=
 extractK t79 0 fun t80 =>
 extractK t79 1 fun t81 =>
 extractK t79 2 fun t82 =>
 extractK t79 3 fun t83 =>
 binI Go.BinOp.neq t42 (Go.Value.int Go.IntKind.i64 0) fun t85 =>
 gopK t85 false (fun k => k t43 w) w fun t87 w =>
 gopK t85 false (fun k => binI Go.BinOp.neq t87 (Go.Value.int Go.IntKind.i64 1) fun v => k v w) w fun t88 w =>
 pickK t85 (Go.Value.bool true) t88 fun t89 =>
 F_law10_PurseNone_s15 k1 (upd (upd (upd (upd (upd (upd (upd (upd (upd (upd (upd (upd (upd (upd (upd q10 76 t79) 80 t80) 81 t81) 82 t82) 83 t83) 23 t80) 24 t81) 25 t82) 26 t83) 84 t42) 85 t85) 86 t85) 87 t87) 88 t88) 89 t89) t37 t49 t50 t55 t56 t62 t63 t68 t69 t74 t75 t80 t81 t82 t83 t89 w R
abbrev F_law10_PurseNone_s17 (k1 : Env → Go.World → Prop) (q9 : Env) (t37 : Go.Value) (t42 : Go.Value) (t43 : Go.Value) (t49 : Go.Value) (t50 : Go.Value) (t55 : Go.Value) (t56 : Go.Value) (t62 : Go.Value) (t63 : Go.Value) (t68 : Go.Value) (t69 : Go.Value) (t73 : Go.Value) (w : Go.World) (R : Go.Value → Go.World → Prop) : Prop :=
 extractK t73 0 fun t74 =>
 extractK t73 1 fun t75 =>
 callOn prog fn_purse_Sum #[t37, (q9 0)] w fun t79 w =>
 F_law10_PurseNone_s16 k1 (upd (upd (upd (upd (upd (upd (upd (upd q9 70 t73) 74 t74) 75 t75) 21 t74) 22 t75) 77 t37) 78 (q9 0)) 79 t79) t37 t42 t43 t49 t50 t55 t56 t62 t63 t68 t69 t74 t75 t79 w R
abbrev F_law10_PurseNone_s18 (k1 : Env → Go.World → Prop) (q8 : Env) (t37 : Go.Value) (t42 : Go.Value) (t43 : Go.Value) (t49 : Go.Value) (t50 : Go.Value) (t55 : Go.Value) (t56 : Go.Value) (t62 : Go.Value) (t63 : Go.Value) (t67 : Go.Value) (w : Go.World) (R : Go.Value → Go.World → Prop) : Prop :=
 extractK t67 0 fun t68 =>
 extractK t67 1 fun t69 =>
 callOn prog fn_purse_Purses #[t37, (q8 0)] w fun t73 w =>
 F_law10_PurseNone_s17 k1 (upd (upd (upd (upd (upd (upd (upd (upd q8 64 t67) 68 t68) 69 t69) 19 t68) 20 t69) 71 t37) 72 (q8 0)) 73 t73) t37 t42 t43 t49 t50 t55 t56 t62 t63 t68 t69 t73 w R
abbrev F_law10_PurseNone_s19 (k1 : Env → Go.World → Prop) (q7 : Env) (t37 : Go.Value) (t42 : Go.Value) (t43 : Go.Value) (t49 : Go.Value) (t50 : Go.Value) (t55 : Go.Value) (t56 : Go.Value) (t61 : Go.Value) (w : Go.World) (R : Go.Value → Go.World → Prop) : Prop :=
 extractK t61 0 fun t62 =>
 extractK t61 1 fun t63 =>
 callOn prog fn_purse_Of #[t37, (q7 0)] w fun t67 w =>
 F_law10_PurseNone_s18 k1 (upd (upd (upd (upd (upd (upd (upd (upd q7 57 t61) 62 t62) 63 t63) 17 t62) 18 t63) 65 t37) 66 (q7 0)) 67 t67) t37 t42 t43 t49 t50 t55 t56 t62 t63 t67 w R
abbrev F_law10_PurseNone_s20 (k1 : Env → Go.World → Prop) (q6 : Env) (t37 : Go.Value) (t42 : Go.Value) (t43 : Go.Value) (t49 : Go.Value) (t50 : Go.Value) (t54 : Go.Value) (w : Go.World) (R : Go.Value → Go.World → Prop) : Prop :=
 extractK t54 0 fun t55 =>
 extractK t54 1 fun t56 =>
 callOn prog fn_purse_Take #[t37, (q6 0), (q6 7)] w fun t61 w =>
 F_law10_PurseNone_s19 k1 (upd (upd (upd (upd (upd (upd (upd (upd (upd q6 51 t54) 55 t55) 56 t56) 15 t55) 16 t56) 58 t37) 59 (q6 0)) 60 (q6 7)) 61 t61) t37 t42 t43 t49 t50 t55 t56 t61 w R
abbrev F_law10_PurseNone_s21 (k1 : Env → Go.World → Prop) (q5 : Env) (t37 : Go.Value) (t42 : Go.Value) (t43 : Go.Value) (t48 : Go.Value) (w : Go.World) (R : Go.Value → Go.World → Prop) : Prop :=
 extractK t48 0 fun t49 =>
 extractK t48 1 fun t50 =>
 callOn prog fn_purse_Get #[t37, (q5 0)] w fun t54 w =>
 F_law10_PurseNone_s20 k1 (upd (upd (upd (upd (upd (upd (upd (upd q5 44 t48) 49 t49) 50 t50) 13 t49) 14 t50) 52 t37) 53 (q5 0)) 54 t54) t37 t42 t43 t49 t50 t54 w R
abbrev F_law10_PurseNone_s22 (k1 : Env → Go.World → Prop) (q4 : Env) (t37 : Go.Value) (t41 : Go.Value) (w : Go.World) (R : Go.Value → Go.World → Prop) : Prop :=
 extractK t41 0 fun t42 =>
 extractK t41 1 fun t43 =>
 callOn prog fn_purse_Ask #[t37, (q4 0), (q4 7)] w fun t48 w =>
 F_law10_PurseNone_s21 k1 (upd (upd (upd (upd (upd (upd (upd (upd (upd q4 38 t41) 42 t42) 43 t43) 11 t42) 12 t43) 45 t37) 46 (q4 0)) 47 (q4 7)) 48 t48) t37 t42 t43 t48 w R
abbrev F_law10_PurseNone_s23 (k1 : Env → Go.World → Prop) (q3 : Env) (w : Go.World) (R : Go.Value → Go.World → Prop) : Prop :=
 indexA 2 1 (q3 8) (q3 9) fun t36 =>
 load1 t36 w fun t37 =>
 callOn prog fn_purse_Mint #[t37, (q3 2)] w fun t41 w =>
 F_law10_PurseNone_s22 k1 (upd (upd (upd (upd (upd (upd (upd q3 35 (q3 9)) 36 t36) 37 t37) 10 t37) 39 t37) 40 (q3 2)) 41 t41) t37 t41 w R
abbrev F_law10_PurseNone_s24 (e1 : Env) (k1 : Env → Go.World → Prop) (w : Go.World) (R : Go.Value → Go.World → Prop) : Prop :=
 binI Go.BinOp.lss (e1 9) (Go.Value.int Go.IntKind.i64 2) fun t32 =>
 condK t32
 (F_law10_PurseNone_s23 k1 (upd (upd e1 31 (e1 9)) 32 t32) w R)
 (callOn prog fn_law10_lives #[] w fun t155 w =>
 R t155 w)
abbrev F_law10_PurseNone_s25 (q1 : Env) (t29 : Go.Value) (w : Go.World) (R : Go.Value → Go.World → Prop) : Prop :=
 buildA (Go.Value.agg #[(Go.Value.pointer .none), (Go.Value.pointer .none)]) 1 [(0, (Go.Value.pointer .none)), (1, t29)] fun t30 =>
 allocZ (Go.Value.agg #[(Go.Value.pointer .none), (Go.Value.pointer .none)]) 108 w fun t8 w =>
 storeN 2 t8 t30 w fun w =>
 loopK (fun k1 e1 w =>
 F_law10_PurseNone_s24 e1 k1 w R) (upd (upd (upd q1 30 t30) 8 t8) 9 (Go.Value.int Go.IntKind.i64 0)) w
/-- postern/posternlaw10.PurseNone -/
def F_law10_PurseNone (a0 : Go.Value) (a1 : Go.Value) (a2 : Go.Value) (w : Go.World) (R : Go.Value → Go.World → Prop) : Prop :=
 buildS (Go.Value.agg #[(Go.Value.slice .none 0 0), (Go.Value.slice .none 0 0), (Go.Value.map .none), (Go.Value.map .none), (Go.Value.int Go.IntKind.i64 0), (Go.Value.slice .none 0 0)]) [(0, 1), (1, 1), (2, 1), (3, 1), (4, 1), (5, 1)] [] fun t28 =>
 boxK 107 t28 w fun t29 w =>
 F_law10_PurseNone_s25 (upd (upd (upd (upd (upd (start [a0, a1, a2]) 6 (Go.Value.bool false)) 27 a2) 7 a2) 28 t28) 29 t29) t29 w R
theorem F_law10_PurseNone_eq (a0 : Go.Value) (a1 : Go.Value) (a2 : Go.Value) (w : Go.World) (R : Go.Value → Go.World → Prop) : cK prog (bodyOf Try.f15) (resK prog Try.f15.results.toList R) (start [a0, a1, a2]) w = F_law10_PurseNone a0 a1 a2 w R := by kernel_rfl
theorem F_law10_PurseNone_on (a0 : Go.Value) (a1 : Go.Value) (a2 : Go.Value) (w : Go.World) (k : Go.Value → Go.World → Prop) (h : F_law10_PurseNone a0 a1 a2 w k) : callOn prog fn_law10_PurseNone #[a0, a1, a2] w k :=
  calls_list (args := [a0, a1, a2]) mixed Try.func15 (by kernel_rfl) (by kernel_rfl) (Eq.mpr (F_law10_PurseNone_eq a0 a1 a2 w _) (Eq.mpr (congrArg (F_law10_PurseNone a0 a1 a2 w) (on_eq k)) h))


abbrev F_law10_PurseApart_s1 (a1 : Go.Value) (t164 : Go.Value) (t177 : Go.Value) (w : Go.World) (R : Go.Value → Go.World → Prop) : Prop :=
 gopK t177 true (fun k => k t164 w) w fun t179 w =>
 gopK t177 true (fun k => k a1 w) w fun t180 w =>
 gopK t177 true (fun k => convI Go.IntKind.i64 t180 fun v => k v w) w fun t181 w =>
 gopK t177 true (fun k => binI Go.BinOp.eql t179 t181 fun v => k v w) w fun t182 w =>
 pickK t177 t182 (Go.Value.bool false) fun t183 =>
 gopK t183 true (fun k => callOn prog fn_law10_lives #[] w k) w fun t185 w =>
 pickK t183 t185 (Go.Value.bool false) fun t186 =>
 R t186 w
abbrev F_law10_PurseApart_s2 (a0 : Go.Value) (a1 : Go.Value) (t158 : Go.Value) (t164 : Go.Value) (t171 : Go.Value) (w : Go.World) (R : Go.Value → Go.World → Prop) : Prop :=
 gopK t171 true (fun k => k t158 w) w fun t173 w =>
 gopK t171 true (fun k => k a0 w) w fun t174 w =>
 gopK t171 true (fun k => convI Go.IntKind.i64 t174 fun v => k v w) w fun t175 w =>
 gopK t171 true (fun k => binI Go.BinOp.eql t173 t175 fun v => k v w) w fun t176 w =>
 pickK t171 t176 (Go.Value.bool false) fun t177 =>
 F_law10_PurseApart_s1 a1 t164 t177 w R
abbrev F_law10_PurseApart_s3 (a0 : Go.Value) (a1 : Go.Value) (t37 : Go.Value) (t152 : Go.Value) (t153 : Go.Value) (t158 : Go.Value) (t163 : Go.Value) (w : Go.World) (R : Go.Value → Go.World → Prop) : Prop :=
 extractK t163 0 fun t164 =>
 extractK t163 1 fun t165 =>
 gopK t153 true (fun k => k t152 w) w fun t168 w =>
 gopK t153 true (fun k => k t37 w) w fun t169 w =>
 gopK t153 true (fun k => binI Go.BinOp.eql t168 t169 fun v => k v w) w fun t170 w =>
 pickK t153 t170 (Go.Value.bool false) fun t171 =>
 F_law10_PurseApart_s2 a0 a1 t158 t164 t171 w R
abbrev F_law10_PurseApart_s4 (a0 : Go.Value) (a1 : Go.Value) (t33 : Go.Value) (t37 : Go.Value) (t74 : Go.Value) (t152 : Go.Value) (t153 : Go.Value) (t157 : Go.Value) (w : Go.World) (R : Go.Value → Go.World → Prop) : Prop :=
 extractK t157 0 fun t158 =>
 extractK t157 1 fun t159 =>
 callOn prog fn_purse_Get #[t33, t74] w fun t163 w =>
 F_law10_PurseApart_s3 a0 a1 t37 t152 t153 t158 t163 w R
abbrev F_law10_PurseApart_s5 (a0 : Go.Value) (a1 : Go.Value) (t33 : Go.Value) (t37 : Go.Value) (t66 : Go.Value) (t74 : Go.Value) (t151 : Go.Value) (w : Go.World) (R : Go.Value → Go.World → Prop) : Prop :=
 extractK t151 0 fun t152 =>
 extractK t151 1 fun t153 =>
 callOn prog fn_purse_Get #[t33, t66] w fun t157 w =>
 F_law10_PurseApart_s4 a0 a1 t33 t37 t74 t152 t153 t157 w R
abbrev F_law10_PurseApart_s6 (a0 : Go.Value) (a1 : Go.Value) (t33 : Go.Value) (t37 : Go.Value) (t66 : Go.Value) (t74 : Go.Value) (t147 : Go.Value) (w : Go.World) (R : Go.Value → Go.World → Prop) : Prop :=
 condK t147
 (R (Go.Value.bool false) w)
 (callOn prog fn_World_Home #[t33, t66] w fun t151 w =>
 F_law10_PurseApart_s5 a0 a1 t33 t37 t66 t74 t151 w R)
abbrev F_law10_PurseApart_s7 (a0 : Go.Value) (a1 : Go.Value) (t33 : Go.Value) (t37 : Go.Value) (t42 : Go.Value) (t66 : Go.Value) (t74 : Go.Value) (t140 : Go.Value) (w : Go.World) (R : Go.Value → Go.World → Prop) : Prop :=
 gopK t140 false (fun k => k t33 w) w fun t142 w =>
 gopK t140 false (fun k => k t66 w) w fun t143 w =>
 gopK t140 false (fun k => k t42 w) w fun t144 w =>
 gopK t140 false (fun k => callOn prog fn_purse_Move #[t142, t143, t144] w k) w fun t145 w =>
 gopK t140 false (fun k => binI Go.BinOp.neq t145 (Go.Value.int Go.IntKind.i64 100) fun v => k v w) w fun t146 w =>
 pickK t140 (Go.Value.bool true) t146 fun t147 =>
 F_law10_PurseApart_s6 a0 a1 t33 t37 t66 t74 t147 w R
abbrev F_law10_PurseApart_s8 (a0 : Go.Value) (a1 : Go.Value) (t33 : Go.Value) (t37 : Go.Value) (t42 : Go.Value) (t66 : Go.Value) (t74 : Go.Value) (t133 : Go.Value) (w : Go.World) (R : Go.Value → Go.World → Prop) : Prop :=
 gopK t133 false (fun k => k t33 w) w fun t135 w =>
 gopK t133 false (fun k => k t66 w) w fun t136 w =>
 gopK t133 false (fun k => k t66 w) w fun t137 w =>
 gopK t133 false (fun k => callOn prog fn_purse_Move #[t135, t136, t137] w k) w fun t138 w =>
 gopK t133 false (fun k => binI Go.BinOp.neq t138 (Go.Value.int Go.IntKind.i64 100) fun v => k v w) w fun t139 w =>
 pickK t133 (Go.Value.bool true) t139 fun t140 =>
 F_law10_PurseApart_s7 a0 a1 t33 t37 t42 t66 t74 t140 w R
abbrev F_law10_PurseApart_s9 (a0 : Go.Value) (a1 : Go.Value) (t33 : Go.Value) (t37 : Go.Value) (t42 : Go.Value) (t66 : Go.Value) (t74 : Go.Value) (t126 : Go.Value) (w : Go.World) (R : Go.Value → Go.World → Prop) : Prop :=
 gopK t126 false (fun k => k t33 w) w fun t128 w =>
 gopK t126 false (fun k => k t66 w) w fun t129 w =>
 gopK t126 false (fun k => k t74 w) w fun t130 w =>
 gopK t126 false (fun k => callOn prog fn_purse_Move #[t128, t129, t130] w k) w fun t131 w =>
 gopK t126 false (fun k => binI Go.BinOp.neq t131 (Go.Value.int Go.IntKind.i64 100) fun v => k v w) w fun t132 w =>
 pickK t126 (Go.Value.bool true) t132 fun t133 =>
 F_law10_PurseApart_s8 a0 a1 t33 t37 t42 t66 t74 t133 w R
abbrev F_law10_PurseApart_s10 (a0 : Go.Value) (a1 : Go.Value) (t33 : Go.Value) (t37 : Go.Value) (t42 : Go.Value) (t66 : Go.Value) (t74 : Go.Value) (t92 : Go.Value) (t121 : Go.Value) (w : Go.World) (R : Go.Value → Go.World → Prop) : Prop :=
 gopK t121 false (fun k => k t92 w) w fun t123 w =>
 gopK t121 false (fun k => k t42 w) w fun t124 w =>
 gopK t121 false (fun k => binI Go.BinOp.neq t123 t124 fun v => k v w) w fun t125 w =>
 pickK t121 (Go.Value.bool true) t125 fun t126 =>
 F_law10_PurseApart_s9 a0 a1 t33 t37 t42 t66 t74 t126 w R
abbrev F_law10_PurseApart_s11 (a0 : Go.Value) (a1 : Go.Value) (t33 : Go.Value) (t37 : Go.Value) (t42 : Go.Value) (t48 : Go.Value) (t66 : Go.Value) (t74 : Go.Value) (t86 : Go.Value) (t92 : Go.Value) (t116 : Go.Value) (w : Go.World) (R : Go.Value → Go.World → Prop) : Prop :=
 gopK t116 false (fun k => k t86 w) w fun t118 w =>
 gopK t116 false (fun k => k t48 w) w fun t119 w =>
 gopK t116 false (fun k => binI Go.BinOp.neq t118 t119 fun v => k v w) w fun t120 w =>
 pickK t116 (Go.Value.bool true) t120 fun t121 =>
 F_law10_PurseApart_s10 a0 a1 t33 t37 t42 t66 t74 t92 t121 w R
abbrev F_law10_PurseApart_s12 (a0 : Go.Value) (a1 : Go.Value) (t33 : Go.Value) (t37 : Go.Value) (t42 : Go.Value) (t48 : Go.Value) (t66 : Go.Value) (t74 : Go.Value) (t80 : Go.Value) (t86 : Go.Value) (t92 : Go.Value) (t111 : Go.Value) (w : Go.World) (R : Go.Value → Go.World → Prop) : Prop :=
 gopK t111 false (fun k => k t80 w) w fun t113 w =>
 gopK t111 false (fun k => k t42 w) w fun t114 w =>
 gopK t111 false (fun k => binI Go.BinOp.neq t113 t114 fun v => k v w) w fun t115 w =>
 pickK t111 (Go.Value.bool true) t115 fun t116 =>
 F_law10_PurseApart_s11 a0 a1 t33 t37 t42 t48 t66 t74 t86 t92 t116 w R
abbrev F_law10_PurseApart_s13 (a0 : Go.Value) (a1 : Go.Value) (t33 : Go.Value) (t37 : Go.Value) (t42 : Go.Value) (t48 : Go.Value) (t66 : Go.Value) (t74 : Go.Value) (t80 : Go.Value) (t86 : Go.Value) (t92 : Go.Value) (t93 : Go.Value) (t107 : Go.Value) (w : Go.World) (R : Go.Value → Go.World → Prop) : Prop :=
 gopK t107 false (fun k => k t93 w) w fun t109 w =>
 gopK t107 false (fun k => binI Go.BinOp.neq t109 (Go.Value.int Go.IntKind.i64 0) fun v => k v w) w fun t110 w =>
 pickK t107 (Go.Value.bool true) t110 fun t111 =>
 F_law10_PurseApart_s12 a0 a1 t33 t37 t42 t48 t66 t74 t80 t86 t92 t111 w R
abbrev F_law10_PurseApart_s14 (a0 : Go.Value) (a1 : Go.Value) (t33 : Go.Value) (t37 : Go.Value) (t42 : Go.Value) (t48 : Go.Value) (t66 : Go.Value) (t74 : Go.Value) (t80 : Go.Value) (t86 : Go.Value) (t87 : Go.Value) (t92 : Go.Value) (t93 : Go.Value) (t103 : Go.Value) (w : Go.World) (R : Go.Value → Go.World → Prop) : Prop :=
 gopK t103 false (fun k => k t87 w) w fun t105 w =>
 gopK t103 false (fun k => binI Go.BinOp.neq t105 (Go.Value.int Go.IntKind.i64 0) fun v => k v w) w fun t106 w =>
 pickK t103 (Go.Value.bool true) t106 fun t107 =>
 F_law10_PurseApart_s13 a0 a1 t33 t37 t42 t48 t66 t74 t80 t86 t92 t93 t107 w R
abbrev F_law10_PurseApart_s15 (a0 : Go.Value) (a1 : Go.Value) (t33 : Go.Value) (t37 : Go.Value) (t42 : Go.Value) (t48 : Go.Value) (t66 : Go.Value) (t74 : Go.Value) (t80 : Go.Value) (t81 : Go.Value) (t86 : Go.Value) (t87 : Go.Value) (t92 : Go.Value) (t93 : Go.Value) (t99 : Go.Value) (w : Go.World) (R : Go.Value → Go.World → Prop) : Prop :=
 gopK t99 false (fun k => k t81 w) w fun t101 w =>
 gopK t99 false (fun k => binI Go.BinOp.neq t101 (Go.Value.int Go.IntKind.i64 0) fun v => k v w) w fun t102 w =>
 pickK t99 (Go.Value.bool true) t102 fun t103 =>
 F_law10_PurseApart_s14 a0 a1 t33 t37 t42 t48 t66 t74 t80 t86 t87 t92 t93 t103 w R
abbrev F_law10_PurseApart_s16 (a0 : Go.Value) (a1 : Go.Value) (t33 : Go.Value) (t37 : Go.Value) (t42 : Go.Value) (t48 : Go.Value) (t66 : Go.Value) (t67 : Go.Value) (t74 : Go.Value) (t75 : Go.Value) (t80 : Go.Value) (t81 : Go.Value) (t86 : Go.Value) (t87 : Go.Value) (t91 : Go.Value) (w : Go.World) (R : Go.Value → Go.World → Prop) : Prop :=
 extractK t91 0 fun t92 =>
 extractK t91 1 fun t93 =>
 binI Go.BinOp.neq t67 (Go.Value.int Go.IntKind.i64 0) fun t95 =>
 gopK t95 false (fun k => k t75 w) w fun t97 w =>
 gopK t95 false (fun k => binI Go.BinOp.neq t97 (Go.Value.int Go.IntKind.i64 0) fun v => k v w) w fun t98 w =>
 pickK t95 (Go.Value.bool true) t98 fun t99 =>
 F_law10_PurseApart_s15 a0 a1 t33 t37 t42 t48 t66 t74 t80 t81 t86 t87 t92 t93 t99 w R
abbrev F_law10_PurseApart_s17 (a0 : Go.Value) (a1 : Go.Value) (t33 : Go.Value) (t37 : Go.Value) (t42 : Go.Value) (t48 : Go.Value) (t66 : Go.Value) (t67 : Go.Value) (t74 : Go.Value) (t75 : Go.Value) (t80 : Go.Value) (t81 : Go.Value) (t85 : Go.Value) (w : Go.World) (R : Go.Value → Go.World → Prop) : Prop :=
 extractK t85 0 fun t86 =>
 extractK t85 1 fun t87 =>
 callOn prog fn_purse_Of #[t33, t42] w fun t91 w =>
 F_law10_PurseApart_s16 a0 a1 t33 t37 t42 t48 t66 t67 t74 t75 t80 t81 t86 t87 t91 w R
abbrev F_law10_PurseApart_s18 (a0 : Go.Value) (a1 : Go.Value) (t33 : Go.Value) (t37 : Go.Value) (t42 : Go.Value) (t48 : Go.Value) (t66 : Go.Value) (t67 : Go.Value) (t74 : Go.Value) (t75 : Go.Value) (t79 : Go.Value) (w : Go.World) (R : Go.Value → Go.World → Prop) : Prop :=
 extractK t79 0 fun t80 =>
 extractK t79 1 fun t81 =>
 callOn prog fn_purse_Of #[t33, t74] w fun t85 w =>
 F_law10_PurseApart_s17 a0 a1 t33 t37 t42 t48 t66 t67 t74 t75 t80 t81 t85 w R
abbrev F_law10_PurseApart_s19 (a0 : Go.Value) (a1 : Go.Value) (t33 : Go.Value) (t37 : Go.Value) (t42 : Go.Value) (t48 : Go.Value) (t66 : Go.Value) (t67 : Go.Value) (t73 : Go.Value) (w : Go.World) (R : Go.Value → Go.World → Prop) : Prop :=
 extractK t73 0 fun t74 =>
 extractK t73 1 fun t75 =>
 callOn prog fn_purse_Of #[t33, t66] w fun t79 w =>
 F_law10_PurseApart_s18 a0 a1 t33 t37 t42 t48 t66 t67 t74 t75 t79 w R
abbrev F_law10_PurseApart_s20 (a0 : Go.Value) (a1 : Go.Value) (t33 : Go.Value) (t37 : Go.Value) (t42 : Go.Value) (t48 : Go.Value) (t65 : Go.Value) (w : Go.World) (R : Go.Value → Go.World → Prop) : Prop :=
 extractK t65 0 fun t66 =>
 extractK t65 1 fun t67 =>
 convI Go.IntKind.i64 a1 fun t72 =>
 callOn prog fn_purse_Ask #[t33, t48, t72] w fun t73 w =>
 F_law10_PurseApart_s19 a0 a1 t33 t37 t42 t48 t66 t67 t73 w R
abbrev F_law10_PurseApart_s21 (a0 : Go.Value) (a1 : Go.Value) (t33 : Go.Value) (t37 : Go.Value) (t42 : Go.Value) (t48 : Go.Value) (t59 : Go.Value) (w : Go.World) (R : Go.Value → Go.World → Prop) : Prop :=
 condK t59
 (R (Go.Value.bool false) w)
 (convI Go.IntKind.i64 a0 fun t64 =>
 callOn prog fn_purse_Ask #[t33, t42, t64] w fun t65 w =>
 F_law10_PurseApart_s20 a0 a1 t33 t37 t42 t48 t65 w R)
abbrev F_law10_PurseApart_s22 (a0 : Go.Value) (a1 : Go.Value) (t33 : Go.Value) (t37 : Go.Value) (t42 : Go.Value) (t48 : Go.Value) (t49 : Go.Value) (t55 : Go.Value) (w : Go.World) (R : Go.Value → Go.World → Prop) : Prop :=
 gopK t55 false (fun k => k t49 w) w fun t57 w =>
 gopK t55 false (fun k => binI Go.BinOp.neq t57 (Go.Value.int Go.IntKind.i64 0) fun v => k v w) w fun t58 w =>
 pickK t55 (Go.Value.bool true) t58 fun t59 =>
 F_law10_PurseApart_s21 a0 a1 t33 t37 t42 t48 t59 w R
abbrev F_law10_PurseApart_s23 (a0 : Go.Value) (a1 : Go.Value) (t33 : Go.Value) (t34 : Go.Value) (t37 : Go.Value) (t42 : Go.Value) (t43 : Go.Value) (t47 : Go.Value) (w : Go.World) (R : Go.Value → Go.World → Prop) : Prop :=
 extractK t47 0 fun t48 =>
 extractK t47 1 fun t49 =>
 binI Go.BinOp.neq t34 (Go.Value.int Go.IntKind.i64 0) fun t51 =>
 gopK t51 false (fun k => k t43 w) w fun t53 w =>
 gopK t51 false (fun k => binI Go.BinOp.neq t53 (Go.Value.int Go.IntKind.i64 0) fun v => k v w) w fun t54 w =>
 pickK t51 (Go.Value.bool true) t54 fun t55 =>
 F_law10_PurseApart_s22 a0 a1 t33 t37 t42 t48 t49 t55 w R
abbrev F_law10_PurseApart_s24 (a0 : Go.Value) (a1 : Go.Value) (t33 : Go.Value) (t34 : Go.Value) (t37 : Go.Value) (t41 : Go.Value) (w : Go.World) (R : Go.Value → Go.World → Prop) : Prop :=
 extractK t41 0 fun t42 =>
 extractK t41 1 fun t43 =>
 callOn prog fn_purse_Mint #[t33, t37] w fun t47 w =>
 F_law10_PurseApart_s23 a0 a1 t33 t34 t37 t42 t43 t47 w R
abbrev F_law10_PurseApart_s25 (a0 : Go.Value) (a1 : Go.Value) (a2 : Go.Value) (t32 : Go.Value) (w : Go.World) (R : Go.Value → Go.World → Prop) : Prop :=
 extractK t32 0 fun t33 =>
 extractK t32 1 fun t34 =>
 binI Go.BinOp.rem a2 (Go.Value.int Go.IntKind.u8 3) fun t36 =>
 convI Go.IntKind.i64 t36 fun t37 =>
 callOn prog fn_purse_Mint #[t33, t37] w fun t41 w =>
 F_law10_PurseApart_s24 a0 a1 t33 t34 t37 t41 w R
/-- postern/posternlaw10.PurseApart -/
def F_law10_PurseApart (a0 : Go.Value) (a1 : Go.Value) (a2 : Go.Value) (w : Go.World) (R : Go.Value → Go.World → Prop) : Prop :=
 buildL 25 1 (Go.Value.int Go.IntKind.i64 0) 2 [(0, (Go.Value.int Go.IntKind.i64 0)), (1, (Go.Value.int Go.IntKind.i64 1))] w fun t31 w =>
 callOn prog fn_world_New #[t31] w fun t32 w =>
 F_law10_PurseApart_s25 a0 a1 a2 t32 w R
theorem F_law10_PurseApart_eq (a0 : Go.Value) (a1 : Go.Value) (a2 : Go.Value) (w : Go.World) (R : Go.Value → Go.World → Prop) : cK prog (bodyOf Try.f16) (resK prog Try.f16.results.toList R) (start [a0, a1, a2]) w = F_law10_PurseApart a0 a1 a2 w R := by kernel_rfl
theorem F_law10_PurseApart_on (a0 : Go.Value) (a1 : Go.Value) (a2 : Go.Value) (w : Go.World) (k : Go.Value → Go.World → Prop) (h : F_law10_PurseApart a0 a1 a2 w k) : callOn prog fn_law10_PurseApart #[a0, a1, a2] w k :=
  calls_list (args := [a0, a1, a2]) mixed Try.func16 (by kernel_rfl) (by kernel_rfl) (Eq.mpr (F_law10_PurseApart_eq a0 a1 a2 w _) (Eq.mpr (congrArg (F_law10_PurseApart a0 a1 a2 w) (on_eq k)) h))


end Go.X
