/- The calculator's word on functions of this program, each with its proof: written by a program of this family (shallow.py). -/
import Derived.Test.YtdjheefbeagcjaaXxP
set_option linter.unusedVariables false
set_option maxRecDepth 100000
namespace Go.X
open Go Go.Proofs
noncomputable def World_Drop_R23 : Array Oper := regionOf (bodyOf Try.f27) 23
def Q_World_Drop_R23 (C : Go.World → Prop) (e : Env) (Q : Env → Prop) : Prop :=
 qopK true C (fun w q => q (e 11) w) fun t83 =>
 qopK true C (fun w q => nilK t83 fun v => q v w) fun t84 =>
 qopK true C (fun w q => fieldA 0 t84 fun v => q v w) fun t85 =>
 qopK true C (fun w q => load1 t85 w fun v => q v w) fun t86 =>
 qopK true C (fun w q => binI Go.BinOp.neq t86 (Go.Value.int Go.IntKind.u8 13) fun v => q v w) fun t87 =>
 qopK true C (fun w q => q t87 w) fun t88 =>
 gqK t88 true (fun k => qopK true C (fun w q => load1 (e 5) w fun v => q v w) k) fun t89 =>
 gqK t88 true (fun k => qopK true C (fun w q => q (e 11) w) k) fun t90 =>
 gqK t88 true (fun k => qopK true C (fun w q => nilK t90 fun v => q v w) k) fun t91 =>
 gqK t88 true (fun k => qopK true C (fun w q => fieldA 10 t91 fun v => q v w) k) fun t92 =>
 gqK t88 true (fun k => qopK true C (fun w q => load1 t92 w fun v => q v w) k) fun t93 =>
 gqK t88 true (fun k => qopK true C (fun w q => lookM false (Go.Value.int Go.IntKind.i64 0) t89 t93 false w fun v => q v w) k) fun t94 =>
 gqK t88 true (fun k => qopK true C (fun w q => binI Go.BinOp.eql t94 (Go.Value.int Go.IntKind.i64 1) fun v => q v w) k) fun t95 =>
 qopK true C (fun w q => pickK t88 t95 (Go.Value.bool false) fun v => q v w) fun t96 =>
 qopK true C (fun w q => q t96 w) fun t97 =>
 gqK t97 false (fun k => qopK true C (fun w q => load1 (e 5) w fun v => q v w) k) fun t98 =>
 gqK t97 false (fun k => qopK true C (fun w q => q (e 11) w) k) fun t99 =>
 gqK t97 false (fun k => qopK true C (fun w q => nilK t99 fun v => q v w) k) fun t100 =>
 gqK t97 false (fun k => qopK true C (fun w q => fieldA 11 t100 fun v => q v w) k) fun t101 =>
 gqK t97 false (fun k => qopK true C (fun w q => load1 t101 w fun v => q v w) k) fun t102 =>
 gqK t97 false (fun k => qopK true C (fun w q => lookM false (Go.Value.int Go.IntKind.i64 0) t98 t102 false w fun v => q v w) k) fun t103 =>
 gqK t97 false (fun k => qopK true C (fun w q => binI Go.BinOp.eql t103 (Go.Value.int Go.IntKind.i64 1) fun v => q v w) k) fun t104 =>
 qopK true C (fun w q => pickK t97 (Go.Value.bool true) t104 fun v => q v w) fun t105 =>
 qopK true C (fun w q => q t105 w) fun t106 =>
 gqK t106 false (fun k => qopK true C (fun w q => q (e 11) w) k) fun t107 =>
 gqK t106 false (fun k => qopK true C (fun w q => nilK t107 fun v => q v w) k) fun t108 =>
 gqK t106 false (fun k => qopK true C (fun w q => loadN 16 t108 w fun v => q v w) k) fun t109 =>
 gqK t106 false (fun k => qopK true C (fun w q => callOn prog fn_world_held #[t109] w q) k) fun t110 =>
 gqK t106 false (fun k => qopK true C (fun w q => q (Go.Value.func (Go.Fn.func 73) #[] #[(e 5)]) w) k) fun t111 =>
 gqK t106 false (fun k => qopK true C (fun w q => callOn prog fn_slices_ContainsFunc_Ref #[t110, t111] w q) k) fun t112 =>
 qopK true C (fun w q => pickK t106 (Go.Value.bool true) t112 fun v => q v w) fun t113 =>
 Q (upd (upd (upd (upd (upd (upd (upd (upd (upd (upd (upd (upd (upd (upd (upd (upd (upd (upd (upd (upd (upd (upd (upd (upd (upd (upd (upd (upd (upd (upd (upd e 83 t83) 84 t84) 85 t85) 86 t86) 87 t87) 88 t88) 89 t89) 90 t90) 91 t91) 92 t92) 93 t93) 94 t94) 95 t95) 96 t96) 97 t97) 98 t98) 99 t99) 100 t100) 101 t101) 102 t102) 103 t103) 104 t104) 105 t105) 106 t106) 107 t107) 108 t108) 109 t109) 110 t110) 111 t111) 112 t112) 113 t113)
theorem Q_World_Drop_R23_eq (C : Go.World → Prop) (e : Env) (Q : Env → Prop) : quietK prog World_Drop_R23.toList C World_Drop_R23.toList e Q = Q_World_Drop_R23 C e Q := by kernel_rfl
theorem Q_World_Drop_R23_on {C : Go.World → Prop} {Q : Env → Prop} {e : Env} {w : Go.World} {k : Env → Go.World → Prop} (hC : C w) (h : Q_World_Drop_R23 C e Q) (hk : ∀ e w, C w → Q e → k e w) : drawK prog World_Drop_R23 e w k :=
  .inl ⟨C, Q, hC, by kernel_rfl, Eq.mpr (Q_World_Drop_R23_eq C e Q) h, hk⟩
abbrev F_World_Drop_s1 (k1 : Env → Go.World → Prop) (q9 : Env) (t24 : Go.Value) (w : Go.World) : Prop :=
 load1 (q9 5) w fun t29 =>
 updM false t29 t24 (Go.Value.int Go.IntKind.i64 1) w fun w =>
 binI Go.BinOp.add (q9 21) (Go.Value.int Go.IntKind.i64 1) fun t31 =>
 k1 (upd (upd (upd (upd q9 29 t29) 30 t24) 31 t31) 21 t31) w
abbrev F_World_Drop_s2 (k1 : Env → Go.World → Prop) (q7 : Env) (t24 : Go.Value) (t27 : Go.Value) (w : Go.World) (R : Go.Value → Go.World → Prop) : Prop :=
 unK Go.UnOp.not t27 fun t28 =>
 condK t28
 (R (Go.Value.int Go.IntKind.i64 5) w)
 (F_World_Drop_s1 k1 (upd q7 28 t28) t24 w)
abbrev F_World_Drop_s3 (k1 : Env → Go.World → Prop) (q6 : Env) (w : Go.World) (R : Go.Value → Go.World → Prop) : Prop :=
 indexS 1 (q6 19) (q6 21) fun t23 =>
 load1 t23 w fun t24 =>
 callOn prog fn_World_Is #[(q6 0), t24] w fun t27 w =>
 F_World_Drop_s2 k1 (upd (upd (upd (upd (upd (upd q6 23 t23) 24 t24) 7 t24) 25 (q6 0)) 26 t24) 27 t27) t24 t27 w R
abbrev F_World_Drop_s4 (J3 : Env → Go.World → Prop) (q16 : Env) (t40 : Go.Value) (t41 : Go.Value) (w : Go.World) : Prop :=
 atDrew w fun (w : Go.World) =>
 load1 (q16 5) w fun t60 =>
 nilK t41 fun t62 =>
 fieldA 10 t62 fun t63 =>
 load1 t63 w fun t64 =>
 lookM false (Go.Value.int Go.IntKind.i64 0) t60 t64 false w fun t65 =>
 binI Go.BinOp.eql t65 (Go.Value.int Go.IntKind.i64 1) fun t66 =>
 condK t66
 (load1 (q16 5) w fun t67 =>
 updM false t67 t40 (Go.Value.int Go.IntKind.i64 1) w fun w =>
 J3 (upd (upd (upd (upd (upd (upd (upd (upd (upd q16 60 t60) 61 t41) 62 t62) 63 t63) 64 t64) 65 t65) 66 t66) 67 t67) 68 t40) w)
 (J3 (upd (upd (upd (upd (upd (upd (upd q16 60 t60) 61 t41) 62 t62) 63 t63) 64 t64) 65 t65) 66 t66) w)
abbrev F_World_Drop_s5 (J3 : Env → Go.World → Prop) (q13 : Env) (t40 : Go.Value) (t41 : Go.Value) (w : Go.World) (R : Go.Value → Go.World → Prop) : Prop :=
 atDrew w fun (w : Go.World) =>
 load1 (q13 5) w fun t47 =>
 lookM false (Go.Value.int Go.IntKind.i64 0) t47 t40 false w fun t49 =>
 binI Go.BinOp.eql t49 (Go.Value.int Go.IntKind.i64 1) fun t50 =>
 gopK t50 true (fun k => load1 (q13 5) w fun v => k v w) w fun t52 w =>
 gopK t50 true (fun k => k t41 w) w fun t53 w =>
 gopK t50 true (fun k => nilK t53 fun v => k v w) w fun t54 w =>
 gopK t50 true (fun k => fieldA 10 t54 fun v => k v w) w fun t55 w =>
 gopK t50 true (fun k => load1 t55 w fun v => k v w) w fun t56 w =>
 gopK t50 true (fun k => lookM false (Go.Value.int Go.IntKind.i64 0) t52 t56 false w fun v => k v w) w fun t57 w =>
 gopK t50 true (fun k => binI Go.BinOp.eql t57 (Go.Value.int Go.IntKind.i64 0) fun v => k v w) w fun t58 w =>
 pickK t50 t58 (Go.Value.bool false) fun t59 =>
 condK t59
 (R (Go.Value.int Go.IntKind.i64 72) w)
 (F_World_Drop_s4 J3 (upd (upd (upd (upd (upd (upd (upd (upd (upd (upd (upd (upd (upd q13 47 t47) 48 t40) 49 t49) 50 t50) 51 t50) 52 t52) 53 t53) 54 t54) 55 t55) 56 t56) 57 t57) 58 t58) 59 t59) t40 t41 w)
abbrev F_World_Drop_s6 (k2 : Env → Go.World → Prop) (q11 : Env) (w : Go.World) (R : Go.Value → Go.World → Prop) : Prop :=
 let J3 : Env → Go.World → Prop := fun e3 w =>
 (k2 e3 w)
 entryK (q11 36) w fun t39 =>
 extractK t39 0 fun t40 =>
 extractK t39 1 fun t41 =>
 nilK t41 fun t43 =>
 fieldA 0 t43 fun t44 =>
 load1 t44 w fun t45 =>
 binI Go.BinOp.neq t45 (Go.Value.int Go.IntKind.u8 14) fun t46 =>
 condK t46
 (J3 (upd (upd (upd (upd (upd (upd (upd (upd (upd (upd q11 39 t39) 40 t40) 41 t41) 8 t40) 9 t41) 42 t41) 43 t43) 44 t44) 45 t45) 46 t46) w)
 (F_World_Drop_s5 J3 (upd (upd (upd (upd (upd (upd (upd (upd (upd (upd q11 39 t39) 40 t40) 41 t41) 8 t40) 9 t41) 42 t41) 43 t43) 44 t44) 45 t45) 46 t46) t40 t41 w R)
abbrev F_World_Drop_s7 (J5 : Env → Go.World → Prop) (q22 : Env) (w : Go.World) (R : Go.Value → Go.World → Prop) : Prop :=
 drawK prog World_Drop_R23 q22 w.drew fun e6 w =>
 condK (e6 113)
 (R (Go.Value.int Go.IntKind.i64 72) w)
 (J5 e6 w)
abbrev F_World_Drop_s8 (k4 : Env → Go.World → Prop) (q20 : Env) (w : Go.World) (R : Go.Value → Go.World → Prop) : Prop :=
 let J5 : Env → Go.World → Prop := fun e5 w =>
 (k4 e5 w)
 entryK (q20 73) w fun t76 =>
 extractK t76 0 fun t77 =>
 extractK t76 1 fun t78 =>
 load1 (q20 5) w fun t79 =>
 lookM false (Go.Value.int Go.IntKind.i64 0) t79 t77 false w fun t81 =>
 binI Go.BinOp.eql t81 (Go.Value.int Go.IntKind.i64 1) fun t82 =>
 condK t82
 (J5 (upd (upd (upd (upd (upd (upd (upd (upd (upd q20 76 t76) 77 t77) 78 t78) 10 t77) 11 t78) 79 t79) 80 t77) 81 t81) 82 t82) w)
 (F_World_Drop_s7 J5 (upd (upd (upd (upd (upd (upd (upd (upd (upd q20 76 t76) 77 t77) 78 t78) 10 t77) 11 t78) 79 t79) 80 t77) 81 t81) 82 t82) w R)
abbrev F_World_Drop_s9 (J9 : Env → Go.World → Prop) (q27 : Env) (t125 : Go.Value) (w : Go.World) : Prop :=
 atDrew w fun (w : Go.World) =>
 nilK (q27 0) fun t133 =>
 fieldA 3 t133 fun t134 =>
 load1 t134 w fun t135 =>
 nilK t125 fun t137 =>
 fieldA 10 t137 fun t138 =>
 load1 t138 w fun t139 =>
 nilK t125 fun t141 =>
 fieldA 12 t141 fun t142 =>
 load1 t142 w fun t143 =>
 buildS (Go.Value.agg #[(Go.Value.int Go.IntKind.i64 0), (Go.Value.int Go.IntKind.u8 0)]) [(0, 1), (1, 1)] [(0, t139), (1, t143)] fun t144 =>
 delM true t135 t144 w fun w =>
 J9 (upd (upd (upd (upd (upd (upd (upd (upd (upd (upd (upd (upd (upd q27 132 (q27 0)) 133 t133) 134 t134) 135 t135) 136 t125) 137 t137) 138 t138) 139 t139) 140 t125) 141 t141) 142 t142) 143 t143) 144 t144) w
abbrev F_World_Drop_s10 (J9 : Env → Go.World → Prop) (q31 : Env) (t155 : Go.Value) (t177 : Go.Value) (w : Go.World) : Prop :=
 nilK t155 fun t178 =>
 fieldA 9 t178 fun t179 =>
 storeN 1 t179 t177 w fun w =>
 J9 (upd (upd q31 178 t178) 179 t179) w
abbrev F_World_Drop_s11 (J9 : Env → Go.World → Prop) (q30 : Env) (t125 : Go.Value) (t155 : Go.Value) (w : Go.World) : Prop :=
 atDrew w fun (w : Go.World) =>
 nilK t155 fun t165 =>
 fieldA 8 t165 fun t166 =>
 load1 t166 w fun t167 =>
 nilK t155 fun t169 =>
 fieldA 9 t169 fun t170 =>
 load1 t170 w fun t171 =>
 nilK t125 fun t173 =>
 fieldA 8 t173 fun t174 =>
 load1 t174 w fun t175 =>
 binI Go.BinOp.add t171 t175 fun t176 =>
 minK [t167, t176] fun t177 =>
 F_World_Drop_s10 J9 (upd (upd (upd (upd (upd (upd (upd (upd (upd (upd (upd (upd (upd (upd (upd q30 163 t155) 164 t155) 165 t165) 166 t166) 167 t167) 168 t155) 169 t169) 170 t170) 171 t171) 172 t125) 173 t173) 174 t174) 175 t175) 176 t176) 177 t177) t155 t177 w
abbrev F_World_Drop_s12 (J9 : Env → Go.World → Prop) (q29 : Env) (t125 : Go.Value) (w : Go.World) : Prop :=
 atDrew w fun (w : Go.World) =>
 nilK (q29 0) fun t148 =>
 fieldA 2 t148 fun t149 =>
 load1 t149 w fun t150 =>
 nilK t125 fun t152 =>
 fieldA 10 t152 fun t153 =>
 load1 t153 w fun t154 =>
 lookM false (Go.Value.pointer .none) t150 t154 false w fun t155 =>
 atDrew w fun (w : Go.World) =>
 load1 (q29 5) w fun t156 =>
 nilK t125 fun t158 =>
 fieldA 10 t158 fun t159 =>
 load1 t159 w fun t160 =>
 lookM false (Go.Value.int Go.IntKind.i64 0) t156 t160 false w fun t161 =>
 binI Go.BinOp.eql t161 (Go.Value.int Go.IntKind.i64 0) fun t162 =>
 condK t162
 (F_World_Drop_s11 J9 (upd (upd (upd (upd (upd (upd (upd (upd (upd (upd (upd (upd (upd (upd (upd (upd (upd q29 147 (q29 0)) 148 t148) 149 t149) 150 t150) 151 t125) 152 t152) 153 t153) 154 t154) 155 t155) 14 t155) 156 t156) 157 t125) 158 t158) 159 t159) 160 t160) 161 t161) 162 t162) t125 t155 w)
 (J9 (upd (upd (upd (upd (upd (upd (upd (upd (upd (upd (upd (upd (upd (upd (upd (upd (upd q29 147 (q29 0)) 148 t148) 149 t149) 150 t150) 151 t125) 152 t152) 153 t153) 154 t154) 155 t155) 14 t155) 156 t156) 157 t125) 158 t158) 159 t159) 160 t160) 161 t161) 162 t162) w)
abbrev F_World_Drop_s13 (J9 : Env → Go.World → Prop) (q35 : Env) (t125 : Go.Value) (w : Go.World) : Prop :=
 atDrew w fun (w : Go.World) =>
 nilK (q35 0) fun t190 =>
 fieldA 2 t190 fun t191 =>
 load1 t191 w fun t192 =>
 nilK t125 fun t194 =>
 fieldA 11 t194 fun t195 =>
 load1 t195 w fun t196 =>
 lookM false (Go.Value.pointer .none) t192 t196 false w fun t197 =>
 nilK t197 fun t198 =>
 fieldA 10 t198 fun t199 =>
 storeN 1 t199 (Go.Value.int Go.IntKind.i64 0) w fun w =>
 J9 (upd (upd (upd (upd (upd (upd (upd (upd (upd (upd (upd q35 189 (q35 0)) 190 t190) 191 t191) 192 t192) 193 t125) 194 t194) 195 t195) 196 t196) 197 t197) 198 t198) 199 t199) w
abbrev F_World_Drop_s14 (J9 : Env → Go.World → Prop) (q34 : Env) (t125 : Go.Value) (w : Go.World) : Prop :=
 atDrew w fun (w : Go.World) =>
 load1 (q34 5) w fun t182 =>
 nilK t125 fun t184 =>
 fieldA 11 t184 fun t185 =>
 load1 t185 w fun t186 =>
 lookM false (Go.Value.int Go.IntKind.i64 0) t182 t186 false w fun t187 =>
 binI Go.BinOp.eql t187 (Go.Value.int Go.IntKind.i64 0) fun t188 =>
 condK t188
 (F_World_Drop_s13 J9 (upd (upd (upd (upd (upd (upd (upd q34 182 t182) 183 t125) 184 t184) 185 t185) 186 t186) 187 t187) 188 t188) t125 w)
 (J9 (upd (upd (upd (upd (upd (upd (upd q34 182 t182) 183 t125) 184 t184) 185 t185) 186 t186) 187 t187) 188 t188) w)
abbrev F_World_Drop_s15 (J9 : Env → Go.World → Prop) (q33 : Env) (t125 : Go.Value) (t129 : Go.Value) (w : Go.World) : Prop :=
 binI Go.BinOp.eql t129 (Go.Value.int Go.IntKind.u8 15) fun t181 =>
 condK t181
 (F_World_Drop_s14 J9 (upd (upd q33 181 t181) 180 t181) t125 w)
 (J9 (upd (upd q33 181 t181) 180 t181) w)
abbrev F_World_Drop_s16 (J9 : Env → Go.World → Prop) (q28 : Env) (t125 : Go.Value) (t129 : Go.Value) (w : Go.World) : Prop :=
 binI Go.BinOp.eql t129 (Go.Value.int Go.IntKind.u8 9) fun t146 =>
 condK t146
 (F_World_Drop_s12 J9 (upd (upd q28 146 t146) 145 t146) t125 w)
 (F_World_Drop_s15 J9 (upd (upd q28 146 t146) 145 t146) t125 t129 w)
abbrev F_World_Drop_s17 (k7 : Env → Go.World → Prop) (q26 : Env) (w : Go.World) : Prop :=
 let J8 : Env → Go.World → Prop := fun e8 w =>
 (k7 e8 w)
 entryK (q26 115) w fun t118 =>
 extractK t118 0 fun t119 =>
 nilK (q26 0) fun t121 =>
 fieldA 2 t121 fun t122 =>
 load1 t122 w fun t123 =>
 lookM false (Go.Value.pointer .none) t123 t119 false w fun t125 =>
 nilK t125 fun t127 =>
 fieldA 0 t127 fun t128 =>
 load1 t128 w fun t129 =>
 let J9 : Env → Go.World → Prop := fun e9 w =>
 (J8 e9 w)
 binI Go.BinOp.eql t129 (Go.Value.int Go.IntKind.u8 14) fun t131 =>
 condK t131
 (F_World_Drop_s9 J9 (upd (upd (upd (upd (upd (upd (upd (upd (upd (upd (upd (upd (upd (upd (upd (upd q26 118 t118) 119 t119) 12 t119) 120 (q26 0)) 121 t121) 122 t122) 123 t123) 124 t119) 125 t125) 13 t125) 126 t125) 127 t127) 128 t128) 129 t129) 131 t131) 130 t131) t125 w)
 (F_World_Drop_s16 J9 (upd (upd (upd (upd (upd (upd (upd (upd (upd (upd (upd (upd (upd (upd (upd (upd q26 118 t118) 119 t119) 12 t119) 120 (q26 0)) 121 t121) 122 t122) 123 t123) 124 t119) 125 t125) 13 t125) 126 t125) 127 t127) 128 t128) 129 t129) 131 t131) 130 t131) t125 t129 w)
abbrev F_World_Drop_s18 (k10 : Env → Go.World → Prop) (q39 : Env) (w : Go.World) : Prop :=
 entryK (q39 201) w fun t204 =>
 extractK t204 0 fun t205 =>
 nilK (q39 0) fun t207 =>
 fieldA 2 t207 fun t208 =>
 load1 t208 w fun t209 =>
 delM false t209 t205 w fun w =>
 k10 (upd (upd (upd (upd (upd (upd (upd (upd q39 204 t204) 205 t205) 15 t205) 206 (q39 0)) 207 t207) 208 t208) 209 t209) 210 t205) w
abbrev F_World_Drop_s19 (e10 : Env) (k10 : Env → Go.World → Prop) (w : Go.World) (R : Go.Value → Go.World → Prop) : Prop :=
 nextK (e10 201) w fun t202 w =>
 extractK t202 0 fun t203 =>
 condK t203
 (F_World_Drop_s18 k10 (upd (upd e10 202 t202) 203 t203) w)
 (R (Go.Value.int Go.IntKind.i64 0) w)
abbrev F_World_Drop_s20 (q38 : Env) (w : Go.World) (R : Go.Value → Go.World → Prop) : Prop :=
 load1 (q38 5) w fun t200 =>
 rangeM t200 w fun t201 w =>
 loopK (fun k10 e10 w =>
 F_World_Drop_s19 e10 k10 w R) (upd (upd q38 200 t200) 201 t201) w
abbrev F_World_Drop_s21 (e7 : Env) (k7 : Env → Go.World → Prop) (w : Go.World) (R : Go.Value → Go.World → Prop) : Prop :=
 nextK (e7 115) w fun t116 w =>
 extractK t116 0 fun t117 =>
 condK t117
 (F_World_Drop_s17 k7 (upd (upd e7 116 t116) 117 t117) w)
 (F_World_Drop_s20 (upd (upd e7 116 t116) 117 t117) w R)
abbrev F_World_Drop_s22 (q25 : Env) (w : Go.World) (R : Go.Value → Go.World → Prop) : Prop :=
 load1 (q25 5) w fun t114 =>
 rangeM t114 w fun t115 w =>
 loopK (fun k7 e7 w =>
 F_World_Drop_s21 e7 k7 w R) (upd (upd q25 114 t114) 115 t115) w
abbrev F_World_Drop_s23 (e4 : Env) (k4 : Env → Go.World → Prop) (w : Go.World) (R : Go.Value → Go.World → Prop) : Prop :=
 nextK (e4 73) w fun t74 w =>
 extractK t74 0 fun t75 =>
 condK t75
 (F_World_Drop_s8 k4 (upd (upd e4 74 t74) 75 t75) w R)
 (F_World_Drop_s22 (upd (upd e4 74 t74) 75 t75) w R)
abbrev F_World_Drop_s24 (q19 : Env) (w : Go.World) (R : Go.Value → Go.World → Prop) : Prop :=
 nilK (q19 0) fun t70 =>
 fieldA 2 t70 fun t71 =>
 load1 t71 w fun t72 =>
 rangeM t72 w fun t73 w =>
 loopK (fun k4 e4 w =>
 F_World_Drop_s23 e4 k4 w R) (upd (upd (upd (upd (upd q19 69 (q19 0)) 70 t70) 71 t71) 72 t72) 73 t73) w
abbrev F_World_Drop_s25 (e2 : Env) (k2 : Env → Go.World → Prop) (w : Go.World) (R : Go.Value → Go.World → Prop) : Prop :=
 nextK (e2 36) w fun t37 w =>
 extractK t37 0 fun t38 =>
 condK t38
 (F_World_Drop_s6 k2 (upd (upd e2 37 t37) 38 t38) w R)
 (F_World_Drop_s24 (upd (upd e2 37 t37) 38 t38) w R)
abbrev F_World_Drop_s26 (q10 : Env) (w : Go.World) (R : Go.Value → Go.World → Prop) : Prop :=
 nilK (q10 0) fun t33 =>
 fieldA 2 t33 fun t34 =>
 load1 t34 w fun t35 =>
 rangeM t35 w fun t36 w =>
 loopK (fun k2 e2 w =>
 F_World_Drop_s25 e2 k2 w R) (upd (upd (upd (upd (upd q10 32 (q10 0)) 33 t33) 34 t34) 35 t35) 36 t36) w
abbrev F_World_Drop_s27 (e1 : Env) (k1 : Env → Go.World → Prop) (w : Go.World) (R : Go.Value → Go.World → Prop) : Prop :=
 binI Go.BinOp.lss (e1 21) (e1 20) fun t22 =>
 condK t22
 (F_World_Drop_s3 k1 (upd e1 22 t22) w R)
 (F_World_Drop_s26 (upd e1 22 t22) w R)
abbrev F_World_Drop_s28 (a1 : Go.Value) (q4 : Env) (t5 : Go.Value) (t18 : Go.Value) (w : Go.World) (R : Go.Value → Go.World → Prop) : Prop :=
 storeN 1 t5 t18 w fun w =>
 lenL a1 fun t20 =>
 loopK (fun k1 e1 w =>
 F_World_Drop_s27 e1 k1 w R) (upd (upd (upd q4 19 a1) 20 t20) 21 (Go.Value.int Go.IntKind.i64 0)) w
abbrev F_World_Drop_s29 (a1 : Go.Value) (q1 : Env) (t17 : Go.Value) (w : Go.World) (R : Go.Value → Go.World → Prop) : Prop :=
 condK t17
 (R (Go.Value.int Go.IntKind.i64 1) w)
 (True ∧ (fun (t18 : Go.Value) (w : Go.World) =>
 allocZ (Go.Value.map .none) 122 w fun t5 w =>
 F_World_Drop_s28 a1 (upd (upd q1 18 t18) 5 t5) t5 t18 w R) (.map (some w.heap.size)) (w.alloc (.map #[] 0)))
/-- (*postern/world.World).Drop -/
def F_World_Drop (a0 : Go.Value) (a1 : Go.Value) (w : Go.World) (R : Go.Value → Go.World → Prop) : Prop :=
 callOn prog fn_World_none #[a0] w fun t17 w =>
 F_World_Drop_s29 a1 (upd (upd (upd (start [a0, a1]) 4 (Go.Value.int Go.IntKind.i64 0)) 16 a0) 17 t17) t17 w R
theorem F_World_Drop_eq (a0 : Go.Value) (a1 : Go.Value) (w : Go.World) (R : Go.Value → Go.World → Prop) : cK prog (bodyOf Try.f27) (resK prog Try.f27.results.toList R) (start [a0, a1]) w = F_World_Drop a0 a1 w R := by kernel_rfl
theorem F_World_Drop_on (a0 : Go.Value) (a1 : Go.Value) (w : Go.World) (k : Go.Value → Go.World → Prop) (h : F_World_Drop a0 a1 w k) : callOn prog fn_World_Drop #[a0, a1] w k :=
  calls_list (args := [a0, a1]) mixed Try.func27 (by kernel_rfl) (by kernel_rfl) (Eq.mpr (F_World_Drop_eq a0 a1 w _) (Eq.mpr (congrArg (F_World_Drop a0 a1 w) (on_eq k)) h))


/-- (*postern/world.World).Drop$1 -/
def F_World_Drop_1 (a0 : Go.Value) (a1 : Go.Value) (w : Go.World) (R : Go.Value → Go.World → Prop) : Prop :=
 load1 a1 w fun t4 =>
 lookM false (Go.Value.int Go.IntKind.i64 0) t4 a0 false w fun t6 =>
 binI Go.BinOp.eql t6 (Go.Value.int Go.IntKind.i64 1) fun t7 =>
 R t7 w
theorem F_World_Drop_1_eq (a0 : Go.Value) (a1 : Go.Value) (w : Go.World) (R : Go.Value → Go.World → Prop) : cK prog (bodyOf Try.f73) (resK prog Try.f73.results.toList R) (start [a0, a1]) w = F_World_Drop_1 a0 a1 w R := by kernel_rfl
theorem F_World_Drop_1_on (a0 : Go.Value) (a1 : Go.Value) (w : Go.World) (k : Go.Value → Go.World → Prop) (h : F_World_Drop_1 a0 a1 w k) : callOn prog fn_World_Drop_1 #[a0, a1] w k :=
  calls_list (args := [a0, a1]) mixed Try.func73 (by kernel_rfl) (by kernel_rfl) (Eq.mpr (F_World_Drop_1_eq a0 a1 w _) (Eq.mpr (congrArg (F_World_Drop_1 a0 a1 w) (on_eq k)) h))


end Go.X
