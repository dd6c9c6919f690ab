/- The calculator's word on functions of this program, each with its proof: written by a program of this family (shallow.py). -/
import Derived.Test.YtdjheefbeagcjaaXxP
set_option linter.unusedVariables false
set_option maxRecDepth 100000
namespace Go.X
open Go Go.Proofs
abbrev F_World_Make_s1 (J1 : Env → Go.World → Prop) (a0 : Go.Value) (q21 : Env) (t3 : Go.Value) (t72 : Go.Value) (w : Go.World) : Prop :=
 atDrew w fun (w : Go.World) =>
 nilK a0 fun t77 =>
 fieldA 2 t77 fun t78 =>
 load1 t78 w fun t79 =>
 fieldA 11 t3 fun t80 =>
 load1 t80 w fun t81 =>
 lookM false (Go.Value.pointer .none) t79 t81 false w fun t82 =>
 nilK t82 fun t84 =>
 fieldA 10 t84 fun t85 =>
 storeN 1 t85 t72 w fun w =>
 J1 (upd (upd (upd (upd (upd (upd (upd (upd (upd (upd q21 76 a0) 77 t77) 78 t78) 79 t79) 80 t80) 81 t81) 82 t82) 83 t72) 84 t84) 85 t85) w
abbrev F_World_Make_s2 (a0 : Go.Value) (q20 : Env) (t3 : Go.Value) (t72 : Go.Value) (w : Go.World) (R : Go.Value → Go.World → Prop) : Prop :=
 let J1 : Env → Go.World → Prop := fun e1 w =>
 (R (Go.Value.tuple #[(e1 6), (Go.Value.int Go.IntKind.i64 0)]) w)
 fieldA 0 t3 fun t73 =>
 load1 t73 w fun t74 =>
 binI Go.BinOp.eql t74 (Go.Value.int Go.IntKind.u8 15) fun t75 =>
 condK t75
 (F_World_Make_s1 J1 a0 (upd (upd (upd (upd q20 6 t72) 73 t73) 74 t74) 75 t75) t3 t72 w)
 (J1 (upd (upd (upd (upd q20 6 t72) 73 t73) 74 t74) 75 t75) w)
abbrev F_World_Make_s3 (a0 : Go.Value) (q18 : Env) (t3 : Go.Value) (w : Go.World) (R : Go.Value → Go.World → Prop) : Prop :=
 loadN 16 t3 w fun t70 =>
 callOn prog fn_world_ownWhat #[t70] w fun t71 w =>
 callOn prog fn_World_lay #[a0, t71] w fun t72 w =>
 F_World_Make_s2 a0 (upd (upd (upd (upd q18 69 a0) 70 t70) 71 t71) 72 t72) t3 t72 w R
abbrev F_World_Make_s4 (a0 : Go.Value) (q16 : Env) (t3 : Go.Value) (w : Go.World) (R : Go.Value → Go.World → Prop) : Prop :=
 atDrew w fun (w : Go.World) =>
 nilK a0 fun t61 =>
 fieldA 5 t61 fun t62 =>
 load1 t62 w fun t63 =>
 fieldA 1 t3 fun t64 =>
 load1 t64 w fun t65 =>
 indexS 1 t63 t65 fun t66 =>
 load1 t66 w fun t67 =>
 binI Go.BinOp.geq t67 (Go.Value.int Go.IntKind.i64 512) fun t68 =>
 condK t68
 (R (Go.Value.tuple #[(Go.Value.int Go.IntKind.i64 0), (Go.Value.int Go.IntKind.i64 8)]) w)
 (F_World_Make_s3 a0 (upd (upd (upd (upd (upd (upd (upd (upd (upd q16 60 a0) 61 t61) 62 t62) 63 t63) 64 t64) 65 t65) 66 t66) 67 t67) 68 t68) t3 w R)
abbrev F_World_Make_s5 (a0 : Go.Value) (q14 : Env) (t3 : Go.Value) (t58 : Go.Value) (w : Go.World) (R : Go.Value → Go.World → Prop) : Prop :=
 unK Go.UnOp.not t58 fun t59 =>
 condK t59
 (R (Go.Value.tuple #[(Go.Value.int Go.IntKind.i64 0), (Go.Value.int Go.IntKind.i64 70)]) w)
 (F_World_Make_s4 a0 (upd q14 59 t59) t3 w R)
abbrev F_World_Make_s6 (a0 : Go.Value) (q11 : Env) (t3 : Go.Value) (t55 : Go.Value) (w : Go.World) (R : Go.Value → Go.World → Prop) : Prop :=
 condK t55
 (R (Go.Value.tuple #[(Go.Value.int Go.IntKind.i64 0), (Go.Value.int Go.IntKind.i64 5)]) w)
 (loadN 16 t3 w fun t57 =>
 callOn prog fn_World_fits #[a0, (Go.Value.int Go.IntKind.i64 0), t57] w fun t58 w =>
 F_World_Make_s5 a0 (upd (upd (upd q11 56 a0) 57 t57) 58 t58) t3 t58 w R)
abbrev F_World_Make_s7 (a0 : Go.Value) (q10 : Env) (t3 : Go.Value) (t43 : Go.Value) (w : Go.World) (R : Go.Value → Go.World → Prop) : Prop :=
 gopK t43 false (fun k => fieldA 0 t3 fun v => k v w) w fun t45 w =>
 gopK t43 false (fun k => load1 t45 w fun v => k v w) w fun t46 w =>
 gopK t43 false (fun k => callOn prog fn_world_asksBy #[t46] w k) w fun t47 w =>
 gopK t43 false (fun k => k t47 w) w fun t48 w =>
 gopK t48 true (fun k => k a0 w) w fun t49 w =>
 gopK t48 true (fun k => fieldA 11 t3 fun v => k v w) w fun t50 w =>
 gopK t48 true (fun k => load1 t50 w fun v => k v w) w fun t51 w =>
 gopK t48 true (fun k => callOn prog fn_World_Is #[t49, t51] w k) w fun t52 w =>
 gopK t48 true (fun k => unK Go.UnOp.not t52 fun v => k v w) w fun t53 w =>
 gopK t43 false (fun k => pickK t48 t53 (Go.Value.bool false) fun v => k v w) w fun t54 w =>
 pickK t43 (Go.Value.bool true) t54 fun t55 =>
 F_World_Make_s6 a0 (upd (upd (upd (upd (upd (upd (upd (upd (upd (upd (upd (upd q10 44 t43) 45 t45) 46 t46) 47 t47) 48 t48) 49 t49) 50 t50) 51 t51) 52 t52) 53 t53) 54 t54) 55 t55) t3 t55 w R
abbrev F_World_Make_s8 (a0 : Go.Value) (q9 : Env) (t3 : Go.Value) (t30 : Go.Value) (w : Go.World) (R : Go.Value → Go.World → Prop) : Prop :=
 unK Go.UnOp.not t30 fun t31 =>
 gopK t31 false (fun k => fieldA 0 t3 fun v => k v w) w fun t33 w =>
 gopK t31 false (fun k => load1 t33 w fun v => k v w) w fun t34 w =>
 gopK t31 false (fun k => callOn prog fn_world_asksOf #[t34] w k) w fun t35 w =>
 gopK t31 false (fun k => k t35 w) w fun t36 w =>
 gopK t36 true (fun k => k a0 w) w fun t37 w =>
 gopK t36 true (fun k => fieldA 10 t3 fun v => k v w) w fun t38 w =>
 gopK t36 true (fun k => load1 t38 w fun v => k v w) w fun t39 w =>
 gopK t36 true (fun k => callOn prog fn_World_Is #[t37, t39] w k) w fun t40 w =>
 gopK t36 true (fun k => unK Go.UnOp.not t40 fun v => k v w) w fun t41 w =>
 gopK t31 false (fun k => pickK t36 t41 (Go.Value.bool false) fun v => k v w) w fun t42 w =>
 pickK t31 (Go.Value.bool true) t42 fun t43 =>
 F_World_Make_s7 a0 (upd (upd (upd (upd (upd (upd (upd (upd (upd (upd (upd (upd (upd q9 31 t31) 32 t31) 33 t33) 34 t34) 35 t35) 36 t36) 37 t37) 38 t38) 39 t39) 40 t40) 41 t41) 42 t42) 43 t43) t3 t43 w R
abbrev F_World_Make_s9 (a0 : Go.Value) (q6 : Env) (t3 : Go.Value) (t27 : Go.Value) (w : Go.World) (R : Go.Value → Go.World → Prop) : Prop :=
 condK t27
 (R (Go.Value.tuple #[(Go.Value.int Go.IntKind.i64 0), (Go.Value.int Go.IntKind.i64 70)]) w)
 (loadN 16 t3 w fun t29 =>
 callOn prog fn_World_names #[a0, t29] w fun t30 w =>
 F_World_Make_s8 a0 (upd (upd (upd q6 28 a0) 29 t29) 30 t30) t3 t30 w R)
abbrev F_World_Make_s10 (a0 : Go.Value) (q5 : Env) (t3 : Go.Value) (t21 : Go.Value) (w : Go.World) (R : Go.Value → Go.World → Prop) : Prop :=
 gopK t21 false (fun k => k a0 w) w fun t23 w =>
 gopK t21 false (fun k => loadN 16 t3 w fun v => k v w) w fun t24 w =>
 gopK t21 false (fun k => callOn prog fn_World_form #[t23, t24] w k) w fun t25 w =>
 gopK t21 false (fun k => unK Go.UnOp.not t25 fun v => k v w) w fun t26 w =>
 pickK t21 (Go.Value.bool true) t26 fun t27 =>
 F_World_Make_s9 a0 (upd (upd (upd (upd (upd (upd q5 22 t21) 23 t23) 24 t24) 25 t25) 26 t26) 27 t27) t3 t27 w R
abbrev F_World_Make_s11 (a0 : Go.Value) (q4 : Env) (t3 : Go.Value) (w : Go.World) (R : Go.Value → Go.World → Prop) : Prop :=
 fieldA 0 t3 fun t9 =>
 load1 t9 w fun t10 =>
 binI Go.BinOp.eql t10 (Go.Value.int Go.IntKind.u8 14) fun t11 =>
 gopK t11 false (fun k => fieldA 0 t3 fun v => k v w) w fun t13 w =>
 gopK t11 false (fun k => load1 t13 w fun v => k v w) w fun t14 w =>
 gopK t11 false (fun k => binI Go.BinOp.eql t14 (Go.Value.int Go.IntKind.u8 13) fun v => k v w) w fun t15 w =>
 gopK t11 false (fun k => k t15 w) w fun t16 w =>
 gopK t16 true (fun k => fieldA 10 t3 fun v => k v w) w fun t17 w =>
 gopK t16 true (fun k => load1 t17 w fun v => k v w) w fun t18 w =>
 gopK t16 true (fun k => binI Go.BinOp.neq t18 (Go.Value.int Go.IntKind.i64 0) fun v => k v w) w fun t19 w =>
 gopK t11 false (fun k => pickK t16 t19 (Go.Value.bool false) fun v => k v w) w fun t20 w =>
 pickK t11 (Go.Value.bool true) t20 fun t21 =>
 F_World_Make_s10 a0 (upd (upd (upd (upd (upd (upd (upd (upd (upd (upd (upd (upd (upd q4 9 t9) 10 t10) 11 t11) 12 t11) 13 t13) 14 t14) 15 t15) 16 t16) 17 t17) 18 t18) 19 t19) 20 t20) 21 t21) t3 t21 w R
abbrev F_World_Make_s12 (a0 : Go.Value) (q1 : Env) (t3 : Go.Value) (w : Go.World) (R : Go.Value → Go.World → Prop) : Prop :=
 callOn prog fn_World_none #[a0] w fun t8 w =>
 condK t8
 (R (Go.Value.tuple #[(Go.Value.int Go.IntKind.i64 0), (Go.Value.int Go.IntKind.i64 1)]) w)
 (F_World_Make_s11 a0 (upd (upd (upd (upd q1 4 (Go.Value.int Go.IntKind.i64 0)) 5 (Go.Value.int Go.IntKind.i64 0)) 7 a0) 8 t8) t3 w R)
/-- (*postern/world.World).Make -/
def F_World_Make (a0 : Go.Value) (a1 : Go.Value) (w : Go.World) (R : Go.Value → Go.World → Prop) : Prop :=
 boxK 52 a1 w fun t3 w =>
 F_World_Make_s12 a0 (upd (start [a0, a1]) 3 t3) t3 w R
theorem F_World_Make_eq (a0 : Go.Value) (a1 : Go.Value) (w : Go.World) (R : Go.Value → Go.World → Prop) : cK prog (bodyOf Try.f26) (resK prog Try.f26.results.toList R) (start [a0, a1]) w = F_World_Make a0 a1 w R := by kernel_rfl
theorem F_World_Make_on (a0 : Go.Value) (a1 : Go.Value) (w : Go.World) (k : Go.Value → Go.World → Prop) (h : F_World_Make a0 a1 w k) : callOn prog fn_World_Make #[a0, a1] w k :=
  calls_list (args := [a0, a1]) mixed Try.func26 (by kernel_rfl) (by kernel_rfl) (Eq.mpr (F_World_Make_eq a0 a1 w _) (Eq.mpr (congrArg (F_World_Make a0 a1 w) (on_eq k)) h))


abbrev F_World_form_s1 (k1 : Env → Go.World → Prop) (q33 : Env) (t145 : Go.Value) (w : Go.World) (R : Go.Value → Go.World → Prop) : Prop :=
 unK Go.UnOp.not t145 fun t146 =>
 condK t146
 (R (Go.Value.bool false) w)
 (binI Go.BinOp.add (q33 139) (Go.Value.int Go.IntKind.i64 1) fun t147 =>
 k1 (upd (upd (upd q33 146 t146) 147 t147) 139 t147) w)
abbrev F_World_form_s2 (k1 : Env → Go.World → Prop) (q32 : Env) (t9 : Go.Value) (t142 : Go.Value) (w : Go.World) (R : Go.Value → Go.World → Prop) : Prop :=
 storeN 6 t9 t142 w fun w =>
 fieldA 1 t9 fun t143 =>
 loadN 5 t143 w fun t144 =>
 callOn prog fn_value_May #[t144] w fun t145 w =>
 F_World_form_s1 k1 (upd (upd (upd q32 143 t143) 144 t144) 145 t145) t145 w R
abbrev F_World_form_s3 (k1 : Env → Go.World → Prop) (q31 : Env) (w : Go.World) (R : Go.Value → Go.World → Prop) : Prop :=
 indexS 6 (q31 137) (q31 139) fun t141 =>
 loadN 6 t141 w fun t142 =>
 allocZ (Go.Value.agg #[(Go.Value.string { data := #[] }), (Go.Value.int Go.IntKind.u8 0), (Go.Value.int Go.IntKind.i64 0), (Go.Value.string { data := #[] }), (Go.Value.slice .none 0 0), (Go.Value.int Go.IntKind.i64 0)]) 150 w fun t9 w =>
 F_World_form_s2 k1 (upd (upd (upd q31 141 t141) 142 t142) 9 t9) t9 t142 w R
abbrev F_World_form_s4 (q39 : Env) (t166 : Go.Value) (w : Go.World) (R : Go.Value → Go.World → Prop) : Prop :=
 gopK t166 true (fun k => fieldA 9 (q39 3) fun v => k v w) w fun t168 w =>
 gopK t166 true (fun k => load1 t168 w fun v => k v w) w fun t169 w =>
 gopK t166 true (fun k => fieldA 8 (q39 3) fun v => k v w) w fun t170 w =>
 gopK t166 true (fun k => load1 t170 w fun v => k v w) w fun t171 w =>
 gopK t166 true (fun k => binI Go.BinOp.leq t169 t171 fun v => k v w) w fun t172 w =>
 pickK t166 t172 (Go.Value.bool false) fun t173 =>
 R t173 w
abbrev F_World_form_s5 (q38 : Env) (t161 : Go.Value) (w : Go.World) (R : Go.Value → Go.World → Prop) : Prop :=
 gopK t161 true (fun k => fieldA 9 (q38 3) fun v => k v w) w fun t163 w =>
 gopK t161 true (fun k => load1 t163 w fun v => k v w) w fun t164 w =>
 gopK t161 true (fun k => binI Go.BinOp.geq t164 (Go.Value.int Go.IntKind.i64 0) fun v => k v w) w fun t165 w =>
 pickK t161 t165 (Go.Value.bool false) fun t166 =>
 F_World_form_s4 (upd (upd (upd (upd (upd q38 162 t161) 163 t163) 164 t164) 165 t165) 166 t166) t166 w R
abbrev F_World_form_s6 (q37 : Env) (w : Go.World) (R : Go.Value → Go.World → Prop) : Prop :=
 fieldA 8 (q37 3) fun t154 =>
 load1 t154 w fun t155 =>
 binI Go.BinOp.geq t155 (Go.Value.int Go.IntKind.i64 0) fun t156 =>
 gopK t156 true (fun k => fieldA 8 (q37 3) fun v => k v w) w fun t158 w =>
 gopK t156 true (fun k => load1 t158 w fun v => k v w) w fun t159 w =>
 gopK t156 true (fun k => binI Go.BinOp.leq t159 (Go.Value.int Go.IntKind.i64 9007199254740992) fun v => k v w) w fun t160 w =>
 pickK t156 t160 (Go.Value.bool false) fun t161 =>
 F_World_form_s5 (upd (upd (upd (upd (upd (upd (upd (upd q37 154 t154) 155 t155) 156 t156) 157 t156) 158 t158) 159 t159) 160 t160) 161 t161) t161 w R
abbrev F_World_form_s7 (q42 : Env) (w : Go.World) (R : Go.Value → Go.World → Prop) : Prop :=
 fieldA 13 (q42 3) fun t176 =>
 load1 t176 w fun t177 =>
 gopK t177 false (fun k => fieldA 2 (q42 3) fun v => k v w) w fun t179 w =>
 gopK t177 false (fun k => loadN 5 t179 w fun v => k v w) w fun t180 w =>
 gopK t177 false (fun k => callOn prog fn_world_blank #[t180] w k) w fun t181 w =>
 pickK t177 (Go.Value.bool true) t181 fun t182 =>
 R t182 w
abbrev F_World_form_s8 (q46 : Env) (t10 : Go.Value) (w : Go.World) (R : Go.Value → Go.World → Prop) : Prop :=
 storeN 1 t10 (Go.Value.int Go.IntKind.i64 0) w fun w =>
 fieldA 14 (q46 3) fun t185 =>
 load1 t185 w fun t186 =>
 callOn prog fn_world_small #[t186, t10] w fun t187 w =>
 R t187 w
abbrev F_World_form_s9 (q49 : Env) (w : Go.World) (R : Go.Value → Go.World → Prop) : Prop :=
 fieldA 12 (q49 3) fun t190 =>
 load1 t190 w fun t191 =>
 callOn prog fn_able_May #[t191] w fun t192 w =>
 R t192 w
abbrev F_World_form_s10 (q48 : Env) (w : Go.World) (R : Go.Value → Go.World → Prop) : Prop :=
 binI Go.BinOp.eql (q48 149) (Go.Value.int Go.IntKind.u8 14) fun t189 =>
 condK t189
 (F_World_form_s9 (upd (upd q48 189 t189) 188 t189) w R)
 (R (Go.Value.bool true) w)
abbrev F_World_form_s11 (q44 : Env) (w : Go.World) (R : Go.Value → Go.World → Prop) : Prop :=
 binI Go.BinOp.eql (q44 149) (Go.Value.int Go.IntKind.u8 12) fun t184 =>
 condK t184
 (allocZ (Go.Value.int Go.IntKind.i64 0) 3 w fun t10 w =>
 F_World_form_s8 (upd (upd (upd q44 184 t184) 183 t184) 10 t10) t10 w R)
 (F_World_form_s10 (upd (upd q44 184 t184) 183 t184) w R)
abbrev F_World_form_s12 (q41 : Env) (w : Go.World) (R : Go.Value → Go.World → Prop) : Prop :=
 binI Go.BinOp.eql (q41 149) (Go.Value.int Go.IntKind.u8 10) fun t175 =>
 condK t175
 (F_World_form_s7 (upd (upd q41 175 t175) 174 t175) w R)
 (F_World_form_s11 (upd (upd q41 175 t175) 174 t175) w R)
abbrev F_World_form_s13 (e2 : Env) (w : Go.World) (R : Go.Value → Go.World → Prop) : Prop :=
 condK (e2 150)
 (F_World_form_s6 e2 w R)
 (F_World_form_s12 e2 w R)
abbrev F_World_form_s14 (J2 : Env → Go.World → Prop) (q53 : Env) (t149 : Go.Value) (w : Go.World) : Prop :=
 binI Go.BinOp.eql t149 (Go.Value.int Go.IntKind.u8 8) fun t152 =>
 condK t152
 (J2 (upd (upd q53 152 t152) 150 t152) w)
 (binI Go.BinOp.eql t149 (Go.Value.int Go.IntKind.u8 9) fun t153 =>
 J2 (upd (upd (upd (upd q53 152 t152) 150 t152) 153 t153) 150 t153) w)
abbrev F_World_form_s15 (q36 : Env) (w : Go.World) (R : Go.Value → Go.World → Prop) : Prop :=
 fieldA 0 (q36 3) fun t148 =>
 load1 t148 w fun t149 =>
 let J2 : Env → Go.World → Prop := fun e2 w =>
 (F_World_form_s13 e2 w R)
 binI Go.BinOp.eql t149 (Go.Value.int Go.IntKind.u8 3) fun t151 =>
 condK t151
 (J2 (upd (upd (upd (upd q36 148 t148) 149 t149) 151 t151) 150 t151) w)
 (F_World_form_s14 J2 (upd (upd (upd (upd q36 148 t148) 149 t149) 151 t151) 150 t151) t149 w)
abbrev F_World_form_s16 (e1 : Env) (k1 : Env → Go.World → Prop) (w : Go.World) (R : Go.Value → Go.World → Prop) : Prop :=
 binI Go.BinOp.lss (e1 139) (e1 138) fun t140 =>
 condK t140
 (F_World_form_s3 k1 (upd e1 140 t140) w R)
 (F_World_form_s15 (upd e1 140 t140) w R)
abbrev F_World_form_s17 (q29 : Env) (t3 : Go.Value) (w : Go.World) (R : Go.Value → Go.World → Prop) : Prop :=
 fieldA 15 t3 fun t136 =>
 load1 t136 w fun t137 =>
 lenL t137 fun t138 =>
 loopK (fun k1 e1 w =>
 F_World_form_s16 e1 k1 w R) (upd (upd (upd (upd q29 136 t136) 137 t137) 138 t138) 139 (Go.Value.int Go.IntKind.i64 0)) w
abbrev F_World_form_s18 (q26 : Env) (t3 : Go.Value) (t6 : Go.Value) (t126 : Go.Value) (t127 : Go.Value) (w : Go.World) (R : Go.Value → Go.World → Prop) : Prop :=
 storeN 5 t6 t126 w fun w =>
 binI Go.BinOp.neq t127 (Go.Value.int Go.IntKind.i64 0) fun t129 =>
 gopK t129 false (fun k => fieldA 15 t3 fun v => k v w) w fun t131 w =>
 gopK t129 false (fun k => load1 t131 w fun v => k v w) w fun t132 w =>
 gopK t129 false (fun k => lenL t132 fun v => k v w) w fun t133 w =>
 gopK t129 false (fun k => binI Go.BinOp.gtr t133 (Go.Value.int Go.IntKind.i64 64) fun v => k v w) w fun t134 w =>
 pickK t129 (Go.Value.bool true) t134 fun t135 =>
 condK t135
 (R (Go.Value.bool false) w)
 (F_World_form_s17 (upd (upd (upd (upd (upd (upd (upd (upd (upd q26 7 t127) 128 t127) 129 t129) 130 t129) 131 t131) 132 t132) 133 t133) 134 t134) 135 t135) t3 w R)
abbrev F_World_form_s19 (q25 : Env) (t3 : Go.Value) (t125 : Go.Value) (w : Go.World) (R : Go.Value → Go.World → Prop) : Prop :=
 extractK t125 0 fun t126 =>
 extractK t125 1 fun t127 =>
 allocZ (Go.Value.agg #[(Go.Value.int Go.IntKind.u8 0), (Go.Value.int Go.IntKind.i64 0), (Go.Value.string { data := #[] }), (Go.Value.slice .none 0 0), (Go.Value.int Go.IntKind.i64 0)]) 47 w fun t6 w =>
 F_World_form_s18 (upd (upd (upd (upd q25 122 t125) 126 t126) 127 t127) 6 t6) t3 t6 t126 t127 w R
abbrev F_World_form_s20 (q24 : Env) (t3 : Go.Value) (w : Go.World) (R : Go.Value → Go.World → Prop) : Prop :=
 fieldA 7 t3 fun t123 =>
 load1 t123 w fun t124 =>
 callOn prog fn_value_Of #[t124] w fun t125 w =>
 F_World_form_s19 (upd (upd (upd q24 123 t123) 124 t124) 125 t125) t3 t125 w R
abbrev F_World_form_s21 (q21 : Env) (t3 : Go.Value) (t115 : Go.Value) (w : Go.World) (R : Go.Value → Go.World → Prop) : Prop :=
 gopK t115 false (fun k => fieldA 2 t3 fun v => k v w) w fun t117 w =>
 gopK t115 false (fun k => loadN 5 t117 w fun v => k v w) w fun t118 w =>
 gopK t115 false (fun k => callOn prog fn_value_May #[t118] w k) w fun t119 w =>
 gopK t115 false (fun k => unK Go.UnOp.not t119 fun v => k v w) w fun t120 w =>
 pickK t115 (Go.Value.bool true) t120 fun t121 =>
 condK t121
 (R (Go.Value.bool false) w)
 (F_World_form_s20 (upd (upd (upd (upd (upd (upd q21 116 t115) 117 t117) 118 t118) 119 t119) 120 t120) 121 t121) t3 w R)
abbrev F_World_form_s22 (a0 : Go.Value) (q20 : Env) (t3 : Go.Value) (w : Go.World) (R : Go.Value → Go.World → Prop) : Prop :=
 fieldA 0 t3 fun t106 =>
 load1 t106 w fun t107 =>
 binI Go.BinOp.neq t107 (Go.Value.int Go.IntKind.u8 14) fun t108 =>
 gopK t108 true (fun k => k a0 w) w fun t110 w =>
 gopK t108 true (fun k => fieldA 1 t3 fun v => k v w) w fun t111 w =>
 gopK t108 true (fun k => load1 t111 w fun v => k v w) w fun t112 w =>
 gopK t108 true (fun k => callOn prog fn_World_side #[t110, t112] w k) w fun t113 w =>
 gopK t108 true (fun k => unK Go.UnOp.not t113 fun v => k v w) w fun t114 w =>
 pickK t108 t114 (Go.Value.bool false) fun t115 =>
 F_World_form_s21 (upd (upd (upd (upd (upd (upd (upd (upd (upd (upd q20 106 t106) 107 t107) 108 t108) 109 t108) 110 t110) 111 t111) 112 t112) 113 t113) 114 t114) 115 t115) t3 t115 w R
abbrev F_World_form_s23 (a0 : Go.Value) (q17 : Env) (t3 : Go.Value) (t5 : Go.Value) (t94 : Go.Value) (w : Go.World) (R : Go.Value → Go.World → Prop) : Prop :=
 gopK t94 false (fun k => fieldA 2 t5 fun v => k v w) w fun t96 w =>
 gopK t94 false (fun k => loadN 5 t96 w fun v => k v w) w fun t97 w =>
 gopK t94 false (fun k => callOn prog fn_world_blank #[t97] w k) w fun t98 w =>
 gopK t94 false (fun k => k t98 w) w fun t99 w =>
 gopK t99 true (fun k => fieldA 2 t3 fun v => k v w) w fun t100 w =>
 gopK t99 true (fun k => loadN 5 t100 w fun v => k v w) w fun t101 w =>
 gopK t99 true (fun k => callOn prog fn_world_blank #[t101] w k) w fun t102 w =>
 gopK t99 true (fun k => unK Go.UnOp.not t102 fun v => k v w) w fun t103 w =>
 gopK t94 false (fun k => pickK t99 t103 (Go.Value.bool false) fun v => k v w) w fun t104 w =>
 pickK t94 (Go.Value.bool true) t104 fun t105 =>
 condK t105
 (R (Go.Value.bool false) w)
 (F_World_form_s22 a0 (upd (upd (upd (upd (upd (upd (upd (upd (upd (upd (upd q17 95 t94) 96 t96) 97 t97) 98 t98) 99 t99) 100 t100) 101 t101) 102 t102) 103 t103) 104 t104) 105 t105) t3 w R)
abbrev F_World_form_s24 (a0 : Go.Value) (q16 : Env) (t3 : Go.Value) (t5 : Go.Value) (t85 : Go.Value) (w : Go.World) (R : Go.Value → Go.World → Prop) : Prop :=
 gopK t85 false (fun k => fieldA 15 t3 fun v => k v w) w fun t87 w =>
 gopK t85 false (fun k => load1 t87 w fun v => k v w) w fun t88 w =>
 gopK t85 false (fun k => lenL t88 fun v => k v w) w fun t89 w =>
 gopK t85 false (fun k => fieldA 15 t5 fun v => k v w) w fun t90 w =>
 gopK t85 false (fun k => load1 t90 w fun v => k v w) w fun t91 w =>
 gopK t85 false (fun k => lenL t91 fun v => k v w) w fun t92 w =>
 gopK t85 false (fun k => binI Go.BinOp.neq t89 t92 fun v => k v w) w fun t93 w =>
 pickK t85 (Go.Value.bool true) t93 fun t94 =>
 F_World_form_s23 a0 (upd (upd (upd (upd (upd (upd (upd (upd (upd q16 86 t85) 87 t87) 88 t88) 89 t89) 90 t90) 91 t91) 92 t92) 93 t93) 94 t94) t3 t5 t94 w R
abbrev F_World_form_s25 (a0 : Go.Value) (q15 : Env) (t3 : Go.Value) (t5 : Go.Value) (t72 : Go.Value) (t75 : Go.Value) (w : Go.World) (R : Go.Value → Go.World → Prop) : Prop :=
 binI Go.BinOp.neq t72 t75 fun t76 =>
 gopK t76 false (fun k => fieldA 14 t3 fun v => k v w) w fun t78 w =>
 gopK t76 false (fun k => load1 t78 w fun v => k v w) w fun t79 w =>
 gopK t76 false (fun k => lenL t79 fun v => k v w) w fun t80 w =>
 gopK t76 false (fun k => fieldA 14 t5 fun v => k v w) w fun t81 w =>
 gopK t76 false (fun k => load1 t81 w fun v => k v w) w fun t82 w =>
 gopK t76 false (fun k => lenL t82 fun v => k v w) w fun t83 w =>
 gopK t76 false (fun k => binI Go.BinOp.neq t80 t83 fun v => k v w) w fun t84 w =>
 pickK t76 (Go.Value.bool true) t84 fun t85 =>
 F_World_form_s24 a0 (upd (upd (upd (upd (upd (upd (upd (upd (upd (upd q15 76 t76) 77 t76) 78 t78) 79 t79) 80 t80) 81 t81) 82 t82) 83 t83) 84 t84) 85 t85) t3 t5 t85 w R
abbrev F_World_form_s26 (a0 : Go.Value) (q14 : Env) (t3 : Go.Value) (t5 : Go.Value) (t72 : Go.Value) (w : Go.World) (R : Go.Value → Go.World → Prop) : Prop :=
 fieldA 7 t5 fun t73 =>
 load1 t73 w fun t74 =>
 lenL t74 fun t75 =>
 F_World_form_s25 a0 (upd (upd (upd q14 73 t73) 74 t74) 75 t75) t3 t5 t72 t75 w R
abbrev F_World_form_s27 (a0 : Go.Value) (q13 : Env) (t3 : Go.Value) (t5 : Go.Value) (w : Go.World) (R : Go.Value → Go.World → Prop) : Prop :=
 fieldA 7 t3 fun t70 =>
 load1 t70 w fun t71 =>
 lenL t71 fun t72 =>
 F_World_form_s26 a0 (upd (upd (upd q13 70 t70) 71 t71) 72 t72) t3 t5 t72 w R
abbrev F_World_form_s28 (a0 : Go.Value) (q10 : Env) (t3 : Go.Value) (t5 : Go.Value) (t62 : Go.Value) (w : Go.World) (R : Go.Value → Go.World → Prop) : Prop :=
 gopK t62 false (fun k => fieldA 1 t3 fun v => k v w) w fun t64 w =>
 gopK t62 false (fun k => load1 t64 w fun v => k v w) w fun t65 w =>
 gopK t62 false (fun k => fieldA 1 t5 fun v => k v w) w fun t66 w =>
 gopK t62 false (fun k => load1 t66 w fun v => k v w) w fun t67 w =>
 gopK t62 false (fun k => binI Go.BinOp.neq t65 t67 fun v => k v w) w fun t68 w =>
 pickK t62 (Go.Value.bool true) t68 fun t69 =>
 condK t69
 (R (Go.Value.bool false) w)
 (F_World_form_s27 a0 (upd (upd (upd (upd (upd (upd (upd q10 63 t62) 64 t64) 65 t65) 66 t66) 67 t67) 68 t68) 69 t69) t3 t5 w R)
abbrev F_World_form_s29 (a0 : Go.Value) (q9 : Env) (t3 : Go.Value) (t5 : Go.Value) (t55 : Go.Value) (w : Go.World) (R : Go.Value → Go.World → Prop) : Prop :=
 gopK t55 false (fun k => fieldA 13 t3 fun v => k v w) w fun t57 w =>
 gopK t55 false (fun k => load1 t57 w fun v => k v w) w fun t58 w =>
 gopK t55 false (fun k => fieldA 13 t5 fun v => k v w) w fun t59 w =>
 gopK t55 false (fun k => load1 t59 w fun v => k v w) w fun t60 w =>
 gopK t55 false (fun k => binB Go.BinOp.neq t58 t60 fun v => k v w) w fun t61 w =>
 pickK t55 (Go.Value.bool true) t61 fun t62 =>
 F_World_form_s28 a0 (upd (upd (upd (upd (upd (upd (upd q9 56 t55) 57 t57) 58 t58) 59 t59) 60 t60) 61 t61) 62 t62) t3 t5 t62 w R
abbrev F_World_form_s30 (a0 : Go.Value) (q8 : Env) (t3 : Go.Value) (t5 : Go.Value) (t48 : Go.Value) (w : Go.World) (R : Go.Value → Go.World → Prop) : Prop :=
 gopK t48 false (fun k => fieldA 12 t3 fun v => k v w) w fun t50 w =>
 gopK t48 false (fun k => load1 t50 w fun v => k v w) w fun t51 w =>
 gopK t48 false (fun k => fieldA 12 t5 fun v => k v w) w fun t52 w =>
 gopK t48 false (fun k => load1 t52 w fun v => k v w) w fun t53 w =>
 gopK t48 false (fun k => binI Go.BinOp.neq t51 t53 fun v => k v w) w fun t54 w =>
 pickK t48 (Go.Value.bool true) t54 fun t55 =>
 F_World_form_s29 a0 (upd (upd (upd (upd (upd (upd (upd q8 49 t48) 50 t50) 51 t51) 52 t52) 53 t53) 54 t54) 55 t55) t3 t5 t55 w R
abbrev F_World_form_s31 (a0 : Go.Value) (q7 : Env) (t3 : Go.Value) (t5 : Go.Value) (t41 : Go.Value) (w : Go.World) (R : Go.Value → Go.World → Prop) : Prop :=
 gopK t41 false (fun k => fieldA 11 t3 fun v => k v w) w fun t43 w =>
 gopK t41 false (fun k => load1 t43 w fun v => k v w) w fun t44 w =>
 gopK t41 false (fun k => fieldA 11 t5 fun v => k v w) w fun t45 w =>
 gopK t41 false (fun k => load1 t45 w fun v => k v w) w fun t46 w =>
 gopK t41 false (fun k => binI Go.BinOp.neq t44 t46 fun v => k v w) w fun t47 w =>
 pickK t41 (Go.Value.bool true) t47 fun t48 =>
 F_World_form_s30 a0 (upd (upd (upd (upd (upd (upd (upd q7 42 t41) 43 t43) 44 t44) 45 t45) 46 t46) 47 t47) 48 t48) t3 t5 t48 w R
abbrev F_World_form_s32 (a0 : Go.Value) (q6 : Env) (t3 : Go.Value) (t5 : Go.Value) (t34 : Go.Value) (w : Go.World) (R : Go.Value → Go.World → Prop) : Prop :=
 gopK t34 false (fun k => fieldA 10 t3 fun v => k v w) w fun t36 w =>
 gopK t34 false (fun k => load1 t36 w fun v => k v w) w fun t37 w =>
 gopK t34 false (fun k => fieldA 10 t5 fun v => k v w) w fun t38 w =>
 gopK t34 false (fun k => load1 t38 w fun v => k v w) w fun t39 w =>
 gopK t34 false (fun k => binI Go.BinOp.neq t37 t39 fun v => k v w) w fun t40 w =>
 pickK t34 (Go.Value.bool true) t40 fun t41 =>
 F_World_form_s31 a0 (upd (upd (upd (upd (upd (upd (upd q6 35 t34) 36 t36) 37 t37) 38 t38) 39 t39) 40 t40) 41 t41) t3 t5 t41 w R
abbrev F_World_form_s33 (a0 : Go.Value) (q5 : Env) (t3 : Go.Value) (t5 : Go.Value) (t27 : Go.Value) (w : Go.World) (R : Go.Value → Go.World → Prop) : Prop :=
 gopK t27 false (fun k => fieldA 9 t3 fun v => k v w) w fun t29 w =>
 gopK t27 false (fun k => load1 t29 w fun v => k v w) w fun t30 w =>
 gopK t27 false (fun k => fieldA 9 t5 fun v => k v w) w fun t31 w =>
 gopK t27 false (fun k => load1 t31 w fun v => k v w) w fun t32 w =>
 gopK t27 false (fun k => binI Go.BinOp.neq t30 t32 fun v => k v w) w fun t33 w =>
 pickK t27 (Go.Value.bool true) t33 fun t34 =>
 F_World_form_s32 a0 (upd (upd (upd (upd (upd (upd (upd q5 28 t27) 29 t29) 30 t30) 31 t31) 32 t32) 33 t33) 34 t34) t3 t5 t34 w R
abbrev F_World_form_s34 (a0 : Go.Value) (q4 : Env) (t3 : Go.Value) (t5 : Go.Value) (t20 : Go.Value) (w : Go.World) (R : Go.Value → Go.World → Prop) : Prop :=
 gopK t20 false (fun k => fieldA 8 t3 fun v => k v w) w fun t22 w =>
 gopK t20 false (fun k => load1 t22 w fun v => k v w) w fun t23 w =>
 gopK t20 false (fun k => fieldA 8 t5 fun v => k v w) w fun t24 w =>
 gopK t20 false (fun k => load1 t24 w fun v => k v w) w fun t25 w =>
 gopK t20 false (fun k => binI Go.BinOp.neq t23 t25 fun v => k v w) w fun t26 w =>
 pickK t20 (Go.Value.bool true) t26 fun t27 =>
 F_World_form_s33 a0 (upd (upd (upd (upd (upd (upd (upd q4 21 t20) 22 t22) 23 t23) 24 t24) 25 t25) 26 t26) 27 t27) t3 t5 t27 w R
abbrev F_World_form_s35 (a0 : Go.Value) (q3 : Env) (t3 : Go.Value) (t5 : Go.Value) (t12 : Go.Value) (w : Go.World) (R : Go.Value → Go.World → Prop) : Prop :=
 storeN 16 t5 t12 w fun w =>
 fieldA 0 t3 fun t13 =>
 load1 t13 w fun t14 =>
 binI Go.BinOp.eql t14 (Go.Value.int Go.IntKind.u8 0) fun t15 =>
 gopK t15 false (fun k => fieldA 0 t3 fun v => k v w) w fun t17 w =>
 gopK t15 false (fun k => load1 t17 w fun v => k v w) w fun t18 w =>
 gopK t15 false (fun k => binI Go.BinOp.gtr t18 (Go.Value.int Go.IntKind.u8 16) fun v => k v w) w fun t19 w =>
 pickK t15 (Go.Value.bool true) t19 fun t20 =>
 F_World_form_s34 a0 (upd (upd (upd (upd (upd (upd (upd (upd q3 13 t13) 14 t14) 15 t15) 16 t15) 17 t17) 18 t18) 19 t19) 20 t20) t3 t5 t20 w R
abbrev F_World_form_s36 (a0 : Go.Value) (q1 : Env) (t3 : Go.Value) (w : Go.World) (R : Go.Value → Go.World → Prop) : Prop :=
 loadN 16 t3 w fun t11 =>
 callOn prog fn_world_bare #[t11] w fun t12 w =>
 allocZ (Go.Value.agg #[(Go.Value.int Go.IntKind.u8 0), (Go.Value.int Go.IntKind.i64 0), (Go.Value.int Go.IntKind.u8 0), (Go.Value.int Go.IntKind.i64 0), (Go.Value.string { data := #[] }), (Go.Value.slice .none 0 0), (Go.Value.int Go.IntKind.i64 0), (Go.Value.slice .none 0 0), (Go.Value.int Go.IntKind.i64 0), (Go.Value.int Go.IntKind.i64 0), (Go.Value.int Go.IntKind.i64 0), (Go.Value.int Go.IntKind.i64 0), (Go.Value.int Go.IntKind.u8 0), (Go.Value.bool false), (Go.Value.slice .none 0 0), (Go.Value.slice .none 0 0)]) 52 w fun t5 w =>
 F_World_form_s35 a0 (upd (upd (upd (upd q1 4 (Go.Value.bool false)) 11 t11) 12 t12) 5 t5) t3 t5 t12 w R
/-- (*postern/world.World).form -/
def F_World_form (a0 : Go.Value) (a1 : Go.Value) (w : Go.World) (R : Go.Value → Go.World → Prop) : Prop :=
 boxK 52 a1 w fun t3 w =>
 F_World_form_s36 a0 (upd (start [a0, a1]) 3 t3) t3 w R
theorem F_World_form_eq (a0 : Go.Value) (a1 : Go.Value) (w : Go.World) (R : Go.Value → Go.World → Prop) : cK prog (bodyOf Try.f64) (resK prog Try.f64.results.toList R) (start [a0, a1]) w = F_World_form a0 a1 w R := by kernel_rfl
theorem F_World_form_on (a0 : Go.Value) (a1 : Go.Value) (w : Go.World) (k : Go.Value → Go.World → Prop) (h : F_World_form a0 a1 w k) : callOn prog fn_World_form #[a0, a1] w k :=
  calls_list (args := [a0, a1]) mixed Try.func64 (by kernel_rfl) (by kernel_rfl) (Eq.mpr (F_World_form_eq a0 a1 w _) (Eq.mpr (congrArg (F_World_form a0 a1 w) (on_eq k)) h))


end Go.X
