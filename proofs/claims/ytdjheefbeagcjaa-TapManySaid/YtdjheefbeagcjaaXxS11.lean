/- The calculator's word on functions of this program, each with its proof: written by a program of this family (shallow.py). -/
import Derived.Test.YtdjheefbeagcjaaXxP
import Derived.Test.YtdjheefbeagcjaaXxX
set_option linter.unusedVariables false
set_option maxRecDepth 100000
namespace Go.X
open Go Go.Proofs
/-- postern/tap.With -/
def F_tap_With (a0 : Go.Value) (a1 : Go.Value) (a2 : Go.Value) (a3 : Go.Value) (w : Go.World) (R : Go.Value → Go.World → Prop) : Prop :=
 callOn prog fn_tap_may #[a0, a1, a2] w fun t16 w =>
 binI Go.BinOp.neq t16 (Go.Value.int Go.IntKind.i64 0) fun t18 =>
 condK t18
 (R (Go.Value.tuple #[(Go.Value.int Go.IntKind.i64 0), t16]) w)
 (callOn prog fn_World_Is #[a0, a3] w fun t22 w =>
 unK Go.UnOp.not t22 fun t23 =>
 condK t23
 (R (Go.Value.tuple #[(Go.Value.int Go.IntKind.i64 0), (Go.Value.int Go.IntKind.i64 5)]) w)
 (callOn prog fn_World_Home #[a0, a3] w fun t27 w =>
 extractK t27 0 fun t28 =>
 extractK t27 1 fun t29 =>
 callOn prog fn_World_Kind #[a0, a3] w fun t32 w =>
 binI Go.BinOp.neq t32 (Go.Value.int Go.IntKind.u8 3) fun t33 =>
 gopK t33 false (fun k => k t28 w) w fun t35 w =>
 gopK t33 false (fun k => k a1 w) w fun t36 w =>
 gopK t33 false (fun k => binI Go.BinOp.neq t35 t36 fun v => k v w) w fun t37 w =>
 pickK t33 (Go.Value.bool true) t37 fun t38 =>
 condK t38
 (R (Go.Value.tuple #[(Go.Value.int Go.IntKind.i64 0), (Go.Value.int Go.IntKind.i64 130)]) w)
 (buildS (Go.Value.agg #[(Go.Value.int Go.IntKind.u8 0), (Go.Value.int Go.IntKind.i64 0), (Go.Value.int Go.IntKind.u8 0), (Go.Value.int Go.IntKind.i64 0), (Go.Value.string { data := #[] }), (Go.Value.slice .none 0 0), (Go.Value.int Go.IntKind.i64 0), (Go.Value.slice .none 0 0), (Go.Value.int Go.IntKind.i64 0), (Go.Value.int Go.IntKind.i64 0), (Go.Value.int Go.IntKind.i64 0), (Go.Value.int Go.IntKind.i64 0), (Go.Value.int Go.IntKind.u8 0), (Go.Value.bool false), (Go.Value.slice .none 0 0), (Go.Value.slice .none 0 0)]) [(0, 1), (1, 1), (2, 5), (7, 1), (8, 1), (9, 1), (10, 1), (11, 1), (12, 1), (13, 1), (14, 1), (15, 1)] [(0, (Go.Value.int Go.IntKind.u8 16)), (1, a1), (6, a2), (7, a3)] fun t43 =>
 callOn prog fn_tap_made #[a0, t43] w fun t44 w =>
 extractK t44 0 fun t45 =>
 extractK t44 1 fun t46 =>
 R (Go.Value.tuple #[t45, t46]) w)))
theorem F_tap_With_eq (a0 : Go.Value) (a1 : Go.Value) (a2 : Go.Value) (a3 : Go.Value) (w : Go.World) (R : Go.Value → Go.World → Prop) : cK prog (bodyOf Try.f34) (resK prog Try.f34.results.toList R) (start [a0, a1, a2, a3]) w = F_tap_With a0 a1 a2 a3 w R := by kernel_rfl
theorem F_tap_With_on (a0 : Go.Value) (a1 : Go.Value) (a2 : Go.Value) (a3 : Go.Value) (w : Go.World) (k : Go.Value → Go.World → Prop) (h : F_tap_With a0 a1 a2 a3 w k) : callOn prog fn_tap_With #[a0, a1, a2, a3] w k :=
  calls_list (args := [a0, a1, a2, a3]) mixed Try.func34 (by kernel_rfl) (by kernel_rfl) (Eq.mpr (F_tap_With_eq a0 a1 a2 a3 w _) (Eq.mpr (congrArg (F_tap_With a0 a1 a2 a3 w) (on_eq k)) h))


/-- postern/tap.Pass -/
def F_tap_Pass (a0 : Go.Value) (a1 : Go.Value) (w : Go.World) (R : Go.Value → Go.World → Prop) : Prop :=
 buildS (Go.Value.agg #[(Go.Value.pointer .none)]) [(0, 1)] [(0, a0)] fun t8 =>
 callOn prog fn_tap_walk #[a0, a1, (Go.Value.func (Go.Fn.func 77) #[t8] #[])] w fun t10 w =>
 R t10 w
theorem F_tap_Pass_eq (a0 : Go.Value) (a1 : Go.Value) (w : Go.World) (R : Go.Value → Go.World → Prop) : cK prog (bodyOf Try.f35) (resK prog Try.f35.results.toList R) (start [a0, a1]) w = F_tap_Pass a0 a1 w R := by kernel_rfl
theorem F_tap_Pass_on (a0 : Go.Value) (a1 : Go.Value) (w : Go.World) (k : Go.Value → Go.World → Prop) (h : F_tap_Pass a0 a1 w k) : callOn prog fn_tap_Pass #[a0, a1] w k :=
  calls_list (args := [a0, a1]) mixed Try.func35 (by kernel_rfl) (by kernel_rfl) (Eq.mpr (F_tap_Pass_eq a0 a1 w _) (Eq.mpr (congrArg (F_tap_Pass a0 a1 w) (on_eq k)) h))


/-- postern/tap.Count -/
def F_tap_Count (a0 : Go.Value) (a1 : Go.Value) (w : Go.World) (R : Go.Value → Go.World → Prop) : Prop :=
 callOn prog fn_tap_Tally #[a0, a1] w fun t12 w =>
 extractK t12 0 fun t13 =>
 extractK t12 1 fun t14 =>
 binI Go.BinOp.neq t14 (Go.Value.int Go.IntKind.i64 0) fun t16 =>
 condK t16
 (R (Go.Value.tuple #[(Go.Value.int Go.IntKind.i64 0), t14]) w)
 (callOn prog fn_World_What #[a0, t13] w fun t21 w =>
 extractK t21 0 fun t22 =>
 extractK t21 1 fun t23 =>
 allocZ (Go.Value.agg #[(Go.Value.int Go.IntKind.u8 0), (Go.Value.int Go.IntKind.i64 0), (Go.Value.int Go.IntKind.u8 0), (Go.Value.int Go.IntKind.i64 0), (Go.Value.string { data := #[] }), (Go.Value.slice .none 0 0), (Go.Value.int Go.IntKind.i64 0), (Go.Value.slice .none 0 0), (Go.Value.int Go.IntKind.i64 0), (Go.Value.int Go.IntKind.i64 0), (Go.Value.int Go.IntKind.i64 0), (Go.Value.int Go.IntKind.i64 0), (Go.Value.int Go.IntKind.u8 0), (Go.Value.bool false), (Go.Value.slice .none 0 0), (Go.Value.slice .none 0 0)]) 52 w fun t8 w =>
 storeN 16 t8 t22 w fun w =>
 fieldA 8 t8 fun t24 =>
 load1 t24 w fun t25 =>
 R (Go.Value.tuple #[t25, t23]) w)
theorem F_tap_Count_eq (a0 : Go.Value) (a1 : Go.Value) (w : Go.World) (R : Go.Value → Go.World → Prop) : cK prog (bodyOf Try.f36) (resK prog Try.f36.results.toList R) (start [a0, a1]) w = F_tap_Count a0 a1 w R := by kernel_rfl
theorem F_tap_Count_on (a0 : Go.Value) (a1 : Go.Value) (w : Go.World) (k : Go.Value → Go.World → Prop) (h : F_tap_Count a0 a1 w k) : callOn prog fn_tap_Count #[a0, a1] w k :=
  calls_list (args := [a0, a1]) mixed Try.func36 (by kernel_rfl) (by kernel_rfl) (Eq.mpr (F_tap_Count_eq a0 a1 w _) (Eq.mpr (congrArg (F_tap_Count a0 a1 w) (on_eq k)) h))


noncomputable def tap_Make_R3 : Array Oper := regionOf (bodyOf Try.f37) 3
-- not quiet: tap_Make_R3: quiet store
def A_tap_Make_R3 (k : Env → Go.World → Prop) (e : Env) (w : Go.World) : Prop :=
 (load1 (e 8) w fun t16 =>
 storeN 1 (e 6) (Go.Value.int Go.IntKind.i64 0) w fun w =>
 storeN 1 (e 7) (Go.Value.int Go.IntKind.i64 0) w fun w =>
 storeN 1 (e 8) t16 w fun w =>
 k (upd e 16 t16) w)
 ∧ (storeN 1 (e 6) (Go.Value.int Go.IntKind.i64 0) w fun w =>
 (load1 (e 8) w fun t16_1 =>
 storeN 1 (e 7) (Go.Value.int Go.IntKind.i64 0) w fun w =>
 storeN 1 (e 8) t16_1 w fun w =>
 k (upd e 16 t16_1) w)
 ∧ (storeN 1 (e 7) (Go.Value.int Go.IntKind.i64 0) w fun w =>
 load1 (e 8) w fun t16_2 =>
 storeN 1 (e 8) t16_2 w fun w =>
 k (upd e 16 t16_2) w))
theorem A_tap_Make_R3_eq (k : Env → Go.World → Prop) (e : Env) (w : Go.World) : anyK prog tap_Make_R3 k tap_Make_R3.size (Array.replicate tap_Make_R3.size false) e w = A_tap_Make_R3 k e w := by kernel_rfl
theorem A_tap_Make_R3_on {e : Env} {w : Go.World} {k : Env → Go.World → Prop} (h : A_tap_Make_R3 k e w) : drawK prog tap_Make_R3 e w k :=
  .inr (Eq.mpr (A_tap_Make_R3_eq k e w) h)
/-- postern/tap.Make -/
def F_tap_Make (a0 : Go.Value) (a1 : Go.Value) (a2 : Go.Value) (w : Go.World) (R : Go.Value → Go.World → Prop) : Prop :=
 boxK 27 a0 w fun t3 w =>
 allocZ (Go.Value.int Go.IntKind.i64 0) 40 w fun t6 w =>
 allocZ (Go.Value.int Go.IntKind.i64 0) 40 w fun t7 w =>
 allocZ (Go.Value.int Go.IntKind.i64 0) 28 w fun t8 w =>
 load1 t3 w fun t10 =>
 callOn prog fn_tap_may #[t10, a1, a2] w fun t13 w =>
 storeN 1 t8 t13 w fun w =>
 load1 t8 w fun t14 =>
 binI Go.BinOp.neq t14 (Go.Value.int Go.IntKind.i64 0) fun t15 =>
 condK t15
 (drawK prog tap_Make_R3 (upd (upd (upd (upd (upd (upd (upd (upd (upd (upd (start [a0, a1, a2]) 3 t3) 6 t6) 7 t7) 8 t8) 10 t10) 11 a1) 12 a2) 13 t13) 14 t14) 15 t15) w.drew fun e1 w =>
 load1 (e1 6) w fun r1 =>
 load1 (e1 7) w fun r2 =>
 load1 (e1 8) w fun r3 =>
 R (Go.Value.tuple #[r1, r2, r3]) w)
 (load1 t3 w fun t17 =>
 callOn prog fn_World_Copy #[t17] w fun t18 w =>
 allocZ (Go.Value.pointer .none) 27 w fun t9 w =>
 storeN 1 t9 t18 w fun w =>
 deferX (Go.Value.func (Go.Fn.func 79) #[] #[t8, t3, t9, t6, t7]) [] fun d2 =>
 load1 t3 w fun t21 =>
 buildS (Go.Value.agg #[(Go.Value.int Go.IntKind.u8 0), (Go.Value.int Go.IntKind.i64 0), (Go.Value.int Go.IntKind.u8 0), (Go.Value.int Go.IntKind.i64 0), (Go.Value.string { data := #[] }), (Go.Value.slice .none 0 0), (Go.Value.int Go.IntKind.i64 0), (Go.Value.slice .none 0 0), (Go.Value.int Go.IntKind.i64 0), (Go.Value.int Go.IntKind.i64 0), (Go.Value.int Go.IntKind.i64 0), (Go.Value.int Go.IntKind.i64 0), (Go.Value.int Go.IntKind.u8 0), (Go.Value.bool false), (Go.Value.slice .none 0 0), (Go.Value.slice .none 0 0)]) [(0, 1), (1, 1), (2, 5), (7, 1), (8, 1), (9, 1), (10, 1), (11, 1), (12, 1), (13, 1), (14, 1), (15, 1)] [(0, (Go.Value.int Go.IntKind.u8 3)), (1, a1)] fun t23 =>
 callOn prog fn_tap_made #[t21, t23] w fun t24 w =>
 extractK t24 0 fun t25 =>
 extractK t24 1 fun t26 =>
 storeN 1 t7 t25 w fun w =>
 storeN 1 t8 t26 w fun w =>
 load1 t8 w fun t27 =>
 binI Go.BinOp.neq t27 (Go.Value.int Go.IntKind.i64 0) fun t28 =>
 condK t28
 (leaveK prog (d2 :: []) (fun (w : Go.World) =>
 load1 t6 w fun r1 =>
 load1 t7 w fun r2 =>
 load1 t8 w fun r3 =>
 R (Go.Value.tuple #[r1, r2, r3]) w) w)
 (load1 t3 w fun t30 =>
 load1 t7 w fun t33 =>
 buildS (Go.Value.agg #[(Go.Value.int Go.IntKind.u8 0), (Go.Value.int Go.IntKind.i64 0), (Go.Value.int Go.IntKind.u8 0), (Go.Value.int Go.IntKind.i64 0), (Go.Value.string { data := #[] }), (Go.Value.slice .none 0 0), (Go.Value.int Go.IntKind.i64 0), (Go.Value.slice .none 0 0), (Go.Value.int Go.IntKind.i64 0), (Go.Value.int Go.IntKind.i64 0), (Go.Value.int Go.IntKind.i64 0), (Go.Value.int Go.IntKind.i64 0), (Go.Value.int Go.IntKind.u8 0), (Go.Value.bool false), (Go.Value.slice .none 0 0), (Go.Value.slice .none 0 0)]) [(0, 1), (1, 1), (2, 5), (7, 1), (8, 1), (9, 1), (10, 1), (11, 1), (12, 1), (13, 1), (14, 1), (15, 1)] [(0, (Go.Value.int Go.IntKind.u8 16)), (1, a1), (6, a2), (7, t33)] fun t34 =>
 callOn prog fn_tap_made #[t30, t34] w fun t35 w =>
 extractK t35 0 fun t36 =>
 extractK t35 1 fun t37 =>
 storeN 1 t6 t36 w fun w =>
 storeN 1 t8 t37 w fun w =>
 leaveK prog (d2 :: []) (fun (w : Go.World) =>
 load1 t6 w fun r1 =>
 load1 t7 w fun r2 =>
 load1 t8 w fun r3 =>
 R (Go.Value.tuple #[r1, r2, r3]) w) w))
theorem F_tap_Make_eq (a0 : Go.Value) (a1 : Go.Value) (a2 : Go.Value) (w : Go.World) (R : Go.Value → Go.World → Prop) : cX prog (bodyOf Try.f37) (resX prog Try.f37.results.toList R) [] (start [a0, a1, a2]) w = F_tap_Make a0 a1 a2 w R := by kernel_rfl
theorem F_tap_Make_on (a0 : Go.Value) (a1 : Go.Value) (a2 : Go.Value) (w : Go.World) (k : Go.Value → Go.World → Prop) (h : F_tap_Make a0 a1 a2 w k) : callOn prog fn_tap_Make #[a0, a1, a2] w k :=
  callsX_list (args := [a0, a1, a2]) mixed Try.func37 (by kernel_rfl) (by kernel_rfl) (Eq.mpr (F_tap_Make_eq a0 a1 a2 w _) h)


/-- postern/tap.Tally -/
def F_tap_Tally (a0 : Go.Value) (a1 : Go.Value) (w : Go.World) (R : Go.Value → Go.World → Prop) : Prop :=
 binP Go.BinOp.eql a0 (Go.Value.pointer .none) fun t9 =>
 condK t9
 (R (Go.Value.tuple #[(Go.Value.int Go.IntKind.i64 0), (Go.Value.int Go.IntKind.i64 1)]) w)
 (callOn prog fn_World_What #[a0, a1] w fun t13 w =>
 extractK t13 0 fun t14 =>
 extractK t13 1 fun t15 =>
 allocZ (Go.Value.agg #[(Go.Value.int Go.IntKind.u8 0), (Go.Value.int Go.IntKind.i64 0), (Go.Value.int Go.IntKind.u8 0), (Go.Value.int Go.IntKind.i64 0), (Go.Value.string { data := #[] }), (Go.Value.slice .none 0 0), (Go.Value.int Go.IntKind.i64 0), (Go.Value.slice .none 0 0), (Go.Value.int Go.IntKind.i64 0), (Go.Value.int Go.IntKind.i64 0), (Go.Value.int Go.IntKind.i64 0), (Go.Value.int Go.IntKind.i64 0), (Go.Value.int Go.IntKind.u8 0), (Go.Value.bool false), (Go.Value.slice .none 0 0), (Go.Value.slice .none 0 0)]) 52 w fun t6 w =>
 storeN 16 t6 t14 w fun w =>
 binI Go.BinOp.neq t15 (Go.Value.int Go.IntKind.i64 0) fun t17 =>
 condK t17
 (R (Go.Value.tuple #[(Go.Value.int Go.IntKind.i64 0), t15]) w)
 (fieldA 0 t6 fun t19 =>
 load1 t19 w fun t20 =>
 binI Go.BinOp.neq t20 (Go.Value.int Go.IntKind.u8 16) fun t21 =>
 condK t21
 (R (Go.Value.tuple #[(Go.Value.int Go.IntKind.i64 0), (Go.Value.int Go.IntKind.i64 130)]) w)
 (fieldA 11 t6 fun t22 =>
 load1 t22 w fun t23 =>
 R (Go.Value.tuple #[t23, (Go.Value.int Go.IntKind.i64 0)]) w)))
theorem F_tap_Tally_eq (a0 : Go.Value) (a1 : Go.Value) (w : Go.World) (R : Go.Value → Go.World → Prop) : cK prog (bodyOf Try.f39) (resK prog Try.f39.results.toList R) (start [a0, a1]) w = F_tap_Tally a0 a1 w R := by kernel_rfl
theorem F_tap_Tally_on (a0 : Go.Value) (a1 : Go.Value) (w : Go.World) (k : Go.Value → Go.World → Prop) (h : F_tap_Tally a0 a1 w k) : callOn prog fn_tap_Tally #[a0, a1] w k :=
  calls_list (args := [a0, a1]) mixed Try.func39 (by kernel_rfl) (by kernel_rfl) (Eq.mpr (F_tap_Tally_eq a0 a1 w _) (Eq.mpr (congrArg (F_tap_Tally a0 a1 w) (on_eq k)) h))


/-- postern/tap.Taps -/
def F_tap_Taps (a0 : Go.Value) (a1 : Go.Value) (w : Go.World) (R : Go.Value → Go.World → Prop) : Prop :=
 allocZ (Go.Value.agg #[(Go.Value.slice .none 0 0)]) 135 w fun t6 w =>
 callOn prog fn_tap_walk #[a0, a1, (Go.Value.func (Go.Fn.func 81) #[t6] #[])] w fun t11 w =>
 fieldA 0 t6 fun t12 =>
 load1 t12 w fun t13 =>
 R (Go.Value.tuple #[t13, t11]) w
theorem F_tap_Taps_eq (a0 : Go.Value) (a1 : Go.Value) (w : Go.World) (R : Go.Value → Go.World → Prop) : cK prog (bodyOf Try.f40) (resK prog Try.f40.results.toList R) (start [a0, a1]) w = F_tap_Taps a0 a1 w R := by kernel_rfl
theorem F_tap_Taps_on (a0 : Go.Value) (a1 : Go.Value) (w : Go.World) (k : Go.Value → Go.World → Prop) (h : F_tap_Taps a0 a1 w k) : callOn prog fn_tap_Taps #[a0, a1] w k :=
  calls_list (args := [a0, a1]) mixed Try.func40 (by kernel_rfl) (by kernel_rfl) (Eq.mpr (F_tap_Taps_eq a0 a1 w _) (Eq.mpr (congrArg (F_tap_Taps a0 a1 w) (on_eq k)) h))


/-- postern/tap.may -/
def F_tap_may (a0 : Go.Value) (a1 : Go.Value) (a2 : Go.Value) (w : Go.World) (R : Go.Value → Go.World → Prop) : Prop :=
 binP Go.BinOp.eql a0 (Go.Value.pointer .none) fun t9 =>
 gopK t9 false (fun k => k a0 w) w fun t11 w =>
 gopK t9 false (fun k => callOn prog fn_World_Sides #[t11] w k) w fun t12 w =>
 gopK t9 false (fun k => binI Go.BinOp.eql t12 (Go.Value.int Go.IntKind.i64 0) fun v => k v w) w fun t13 w =>
 pickK t9 (Go.Value.bool true) t13 fun t14 =>
 condK t14
 (R (Go.Value.int Go.IntKind.i64 1) w)
 (binI Go.BinOp.lss a1 (Go.Value.int Go.IntKind.i64 0) fun t17 =>
 gopK t17 false (fun k => k a1 w) w fun t19 w =>
 gopK t17 false (fun k => k a0 w) w fun t20 w =>
 gopK t17 false (fun k => callOn prog fn_World_Sides #[t20] w k) w fun t21 w =>
 gopK t17 false (fun k => binI Go.BinOp.geq t19 t21 fun v => k v w) w fun t22 w =>
 pickK t17 (Go.Value.bool true) t22 fun t23 =>
 condK t23
 (R (Go.Value.int Go.IntKind.i64 2) w)
 (callOn prog fn_World_Is #[a0, a2] w fun t27 w =>
 unK Go.UnOp.not t27 fun t28 =>
 condK t28
 (R (Go.Value.int Go.IntKind.i64 5) w)
 (R (Go.Value.int Go.IntKind.i64 0) w)))
theorem F_tap_may_eq (a0 : Go.Value) (a1 : Go.Value) (a2 : Go.Value) (w : Go.World) (R : Go.Value → Go.World → Prop) : cK prog (bodyOf Try.f74) (resK prog Try.f74.results.toList R) (start [a0, a1, a2]) w = F_tap_may a0 a1 a2 w R := by kernel_rfl
theorem F_tap_may_on (a0 : Go.Value) (a1 : Go.Value) (a2 : Go.Value) (w : Go.World) (k : Go.Value → Go.World → Prop) (h : F_tap_may a0 a1 a2 w k) : callOn prog fn_tap_may #[a0, a1, a2] w k :=
  calls_list (args := [a0, a1, a2]) mixed Try.func74 (by kernel_rfl) (by kernel_rfl) (Eq.mpr (F_tap_may_eq a0 a1 a2 w _) (Eq.mpr (congrArg (F_tap_may a0 a1 a2 w) (on_eq k)) h))


/-- postern/tap.made -/
def F_tap_made (a0 : Go.Value) (a1 : Go.Value) (w : Go.World) (R : Go.Value → Go.World → Prop) : Prop :=
 boxK 52 a1 w fun t3 w =>
 binP Go.BinOp.eql a0 (Go.Value.pointer .none) fun t9 =>
 condK t9
 (R (Go.Value.tuple #[(Go.Value.int Go.IntKind.i64 0), (Go.Value.int Go.IntKind.i64 1)]) w)
 (loadN 16 t3 w fun t12 =>
 callOn prog fn_World_Make #[a0, t12] w fun t13 w =>
 extractK t13 0 fun t14 =>
 extractK t13 1 fun t15 =>
 R (Go.Value.tuple #[t14, t15]) w)
theorem F_tap_made_eq (a0 : Go.Value) (a1 : Go.Value) (w : Go.World) (R : Go.Value → Go.World → Prop) : cK prog (bodyOf Try.f75) (resK prog Try.f75.results.toList R) (start [a0, a1]) w = F_tap_made a0 a1 w R := by kernel_rfl
theorem F_tap_made_on (a0 : Go.Value) (a1 : Go.Value) (w : Go.World) (k : Go.Value → Go.World → Prop) (h : F_tap_made a0 a1 w k) : callOn prog fn_tap_made #[a0, a1] w k :=
  calls_list (args := [a0, a1]) mixed Try.func75 (by kernel_rfl) (by kernel_rfl) (Eq.mpr (F_tap_made_eq a0 a1 w _) (Eq.mpr (congrArg (F_tap_made a0 a1 w) (on_eq k)) h))


/-- postern/tap.walk -/
def F_tap_walk (a0 : Go.Value) (a1 : Go.Value) (a2 : Go.Value) (w : Go.World) (R : Go.Value → Go.World → Prop) : Prop :=
 binP Go.BinOp.eql a0 (Go.Value.pointer .none) fun t10 =>
 gopK t10 false (fun k => k a0 w) w fun t12 w =>
 gopK t10 false (fun k => callOn prog fn_World_Sides #[t12] w k) w fun t13 w =>
 gopK t10 false (fun k => binI Go.BinOp.eql t13 (Go.Value.int Go.IntKind.i64 0) fun v => k v w) w fun t14 w =>
 pickK t10 (Go.Value.bool true) t14 fun t15 =>
 condK t15
 (R (Go.Value.int Go.IntKind.i64 1) w)
 (callOn prog fn_World_Is #[a0, a1] w fun t18 w =>
 unK Go.UnOp.not t18 fun t19 =>
 condK t19
 (R (Go.Value.int Go.IntKind.i64 5) w)
 (callOn prog fn_World_Way #[a0, a1] w fun t22 w =>
 lenL t22 fun t23 =>
 loopK (fun k1 e1 w =>
 binI Go.BinOp.lss (e1 24) (e1 23) fun t25 =>
 condK t25
 (let J2 : Env → Go.World → Prop := fun e2 w =>
 (binI Go.BinOp.add (e2 24) (Go.Value.int Go.IntKind.i64 1) fun t36 =>
 k1 (upd (upd e2 36 t36) 24 t36) w)
 let J3 : Env → Go.World → Prop := fun e3 w =>
 (J2 e3 w)
 indexS 1 (e1 22) (e1 24) fun t26 =>
 load1 t26 w fun t27 =>
 callOn prog fn_World_Kind #[(e1 0), t27] w fun t30 w =>
 let J4 : Env → Go.World → Prop := fun e4 w =>
 (J3 e4 w)
 binI Go.BinOp.eql t30 (Go.Value.int Go.IntKind.u8 16) fun t32 =>
 condK t32
 (callT prog (e1 2) [t27] w fun t35 w =>
 J4 (upd (upd (upd (upd (upd (upd (upd (upd (upd (upd (upd (upd e1 25 t25) 26 t26) 27 t27) 8 t27) 28 (e1 0)) 29 t27) 30 t30) 32 t32) 31 t32) 33 (e1 2)) 34 t27) 35 t35) w)
 (J4 (upd (upd (upd (upd (upd (upd (upd (upd (upd e1 25 t25) 26 t26) 27 t27) 8 t27) 28 (e1 0)) 29 t27) 30 t30) 32 t32) 31 t32) w))
 (R (Go.Value.int Go.IntKind.i64 0) w)) (upd (upd (upd (upd (upd (upd (upd (upd (upd (upd (upd (upd (upd (upd (upd (upd (upd (start [a0, a1, a2]) 6 (Go.Value.int Go.IntKind.i64 0)) 9 a0) 10 t10) 11 t10) 12 t12) 13 t13) 14 t14) 15 t15) 16 a0) 17 a1) 18 t18) 19 t19) 20 a0) 21 a1) 22 t22) 23 t23) 24 (Go.Value.int Go.IntKind.i64 0)) w))
theorem F_tap_walk_eq (a0 : Go.Value) (a1 : Go.Value) (a2 : Go.Value) (w : Go.World) (R : Go.Value → Go.World → Prop) : cK prog (bodyOf Try.f76) (resK prog Try.f76.results.toList R) (start [a0, a1, a2]) w = F_tap_walk a0 a1 a2 w R := by kernel_rfl
theorem F_tap_walk_on (a0 : Go.Value) (a1 : Go.Value) (a2 : Go.Value) (w : Go.World) (k : Go.Value → Go.World → Prop) (h : F_tap_walk a0 a1 a2 w k) : callOn prog fn_tap_walk #[a0, a1, a2] w k :=
  calls_list (args := [a0, a1, a2]) mixed Try.func76 (by kernel_rfl) (by kernel_rfl) (Eq.mpr (F_tap_walk_eq a0 a1 a2 w _) (Eq.mpr (congrArg (F_tap_walk a0 a1 a2 w) (on_eq k)) h))


/-- (postern/tap.counter).count -/
def F_counter_count (a0 : Go.Value) (a1 : Go.Value) (w : Go.World) (R : Go.Value → Go.World → Prop) : Prop :=
 boxK 132 a0 w fun t2 w =>
 fieldA 0 t2 fun t9 =>
 load1 t9 w fun t10 =>
 callOn prog fn_World_What #[t10, a1] w fun t12 w =>
 extractK t12 0 fun t13 =>
 extractK t12 1 fun t14 =>
 allocZ (Go.Value.agg #[(Go.Value.int Go.IntKind.u8 0), (Go.Value.int Go.IntKind.i64 0), (Go.Value.int Go.IntKind.u8 0), (Go.Value.int Go.IntKind.i64 0), (Go.Value.string { data := #[] }), (Go.Value.slice .none 0 0), (Go.Value.int Go.IntKind.i64 0), (Go.Value.slice .none 0 0), (Go.Value.int Go.IntKind.i64 0), (Go.Value.int Go.IntKind.i64 0), (Go.Value.int Go.IntKind.i64 0), (Go.Value.int Go.IntKind.i64 0), (Go.Value.int Go.IntKind.u8 0), (Go.Value.bool false), (Go.Value.slice .none 0 0), (Go.Value.slice .none 0 0)]) 52 w fun t4 w =>
 storeN 16 t4 t13 w fun w =>
 fieldA 0 t2 fun t16 =>
 load1 t16 w fun t17 =>
 fieldA 11 t4 fun t18 =>
 load1 t18 w fun t19 =>
 callOn prog fn_World_What #[t17, t19] w fun t20 w =>
 extractK t20 0 fun t21 =>
 extractK t20 1 fun t22 =>
 allocZ (Go.Value.agg #[(Go.Value.int Go.IntKind.u8 0), (Go.Value.int Go.IntKind.i64 0), (Go.Value.int Go.IntKind.u8 0), (Go.Value.int Go.IntKind.i64 0), (Go.Value.string { data := #[] }), (Go.Value.slice .none 0 0), (Go.Value.int Go.IntKind.i64 0), (Go.Value.slice .none 0 0), (Go.Value.int Go.IntKind.i64 0), (Go.Value.int Go.IntKind.i64 0), (Go.Value.int Go.IntKind.i64 0), (Go.Value.int Go.IntKind.i64 0), (Go.Value.int Go.IntKind.u8 0), (Go.Value.bool false), (Go.Value.slice .none 0 0), (Go.Value.slice .none 0 0)]) 52 w fun t6 w =>
 storeN 16 t6 t21 w fun w =>
 fieldA 8 t6 fun t23 =>
 load1 t23 w fun t24 =>
 binI Go.BinOp.add t24 (Go.Value.int Go.IntKind.i64 1) fun t25 =>
 minK [t25, (Go.Value.int Go.IntKind.i64 9007199254740992)] fun t26 =>
 fieldA 8 t6 fun t27 =>
 storeN 1 t27 t26 w fun w =>
 fieldA 0 t2 fun t28 =>
 load1 t28 w fun t29 =>
 fieldA 11 t4 fun t30 =>
 load1 t30 w fun t31 =>
 loadN 16 t6 w fun t32 =>
 callOn prog fn_World_Lay #[t29, t31, t32] w fun t33 w =>
 R (Go.Value.tuple #[]) w
theorem F_counter_count_eq (a0 : Go.Value) (a1 : Go.Value) (w : Go.World) (R : Go.Value → Go.World → Prop) : cK prog (bodyOf Try.f77) (resK prog Try.f77.results.toList R) (start [a0, a1]) w = F_counter_count a0 a1 w R := by kernel_rfl
theorem F_counter_count_on (a0 : Go.Value) (a1 : Go.Value) (w : Go.World) (k : Go.Value → Go.World → Prop) (h : F_counter_count a0 a1 w k) : callOn prog fn_counter_count #[a0, a1] w k :=
  calls_list (args := [a0, a1]) mixed Try.func77 (by kernel_rfl) (by kernel_rfl) (Eq.mpr (F_counter_count_eq a0 a1 w _) (Eq.mpr (congrArg (F_counter_count a0 a1 w) (on_eq k)) h))


/-- postern/tap.Make$1 -/
def F_tap_Make_1 (a0 : Go.Value) (a1 : Go.Value) (a2 : Go.Value) (a3 : Go.Value) (a4 : Go.Value) (w : Go.World) (R : Go.Value → Go.World → Prop) : Prop :=
 load1 a0 w fun t5 =>
 binI Go.BinOp.neq t5 (Go.Value.int Go.IntKind.i64 0) fun t6 =>
 condK t6
 (load1 a1 w fun t7 =>
 load1 a2 w fun t8 =>
 callOn prog fn_World_Become #[t7, t8] w fun t9 w =>
 storeN 1 a3 (Go.Value.int Go.IntKind.i64 0) w fun w =>
 storeN 1 a4 (Go.Value.int Go.IntKind.i64 0) w fun w =>
 R (Go.Value.tuple #[]) w)
 (R (Go.Value.tuple #[]) w)
theorem F_tap_Make_1_eq (a0 : Go.Value) (a1 : Go.Value) (a2 : Go.Value) (a3 : Go.Value) (a4 : Go.Value) (w : Go.World) (R : Go.Value → Go.World → Prop) : cK prog (bodyOf Try.f79) (resK prog Try.f79.results.toList R) (start [a0, a1, a2, a3, a4]) w = F_tap_Make_1 a0 a1 a2 a3 a4 w R := by kernel_rfl
theorem F_tap_Make_1_on (a0 : Go.Value) (a1 : Go.Value) (a2 : Go.Value) (a3 : Go.Value) (a4 : Go.Value) (w : Go.World) (k : Go.Value → Go.World → Prop) (h : F_tap_Make_1 a0 a1 a2 a3 a4 w k) : callOn prog fn_tap_Make_1 #[a0, a1, a2, a3, a4] w k :=
  calls_list (args := [a0, a1, a2, a3, a4]) mixed Try.func79 (by kernel_rfl) (by kernel_rfl) (Eq.mpr (F_tap_Make_1_eq a0 a1 a2 a3 a4 w _) (Eq.mpr (congrArg (F_tap_Make_1 a0 a1 a2 a3 a4 w) (on_eq k)) h))


theorem F_tap_Make_1_onD (a0 : Go.Value) (a1 : Go.Value) (a2 : Go.Value) (a3 : Go.Value) (a4 : Go.Value) (w : Go.World) (k : Go.Value → Go.World → Prop) (h : F_tap_Make_1 a0 a1 a2 a3 a4 w k) : dcallOn prog fn_tap_Make_1 #[a0, a1, a2, a3, a4] w k :=
  dcalls_list (args := [a0, a1, a2, a3, a4]) mixed Try.func79 (by kernel_rfl) (by kernel_rfl) (by kernel_rfl) (Eq.mpr (F_tap_Make_1_eq a0 a1 a2 a3 a4 w _) h)

/-- (*postern/tap.list).add -/
def F_list_add (a0 : Go.Value) (a1 : Go.Value) (w : Go.World) (R : Go.Value → Go.World → Prop) : Prop :=
 nilK a0 fun t6 =>
 fieldA 0 t6 fun t7 =>
 load1 t7 w fun t8 =>
 buildL 40 1 (Go.Value.int Go.IntKind.i64 0) 1 [(0, a1)] w fun t10 w =>
 appendS 40 1 8 (Go.Value.int Go.IntKind.i64 0) t8 t10 w fun t11 w =>
 nilK a0 fun t12 =>
 fieldA 0 t12 fun t13 =>
 storeN 1 t13 t11 w fun w =>
 R (Go.Value.tuple #[]) w
theorem F_list_add_eq (a0 : Go.Value) (a1 : Go.Value) (w : Go.World) (R : Go.Value → Go.World → Prop) : cK prog (bodyOf Try.f81) (resK prog Try.f81.results.toList R) (start [a0, a1]) w = F_list_add a0 a1 w R := by kernel_rfl
theorem F_list_add_on (a0 : Go.Value) (a1 : Go.Value) (w : Go.World) (k : Go.Value → Go.World → Prop) (h : F_list_add a0 a1 w k) : callOn prog fn_list_add #[a0, a1] w k :=
  calls_list (args := [a0, a1]) mixed Try.func81 (by kernel_rfl) (by kernel_rfl) (Eq.mpr (F_list_add_eq a0 a1 w _) (Eq.mpr (congrArg (F_list_add a0 a1 w) (on_eq k)) h))


/-- postern/posternlaw13.lives -/
def F_law13_lives  (w : Go.World) (R : Go.Value → Go.World → Prop) : Prop :=
 callOn prog fn_world_New #[(Go.Value.slice .none 0 0)] w fun t17 w =>
 extractK t17 0 fun t18 =>
 extractK t17 1 fun t19 =>
 buildS (Go.Value.agg #[(Go.Value.int Go.IntKind.u8 0), (Go.Value.int Go.IntKind.i64 0), (Go.Value.int Go.IntKind.u8 0), (Go.Value.int Go.IntKind.i64 0), (Go.Value.string { data := #[] }), (Go.Value.slice .none 0 0), (Go.Value.int Go.IntKind.i64 0), (Go.Value.slice .none 0 0), (Go.Value.int Go.IntKind.i64 0), (Go.Value.int Go.IntKind.i64 0), (Go.Value.int Go.IntKind.i64 0), (Go.Value.int Go.IntKind.i64 0), (Go.Value.int Go.IntKind.u8 0), (Go.Value.bool false), (Go.Value.slice .none 0 0), (Go.Value.slice .none 0 0)]) [(0, 1), (1, 1), (2, 5), (7, 1), (8, 1), (9, 1), (10, 1), (11, 1), (12, 1), (13, 1), (14, 1), (15, 1)] [(0, (Go.Value.int Go.IntKind.u8 1))] fun t22 =>
 callOn prog fn_World_Make #[t18, t22] w fun t23 w =>
 extractK t23 0 fun t24 =>
 extractK t23 1 fun t25 =>
 callOn prog fn_tap_Make #[t18, (Go.Value.int Go.IntKind.i64 0), t24] w fun t29 w =>
 extractK t29 0 fun t30 =>
 extractK t29 1 fun t31 =>
 extractK t29 2 fun t32 =>
 callOn prog fn_tap_Pass #[t18, t30] w fun t35 w =>
 callOn prog fn_tap_Pass #[t18, t24] w fun t38 w =>
 callOn prog fn_tap_Count #[t18, t30] w fun t42 w =>
 extractK t42 0 fun t43 =>
 extractK t42 1 fun t44 =>
 callOn prog fn_tap_Count #[t18, t24] w fun t48 w =>
 extractK t48 0 fun t49 =>
 extractK t48 1 fun t50 =>
 callOn prog fn_tap_Taps #[t18, t30] w fun t54 w =>
 extractK t54 0 fun t55 =>
 extractK t54 1 fun t56 =>
 binI Go.BinOp.eql t24 (Go.Value.int Go.IntKind.i64 1) fun t58 =>
 gopK t58 true (fun k => k t25 w) w fun t60 w =>
 gopK t58 true (fun k => binI Go.BinOp.eql t60 (Go.Value.int Go.IntKind.i64 0) fun v => k v w) w fun t61 w =>
 pickK t58 t61 (Go.Value.bool false) fun t62 =>
 gopK t62 true (fun k => k t30 w) w fun t64 w =>
 gopK t62 true (fun k => binI Go.BinOp.eql t64 (Go.Value.int Go.IntKind.i64 3) fun v => k v w) w fun t65 w =>
 pickK t62 t65 (Go.Value.bool false) fun t66 =>
 gopK t66 true (fun k => k t31 w) w fun t68 w =>
 gopK t66 true (fun k => binI Go.BinOp.eql t68 (Go.Value.int Go.IntKind.i64 2) fun v => k v w) w fun t69 w =>
 pickK t66 t69 (Go.Value.bool false) fun t70 =>
 gopK t70 true (fun k => k t32 w) w fun t72 w =>
 gopK t70 true (fun k => binI Go.BinOp.eql t72 (Go.Value.int Go.IntKind.i64 0) fun v => k v w) w fun t73 w =>
 pickK t70 t73 (Go.Value.bool false) fun t74 =>
 gopK t74 true (fun k => k t35 w) w fun t76 w =>
 gopK t74 true (fun k => binI Go.BinOp.eql t76 (Go.Value.int Go.IntKind.i64 0) fun v => k v w) w fun t77 w =>
 pickK t74 t77 (Go.Value.bool false) fun t78 =>
 gopK t78 true (fun k => k t38 w) w fun t80 w =>
 gopK t78 true (fun k => binI Go.BinOp.eql t80 (Go.Value.int Go.IntKind.i64 0) fun v => k v w) w fun t81 w =>
 pickK t78 t81 (Go.Value.bool false) fun t82 =>
 gopK t82 true (fun k => k t43 w) w fun t84 w =>
 gopK t82 true (fun k => binI Go.BinOp.eql t84 (Go.Value.int Go.IntKind.i64 1) fun v => k v w) w fun t85 w =>
 pickK t82 t85 (Go.Value.bool false) fun t86 =>
 gopK t86 true (fun k => k t44 w) w fun t88 w =>
 gopK t86 true (fun k => binI Go.BinOp.eql t88 (Go.Value.int Go.IntKind.i64 0) fun v => k v w) w fun t89 w =>
 pickK t86 t89 (Go.Value.bool false) fun t90 =>
 gopK t90 true (fun k => k t50 w) w fun t92 w =>
 gopK t90 true (fun k => binI Go.BinOp.eql t92 (Go.Value.int Go.IntKind.i64 130) fun v => k v w) w fun t93 w =>
 pickK t90 t93 (Go.Value.bool false) fun t94 =>
 gopK t94 true (fun k => k t55 w) w fun t96 w =>
 gopK t94 true (fun k => lenL t96 fun v => k v w) w fun t97 w =>
 gopK t94 true (fun k => binI Go.BinOp.eql t97 (Go.Value.int Go.IntKind.i64 1) fun v => k v w) w fun t98 w =>
 pickK t94 t98 (Go.Value.bool false) fun t99 =>
 gopK t99 true (fun k => k t55 w) w fun t101 w =>
 gopK t99 true (fun k => indexS 1 t101 (Go.Value.int Go.IntKind.i64 0) fun v => k v w) w fun t102 w =>
 gopK t99 true (fun k => load1 t102 w fun v => k v w) w fun t103 w =>
 gopK t99 true (fun k => binI Go.BinOp.eql t103 (Go.Value.int Go.IntKind.i64 3) fun v => k v w) w fun t104 w =>
 pickK t99 t104 (Go.Value.bool false) fun t105 =>
 gopK t105 true (fun k => k t56 w) w fun t107 w =>
 gopK t105 true (fun k => binI Go.BinOp.eql t107 (Go.Value.int Go.IntKind.i64 0) fun v => k v w) w fun t108 w =>
 pickK t105 t108 (Go.Value.bool false) fun t109 =>
 R t109 w
theorem F_law13_lives_eq  (w : Go.World) (R : Go.Value → Go.World → Prop) : cK prog (bodyOf Try.f25) (resK prog Try.f25.results.toList R) (start []) w = F_law13_lives  w R := by kernel_rfl
theorem F_law13_lives_on  (w : Go.World) (k : Go.Value → Go.World → Prop) (h : F_law13_lives  w k) : callOn prog fn_law13_lives #[] w k :=
  calls_list (args := []) mixed Try.func25 (by kernel_rfl) (by kernel_rfl) (Eq.mpr (F_law13_lives_eq  w _) (Eq.mpr (congrArg (F_law13_lives  w) (on_eq k)) h))


/-- postern/posternlaw13.TapNames -/
def F_law13_TapNames  (w : Go.World) (R : Go.Value → Go.World → Prop) : Prop :=
 gopK (Go.Value.bool true) true (fun k => callOn prog fn_law13_lives #[] w k) w fun t2 w =>
 pickK (Go.Value.bool true) t2 (Go.Value.bool false) fun t3 =>
 R t3 w
theorem F_law13_TapNames_eq  (w : Go.World) (R : Go.Value → Go.World → Prop) : cK prog (bodyOf Try.f5) (resK prog Try.f5.results.toList R) (start []) w = F_law13_TapNames  w R := by kernel_rfl
theorem F_law13_TapNames_on  (w : Go.World) (k : Go.Value → Go.World → Prop) (h : F_law13_TapNames  w k) : callOn prog fn_law13_TapNames #[] w k :=
  calls_list (args := []) mixed Try.func5 (by kernel_rfl) (by kernel_rfl) (Eq.mpr (F_law13_TapNames_eq  w _) (Eq.mpr (congrArg (F_law13_TapNames  w) (on_eq k)) h))


end Go.X
