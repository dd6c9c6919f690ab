/- The calculator's word on functions of this program, each with its proof: written by a program of this family (shallow.py). -/
import Derived.Test.YtdjheefbeagcjaaXxP
set_option linter.unusedVariables false
set_option maxRecDepth 100000
namespace Go.X
open Go Go.Proofs
/-- (*postern/world.World).none -/
def F_World_none (a0 : Go.Value) (w : Go.World) (R : Go.Value → Go.World → Prop) : Prop :=
 binP Go.BinOp.eql a0 (Go.Value.pointer .none) fun t4 =>
 gopK t4 false (fun k => k a0 w) w fun t6 w =>
 gopK t4 false (fun k => nilK t6 fun v => k v w) w fun t7 w =>
 gopK t4 false (fun k => fieldA 2 t7 fun v => k v w) w fun t8 w =>
 gopK t4 false (fun k => load1 t8 w fun v => k v w) w fun t9 w =>
 gopK t4 false (fun k => binM Go.BinOp.eql t9 (Go.Value.map .none) fun v => k v w) w fun t10 w =>
 pickK t4 (Go.Value.bool true) t10 fun t11 =>
 R t11 w
theorem F_World_none_eq (a0 : Go.Value) (w : Go.World) (R : Go.Value → Go.World → Prop) : cK prog (bodyOf Try.f61) (resK prog Try.f61.results.toList R) (start [a0]) w = F_World_none a0 w R := by kernel_rfl
theorem F_World_none_on (a0 : Go.Value) (w : Go.World) (k : Go.Value → Go.World → Prop) (h : F_World_none a0 w k) : callOn prog fn_World_none #[a0] w k :=
  calls_list (args := [a0]) mixed Try.func61 (by kernel_rfl) (by kernel_rfl) (Eq.mpr (F_World_none_eq a0 w _) (Eq.mpr (congrArg (F_World_none a0 w) (on_eq k)) h))


/-- (*postern/world.World).Sides -/
def F_World_Sides (a0 : Go.Value) (w : Go.World) (R : Go.Value → Go.World → Prop) : Prop :=
 callOn prog fn_World_none #[a0] w fun t4 w =>
 condK t4
 (R (Go.Value.int Go.IntKind.i64 0) w)
 (nilK a0 fun t6 =>
 fieldA 5 t6 fun t7 =>
 load1 t7 w fun t8 =>
 lenL t8 fun t9 =>
 R t9 w)
theorem F_World_Sides_eq (a0 : Go.Value) (w : Go.World) (R : Go.Value → Go.World → Prop) : cK prog (bodyOf Try.f19) (resK prog Try.f19.results.toList R) (start [a0]) w = F_World_Sides a0 w R := by kernel_rfl
theorem F_World_Sides_on (a0 : Go.Value) (w : Go.World) (k : Go.Value → Go.World → Prop) (h : F_World_Sides a0 w k) : callOn prog fn_World_Sides #[a0] w k :=
  calls_list (args := [a0]) mixed Try.func19 (by kernel_rfl) (by kernel_rfl) (Eq.mpr (F_World_Sides_eq a0 w _) (Eq.mpr (congrArg (F_World_Sides a0 w) (on_eq k)) h))


/-- (*postern/world.World).side -/
def F_World_side (a0 : Go.Value) (a1 : Go.Value) (w : Go.World) (R : Go.Value → Go.World → Prop) : Prop :=
 binI Go.BinOp.geq a1 (Go.Value.int Go.IntKind.i64 0) fun t6 =>
 gopK t6 true (fun k => k a1 w) w fun t8 w =>
 gopK t6 true (fun k => k a0 w) w fun t9 w =>
 gopK t6 true (fun k => callOn prog fn_World_Sides #[t9] w k) w fun t10 w =>
 gopK t6 true (fun k => binI Go.BinOp.lss t8 t10 fun v => k v w) w fun t11 w =>
 pickK t6 t11 (Go.Value.bool false) fun t12 =>
 R t12 w
theorem F_World_side_eq (a0 : Go.Value) (a1 : Go.Value) (w : Go.World) (R : Go.Value → Go.World → Prop) : cK prog (bodyOf Try.f62) (resK prog Try.f62.results.toList R) (start [a0, a1]) w = F_World_side a0 a1 w R := by kernel_rfl
theorem F_World_side_on (a0 : Go.Value) (a1 : Go.Value) (w : Go.World) (k : Go.Value → Go.World → Prop) (h : F_World_side a0 a1 w k) : callOn prog fn_World_side #[a0, a1] w k :=
  calls_list (args := [a0, a1]) mixed Try.func62 (by kernel_rfl) (by kernel_rfl) (Eq.mpr (F_World_side_eq a0 a1 w _) (Eq.mpr (congrArg (F_World_side a0 a1 w) (on_eq k)) h))


/-- (*postern/world.World).edge -/
def F_World_edge (a0 : Go.Value) (a1 : Go.Value) (w : Go.World) (R : Go.Value → Go.World → Prop) : Prop :=
 binI Go.BinOp.gtr a1 (Go.Value.int Go.IntKind.i64 0) fun t6 =>
 gopK t6 true (fun k => k a1 w) w fun t8 w =>
 gopK t6 true (fun k => k a0 w) w fun t9 w =>
 gopK t6 true (fun k => callOn prog fn_World_Sides #[t9] w k) w fun t10 w =>
 gopK t6 true (fun k => binI Go.BinOp.lss t8 t10 fun v => k v w) w fun t11 w =>
 pickK t6 t11 (Go.Value.bool false) fun t12 =>
 R t12 w
theorem F_World_edge_eq (a0 : Go.Value) (a1 : Go.Value) (w : Go.World) (R : Go.Value → Go.World → Prop) : cK prog (bodyOf Try.f63) (resK prog Try.f63.results.toList R) (start [a0, a1]) w = F_World_edge a0 a1 w R := by kernel_rfl
theorem F_World_edge_on (a0 : Go.Value) (a1 : Go.Value) (w : Go.World) (k : Go.Value → Go.World → Prop) (h : F_World_edge a0 a1 w k) : callOn prog fn_World_edge #[a0, a1] w k :=
  calls_list (args := [a0, a1]) mixed Try.func63 (by kernel_rfl) (by kernel_rfl) (Eq.mpr (F_World_edge_eq a0 a1 w _) (Eq.mpr (congrArg (F_World_edge a0 a1 w) (on_eq k)) h))


/-- (*postern/world.World).Parent -/
def F_World_Parent (a0 : Go.Value) (a1 : Go.Value) (w : Go.World) (R : Go.Value → Go.World → Prop) : Prop :=
 callOn prog fn_World_none #[a0] w fun t7 w =>
 condK t7
 (R (Go.Value.tuple #[(Go.Value.int Go.IntKind.i64 0), (Go.Value.int Go.IntKind.i64 1)]) w)
 (binI Go.BinOp.eql a1 (Go.Value.int Go.IntKind.i64 0) fun t9 =>
 gopK t9 false (fun k => k a0 w) w fun t11 w =>
 gopK t9 false (fun k => k a1 w) w fun t12 w =>
 gopK t9 false (fun k => callOn prog fn_World_side #[t11, t12] w k) w fun t13 w =>
 gopK t9 false (fun k => unK Go.UnOp.not t13 fun v => k v w) w fun t14 w =>
 pickK t9 (Go.Value.bool true) t14 fun t15 =>
 condK t15
 (R (Go.Value.tuple #[(Go.Value.int Go.IntKind.i64 0), (Go.Value.int Go.IntKind.i64 2)]) w)
 (nilK a0 fun t17 =>
 fieldA 0 t17 fun t18 =>
 load1 t18 w fun t19 =>
 binI Go.BinOp.sub a1 (Go.Value.int Go.IntKind.i64 1) fun t21 =>
 indexS 1 t19 t21 fun t22 =>
 load1 t22 w fun t23 =>
 R (Go.Value.tuple #[t23, (Go.Value.int Go.IntKind.i64 0)]) w))
theorem F_World_Parent_eq (a0 : Go.Value) (a1 : Go.Value) (w : Go.World) (R : Go.Value → Go.World → Prop) : cK prog (bodyOf Try.f24) (resK prog Try.f24.results.toList R) (start [a0, a1]) w = F_World_Parent a0 a1 w R := by kernel_rfl
theorem F_World_Parent_on (a0 : Go.Value) (a1 : Go.Value) (w : Go.World) (k : Go.Value → Go.World → Prop) (h : F_World_Parent a0 a1 w k) : callOn prog fn_World_Parent #[a0, a1] w k :=
  calls_list (args := [a0, a1]) mixed Try.func24 (by kernel_rfl) (by kernel_rfl) (Eq.mpr (F_World_Parent_eq a0 a1 w _) (Eq.mpr (congrArg (F_World_Parent a0 a1 w) (on_eq k)) h))


/-- (*postern/world.World).CutEdge -/
def F_World_CutEdge (a0 : Go.Value) (a1 : Go.Value) (w : Go.World) (R : Go.Value → Go.World → Prop) : Prop :=
 callOn prog fn_World_none #[a0] w fun t6 w =>
 condK t6
 (R (Go.Value.int Go.IntKind.i64 1) w)
 (callOn prog fn_World_edge #[a0, a1] w fun t9 w =>
 unK Go.UnOp.not t9 fun t10 =>
 condK t10
 (R (Go.Value.int Go.IntKind.i64 2) w)
 (nilK a0 fun t12 =>
 fieldA 1 t12 fun t13 =>
 load1 t13 w fun t14 =>
 indexS 1 t14 a1 fun t16 =>
 storeN 1 t16 (Go.Value.bool true) w fun w =>
 R (Go.Value.int Go.IntKind.i64 0) w))
theorem F_World_CutEdge_eq (a0 : Go.Value) (a1 : Go.Value) (w : Go.World) (R : Go.Value → Go.World → Prop) : cK prog (bodyOf Try.f23) (resK prog Try.f23.results.toList R) (start [a0, a1]) w = F_World_CutEdge a0 a1 w R := by kernel_rfl
theorem F_World_CutEdge_on (a0 : Go.Value) (a1 : Go.Value) (w : Go.World) (k : Go.Value → Go.World → Prop) (h : F_World_CutEdge a0 a1 w k) : callOn prog fn_World_CutEdge #[a0, a1] w k :=
  calls_list (args := [a0, a1]) mixed Try.func23 (by kernel_rfl) (by kernel_rfl) (Eq.mpr (F_World_CutEdge_eq a0 a1 w _) (Eq.mpr (congrArg (F_World_CutEdge a0 a1 w) (on_eq k)) h))


/-- (*postern/world.World).IsCut -/
def F_World_IsCut (a0 : Go.Value) (a1 : Go.Value) (w : Go.World) (R : Go.Value → Go.World → Prop) : Prop :=
 callOn prog fn_World_edge #[a0, a1] w fun t7 w =>
 gopK t7 true (fun k => k a0 w) w fun t9 w =>
 gopK t7 true (fun k => nilK t9 fun v => k v w) w fun t10 w =>
 gopK t7 true (fun k => fieldA 1 t10 fun v => k v w) w fun t11 w =>
 gopK t7 true (fun k => load1 t11 w fun v => k v w) w fun t12 w =>
 gopK t7 true (fun k => k a1 w) w fun t13 w =>
 gopK t7 true (fun k => indexS 1 t12 t13 fun v => k v w) w fun t14 w =>
 gopK t7 true (fun k => load1 t14 w fun v => k v w) w fun t15 w =>
 pickK t7 t15 (Go.Value.bool false) fun t16 =>
 R t16 w
theorem F_World_IsCut_eq (a0 : Go.Value) (a1 : Go.Value) (w : Go.World) (R : Go.Value → Go.World → Prop) : cK prog (bodyOf Try.f22) (resK prog Try.f22.results.toList R) (start [a0, a1]) w = F_World_IsCut a0 a1 w R := by kernel_rfl
theorem F_World_IsCut_on (a0 : Go.Value) (a1 : Go.Value) (w : Go.World) (k : Go.Value → Go.World → Prop) (h : F_World_IsCut a0 a1 w k) : callOn prog fn_World_IsCut #[a0, a1] w k :=
  calls_list (args := [a0, a1]) mixed Try.func22 (by kernel_rfl) (by kernel_rfl) (Eq.mpr (F_World_IsCut_eq a0 a1 w _) (Eq.mpr (congrArg (F_World_IsCut a0 a1 w) (on_eq k)) h))


/-- (*postern/world.World).Open -/
def F_World_Open (a0 : Go.Value) (a1 : Go.Value) (a2 : Go.Value) (w : Go.World) (R : Go.Value → Go.World → Prop) : Prop :=
 callOn prog fn_World_side #[a0, a1] w fun t9 w =>
 unK Go.UnOp.not t9 fun t10 =>
 gopK t10 false (fun k => k a0 w) w fun t12 w =>
 gopK t10 false (fun k => k a2 w) w fun t13 w =>
 gopK t10 false (fun k => callOn prog fn_World_side #[t12, t13] w k) w fun t14 w =>
 gopK t10 false (fun k => unK Go.UnOp.not t14 fun v => k v w) w fun t15 w =>
 pickK t10 (Go.Value.bool true) t15 fun t16 =>
 condK t16
 (R (Go.Value.bool false) w)
 (loopK (fun k1 e1 w =>
 binI Go.BinOp.neq (e1 1) (e1 2) fun t19 =>
 condK t19
 (let J2 : Env → Go.World → Prop := fun e2 w =>
 (nilK (e2 0) fun t26 =>
 fieldA 1 t26 fun t27 =>
 load1 t27 w fun t28 =>
 indexS 1 t28 (e2 1) fun t30 =>
 load1 t30 w fun t31 =>
 condK t31
 (R (Go.Value.bool false) w)
 (nilK (e2 0) fun t33 =>
 fieldA 0 t33 fun t34 =>
 load1 t34 w fun t35 =>
 binI Go.BinOp.sub (e2 1) (Go.Value.int Go.IntKind.i64 1) fun t37 =>
 indexS 1 t35 t37 fun t38 =>
 load1 t38 w fun t39 =>
 k1 (upd (upd (upd (upd (upd (upd (upd (upd (upd (upd (upd (upd (upd (upd (upd (upd e2 25 (e2 0)) 26 t26) 27 t27) 28 t28) 29 (e2 1)) 30 t30) 31 t31) 32 (e2 0)) 33 t33) 34 t34) 35 t35) 36 (e2 1)) 37 t37) 38 t38) 39 t39) 1 t39) w))
 binI Go.BinOp.lss (e1 1) (e1 2) fun t22 =>
 condK t22
 (J2 (upd (upd (upd (upd (upd (upd (upd (upd (upd (upd e1 17 (e1 1)) 18 (e1 2)) 19 t19) 20 (e1 1)) 21 (e1 2)) 22 t22) 23 (e1 2)) 24 (e1 1)) 1 (e1 2)) 2 (e1 1)) w)
 (J2 (upd (upd (upd (upd (upd (upd e1 17 (e1 1)) 18 (e1 2)) 19 t19) 20 (e1 1)) 21 (e1 2)) 22 t22) w))
 (R (Go.Value.bool true) w)) (upd (upd (upd (upd (upd (upd (upd (upd (upd (upd (upd (start [a0, a1, a2]) 6 (Go.Value.bool false)) 7 a0) 8 a1) 9 t9) 10 t10) 11 t10) 12 t12) 13 t13) 14 t14) 15 t15) 16 t16) w)
theorem F_World_Open_eq (a0 : Go.Value) (a1 : Go.Value) (a2 : Go.Value) (w : Go.World) (R : Go.Value → Go.World → Prop) : cK prog (bodyOf Try.f21) (resK prog Try.f21.results.toList R) (start [a0, a1, a2]) w = F_World_Open a0 a1 a2 w R := by kernel_rfl
theorem F_World_Open_on (a0 : Go.Value) (a1 : Go.Value) (a2 : Go.Value) (w : Go.World) (k : Go.Value → Go.World → Prop) (h : F_World_Open a0 a1 a2 w k) : callOn prog fn_World_Open #[a0, a1, a2] w k :=
  calls_list (args := [a0, a1, a2]) mixed Try.func21 (by kernel_rfl) (by kernel_rfl) (Eq.mpr (F_World_Open_eq a0 a1 a2 w _) (Eq.mpr (congrArg (F_World_Open a0 a1 a2 w) (on_eq k)) h))


/-- (*postern/world.World).Is -/
def F_World_Is (a0 : Go.Value) (a1 : Go.Value) (w : Go.World) (R : Go.Value → Go.World → Prop) : Prop :=
 callOn prog fn_World_none #[a0] w fun t6 w =>
 unK Go.UnOp.not t6 fun t7 =>
 gopK t7 true (fun k => k a0 w) w fun t9 w =>
 gopK t7 true (fun k => nilK t9 fun v => k v w) w fun t10 w =>
 gopK t7 true (fun k => fieldA 2 t10 fun v => k v w) w fun t11 w =>
 gopK t7 true (fun k => load1 t11 w fun v => k v w) w fun t12 w =>
 gopK t7 true (fun k => k a1 w) w fun t13 w =>
 gopK t7 true (fun k => lookM false (Go.Value.pointer .none) t12 t13 false w fun v => k v w) w fun t14 w =>
 gopK t7 true (fun k => binP Go.BinOp.neq t14 (Go.Value.pointer .none) fun v => k v w) w fun t15 w =>
 pickK t7 t15 (Go.Value.bool false) fun t16 =>
 R t16 w
theorem F_World_Is_eq (a0 : Go.Value) (a1 : Go.Value) (w : Go.World) (R : Go.Value → Go.World → Prop) : cK prog (bodyOf Try.f31) (resK prog Try.f31.results.toList R) (start [a0, a1]) w = F_World_Is a0 a1 w R := by kernel_rfl
theorem F_World_Is_on (a0 : Go.Value) (a1 : Go.Value) (w : Go.World) (k : Go.Value → Go.World → Prop) (h : F_World_Is a0 a1 w k) : callOn prog fn_World_Is #[a0, a1] w k :=
  calls_list (args := [a0, a1]) mixed Try.func31 (by kernel_rfl) (by kernel_rfl) (Eq.mpr (F_World_Is_eq a0 a1 w _) (Eq.mpr (congrArg (F_World_Is a0 a1 w) (on_eq k)) h))


/-- (*postern/world.World).Kind -/
def F_World_Kind (a0 : Go.Value) (a1 : Go.Value) (w : Go.World) (R : Go.Value → Go.World → Prop) : Prop :=
 callOn prog fn_World_Is #[a0, a1] w fun t7 w =>
 unK Go.UnOp.not t7 fun t8 =>
 condK t8
 (R (Go.Value.int Go.IntKind.u8 0) w)
 (nilK a0 fun t10 =>
 fieldA 2 t10 fun t11 =>
 load1 t11 w fun t12 =>
 lookM false (Go.Value.pointer .none) t12 a1 false w fun t14 =>
 nilK t14 fun t15 =>
 fieldA 0 t15 fun t16 =>
 load1 t16 w fun t17 =>
 R t17 w)
theorem F_World_Kind_eq (a0 : Go.Value) (a1 : Go.Value) (w : Go.World) (R : Go.Value → Go.World → Prop) : cK prog (bodyOf Try.f32) (resK prog Try.f32.results.toList R) (start [a0, a1]) w = F_World_Kind a0 a1 w R := by kernel_rfl
theorem F_World_Kind_on (a0 : Go.Value) (a1 : Go.Value) (w : Go.World) (k : Go.Value → Go.World → Prop) (h : F_World_Kind a0 a1 w k) : callOn prog fn_World_Kind #[a0, a1] w k :=
  calls_list (args := [a0, a1]) mixed Try.func32 (by kernel_rfl) (by kernel_rfl) (Eq.mpr (F_World_Kind_eq a0 a1 w _) (Eq.mpr (congrArg (F_World_Kind a0 a1 w) (on_eq k)) h))


/-- (*postern/world.World).Home -/
def F_World_Home (a0 : Go.Value) (a1 : Go.Value) (w : Go.World) (R : Go.Value → Go.World → Prop) : Prop :=
 callOn prog fn_World_Is #[a0, a1] w fun t8 w =>
 unK Go.UnOp.not t8 fun t9 =>
 gopK t9 false (fun k => k a0 w) w fun t11 w =>
 gopK t9 false (fun k => nilK t11 fun v => k v w) w fun t12 w =>
 gopK t9 false (fun k => fieldA 2 t12 fun v => k v w) w fun t13 w =>
 gopK t9 false (fun k => load1 t13 w fun v => k v w) w fun t14 w =>
 gopK t9 false (fun k => k a1 w) w fun t15 w =>
 gopK t9 false (fun k => lookM false (Go.Value.pointer .none) t14 t15 false w fun v => k v w) w fun t16 w =>
 gopK t9 false (fun k => nilK t16 fun v => k v w) w fun t17 w =>
 gopK t9 false (fun k => fieldA 0 t17 fun v => k v w) w fun t18 w =>
 gopK t9 false (fun k => load1 t18 w fun v => k v w) w fun t19 w =>
 gopK t9 false (fun k => binI Go.BinOp.eql t19 (Go.Value.int Go.IntKind.u8 14) fun v => k v w) w fun t20 w =>
 pickK t9 (Go.Value.bool true) t20 fun t21 =>
 condK t21
 (R (Go.Value.tuple #[(Go.Value.int Go.IntKind.i64 0), (Go.Value.bool false)]) w)
 (nilK a0 fun t23 =>
 fieldA 2 t23 fun t24 =>
 load1 t24 w fun t25 =>
 lookM false (Go.Value.pointer .none) t25 a1 false w fun t27 =>
 nilK t27 fun t28 =>
 fieldA 1 t28 fun t29 =>
 load1 t29 w fun t30 =>
 R (Go.Value.tuple #[t30, (Go.Value.bool true)]) w)
theorem F_World_Home_eq (a0 : Go.Value) (a1 : Go.Value) (w : Go.World) (R : Go.Value → Go.World → Prop) : cK prog (bodyOf Try.f47) (resK prog Try.f47.results.toList R) (start [a0, a1]) w = F_World_Home a0 a1 w R := by kernel_rfl
theorem F_World_Home_on (a0 : Go.Value) (a1 : Go.Value) (w : Go.World) (k : Go.Value → Go.World → Prop) (h : F_World_Home a0 a1 w k) : callOn prog fn_World_Home #[a0, a1] w k :=
  calls_list (args := [a0, a1]) mixed Try.func47 (by kernel_rfl) (by kernel_rfl) (Eq.mpr (F_World_Home_eq a0 a1 w _) (Eq.mpr (congrArg (F_World_Home a0 a1 w) (on_eq k)) h))


/-- postern/world.can -/
def F_world_can (a0 : Go.Value) (w : Go.World) (R : Go.Value → Go.World → Prop) : Prop :=
 binI Go.BinOp.eql a0 (Go.Value.int Go.IntKind.u8 1) fun t5 =>
 condK t5
 (buildL 48 1 (Go.Value.int Go.IntKind.u8 0) 2 [(0, (Go.Value.int Go.IntKind.u8 1)), (1, (Go.Value.int Go.IntKind.u8 2))] w fun t6 w =>
 callOn prog fn_able_Join #[t6] w fun t7 w =>
 R t7 w)
 (let J1 : Env → Go.World → Prop := fun e1 w =>
 (condK (e1 8)
 (buildL 48 1 (Go.Value.int Go.IntKind.u8 0) 2 [(0, (Go.Value.int Go.IntKind.u8 1)), (1, (Go.Value.int Go.IntKind.u8 8))] w fun t11 w =>
 callOn prog fn_able_Join #[t11] w fun t12 w =>
 R t12 w)
 (binI Go.BinOp.eql (e1 3) (Go.Value.int Go.IntKind.u8 4) fun t14 =>
 condK t14
 (buildL 48 1 (Go.Value.int Go.IntKind.u8 0) 2 [(0, (Go.Value.int Go.IntKind.u8 8)), (1, (Go.Value.int Go.IntKind.u8 4))] w fun t15 w =>
 callOn prog fn_able_Join #[t15] w fun t16 w =>
 R t16 w)
 (let J2 : Env → Go.World → Prop := fun e2 w =>
 (condK (e2 17)
 (R (Go.Value.int Go.IntKind.u8 16) w)
 (binI Go.BinOp.eql (e2 3) (Go.Value.int Go.IntKind.u8 9) fun t23 =>
 condK t23
 (buildL 48 1 (Go.Value.int Go.IntKind.u8 0) 3 [(0, (Go.Value.int Go.IntKind.u8 1)), (1, (Go.Value.int Go.IntKind.u8 4)), (2, (Go.Value.int Go.IntKind.u8 8))] w fun t24 w =>
 callOn prog fn_able_Join #[t24] w fun t25 w =>
 R t25 w)
 (binI Go.BinOp.eql (e2 3) (Go.Value.int Go.IntKind.u8 10) fun t27 =>
 condK t27
 (R (Go.Value.int Go.IntKind.u8 1) w)
 (binI Go.BinOp.eql (e2 3) (Go.Value.int Go.IntKind.u8 11) fun t29 =>
 condK t29
 (R (Go.Value.int Go.IntKind.u8 8) w)
 (binI Go.BinOp.eql (e2 3) (Go.Value.int Go.IntKind.u8 13) fun t31 =>
 condK t31
 (buildL 48 1 (Go.Value.int Go.IntKind.u8 0) 2 [(0, (Go.Value.int Go.IntKind.u8 1)), (1, (Go.Value.int Go.IntKind.u8 32))] w fun t32 w =>
 callOn prog fn_able_Join #[t32] w fun t33 w =>
 R t33 w)
 (R (Go.Value.int Go.IntKind.u8 0) w))))))
 binI Go.BinOp.eql (e1 3) (Go.Value.int Go.IntKind.u8 5) fun t18 =>
 condK t18
 (J2 (upd (upd (upd (upd e1 14 t14) 13 t14) 18 t18) 17 t18) w)
 (binI Go.BinOp.eql (e1 3) (Go.Value.int Go.IntKind.u8 6) fun t19 =>
 condK t19
 (J2 (upd (upd (upd (upd (upd (upd e1 14 t14) 13 t14) 18 t18) 17 t18) 19 t19) 17 t19) w)
 (binI Go.BinOp.eql (e1 3) (Go.Value.int Go.IntKind.u8 8) fun t20 =>
 condK t20
 (J2 (upd (upd (upd (upd (upd (upd (upd (upd e1 14 t14) 13 t14) 18 t18) 17 t18) 19 t19) 17 t19) 20 t20) 17 t20) w)
 (binI Go.BinOp.eql (e1 3) (Go.Value.int Go.IntKind.u8 12) fun t21 =>
 J2 (upd (upd (upd (upd (upd (upd (upd (upd (upd (upd e1 14 t14) 13 t14) 18 t18) 17 t18) 19 t19) 17 t19) 20 t20) 17 t20) 21 t21) 17 t21) w))))))
 binI Go.BinOp.eql a0 (Go.Value.int Go.IntKind.u8 2) fun t9 =>
 condK t9
 (J1 (upd (upd (upd (upd (upd (upd (start [a0]) 2 (Go.Value.int Go.IntKind.u8 0)) 3 a0) 5 t5) 4 t5) 9 t9) 8 t9) w)
 (binI Go.BinOp.eql a0 (Go.Value.int Go.IntKind.u8 3) fun t10 =>
 J1 (upd (upd (upd (upd (upd (upd (upd (upd (start [a0]) 2 (Go.Value.int Go.IntKind.u8 0)) 3 a0) 5 t5) 4 t5) 9 t9) 8 t9) 10 t10) 8 t10) w))
theorem F_world_can_eq (a0 : Go.Value) (w : Go.World) (R : Go.Value → Go.World → Prop) : cK prog (bodyOf Try.f83) (resK prog Try.f83.results.toList R) (start [a0]) w = F_world_can a0 w R := by kernel_rfl
theorem F_world_can_on (a0 : Go.Value) (w : Go.World) (k : Go.Value → Go.World → Prop) (h : F_world_can a0 w k) : callOn prog fn_world_can #[a0] w k :=
  calls_list (args := [a0]) mixed Try.func83 (by kernel_rfl) (by kernel_rfl) (Eq.mpr (F_world_can_eq a0 w _) (Eq.mpr (congrArg (F_world_can a0 w) (on_eq k)) h))


/-- postern/world.wraps -/
def F_world_wraps (a0 : Go.Value) (w : Go.World) (R : Go.Value → Go.World → Prop) : Prop :=
 binI Go.BinOp.eql a0 (Go.Value.int Go.IntKind.u8 14) fun t4 =>
 gopK t4 false (fun k => k a0 w) w fun t6 w =>
 gopK t4 false (fun k => binI Go.BinOp.eql t6 (Go.Value.int Go.IntKind.u8 15) fun v => k v w) w fun t7 w =>
 pickK t4 (Go.Value.bool true) t7 fun t8 =>
 gopK t8 false (fun k => k a0 w) w fun t10 w =>
 gopK t8 false (fun k => binI Go.BinOp.eql t10 (Go.Value.int Go.IntKind.u8 16) fun v => k v w) w fun t11 w =>
 pickK t8 (Go.Value.bool true) t11 fun t12 =>
 R t12 w
theorem F_world_wraps_eq (a0 : Go.Value) (w : Go.World) (R : Go.Value → Go.World → Prop) : cK prog (bodyOf Try.f89) (resK prog Try.f89.results.toList R) (start [a0]) w = F_world_wraps a0 w R := by kernel_rfl
theorem F_world_wraps_on (a0 : Go.Value) (w : Go.World) (k : Go.Value → Go.World → Prop) (h : F_world_wraps a0 w k) : callOn prog fn_world_wraps #[a0] w k :=
  calls_list (args := [a0]) mixed Try.func89 (by kernel_rfl) (by kernel_rfl) (Eq.mpr (F_world_wraps_eq a0 w _) (Eq.mpr (congrArg (F_world_wraps a0 w) (on_eq k)) h))


/-- (*postern/world.World).Able -/
def F_World_Able (a0 : Go.Value) (a1 : Go.Value) (w : Go.World) (R : Go.Value → Go.World → Prop) : Prop :=
 loopK (fun k1 e1 w =>
 callOn prog fn_World_Is #[(e1 0), (e1 1)] w fun t9 w =>
 unK Go.UnOp.not t9 fun t10 =>
 condK t10
 (R (Go.Value.int Go.IntKind.u8 0) w)
 (nilK (e1 0) fun t12 =>
 fieldA 2 t12 fun t13 =>
 load1 t13 w fun t14 =>
 lookM false (Go.Value.pointer .none) t14 (e1 1) false w fun t16 =>
 let J2 : Env → Go.World → Prop := fun e2 w =>
 (nilK (e2 6) fun t42 =>
 fieldA 10 t42 fun t43 =>
 load1 t43 w fun t44 =>
 k1 (upd (upd (upd (upd (upd e2 41 (e2 6)) 42 t42) 43 t43) 44 t44) 1 t44) w)
 nilK t16 fun t18 =>
 fieldA 0 t18 fun t19 =>
 load1 t19 w fun t20 =>
 let J3 : Env → Go.World → Prop := fun e3 w =>
 (J2 e3 w)
 binI Go.BinOp.eql t20 (Go.Value.int Go.IntKind.u8 14) fun t30 =>
 condK t30
 (nilK t16 fun t33 =>
 fieldA 12 t33 fun t34 =>
 load1 t34 w fun t35 =>
 buildL 48 1 (Go.Value.int Go.IntKind.u8 0) 2 [(0, (e1 5)), (1, t35)] w fun t36 w =>
 callOn prog fn_able_Meet #[t36] w fun t37 w =>
 J3 (upd (upd (upd (upd (upd (upd (upd (upd (upd (upd (upd (upd (upd (upd (upd (upd (upd (upd (upd (upd (upd (upd (upd (upd (upd e1 7 (e1 0)) 8 (e1 1)) 9 t9) 10 t10) 11 (e1 0)) 12 t12) 13 t13) 14 t14) 15 (e1 1)) 16 t16) 6 t16) 17 t16) 18 t18) 19 t19) 20 t20) 30 t30) 29 t30) 31 (e1 5)) 32 t16) 33 t33) 34 t34) 35 t35) 36 t36) 37 t37) 5 t37) w)
 (let J4 : Env → Go.World → Prop := fun e4 w =>
 (condK (e4 38)
 (J3 e4 w)
 (nilK (e4 6) fun t23 =>
 fieldA 0 t23 fun t24 =>
 load1 t24 w fun t25 =>
 callOn prog fn_world_can #[t25] w fun t26 w =>
 buildL 48 1 (Go.Value.int Go.IntKind.u8 0) 2 [(0, (e4 5)), (1, t26)] w fun t27 w =>
 callOn prog fn_able_Meet #[t27] w fun t28 w =>
 R t28 w))
 binI Go.BinOp.eql t20 (Go.Value.int Go.IntKind.u8 15) fun t39 =>
 condK t39
 (J4 (upd (upd (upd (upd (upd (upd (upd (upd (upd (upd (upd (upd (upd (upd (upd (upd (upd (upd (upd e1 7 (e1 0)) 8 (e1 1)) 9 t9) 10 t10) 11 (e1 0)) 12 t12) 13 t13) 14 t14) 15 (e1 1)) 16 t16) 6 t16) 17 t16) 18 t18) 19 t19) 20 t20) 30 t30) 29 t30) 39 t39) 38 t39) w)
 (binI Go.BinOp.eql t20 (Go.Value.int Go.IntKind.u8 16) fun t40 =>
 J4 (upd (upd (upd (upd (upd (upd (upd (upd (upd (upd (upd (upd (upd (upd (upd (upd (upd (upd (upd (upd (upd e1 7 (e1 0)) 8 (e1 1)) 9 t9) 10 t10) 11 (e1 0)) 12 t12) 13 t13) 14 t14) 15 (e1 1)) 16 t16) 6 t16) 17 t16) 18 t18) 19 t19) 20 t20) 30 t30) 29 t30) 39 t39) 38 t39) 40 t40) 38 t40) w)))) (upd (upd (start [a0, a1]) 4 (Go.Value.int Go.IntKind.u8 0)) 5 (Go.Value.int Go.IntKind.u8 63)) w
theorem F_World_Able_eq (a0 : Go.Value) (a1 : Go.Value) (w : Go.World) (R : Go.Value → Go.World → Prop) : cK prog (bodyOf Try.f42) (resK prog Try.f42.results.toList R) (start [a0, a1]) w = F_World_Able a0 a1 w R := by kernel_rfl
theorem F_World_Able_on (a0 : Go.Value) (a1 : Go.Value) (w : Go.World) (k : Go.Value → Go.World → Prop) (h : F_World_Able a0 a1 w k) : callOn prog fn_World_Able #[a0, a1] w k :=
  calls_list (args := [a0, a1]) mixed Try.func42 (by kernel_rfl) (by kernel_rfl) (Eq.mpr (F_World_Able_eq a0 a1 w _) (Eq.mpr (congrArg (F_World_Able a0 a1 w) (on_eq k)) h))


/-- postern/able.Meet -/
def F_able_Meet (a0 : Go.Value) (w : Go.World) (R : Go.Value → Go.World → Prop) : Prop :=
 lenL a0 fun t7 =>
 loopK (fun k1 e1 w =>
 binI Go.BinOp.lss (e1 8) (e1 7) fun t9 =>
 condK t9
 (indexS 1 (e1 6) (e1 8) fun t10 =>
 load1 t10 w fun t11 =>
 binI Go.BinOp.and (e1 3) t11 fun t14 =>
 binI Go.BinOp.add (e1 8) (Go.Value.int Go.IntKind.i64 1) fun t15 =>
 k1 (upd (upd (upd (upd (upd (upd (upd (upd (upd (upd e1 9 t9) 10 t10) 11 t11) 5 t11) 12 (e1 3)) 13 t11) 14 t14) 3 t14) 15 t15) 8 t15) w)
 (R (e1 3) w)) (upd (upd (upd (upd (upd (start [a0]) 2 (Go.Value.int Go.IntKind.u8 0)) 3 (Go.Value.int Go.IntKind.u8 63)) 6 a0) 7 t7) 8 (Go.Value.int Go.IntKind.i64 0)) w
theorem F_able_Meet_eq (a0 : Go.Value) (w : Go.World) (R : Go.Value → Go.World → Prop) : cK prog (bodyOf Try.f82) (resK prog Try.f82.results.toList R) (start [a0]) w = F_able_Meet a0 w R := by kernel_rfl
theorem F_able_Meet_on (a0 : Go.Value) (w : Go.World) (k : Go.Value → Go.World → Prop) (h : F_able_Meet a0 w k) : callOn prog fn_able_Meet #[a0] w k :=
  calls_list (args := [a0]) mixed Try.func82 (by kernel_rfl) (by kernel_rfl) (Eq.mpr (F_able_Meet_eq a0 w _) (Eq.mpr (congrArg (F_able_Meet a0 w) (on_eq k)) h))


/-- postern/able.Join -/
def F_able_Join (a0 : Go.Value) (w : Go.World) (R : Go.Value → Go.World → Prop) : Prop :=
 lenL a0 fun t7 =>
 loopK (fun k1 e1 w =>
 binI Go.BinOp.lss (e1 8) (e1 7) fun t9 =>
 condK t9
 (indexS 1 (e1 6) (e1 8) fun t10 =>
 load1 t10 w fun t11 =>
 binI Go.BinOp.and t11 (Go.Value.int Go.IntKind.u8 63) fun t14 =>
 binI Go.BinOp.or (e1 3) t14 fun t15 =>
 binI Go.BinOp.add (e1 8) (Go.Value.int Go.IntKind.i64 1) fun t16 =>
 k1 (upd (upd (upd (upd (upd (upd (upd (upd (upd (upd (upd e1 9 t9) 10 t10) 11 t11) 5 t11) 12 (e1 3)) 13 t11) 14 t14) 15 t15) 3 t15) 16 t16) 8 t16) w)
 (R (e1 3) w)) (upd (upd (upd (upd (upd (start [a0]) 2 (Go.Value.int Go.IntKind.u8 0)) 3 (Go.Value.int Go.IntKind.u8 0)) 6 a0) 7 t7) 8 (Go.Value.int Go.IntKind.i64 0)) w
theorem F_able_Join_eq (a0 : Go.Value) (w : Go.World) (R : Go.Value → Go.World → Prop) : cK prog (bodyOf Try.f110) (resK prog Try.f110.results.toList R) (start [a0]) w = F_able_Join a0 w R := by kernel_rfl
theorem F_able_Join_on (a0 : Go.Value) (w : Go.World) (k : Go.Value → Go.World → Prop) (h : F_able_Join a0 w k) : callOn prog fn_able_Join #[a0] w k :=
  calls_list (args := [a0]) mixed Try.func110 (by kernel_rfl) (by kernel_rfl) (Eq.mpr (F_able_Join_eq a0 w _) (Eq.mpr (congrArg (F_able_Join a0 w) (on_eq k)) h))


/-- (*postern/world.World).Way -/
def F_World_Way (a0 : Go.Value) (a1 : Go.Value) (w : Go.World) (R : Go.Value → Go.World → Prop) : Prop :=
 let J1 : Env → Go.World → Prop := fun e1 w =>
 (R (e1 5) w)
 let J2 : Env → Go.World → Prop := fun e2 w =>
 (J1 e2 w)
 let J4 : Env → Go.World → Prop := fun e4 w =>
 (J2 e4 w)
 loopK (fun k3 e3 w =>
 callOn prog fn_World_Is #[(e3 0), (e3 1)] w fun t9 w =>
 condK t9
 (buildL 40 1 (Go.Value.int Go.IntKind.i64 0) 1 [(0, (e3 1))] w fun t12 w =>
 appendS 40 1 8 (Go.Value.int Go.IntKind.i64 0) (e3 5) t12 w fun t13 w =>
 nilK (e3 0) fun t15 =>
 fieldA 2 t15 fun t16 =>
 load1 t16 w fun t17 =>
 lookM false (Go.Value.pointer .none) t17 (e3 1) false w fun t19 =>
 nilK t19 fun t21 =>
 fieldA 0 t21 fun t22 =>
 load1 t22 w fun t23 =>
 callOn prog fn_world_wraps #[t23] w fun t24 w =>
 unK Go.UnOp.not t24 fun t25 =>
 condK t25
 (J4 (upd (upd (upd (upd (upd (upd (upd (upd (upd (upd (upd (upd (upd (upd (upd (upd (upd (upd (upd (upd (upd e3 7 (e3 0)) 8 (e3 1)) 9 t9) 10 (e3 5)) 11 (e3 1)) 12 t12) 13 t13) 5 t13) 14 (e3 0)) 15 t15) 16 t16) 17 t17) 18 (e3 1)) 19 t19) 6 t19) 20 t19) 21 t21) 22 t22) 23 t23) 24 t24) 25 t25) w)
 (nilK t19 fun t27 =>
 fieldA 10 t27 fun t28 =>
 load1 t28 w fun t29 =>
 k3 (upd (upd (upd (upd (upd (upd (upd (upd (upd (upd (upd (upd (upd (upd (upd (upd (upd (upd (upd (upd (upd (upd (upd (upd (upd (upd e3 7 (e3 0)) 8 (e3 1)) 9 t9) 10 (e3 5)) 11 (e3 1)) 12 t12) 13 t13) 5 t13) 14 (e3 0)) 15 t15) 16 t16) 17 t17) 18 (e3 1)) 19 t19) 6 t19) 20 t19) 21 t21) 22 t22) 23 t23) 24 t24) 25 t25) 26 t19) 27 t27) 28 t28) 29 t29) 1 t29) w))
 (J4 (upd (upd (upd e3 7 (e3 0)) 8 (e3 1)) 9 t9) w)) (upd (upd (start [a0, a1]) 4 (Go.Value.slice .none 0 0)) 5 (Go.Value.slice .none 0 0)) w
theorem F_World_Way_eq (a0 : Go.Value) (a1 : Go.Value) (w : Go.World) (R : Go.Value → Go.World → Prop) : cK prog (bodyOf Try.f48) (resK prog Try.f48.results.toList R) (start [a0, a1]) w = F_World_Way a0 a1 w R := by kernel_rfl
theorem F_World_Way_on (a0 : Go.Value) (a1 : Go.Value) (w : Go.World) (k : Go.Value → Go.World → Prop) (h : F_World_Way a0 a1 w k) : callOn prog fn_World_Way #[a0, a1] w k :=
  calls_list (args := [a0, a1]) mixed Try.func48 (by kernel_rfl) (by kernel_rfl) (Eq.mpr (F_World_Way_eq a0 a1 w _) (Eq.mpr (congrArg (F_World_Way a0 a1 w) (on_eq k)) h))


/-- (*postern/world.World).Base -/
def F_World_Base (a0 : Go.Value) (a1 : Go.Value) (w : Go.World) (R : Go.Value → Go.World → Prop) : Prop :=
 callOn prog fn_World_Way #[a0, a1] w fun t8 w =>
 lenL t8 fun t10 =>
 binI Go.BinOp.eql t10 (Go.Value.int Go.IntKind.i64 0) fun t11 =>
 condK t11
 (R (Go.Value.int Go.IntKind.i64 0) w)
 (lenL t8 fun t14 =>
 binI Go.BinOp.sub t14 (Go.Value.int Go.IntKind.i64 1) fun t15 =>
 indexS 1 t8 t15 fun t16 =>
 load1 t16 w fun t17 =>
 R t17 w)
theorem F_World_Base_eq (a0 : Go.Value) (a1 : Go.Value) (w : Go.World) (R : Go.Value → Go.World → Prop) : cK prog (bodyOf Try.f41) (resK prog Try.f41.results.toList R) (start [a0, a1]) w = F_World_Base a0 a1 w R := by kernel_rfl
theorem F_World_Base_on (a0 : Go.Value) (a1 : Go.Value) (w : Go.World) (k : Go.Value → Go.World → Prop) (h : F_World_Base a0 a1 w k) : callOn prog fn_World_Base #[a0, a1] w k :=
  calls_list (args := [a0, a1]) mixed Try.func41 (by kernel_rfl) (by kernel_rfl) (Eq.mpr (F_World_Base_eq a0 a1 w _) (Eq.mpr (congrArg (F_World_Base a0 a1 w) (on_eq k)) h))


noncomputable def World_Free_R12 : Array Oper := regionOf (bodyOf Try.f59) 12
def Q_World_Free_R12 (C : Go.World → Prop) (e : Env) (Q : Env → Prop) : Prop :=
 qopK true C (fun w q => q (e 0) w) fun t42 =>
 qopK true C (fun w q => q (e 1) w) fun t43 =>
 qopK true C (fun w q => q (e 9) w) fun t44 =>
 qopK true C (fun w q => nilK t44 fun v => q v w) fun t45 =>
 qopK true C (fun w q => fieldA 1 t45 fun v => q v w) fun t46 =>
 qopK true C (fun w q => load1 t46 w fun v => q v w) fun t47 =>
 qopK true C (fun w q => callOn prog fn_World_Open #[t42, t43, t47] w q) fun t48 =>
 qopK true C (fun w q => unK Go.UnOp.not t48 fun v => q v w) fun t49 =>
 qopK true C (fun w q => q t49 w) fun t50 =>
 gqK t50 false (fun k => qopK true C (fun w q => q (e 9) w) k) fun t51 =>
 gqK t50 false (fun k => qopK true C (fun w q => nilK t51 fun v => q v w) k) fun t52 =>
 gqK t50 false (fun k => qopK true C (fun w q => fieldA 0 t52 fun v => q v w) k) fun t53 =>
 gqK t50 false (fun k => qopK true C (fun w q => load1 t53 w fun v => q v w) k) fun t54 =>
 gqK t50 false (fun k => qopK true C (fun w q => binI Go.BinOp.eql t54 (Go.Value.int Go.IntKind.u8 15) fun v => q v w) k) fun t55 =>
 gqK t50 false (fun k => qopK true C (fun w q => q t55 w) k) fun t56 =>
 gqK t56 true (fun k => qopK true C (fun w q => q (e 0) w) k) fun t57 =>
 gqK t56 true (fun k => qopK true C (fun w q => nilK t57 fun v => q v w) k) fun t58 =>
 gqK t56 true (fun k => qopK true C (fun w q => fieldA 2 t58 fun v => q v w) k) fun t59 =>
 gqK t56 true (fun k => qopK true C (fun w q => load1 t59 w fun v => q v w) k) fun t60 =>
 gqK t56 true (fun k => qopK true C (fun w q => q (e 9) w) k) fun t61 =>
 gqK t56 true (fun k => qopK true C (fun w q => nilK t61 fun v => q v w) k) fun t62 =>
 gqK t56 true (fun k => qopK true C (fun w q => fieldA 11 t62 fun v => q v w) k) fun t63 =>
 gqK t56 true (fun k => qopK true C (fun w q => load1 t63 w fun v => q v w) k) fun t64 =>
 gqK t56 true (fun k => qopK true C (fun w q => lookM false (Go.Value.pointer .none) t60 t64 false w fun v => q v w) k) fun t65 =>
 gqK t56 true (fun k => qopK true C (fun w q => nilK t65 fun v => q v w) k) fun t66 =>
 gqK t56 true (fun k => qopK true C (fun w q => fieldA 13 t66 fun v => q v w) k) fun t67 =>
 gqK t56 true (fun k => qopK true C (fun w q => load1 t67 w fun v => q v w) k) fun t68 =>
 gqK t50 false (fun k => qopK true C (fun w q => pickK t56 t68 (Go.Value.bool false) fun v => q v w) k) fun t69 =>
 qopK true C (fun w q => pickK t50 (Go.Value.bool true) t69 fun v => q v w) fun t70 =>
 Q (upd (upd (upd (upd (upd (upd (upd (upd (upd (upd (upd (upd (upd (upd (upd (upd (upd (upd (upd (upd (upd (upd (upd (upd (upd (upd (upd (upd (upd e 42 t42) 43 t43) 44 t44) 45 t45) 46 t46) 47 t47) 48 t48) 49 t49) 50 t50) 51 t51) 52 t52) 53 t53) 54 t54) 55 t55) 56 t56) 57 t57) 58 t58) 59 t59) 60 t60) 61 t61) 62 t62) 63 t63) 64 t64) 65 t65) 66 t66) 67 t67) 68 t68) 69 t69) 70 t70)
theorem Q_World_Free_R12_eq (C : Go.World → Prop) (e : Env) (Q : Env → Prop) : quietK prog World_Free_R12.toList C World_Free_R12.toList e Q = Q_World_Free_R12 C e Q := by kernel_rfl
theorem Q_World_Free_R12_on {C : Go.World → Prop} {Q : Env → Prop} {e : Env} {w : Go.World} {k : Env → Go.World → Prop} (hC : C w) (h : Q_World_Free_R12 C e Q) (hk : ∀ e w, C w → Q e → k e w) : drawK prog World_Free_R12 e w k :=
  .inl ⟨C, Q, hC, by kernel_rfl, Eq.mpr (Q_World_Free_R12_eq C e Q) h, hk⟩
/-- (*postern/world.World).Free -/
def F_World_Free (a0 : Go.Value) (a1 : Go.Value) (a2 : Go.Value) (w : Go.World) (R : Go.Value → Go.World → Prop) : Prop :=
 callOn prog fn_World_none #[a0] w fun t12 w =>
 condK t12
 (R (Go.Value.int Go.IntKind.i64 1) w)
 (callOn prog fn_World_side #[a0, a1] w fun t16 w =>
 unK Go.UnOp.not t16 fun t17 =>
 condK t17
 (R (Go.Value.int Go.IntKind.i64 2) w)
 (callOn prog fn_World_Is #[a0, a2] w fun t21 w =>
 unK Go.UnOp.not t21 fun t22 =>
 condK t22
 (R (Go.Value.int Go.IntKind.i64 5) w)
 (callOn prog fn_World_Way #[a0, a2] w fun t25 w =>
 lenL t25 fun t26 =>
 loopK (fun k1 e1 w =>
 binI Go.BinOp.lss (e1 27) (e1 26) fun t28 =>
 condK t28
 (let J2 : Env → Go.World → Prop := fun e2 w =>
 (binI Go.BinOp.add (e2 27) (Go.Value.int Go.IntKind.i64 1) fun t75 =>
 k1 (upd (upd e2 75 t75) 27 t75) w)
 let J3 : Env → Go.World → Prop := fun e3 w =>
 (J2 e3 w)
 indexS 1 (e1 25) (e1 27) fun t29 =>
 load1 t29 w fun t30 =>
 nilK (e1 0) fun t32 =>
 fieldA 2 t32 fun t33 =>
 load1 t33 w fun t34 =>
 lookM false (Go.Value.pointer .none) t34 t30 false w fun t36 =>
 nilK t36 fun t38 =>
 fieldA 0 t38 fun t39 =>
 load1 t39 w fun t40 =>
 binI Go.BinOp.eql t40 (Go.Value.int Go.IntKind.u8 14) fun t41 =>
 condK t41
 (J3 (upd (upd (upd (upd (upd (upd (upd (upd (upd (upd (upd (upd (upd (upd (upd (upd e1 28 t28) 29 t29) 30 t30) 8 t30) 31 (e1 0)) 32 t32) 33 t33) 34 t34) 35 t30) 36 t36) 9 t36) 37 t36) 38 t38) 39 t39) 40 t40) 41 t41) w)
 (drawK prog World_Free_R12 (upd (upd (upd (upd (upd (upd (upd (upd (upd (upd (upd (upd (upd (upd (upd (upd e1 28 t28) 29 t29) 30 t30) 8 t30) 31 (e1 0)) 32 t32) 33 t33) 34 t34) 35 t30) 36 t36) 9 t36) 37 t36) 38 t38) 39 t39) 40 t40) 41 t41) w.drew fun e4 w =>
 condK (e4 70)
 (R (Go.Value.int Go.IntKind.i64 7) w)
 (nilK (e4 9) fun t72 =>
 fieldA 1 t72 fun t73 =>
 load1 t73 w fun t74 =>
 J3 (upd (upd (upd (upd (upd e4 71 (e4 9)) 72 t72) 73 t73) 74 t74) 1 t74) w)))
 (R (Go.Value.int Go.IntKind.i64 0) w)) (upd (upd (upd (upd (upd (upd (upd (upd (upd (upd (upd (upd (upd (upd (upd (upd (upd (upd (upd (start [a0, a1, a2]) 6 (Go.Value.int Go.IntKind.i64 0)) 11 a0) 12 t12) 10 t12) 14 a0) 15 a1) 16 t16) 17 t17) 13 t17) 19 a0) 20 a2) 21 t21) 22 t22) 18 t22) 23 a0) 24 a2) 25 t25) 26 t26) 27 (Go.Value.int Go.IntKind.i64 0)) w)))
theorem F_World_Free_eq (a0 : Go.Value) (a1 : Go.Value) (a2 : Go.Value) (w : Go.World) (R : Go.Value → Go.World → Prop) : cK prog (bodyOf Try.f59) (resK prog Try.f59.results.toList R) (start [a0, a1, a2]) w = F_World_Free a0 a1 a2 w R := by kernel_rfl
theorem F_World_Free_on (a0 : Go.Value) (a1 : Go.Value) (a2 : Go.Value) (w : Go.World) (k : Go.Value → Go.World → Prop) (h : F_World_Free a0 a1 a2 w k) : callOn prog fn_World_Free #[a0, a1, a2] w k :=
  calls_list (args := [a0, a1, a2]) mixed Try.func59 (by kernel_rfl) (by kernel_rfl) (Eq.mpr (F_World_Free_eq a0 a1 a2 w _) (Eq.mpr (congrArg (F_World_Free a0 a1 a2 w) (on_eq k)) h))


/-- (*postern/world.World).Len -/
def F_World_Len (a0 : Go.Value) (w : Go.World) (R : Go.Value → Go.World → Prop) : Prop :=
 callOn prog fn_World_none #[a0] w fun t4 w =>
 condK t4
 (R (Go.Value.int Go.IntKind.i64 0) w)
 (nilK a0 fun t6 =>
 fieldA 2 t6 fun t7 =>
 load1 t7 w fun t8 =>
 lenM t8 w fun t9 =>
 R t9 w)
theorem F_World_Len_eq (a0 : Go.Value) (w : Go.World) (R : Go.Value → Go.World → Prop) : cK prog (bodyOf Try.f30) (resK prog Try.f30.results.toList R) (start [a0]) w = F_World_Len a0 w R := by kernel_rfl
theorem F_World_Len_on (a0 : Go.Value) (w : Go.World) (k : Go.Value → Go.World → Prop) (h : F_World_Len a0 w k) : callOn prog fn_World_Len #[a0] w k :=
  calls_list (args := [a0]) mixed Try.func30 (by kernel_rfl) (by kernel_rfl) (Eq.mpr (F_World_Len_eq a0 w _) (Eq.mpr (congrArg (F_World_Len a0 w) (on_eq k)) h))


/-- (*postern/world.World).Made -/
def F_World_Made (a0 : Go.Value) (a1 : Go.Value) (w : Go.World) (R : Go.Value → Go.World → Prop) : Prop :=
 callOn prog fn_World_side #[a0, a1] w fun t7 w =>
 unK Go.UnOp.not t7 fun t8 =>
 condK t8
 (R (Go.Value.int Go.IntKind.i64 0) w)
 (nilK a0 fun t10 =>
 fieldA 5 t10 fun t11 =>
 load1 t11 w fun t12 =>
 indexS 1 t12 a1 fun t14 =>
 load1 t14 w fun t15 =>
 R t15 w)
theorem F_World_Made_eq (a0 : Go.Value) (a1 : Go.Value) (w : Go.World) (R : Go.Value → Go.World → Prop) : cK prog (bodyOf Try.f29) (resK prog Try.f29.results.toList R) (start [a0, a1]) w = F_World_Made a0 a1 w R := by kernel_rfl
theorem F_World_Made_on (a0 : Go.Value) (a1 : Go.Value) (w : Go.World) (k : Go.Value → Go.World → Prop) (h : F_World_Made a0 a1 w k) : callOn prog fn_World_Made #[a0, a1] w k :=
  calls_list (args := [a0, a1]) mixed Try.func29 (by kernel_rfl) (by kernel_rfl) (Eq.mpr (F_World_Made_eq a0 a1 w _) (Eq.mpr (congrArg (F_World_Made a0 a1 w) (on_eq k)) h))


/-- (*postern/world.World).Find -/
def F_World_Find (a0 : Go.Value) (a1 : Go.Value) (a2 : Go.Value) (w : Go.World) (R : Go.Value → Go.World → Prop) : Prop :=
 callOn prog fn_World_none #[a0] w fun t11 w =>
 condK t11
 (R (Go.Value.tuple #[(Go.Value.int Go.IntKind.i64 0), (Go.Value.bool false)]) w)
 (nilK a0 fun t14 =>
 fieldA 3 t14 fun t15 =>
 load1 t15 w fun t16 =>
 buildS (Go.Value.agg #[(Go.Value.int Go.IntKind.i64 0), (Go.Value.int Go.IntKind.u8 0)]) [(0, 1), (1, 1)] [(0, a1), (1, a2)] fun t19 =>
 lookM true (Go.Value.int Go.IntKind.i64 0) t16 t19 true w fun t20 =>
 extractK t20 0 fun t21 =>
 extractK t20 1 fun t22 =>
 R (Go.Value.tuple #[t21, t22]) w)
theorem F_World_Find_eq (a0 : Go.Value) (a1 : Go.Value) (a2 : Go.Value) (w : Go.World) (R : Go.Value → Go.World → Prop) : cK prog (bodyOf Try.f46) (resK prog Try.f46.results.toList R) (start [a0, a1, a2]) w = F_World_Find a0 a1 a2 w R := by kernel_rfl
theorem F_World_Find_on (a0 : Go.Value) (a1 : Go.Value) (a2 : Go.Value) (w : Go.World) (k : Go.Value → Go.World → Prop) (h : F_World_Find a0 a1 a2 w k) : callOn prog fn_World_Find #[a0, a1, a2] w k :=
  calls_list (args := [a0, a1, a2]) mixed Try.func46 (by kernel_rfl) (by kernel_rfl) (Eq.mpr (F_World_Find_eq a0 a1 a2 w _) (Eq.mpr (congrArg (F_World_Find a0 a1 a2 w) (on_eq k)) h))


/-- (*postern/world.World).Facet -/
def F_World_Facet (a0 : Go.Value) (a1 : Go.Value) (a2 : Go.Value) (w : Go.World) (R : Go.Value → Go.World → Prop) : Prop :=
 callOn prog fn_World_none #[a0] w fun t12 w =>
 condK t12
 (R (Go.Value.tuple #[(Go.Value.int Go.IntKind.i64 0), (Go.Value.int Go.IntKind.i64 1)]) w)
 (callOn prog fn_World_Is #[a0, a1] w fun t15 w =>
 unK Go.UnOp.not t15 fun t16 =>
 condK t16
 (R (Go.Value.tuple #[(Go.Value.int Go.IntKind.i64 0), (Go.Value.int Go.IntKind.i64 5)]) w)
 (callOn prog fn_World_Able #[a0, a1] w fun t19 w =>
 callOn prog fn_World_Kind #[a0, a1] w fun t22 w =>
 binI Go.BinOp.eql t22 (Go.Value.int Go.IntKind.u8 14) fun t23 =>
 gopK t23 false (fun k => k a2 w) w fun t25 w =>
 gopK t23 false (fun k => k t19 w) w fun t26 w =>
 gopK t23 false (fun k => binI Go.BinOp.eql t25 t26 fun v => k v w) w fun t27 w =>
 pickK t23 (Go.Value.bool true) t27 fun t28 =>
 gopK t28 false (fun k => k a2 w) w fun t30 w =>
 gopK t28 false (fun k => k t19 w) w fun t31 w =>
 gopK t28 false (fun k => binI Go.BinOp.andNot t30 t31 fun v => k v w) w fun t32 w =>
 gopK t28 false (fun k => binI Go.BinOp.neq t32 (Go.Value.int Go.IntKind.u8 0) fun v => k v w) w fun t33 w =>
 pickK t28 (Go.Value.bool true) t33 fun t34 =>
 condK t34
 (R (Go.Value.tuple #[(Go.Value.int Go.IntKind.i64 0), (Go.Value.int Go.IntKind.i64 70)]) w)
 (callOn prog fn_World_Find #[a0, a1, a2] w fun t39 w =>
 extractK t39 0 fun t40 =>
 extractK t39 1 fun t41 =>
 condK t41
 (R (Go.Value.tuple #[t40, (Go.Value.int Go.IntKind.i64 0)]) w)
 (buildS (Go.Value.agg #[(Go.Value.int Go.IntKind.u8 0), (Go.Value.int Go.IntKind.i64 0), (Go.Value.int Go.IntKind.u8 0), (Go.Value.int Go.IntKind.i64 0), (Go.Value.string { data := #[] }), (Go.Value.slice .none 0 0), (Go.Value.int Go.IntKind.i64 0), (Go.Value.slice .none 0 0), (Go.Value.int Go.IntKind.i64 0), (Go.Value.int Go.IntKind.i64 0), (Go.Value.int Go.IntKind.i64 0), (Go.Value.int Go.IntKind.i64 0), (Go.Value.int Go.IntKind.u8 0), (Go.Value.bool false), (Go.Value.slice .none 0 0), (Go.Value.slice .none 0 0)]) [(0, 1), (1, 1), (2, 5), (7, 1), (8, 1), (9, 1), (10, 1), (11, 1), (12, 1), (13, 1), (14, 1), (15, 1)] [(0, (Go.Value.int Go.IntKind.u8 14)), (6, a1), (8, a2)] fun t47 =>
 callOn prog fn_World_lay #[a0, t47] w fun t48 w =>
 R (Go.Value.tuple #[t48, (Go.Value.int Go.IntKind.i64 0)]) w))))
theorem F_World_Facet_eq (a0 : Go.Value) (a1 : Go.Value) (a2 : Go.Value) (w : Go.World) (R : Go.Value → Go.World → Prop) : cK prog (bodyOf Try.f28) (resK prog Try.f28.results.toList R) (start [a0, a1, a2]) w = F_World_Facet a0 a1 a2 w R := by kernel_rfl
theorem F_World_Facet_on (a0 : Go.Value) (a1 : Go.Value) (a2 : Go.Value) (w : Go.World) (k : Go.Value → Go.World → Prop) (h : F_World_Facet a0 a1 a2 w k) : callOn prog fn_World_Facet #[a0, a1, a2] w k :=
  calls_list (args := [a0, a1, a2]) mixed Try.func28 (by kernel_rfl) (by kernel_rfl) (Eq.mpr (F_World_Facet_eq a0 a1 a2 w _) (Eq.mpr (congrArg (F_World_Facet a0 a1 a2 w) (on_eq k)) h))


/-- (*postern/world.World).lay -/
def F_World_lay (a0 : Go.Value) (a1 : Go.Value) (w : Go.World) (R : Go.Value → Go.World → Prop) : Prop :=
 boxK 52 a1 w fun t3 w =>
 nilK a0 fun t6 =>
 fieldA 4 t6 fun t7 =>
 load1 t7 w fun t8 =>
 binI Go.BinOp.add t8 (Go.Value.int Go.IntKind.i64 1) fun t9 =>
 nilK a0 fun t10 =>
 fieldA 4 t10 fun t11 =>
 storeN 1 t11 t9 w fun w =>
 atDrew w fun (w : Go.World) =>
 nilK a0 fun t13 =>
 fieldA 2 t13 fun t14 =>
 load1 t14 w fun t15 =>
 nilK a0 fun t17 =>
 fieldA 4 t17 fun t18 =>
 load1 t18 w fun t19 =>
 updM false t15 t19 t3 w fun w =>
 nilK a0 fun t22 =>
 fieldA 4 t22 fun t23 =>
 load1 t23 w fun t24 =>
 callOn prog fn_World_index #[a0, t24] w fun t25 w =>
 let J1 : Env → Go.World → Prop := fun e1 w =>
 (nilK (e1 0) fun t40 =>
 fieldA 4 t40 fun t41 =>
 load1 t41 w fun t42 =>
 R t42 w)
 fieldA 0 t3 fun t26 =>
 load1 t26 w fun t27 =>
 binI Go.BinOp.neq t27 (Go.Value.int Go.IntKind.u8 14) fun t28 =>
 condK t28
 (atDrew w fun (w : Go.World) =>
 nilK a0 fun t30 =>
 fieldA 5 t30 fun t31 =>
 load1 t31 w fun t32 =>
 fieldA 1 t3 fun t33 =>
 load1 t33 w fun t34 =>
 indexS 1 t32 t34 fun t35 =>
 load1 t35 w fun t36 =>
 binI Go.BinOp.add t36 (Go.Value.int Go.IntKind.i64 1) fun t37 =>
 indexS 1 t32 t34 fun t38 =>
 storeN 1 t38 t37 w fun w =>
 J1 (upd (upd (upd (upd (upd (upd (upd (upd (upd (upd (upd (upd (upd (upd (upd (upd (upd (upd (upd (upd (upd (upd (upd (upd (upd (upd (upd (upd (upd (upd (upd (upd (upd (upd (upd (upd (start [a0, a1]) 3 t3) 4 (Go.Value.int Go.IntKind.i64 0)) 5 a0) 6 t6) 7 t7) 8 t8) 9 t9) 10 t10) 11 t11) 12 a0) 13 t13) 14 t14) 15 t15) 16 a0) 17 t17) 18 t18) 19 t19) 20 a0) 21 a0) 22 t22) 23 t23) 24 t24) 25 t25) 26 t26) 27 t27) 28 t28) 29 a0) 30 t30) 31 t31) 32 t32) 33 t33) 34 t34) 35 t35) 36 t36) 37 t37) 38 t38) w)
 (J1 (upd (upd (upd (upd (upd (upd (upd (upd (upd (upd (upd (upd (upd (upd (upd (upd (upd (upd (upd (upd (upd (upd (upd (upd (upd (upd (start [a0, a1]) 3 t3) 4 (Go.Value.int Go.IntKind.i64 0)) 5 a0) 6 t6) 7 t7) 8 t8) 9 t9) 10 t10) 11 t11) 12 a0) 13 t13) 14 t14) 15 t15) 16 a0) 17 t17) 18 t18) 19 t19) 20 a0) 21 a0) 22 t22) 23 t23) 24 t24) 25 t25) 26 t26) 27 t27) 28 t28) w)
theorem F_World_lay_eq (a0 : Go.Value) (a1 : Go.Value) (w : Go.World) (R : Go.Value → Go.World → Prop) : cK prog (bodyOf Try.f69) (resK prog Try.f69.results.toList R) (start [a0, a1]) w = F_World_lay a0 a1 w R := by kernel_rfl
theorem F_World_lay_on (a0 : Go.Value) (a1 : Go.Value) (w : Go.World) (k : Go.Value → Go.World → Prop) (h : F_World_lay a0 a1 w k) : callOn prog fn_World_lay #[a0, a1] w k :=
  calls_list (args := [a0, a1]) mixed Try.func69 (by kernel_rfl) (by kernel_rfl) (Eq.mpr (F_World_lay_eq a0 a1 w _) (Eq.mpr (congrArg (F_World_lay a0 a1 w) (on_eq k)) h))


/-- (*postern/world.World).index -/
def F_World_index (a0 : Go.Value) (a1 : Go.Value) (w : Go.World) (R : Go.Value → Go.World → Prop) : Prop :=
 nilK a0 fun t6 =>
 fieldA 2 t6 fun t7 =>
 load1 t7 w fun t8 =>
 lookM false (Go.Value.pointer .none) t8 a1 false w fun t10 =>
 nilK t10 fun t12 =>
 fieldA 0 t12 fun t13 =>
 load1 t13 w fun t14 =>
 binI Go.BinOp.eql t14 (Go.Value.int Go.IntKind.u8 14) fun t15 =>
 condK t15
 (atDrew w fun (w : Go.World) =>
 nilK a0 fun t17 =>
 fieldA 3 t17 fun t18 =>
 load1 t18 w fun t19 =>
 nilK t10 fun t21 =>
 fieldA 10 t21 fun t22 =>
 load1 t22 w fun t23 =>
 nilK t10 fun t25 =>
 fieldA 12 t25 fun t26 =>
 load1 t26 w fun t27 =>
 buildS (Go.Value.agg #[(Go.Value.int Go.IntKind.i64 0), (Go.Value.int Go.IntKind.u8 0)]) [(0, 1), (1, 1)] [(0, t23), (1, t27)] fun t28 =>
 updM true t19 t28 a1 w fun w =>
 R (Go.Value.tuple #[]) w)
 (R (Go.Value.tuple #[]) w)
theorem F_World_index_eq (a0 : Go.Value) (a1 : Go.Value) (w : Go.World) (R : Go.Value → Go.World → Prop) : cK prog (bodyOf Try.f102) (resK prog Try.f102.results.toList R) (start [a0, a1]) w = F_World_index a0 a1 w R := by kernel_rfl
theorem F_World_index_on (a0 : Go.Value) (a1 : Go.Value) (w : Go.World) (k : Go.Value → Go.World → Prop) (h : F_World_index a0 a1 w k) : callOn prog fn_World_index #[a0, a1] w k :=
  calls_list (args := [a0, a1]) mixed Try.func102 (by kernel_rfl) (by kernel_rfl) (Eq.mpr (F_World_index_eq a0 a1 w _) (Eq.mpr (congrArg (F_World_index a0 a1 w) (on_eq k)) h))


/-- postern/world.asksOf -/
def F_world_asksOf (a0 : Go.Value) (w : Go.World) (R : Go.Value → Go.World → Prop) : Prop :=
 binI Go.BinOp.eql a0 (Go.Value.int Go.IntKind.u8 6) fun t4 =>
 gopK t4 false (fun k => k a0 w) w fun t6 w =>
 gopK t4 false (fun k => binI Go.BinOp.eql t6 (Go.Value.int Go.IntKind.u8 7) fun v => k v w) w fun t7 w =>
 pickK t4 (Go.Value.bool true) t7 fun t8 =>
 gopK t8 false (fun k => k a0 w) w fun t10 w =>
 gopK t8 false (fun k => binI Go.BinOp.eql t10 (Go.Value.int Go.IntKind.u8 9) fun v => k v w) w fun t11 w =>
 pickK t8 (Go.Value.bool true) t11 fun t12 =>
 gopK t12 false (fun k => k a0 w) w fun t14 w =>
 gopK t12 false (fun k => binI Go.BinOp.eql t14 (Go.Value.int Go.IntKind.u8 11) fun v => k v w) w fun t15 w =>
 pickK t12 (Go.Value.bool true) t15 fun t16 =>
 gopK t16 false (fun k => k a0 w) w fun t18 w =>
 gopK t16 false (fun k => callOn prog fn_world_wraps #[t18] w k) w fun t19 w =>
 pickK t16 (Go.Value.bool true) t19 fun t20 =>
 R t20 w
theorem F_world_asksOf_eq (a0 : Go.Value) (w : Go.World) (R : Go.Value → Go.World → Prop) : cK prog (bodyOf Try.f66) (resK prog Try.f66.results.toList R) (start [a0]) w = F_world_asksOf a0 w R := by kernel_rfl
theorem F_world_asksOf_on (a0 : Go.Value) (w : Go.World) (k : Go.Value → Go.World → Prop) (h : F_world_asksOf a0 w k) : callOn prog fn_world_asksOf #[a0] w k :=
  calls_list (args := [a0]) mixed Try.func66 (by kernel_rfl) (by kernel_rfl) (Eq.mpr (F_world_asksOf_eq a0 w _) (Eq.mpr (congrArg (F_world_asksOf a0 w) (on_eq k)) h))


/-- postern/world.asksBy -/
def F_world_asksBy (a0 : Go.Value) (w : Go.World) (R : Go.Value → Go.World → Prop) : Prop :=
 binI Go.BinOp.eql a0 (Go.Value.int Go.IntKind.u8 15) fun t4 =>
 gopK t4 false (fun k => k a0 w) w fun t6 w =>
 gopK t4 false (fun k => binI Go.BinOp.eql t6 (Go.Value.int Go.IntKind.u8 16) fun v => k v w) w fun t7 w =>
 pickK t4 (Go.Value.bool true) t7 fun t8 =>
 R t8 w
theorem F_world_asksBy_eq (a0 : Go.Value) (w : Go.World) (R : Go.Value → Go.World → Prop) : cK prog (bodyOf Try.f67) (resK prog Try.f67.results.toList R) (start [a0]) w = F_world_asksBy a0 w R := by kernel_rfl
theorem F_world_asksBy_on (a0 : Go.Value) (w : Go.World) (k : Go.Value → Go.World → Prop) (h : F_world_asksBy a0 w k) : callOn prog fn_world_asksBy #[a0] w k :=
  calls_list (args := [a0]) mixed Try.func67 (by kernel_rfl) (by kernel_rfl) (Eq.mpr (F_world_asksBy_eq a0 w _) (Eq.mpr (congrArg (F_world_asksBy a0 w) (on_eq k)) h))


end Go.X
