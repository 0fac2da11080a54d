/- What the plain machine asks of each type. -/
import Derived.Test.YtjopikjefpenkaaG2
import Derived.Test.YtjopikjefpenkaaProg
namespace Go.Proofs.Ytjopikjefpenkaa
open Go.RowKit
set_option maxRecDepth 100000
theorem mixed : Try.prog.follows .mixedOrders = true := by kernel_rfl
attribute [simp] Try.underlying0
@[simp] theorem szOf_0 : szOf Try.prog 0 = some 1 := by kernel_rfl
@[simp] theorem isAg_0 : isAg Try.prog 0 = some false := by kernel_rfl
@[simp] theorem zOf_0 : zOf Try.prog 0 = some (Value.tuple #[]) := by kernel_rfl
attribute [simp] Try.underlying1
@[simp] theorem szOf_1 : szOf Try.prog 1 = some 1 := by kernel_rfl
@[simp] theorem isAg_1 : isAg Try.prog 1 = some false := by kernel_rfl
@[simp] theorem zOf_1 : zOf Try.prog 1 = some Value.nilFunc := by kernel_rfl
attribute [simp] Try.underlying2
@[simp] theorem szOf_2 : szOf Try.prog 2 = some 1 := by kernel_rfl
@[simp] theorem isAg_2 : isAg Try.prog 2 = some false := by kernel_rfl
@[simp] theorem zOf_2 : zOf Try.prog 2 = some (Value.int IntKind.i64 0) := by kernel_rfl
attribute [simp] Try.underlying3
@[simp] theorem szOf_3 : szOf Try.prog 3 = some 1 := by kernel_rfl
@[simp] theorem isAg_3 : isAg Try.prog 3 = some false := by kernel_rfl
@[simp] theorem zOf_3 : zOf Try.prog 3 = some (Value.int IntKind.i64 0) := by kernel_rfl
attribute [simp] Try.underlying4
@[simp] theorem szOf_4 : szOf Try.prog 4 = some 1 := by kernel_rfl
@[simp] theorem isAg_4 : isAg Try.prog 4 = some false := by kernel_rfl
@[simp] theorem zOf_4 : zOf Try.prog 4 = some (Value.bool false) := by kernel_rfl
attribute [simp] Try.underlying5
@[simp] theorem szOf_5 : szOf Try.prog 5 = some 1 := by kernel_rfl
@[simp] theorem isAg_5 : isAg Try.prog 5 = some false := by kernel_rfl
@[simp] theorem zOf_5 : zOf Try.prog 5 = some (Value.int IntKind.u8 0) := by kernel_rfl
@[simp] theorem info_5 : Try.prog.info? 5 = some Try.t5 := by kernel_rfl
@[simp] theorem zero_5 : Try.t5.zero = some (Value.int IntKind.u8 0) := by kernel_rfl
@[simp] theorem size_5 : Try.t5.size = 1 := by kernel_rfl
@[simp] theorem bytes_5 : Try.t5.bytes = 1 := by kernel_rfl
attribute [simp] Try.underlying6
@[simp] theorem szOf_6 : szOf Try.prog 6 = some 1 := by kernel_rfl
@[simp] theorem isAg_6 : isAg Try.prog 6 = some false := by kernel_rfl
@[simp] theorem zOf_6 : zOf Try.prog 6 = some (Value.int IntKind.u8 0) := by kernel_rfl
attribute [simp] Try.underlying7
@[simp] theorem szOf_7 : szOf Try.prog 7 = some 4 := by kernel_rfl
@[simp] theorem isAg_7 : isAg Try.prog 7 = some true := by kernel_rfl
@[simp] theorem zOf_7 : zOf Try.prog 7 = some (Value.agg #[Value.int IntKind.i64 0, Value.int IntKind.i64 0, Value.bool false, Value.int IntKind.u8 0]) := by kernel_rfl
@[simp] theorem stood_7 : Try.prog.stoodInHeld 7 = false := by kernel_rfl
@[simp] theorem guard_7 : Try.prog.eqGuardType Try.prog.depth 7 = false := by kernel_rfl
attribute [simp] Try.underlying8
@[simp] theorem szOf_8 : szOf Try.prog 8 = some 4 := by kernel_rfl
@[simp] theorem isAg_8 : isAg Try.prog 8 = some true := by kernel_rfl
@[simp] theorem zOf_8 : zOf Try.prog 8 = some (Value.agg #[Value.int IntKind.i64 0, Value.int IntKind.i64 0, Value.bool false, Value.int IntKind.u8 0]) := by kernel_rfl
attribute [simp] Try.underlying9
@[simp] theorem szOf_9 : szOf Try.prog 9 = some 1 := by kernel_rfl
@[simp] theorem isAg_9 : isAg Try.prog 9 = some false := by kernel_rfl
@[simp] theorem zOf_9 : zOf Try.prog 9 = some (Value.string { data := #[] }) := by kernel_rfl
attribute [simp] Try.underlying10
@[simp] theorem szOf_10 : szOf Try.prog 10 = some 1 := by kernel_rfl
@[simp] theorem isAg_10 : isAg Try.prog 10 = some false := by kernel_rfl
@[simp] theorem zOf_10 : zOf Try.prog 10 = some (Value.string { data := #[] }) := by kernel_rfl
attribute [simp] Try.underlying11
@[simp] theorem szOf_11 : szOf Try.prog 11 = some 1 := by kernel_rfl
@[simp] theorem isAg_11 : isAg Try.prog 11 = some false := by kernel_rfl
@[simp] theorem zOf_11 : zOf Try.prog 11 = some (Value.string { data := #[] }) := by kernel_rfl
attribute [simp] Try.underlying12
@[simp] theorem szOf_12 : szOf Try.prog 12 = some 1 := by kernel_rfl
@[simp] theorem isAg_12 : isAg Try.prog 12 = some false := by kernel_rfl
@[simp] theorem zOf_12 : zOf Try.prog 12 = some (Value.int IntKind.u64 0) := by kernel_rfl
attribute [simp] Try.underlying13
@[simp] theorem szOf_13 : szOf Try.prog 13 = some 2 := by kernel_rfl
@[simp] theorem isAg_13 : isAg Try.prog 13 = some true := by kernel_rfl
@[simp] theorem zOf_13 : zOf Try.prog 13 = some (Value.agg #[Value.string { data := #[] }, Value.int IntKind.u64 0]) := by kernel_rfl
attribute [simp] Try.underlying14
@[simp] theorem szOf_14 : szOf Try.prog 14 = some 2 := by kernel_rfl
@[simp] theorem isAg_14 : isAg Try.prog 14 = some true := by kernel_rfl
@[simp] theorem zOf_14 : zOf Try.prog 14 = some (Value.agg #[Value.string { data := #[] }, Value.int IntKind.u64 0]) := by kernel_rfl
attribute [simp] Try.underlying15
@[simp] theorem szOf_15 : szOf Try.prog 15 = some 1 := by kernel_rfl
@[simp] theorem isAg_15 : isAg Try.prog 15 = some false := by kernel_rfl
@[simp] theorem zOf_15 : zOf Try.prog 15 = some (Value.pointer none) := by kernel_rfl
attribute [simp] Try.underlying16
@[simp] theorem szOf_16 : szOf Try.prog 16 = some 1 := by kernel_rfl
@[simp] theorem isAg_16 : isAg Try.prog 16 = some false := by kernel_rfl
@[simp] theorem zOf_16 : zOf Try.prog 16 = some (Value.pointer none) := by kernel_rfl
attribute [simp] Try.underlying17
@[simp] theorem szOf_17 : szOf Try.prog 17 = some 1 := by kernel_rfl
@[simp] theorem isAg_17 : isAg Try.prog 17 = some false := by kernel_rfl
@[simp] theorem zOf_17 : zOf Try.prog 17 = some (Value.pointer none) := by kernel_rfl
attribute [simp] Try.underlying18
@[simp] theorem szOf_18 : szOf Try.prog 18 = some 1 := by kernel_rfl
@[simp] theorem isAg_18 : isAg Try.prog 18 = some true := by kernel_rfl
@[simp] theorem zOf_18 : zOf Try.prog 18 = some (Value.agg #[Value.pointer none]) := by kernel_rfl
attribute [simp] Try.underlying19
@[simp] theorem szOf_19 : szOf Try.prog 19 = some 1 := by kernel_rfl
@[simp] theorem isAg_19 : isAg Try.prog 19 = some true := by kernel_rfl
@[simp] theorem zOf_19 : zOf Try.prog 19 = some (Value.agg #[Value.pointer none]) := by kernel_rfl
attribute [simp] Try.underlying20
@[simp] theorem szOf_20 : szOf Try.prog 20 = some 1 := by kernel_rfl
@[simp] theorem isAg_20 : isAg Try.prog 20 = some false := by kernel_rfl
@[simp] theorem zOf_20 : zOf Try.prog 20 = some Value.nilIface := by kernel_rfl
attribute [simp] Try.underlying21
@[simp] theorem szOf_21 : szOf Try.prog 21 = some 1 := by kernel_rfl
@[simp] theorem isAg_21 : isAg Try.prog 21 = some false := by kernel_rfl
@[simp] theorem zOf_21 : zOf Try.prog 21 = some (Value.int IntKind.i32 0) := by kernel_rfl
attribute [simp] Try.underlying22
@[simp] theorem szOf_22 : szOf Try.prog 22 = some 1 := by kernel_rfl
@[simp] theorem isAg_22 : isAg Try.prog 22 = some false := by kernel_rfl
@[simp] theorem zOf_22 : zOf Try.prog 22 = some (Value.int IntKind.u16 0) := by kernel_rfl
attribute [simp] Try.underlying23
@[simp] theorem szOf_23 : szOf Try.prog 23 = some 1 := by kernel_rfl
@[simp] theorem isAg_23 : isAg Try.prog 23 = some false := by kernel_rfl
@[simp] theorem zOf_23 : zOf Try.prog 23 = some (Value.int IntKind.u16 0) := by kernel_rfl
attribute [simp] Try.underlying24
@[simp] theorem szOf_24 : szOf Try.prog 24 = some 1 := by kernel_rfl
@[simp] theorem isAg_24 : isAg Try.prog 24 = some false := by kernel_rfl
@[simp] theorem zOf_24 : zOf Try.prog 24 = some (Value.pointer none) := by kernel_rfl
attribute [simp] Try.underlying25
@[simp] theorem szOf_25 : szOf Try.prog 25 = some 1 := by kernel_rfl
@[simp] theorem isAg_25 : isAg Try.prog 25 = some false := by kernel_rfl
@[simp] theorem zOf_25 : zOf Try.prog 25 = some Value.nilFunc := by kernel_rfl
attribute [simp] Try.underlying26
@[simp] theorem szOf_26 : szOf Try.prog 26 = some 8 := by kernel_rfl
@[simp] theorem isAg_26 : isAg Try.prog 26 = some true := by kernel_rfl
@[simp] theorem zOf_26 : zOf Try.prog 26 = some (Value.agg #[Value.int IntKind.u16 0, Value.int IntKind.u16 0, Value.int IntKind.u16 0, Value.int IntKind.u16 0, Value.int IntKind.u16 0, Value.int IntKind.u16 0, Value.int IntKind.u16 0, Value.int IntKind.u16 0]) := by kernel_rfl
@[simp] theorem stood_26 : Try.prog.stoodInHeld 26 = false := by kernel_rfl
@[simp] theorem guard_26 : Try.prog.eqGuardType Try.prog.depth 26 = false := by kernel_rfl
attribute [simp] Try.underlying27
@[simp] theorem szOf_27 : szOf Try.prog 27 = some 9 := by kernel_rfl
@[simp] theorem isAg_27 : isAg Try.prog 27 = some true := by kernel_rfl
@[simp] theorem zOf_27 : zOf Try.prog 27 = some (Value.agg #[Value.int IntKind.u16 0, Value.int IntKind.u16 0, Value.int IntKind.u16 0, Value.int IntKind.u16 0, Value.int IntKind.u16 0, Value.int IntKind.u16 0, Value.int IntKind.u16 0, Value.int IntKind.u16 0, Value.int IntKind.u16 0]) := by kernel_rfl
@[simp] theorem stood_27 : Try.prog.stoodInHeld 27 = false := by kernel_rfl
@[simp] theorem guard_27 : Try.prog.eqGuardType Try.prog.depth 27 = false := by kernel_rfl
attribute [simp] Try.underlying28
@[simp] theorem szOf_28 : szOf Try.prog 28 = some 9 := by kernel_rfl
@[simp] theorem isAg_28 : isAg Try.prog 28 = some true := by kernel_rfl
@[simp] theorem zOf_28 : zOf Try.prog 28 = some (Value.agg #[Value.int IntKind.u16 0, Value.int IntKind.u16 0, Value.int IntKind.u16 0, Value.int IntKind.u16 0, Value.int IntKind.u16 0, Value.int IntKind.u16 0, Value.int IntKind.u16 0, Value.int IntKind.u16 0, Value.int IntKind.u16 0]) := by kernel_rfl
@[simp] theorem stood_28 : Try.prog.stoodInHeld 28 = false := by kernel_rfl
@[simp] theorem guard_28 : Try.prog.eqGuardType Try.prog.depth 28 = false := by kernel_rfl
attribute [simp] Try.underlying29
@[simp] theorem szOf_29 : szOf Try.prog 29 = some 1 := by kernel_rfl
@[simp] theorem isAg_29 : isAg Try.prog 29 = some false := by kernel_rfl
@[simp] theorem zOf_29 : zOf Try.prog 29 = some (Value.int IntKind.u8 0) := by kernel_rfl
attribute [simp] Try.underlying30
@[simp] theorem szOf_30 : szOf Try.prog 30 = some 1 := by kernel_rfl
@[simp] theorem isAg_30 : isAg Try.prog 30 = some false := by kernel_rfl
@[simp] theorem zOf_30 : zOf Try.prog 30 = some (Value.int IntKind.i64 0) := by kernel_rfl
attribute [simp] Try.underlying31
@[simp] theorem szOf_31 : szOf Try.prog 31 = some 5 := by kernel_rfl
@[simp] theorem isAg_31 : isAg Try.prog 31 = some true := by kernel_rfl
@[simp] theorem zOf_31 : zOf Try.prog 31 = some (Value.agg #[Value.int IntKind.u8 0, Value.int IntKind.u16 0, Value.int IntKind.u16 0, Value.int IntKind.u8 0, Value.int IntKind.i64 0]) := by kernel_rfl
@[simp] theorem stood_31 : Try.prog.stoodInHeld 31 = false := by kernel_rfl
@[simp] theorem guard_31 : Try.prog.eqGuardType Try.prog.depth 31 = false := by kernel_rfl
attribute [simp] Try.underlying32
@[simp] theorem szOf_32 : szOf Try.prog 32 = some 5 := by kernel_rfl
@[simp] theorem isAg_32 : isAg Try.prog 32 = some true := by kernel_rfl
@[simp] theorem zOf_32 : zOf Try.prog 32 = some (Value.agg #[Value.int IntKind.u8 0, Value.int IntKind.u16 0, Value.int IntKind.u16 0, Value.int IntKind.u8 0, Value.int IntKind.i64 0]) := by kernel_rfl
@[simp] theorem stood_32 : Try.prog.stoodInHeld 32 = false := by kernel_rfl
@[simp] theorem guard_32 : Try.prog.eqGuardType Try.prog.depth 32 = false := by kernel_rfl
attribute [simp] Try.underlying33
@[simp] theorem szOf_33 : szOf Try.prog 33 = some 1 := by kernel_rfl
@[simp] theorem isAg_33 : isAg Try.prog 33 = some false := by kernel_rfl
@[simp] theorem zOf_33 : zOf Try.prog 33 = some (Value.tuple #[Value.agg #[Value.int IntKind.u16 0, Value.int IntKind.u16 0, Value.int IntKind.u16 0, Value.int IntKind.u16 0, Value.int IntKind.u16 0, Value.int IntKind.u16 0, Value.int IntKind.u16 0, Value.int IntKind.u16 0, Value.int IntKind.u16 0], Value.agg #[Value.int IntKind.u8 0, Value.int IntKind.u16 0, Value.int IntKind.u16 0, Value.int IntKind.u8 0, Value.int IntKind.i64 0]]) := by kernel_rfl
attribute [simp] Try.underlying34
@[simp] theorem szOf_34 : szOf Try.prog 34 = some 1 := by kernel_rfl
@[simp] theorem isAg_34 : isAg Try.prog 34 = some false := by kernel_rfl
@[simp] theorem zOf_34 : zOf Try.prog 34 = some Value.nilFunc := by kernel_rfl
attribute [simp] Try.underlying35
@[simp] theorem szOf_35 : szOf Try.prog 35 = some 1 := by kernel_rfl
@[simp] theorem isAg_35 : isAg Try.prog 35 = some false := by kernel_rfl
@[simp] theorem zOf_35 : zOf Try.prog 35 = some (Value.int IntKind.u8 0) := by kernel_rfl
attribute [simp] Try.underlying36
@[simp] theorem szOf_36 : szOf Try.prog 36 = some 4 := by kernel_rfl
@[simp] theorem isAg_36 : isAg Try.prog 36 = some true := by kernel_rfl
@[simp] theorem zOf_36 : zOf Try.prog 36 = some (Value.agg #[Value.int IntKind.u8 0, Value.int IntKind.u8 0, Value.int IntKind.u8 0, Value.int IntKind.u16 0]) := by kernel_rfl
@[simp] theorem stood_36 : Try.prog.stoodInHeld 36 = false := by kernel_rfl
@[simp] theorem guard_36 : Try.prog.eqGuardType Try.prog.depth 36 = false := by kernel_rfl
attribute [simp] Try.underlying37
@[simp] theorem szOf_37 : szOf Try.prog 37 = some 4 := by kernel_rfl
@[simp] theorem isAg_37 : isAg Try.prog 37 = some true := by kernel_rfl
@[simp] theorem zOf_37 : zOf Try.prog 37 = some (Value.agg #[Value.int IntKind.u8 0, Value.int IntKind.u8 0, Value.int IntKind.u8 0, Value.int IntKind.u16 0]) := by kernel_rfl
@[simp] theorem stood_37 : Try.prog.stoodInHeld 37 = false := by kernel_rfl
@[simp] theorem guard_37 : Try.prog.eqGuardType Try.prog.depth 37 = false := by kernel_rfl
attribute [simp] Try.underlying38
@[simp] theorem szOf_38 : szOf Try.prog 38 = some 1 := by kernel_rfl
@[simp] theorem isAg_38 : isAg Try.prog 38 = some false := by kernel_rfl
@[simp] theorem zOf_38 : zOf Try.prog 38 = some Value.nilFunc := by kernel_rfl
attribute [simp] Try.underlying39
@[simp] theorem szOf_39 : szOf Try.prog 39 = some 1 := by kernel_rfl
@[simp] theorem isAg_39 : isAg Try.prog 39 = some false := by kernel_rfl
@[simp] theorem zOf_39 : zOf Try.prog 39 = some (Value.tuple #[Value.int IntKind.u16 0, Value.int IntKind.i64 0]) := by kernel_rfl
attribute [simp] Try.underlying40
@[simp] theorem szOf_40 : szOf Try.prog 40 = some 1 := by kernel_rfl
@[simp] theorem isAg_40 : isAg Try.prog 40 = some false := by kernel_rfl
@[simp] theorem zOf_40 : zOf Try.prog 40 = some Value.nilFunc := by kernel_rfl
attribute [simp] Try.underlying41
@[simp] theorem szOf_41 : szOf Try.prog 41 = some 1 := by kernel_rfl
@[simp] theorem isAg_41 : isAg Try.prog 41 = some false := by kernel_rfl
@[simp] theorem zOf_41 : zOf Try.prog 41 = some (Value.tuple #[Value.agg #[Value.int IntKind.u16 0, Value.int IntKind.u16 0, Value.int IntKind.u16 0, Value.int IntKind.u16 0, Value.int IntKind.u16 0, Value.int IntKind.u16 0, Value.int IntKind.u16 0, Value.int IntKind.u16 0, Value.int IntKind.u16 0], Value.int IntKind.i64 0]) := by kernel_rfl
attribute [simp] Try.underlying42
@[simp] theorem szOf_42 : szOf Try.prog 42 = some 1 := by kernel_rfl
@[simp] theorem isAg_42 : isAg Try.prog 42 = some false := by kernel_rfl
@[simp] theorem zOf_42 : zOf Try.prog 42 = some Value.nilFunc := by kernel_rfl
attribute [simp] Try.underlying43
@[simp] theorem szOf_43 : szOf Try.prog 43 = some 1 := by kernel_rfl
@[simp] theorem isAg_43 : isAg Try.prog 43 = some false := by kernel_rfl
@[simp] theorem zOf_43 : zOf Try.prog 43 = some Value.nilFunc := by kernel_rfl
attribute [simp] Try.underlying44
@[simp] theorem szOf_44 : szOf Try.prog 44 = some 1 := by kernel_rfl
@[simp] theorem isAg_44 : isAg Try.prog 44 = some false := by kernel_rfl
@[simp] theorem zOf_44 : zOf Try.prog 44 = some (Value.slice none 0 0) := by kernel_rfl
attribute [simp] Try.underlying45
@[simp] theorem szOf_45 : szOf Try.prog 45 = some 1 := by kernel_rfl
@[simp] theorem isAg_45 : isAg Try.prog 45 = some true := by kernel_rfl
@[simp] theorem zOf_45 : zOf Try.prog 45 = some (Value.agg #[Value.slice none 0 0]) := by kernel_rfl
attribute [simp] Try.underlying46
@[simp] theorem szOf_46 : szOf Try.prog 46 = some 1 := by kernel_rfl
@[simp] theorem isAg_46 : isAg Try.prog 46 = some true := by kernel_rfl
@[simp] theorem zOf_46 : zOf Try.prog 46 = some (Value.agg #[Value.slice none 0 0]) := by kernel_rfl
attribute [simp] Try.underlying47
@[simp] theorem szOf_47 : szOf Try.prog 47 = some 1 := by kernel_rfl
@[simp] theorem isAg_47 : isAg Try.prog 47 = some false := by kernel_rfl
@[simp] theorem zOf_47 : zOf Try.prog 47 = some Value.nilFunc := by kernel_rfl
attribute [simp] Try.underlying48
@[simp] theorem szOf_48 : szOf Try.prog 48 = some 1 := by kernel_rfl
@[simp] theorem isAg_48 : isAg Try.prog 48 = some false := by kernel_rfl
@[simp] theorem zOf_48 : zOf Try.prog 48 = some Value.nilIface := by kernel_rfl
attribute [simp] Try.underlying49
@[simp] theorem szOf_49 : szOf Try.prog 49 = some 1 := by kernel_rfl
@[simp] theorem isAg_49 : isAg Try.prog 49 = some false := by kernel_rfl
@[simp] theorem zOf_49 : zOf Try.prog 49 = some Value.nilFunc := by kernel_rfl
attribute [simp] Try.underlying50
@[simp] theorem szOf_50 : szOf Try.prog 50 = some 5 := by kernel_rfl
@[simp] theorem isAg_50 : isAg Try.prog 50 = some true := by kernel_rfl
@[simp] theorem zOf_50 : zOf Try.prog 50 = some (Value.agg #[Value.int IntKind.u8 0, Value.int IntKind.u16 0, Value.int IntKind.u16 0, Value.int IntKind.u8 0, Value.int IntKind.i64 0]) := by kernel_rfl
@[simp] theorem stood_50 : Try.prog.stoodInHeld 50 = false := by kernel_rfl
@[simp] theorem guard_50 : Try.prog.eqGuardType Try.prog.depth 50 = false := by kernel_rfl
attribute [simp] Try.underlying51
@[simp] theorem szOf_51 : szOf Try.prog 51 = some 5 := by kernel_rfl
@[simp] theorem isAg_51 : isAg Try.prog 51 = some true := by kernel_rfl
@[simp] theorem zOf_51 : zOf Try.prog 51 = some (Value.agg #[Value.int IntKind.u8 0, Value.int IntKind.u16 0, Value.int IntKind.u16 0, Value.int IntKind.u8 0, Value.int IntKind.i64 0]) := by kernel_rfl
@[simp] theorem stood_51 : Try.prog.stoodInHeld 51 = false := by kernel_rfl
@[simp] theorem guard_51 : Try.prog.eqGuardType Try.prog.depth 51 = false := by kernel_rfl
attribute [simp] Try.underlying52
@[simp] theorem szOf_52 : szOf Try.prog 52 = some 1 := by kernel_rfl
@[simp] theorem isAg_52 : isAg Try.prog 52 = some false := by kernel_rfl
@[simp] theorem zOf_52 : zOf Try.prog 52 = some (Value.tuple #[Value.agg #[Value.int IntKind.u8 0, Value.int IntKind.u16 0, Value.int IntKind.u16 0, Value.int IntKind.u8 0, Value.int IntKind.i64 0], Value.bool false]) := by kernel_rfl
attribute [simp] Try.underlying53
@[simp] theorem szOf_53 : szOf Try.prog 53 = some 1 := by kernel_rfl
@[simp] theorem isAg_53 : isAg Try.prog 53 = some false := by kernel_rfl
@[simp] theorem zOf_53 : zOf Try.prog 53 = some (Value.tuple #[Value.int IntKind.u16 0, Value.bool false]) := by kernel_rfl
attribute [simp] Try.underlying54
@[simp] theorem szOf_54 : szOf Try.prog 54 = some 1 := by kernel_rfl
@[simp] theorem isAg_54 : isAg Try.prog 54 = some false := by kernel_rfl
@[simp] theorem zOf_54 : zOf Try.prog 54 = some Value.nilFunc := by kernel_rfl
attribute [simp] Try.underlying55
@[simp] theorem szOf_55 : szOf Try.prog 55 = some 2 := by kernel_rfl
@[simp] theorem isAg_55 : isAg Try.prog 55 = some true := by kernel_rfl
@[simp] theorem zOf_55 : zOf Try.prog 55 = some (Value.agg #[Value.int IntKind.u8 0, Value.int IntKind.u16 0]) := by kernel_rfl
@[simp] theorem stood_55 : Try.prog.stoodInHeld 55 = false := by kernel_rfl
@[simp] theorem guard_55 : Try.prog.eqGuardType Try.prog.depth 55 = false := by kernel_rfl
attribute [simp] Try.underlying56
@[simp] theorem szOf_56 : szOf Try.prog 56 = some 2 := by kernel_rfl
@[simp] theorem isAg_56 : isAg Try.prog 56 = some true := by kernel_rfl
@[simp] theorem zOf_56 : zOf Try.prog 56 = some (Value.agg #[Value.int IntKind.u8 0, Value.int IntKind.u16 0]) := by kernel_rfl
@[simp] theorem stood_56 : Try.prog.stoodInHeld 56 = false := by kernel_rfl
@[simp] theorem guard_56 : Try.prog.eqGuardType Try.prog.depth 56 = false := by kernel_rfl
attribute [simp] Try.underlying57
@[simp] theorem szOf_57 : szOf Try.prog 57 = some 2 := by kernel_rfl
@[simp] theorem isAg_57 : isAg Try.prog 57 = some true := by kernel_rfl
@[simp] theorem zOf_57 : zOf Try.prog 57 = some (Value.agg #[Value.int IntKind.u16 0, Value.bool false]) := by kernel_rfl
@[simp] theorem stood_57 : Try.prog.stoodInHeld 57 = false := by kernel_rfl
@[simp] theorem guard_57 : Try.prog.eqGuardType Try.prog.depth 57 = false := by kernel_rfl
attribute [simp] Try.underlying58
@[simp] theorem szOf_58 : szOf Try.prog 58 = some 2 := by kernel_rfl
@[simp] theorem isAg_58 : isAg Try.prog 58 = some true := by kernel_rfl
@[simp] theorem zOf_58 : zOf Try.prog 58 = some (Value.agg #[Value.int IntKind.u16 0, Value.bool false]) := by kernel_rfl
@[simp] theorem stood_58 : Try.prog.stoodInHeld 58 = false := by kernel_rfl
@[simp] theorem guard_58 : Try.prog.eqGuardType Try.prog.depth 58 = false := by kernel_rfl
attribute [simp] Try.underlying59
@[simp] theorem szOf_59 : szOf Try.prog 59 = some 5 := by kernel_rfl
@[simp] theorem isAg_59 : isAg Try.prog 59 = some true := by kernel_rfl
@[simp] theorem zOf_59 : zOf Try.prog 59 = some (Value.agg #[Value.int IntKind.u8 0, Value.int IntKind.u16 0, Value.int IntKind.u16 0, Value.int IntKind.u8 0, Value.int IntKind.i64 0]) := by kernel_rfl
@[simp] theorem stood_59 : Try.prog.stoodInHeld 59 = false := by kernel_rfl
@[simp] theorem guard_59 : Try.prog.eqGuardType Try.prog.depth 59 = false := by kernel_rfl
attribute [simp] Try.underlying60
@[simp] theorem szOf_60 : szOf Try.prog 60 = some 1 := by kernel_rfl
@[simp] theorem isAg_60 : isAg Try.prog 60 = some false := by kernel_rfl
@[simp] theorem zOf_60 : zOf Try.prog 60 = some (Value.slice none 0 0) := by kernel_rfl
attribute [simp] Try.underlying61
@[simp] theorem szOf_61 : szOf Try.prog 61 = some 1 := by kernel_rfl
@[simp] theorem isAg_61 : isAg Try.prog 61 = some false := by kernel_rfl
@[simp] theorem zOf_61 : zOf Try.prog 61 = some (Value.tuple #[Value.slice none 0 0, Value.int IntKind.i64 0]) := by kernel_rfl
attribute [simp] Try.underlying62
@[simp] theorem szOf_62 : szOf Try.prog 62 = some 1 := by kernel_rfl
@[simp] theorem isAg_62 : isAg Try.prog 62 = some false := by kernel_rfl
@[simp] theorem zOf_62 : zOf Try.prog 62 = some Value.nilFunc := by kernel_rfl
attribute [simp] Try.underlying63
@[simp] theorem szOf_63 : szOf Try.prog 63 = some 2 := by kernel_rfl
@[simp] theorem isAg_63 : isAg Try.prog 63 = some true := by kernel_rfl
@[simp] theorem zOf_63 : zOf Try.prog 63 = some (Value.agg #[Value.int IntKind.u8 0, Value.int IntKind.u8 0]) := by kernel_rfl
@[simp] theorem stood_63 : Try.prog.stoodInHeld 63 = false := by kernel_rfl
@[simp] theorem guard_63 : Try.prog.eqGuardType Try.prog.depth 63 = false := by kernel_rfl
attribute [simp] Try.underlying64
@[simp] theorem szOf_64 : szOf Try.prog 64 = some 1 := by kernel_rfl
@[simp] theorem isAg_64 : isAg Try.prog 64 = some false := by kernel_rfl
@[simp] theorem zOf_64 : zOf Try.prog 64 = some Value.nilFunc := by kernel_rfl
attribute [simp] Try.underlying65
@[simp] theorem szOf_65 : szOf Try.prog 65 = some 1 := by kernel_rfl
@[simp] theorem isAg_65 : isAg Try.prog 65 = some false := by kernel_rfl
@[simp] theorem zOf_65 : zOf Try.prog 65 = some Value.nilFunc := by kernel_rfl
attribute [simp] Try.underlying66
@[simp] theorem szOf_66 : szOf Try.prog 66 = some 1 := by kernel_rfl
@[simp] theorem isAg_66 : isAg Try.prog 66 = some false := by kernel_rfl
@[simp] theorem zOf_66 : zOf Try.prog 66 = some (Value.tuple #[Value.agg #[Value.int IntKind.u8 0, Value.int IntKind.u8 0, Value.int IntKind.u8 0, Value.int IntKind.u16 0], Value.bool false]) := by kernel_rfl
attribute [simp] Try.underlying67
@[simp] theorem szOf_67 : szOf Try.prog 67 = some 1 := by kernel_rfl
@[simp] theorem isAg_67 : isAg Try.prog 67 = some false := by kernel_rfl
@[simp] theorem zOf_67 : zOf Try.prog 67 = some Value.nilFunc := by kernel_rfl
attribute [simp] Try.underlying68
@[simp] theorem szOf_68 : szOf Try.prog 68 = some 1 := by kernel_rfl
@[simp] theorem isAg_68 : isAg Try.prog 68 = some false := by kernel_rfl
@[simp] theorem zOf_68 : zOf Try.prog 68 = some (Value.slice none 0 0) := by kernel_rfl
attribute [simp] Try.underlying69
@[simp] theorem szOf_69 : szOf Try.prog 69 = some 1 := by kernel_rfl
@[simp] theorem isAg_69 : isAg Try.prog 69 = some false := by kernel_rfl
@[simp] theorem zOf_69 : zOf Try.prog 69 = some Value.nilFunc := by kernel_rfl
attribute [simp] Try.underlying70
@[simp] theorem szOf_70 : szOf Try.prog 70 = some 1 := by kernel_rfl
@[simp] theorem isAg_70 : isAg Try.prog 70 = some false := by kernel_rfl
@[simp] theorem zOf_70 : zOf Try.prog 70 = some Value.nilFunc := by kernel_rfl
attribute [simp] Try.underlying71
@[simp] theorem szOf_71 : szOf Try.prog 71 = some 1 := by kernel_rfl
@[simp] theorem isAg_71 : isAg Try.prog 71 = some false := by kernel_rfl
@[simp] theorem zOf_71 : zOf Try.prog 71 = some Value.nilFunc := by kernel_rfl
attribute [simp] Try.underlying72
@[simp] theorem szOf_72 : szOf Try.prog 72 = some 32 := by kernel_rfl
@[simp] theorem isAg_72 : isAg Try.prog 72 = some true := by kernel_rfl
@[simp] theorem zOf_72 : zOf Try.prog 72 = some (Value.agg #[Value.int IntKind.u8 0, Value.int IntKind.u8 0, Value.int IntKind.u8 0, Value.int IntKind.u8 0, Value.int IntKind.u8 0, Value.int IntKind.u8 0, Value.int IntKind.u8 0, Value.int IntKind.u8 0, Value.int IntKind.u8 0, Value.int IntKind.u8 0, Value.int IntKind.u8 0, Value.int IntKind.u8 0, Value.int IntKind.u8 0, Value.int IntKind.u8 0, Value.int IntKind.u8 0, Value.int IntKind.u8 0, Value.int IntKind.u8 0, Value.int IntKind.u8 0, Value.int IntKind.u8 0, Value.int IntKind.u8 0, Value.int IntKind.u8 0, Value.int IntKind.u8 0, Value.int IntKind.u8 0, Value.int IntKind.u8 0, Value.int IntKind.u8 0, Value.int IntKind.u8 0, Value.int IntKind.u8 0, Value.int IntKind.u8 0, Value.int IntKind.u8 0, Value.int IntKind.u8 0, Value.int IntKind.u8 0, Value.int IntKind.u8 0]) := by kernel_rfl
@[simp] theorem stood_72 : Try.prog.stoodInHeld 72 = false := by kernel_rfl
@[simp] theorem guard_72 : Try.prog.eqGuardType Try.prog.depth 72 = false := by kernel_rfl
attribute [simp] Try.underlying73
@[simp] theorem szOf_73 : szOf Try.prog 73 = some 32 := by kernel_rfl
@[simp] theorem isAg_73 : isAg Try.prog 73 = some true := by kernel_rfl
@[simp] theorem zOf_73 : zOf Try.prog 73 = some (Value.agg #[Value.int IntKind.u8 0, Value.int IntKind.u8 0, Value.int IntKind.u8 0, Value.int IntKind.u8 0, Value.int IntKind.u8 0, Value.int IntKind.u8 0, Value.int IntKind.u8 0, Value.int IntKind.u8 0, Value.int IntKind.u8 0, Value.int IntKind.u8 0, Value.int IntKind.u8 0, Value.int IntKind.u8 0, Value.int IntKind.u8 0, Value.int IntKind.u8 0, Value.int IntKind.u8 0, Value.int IntKind.u8 0, Value.int IntKind.u8 0, Value.int IntKind.u8 0, Value.int IntKind.u8 0, Value.int IntKind.u8 0, Value.int IntKind.u8 0, Value.int IntKind.u8 0, Value.int IntKind.u8 0, Value.int IntKind.u8 0, Value.int IntKind.u8 0, Value.int IntKind.u8 0, Value.int IntKind.u8 0, Value.int IntKind.u8 0, Value.int IntKind.u8 0, Value.int IntKind.u8 0, Value.int IntKind.u8 0, Value.int IntKind.u8 0]) := by kernel_rfl
@[simp] theorem info_73 : Try.prog.info? 73 = some Try.t73 := by kernel_rfl
@[simp] theorem zero_73 : Try.t73.zero = some (Value.agg #[Value.int IntKind.u8 0, Value.int IntKind.u8 0, Value.int IntKind.u8 0, Value.int IntKind.u8 0, Value.int IntKind.u8 0, Value.int IntKind.u8 0, Value.int IntKind.u8 0, Value.int IntKind.u8 0, Value.int IntKind.u8 0, Value.int IntKind.u8 0, Value.int IntKind.u8 0, Value.int IntKind.u8 0, Value.int IntKind.u8 0, Value.int IntKind.u8 0, Value.int IntKind.u8 0, Value.int IntKind.u8 0, Value.int IntKind.u8 0, Value.int IntKind.u8 0, Value.int IntKind.u8 0, Value.int IntKind.u8 0, Value.int IntKind.u8 0, Value.int IntKind.u8 0, Value.int IntKind.u8 0, Value.int IntKind.u8 0, Value.int IntKind.u8 0, Value.int IntKind.u8 0, Value.int IntKind.u8 0, Value.int IntKind.u8 0, Value.int IntKind.u8 0, Value.int IntKind.u8 0, Value.int IntKind.u8 0, Value.int IntKind.u8 0]) := by kernel_rfl
@[simp] theorem size_73 : Try.t73.size = 32 := by kernel_rfl
@[simp] theorem bytes_73 : Try.t73.bytes = 32 := by kernel_rfl
@[simp] theorem stood_73 : Try.prog.stoodInHeld 73 = false := by kernel_rfl
@[simp] theorem guard_73 : Try.prog.eqGuardType Try.prog.depth 73 = false := by kernel_rfl
attribute [simp] Try.underlying74
@[simp] theorem szOf_74 : szOf Try.prog 74 = some 1 := by kernel_rfl
@[simp] theorem isAg_74 : isAg Try.prog 74 = some false := by kernel_rfl
@[simp] theorem zOf_74 : zOf Try.prog 74 = some (Value.int IntKind.u64 0) := by kernel_rfl
attribute [simp] Try.underlying75
@[simp] theorem szOf_75 : szOf Try.prog 75 = some 3 := by kernel_rfl
@[simp] theorem isAg_75 : isAg Try.prog 75 = some true := by kernel_rfl
@[simp] theorem zOf_75 : zOf Try.prog 75 = some (Value.agg #[Value.bool false, Value.bool false, Value.bool false]) := by kernel_rfl
@[simp] theorem stood_75 : Try.prog.stoodInHeld 75 = false := by kernel_rfl
@[simp] theorem guard_75 : Try.prog.eqGuardType Try.prog.depth 75 = false := by kernel_rfl
attribute [simp] Try.underlying76
@[simp] theorem szOf_76 : szOf Try.prog 76 = some 3 := by kernel_rfl
@[simp] theorem isAg_76 : isAg Try.prog 76 = some true := by kernel_rfl
@[simp] theorem zOf_76 : zOf Try.prog 76 = some (Value.agg #[Value.bool false, Value.bool false, Value.bool false]) := by kernel_rfl
@[simp] theorem stood_76 : Try.prog.stoodInHeld 76 = false := by kernel_rfl
@[simp] theorem guard_76 : Try.prog.eqGuardType Try.prog.depth 76 = false := by kernel_rfl
attribute [simp] Try.underlying77
@[simp] theorem szOf_77 : szOf Try.prog 77 = some 1 := by kernel_rfl
@[simp] theorem isAg_77 : isAg Try.prog 77 = some false := by kernel_rfl
@[simp] theorem zOf_77 : zOf Try.prog 77 = some Value.nilFunc := by kernel_rfl
attribute [simp] Try.underlying78
@[simp] theorem szOf_78 : szOf Try.prog 78 = some 1 := by kernel_rfl
@[simp] theorem isAg_78 : isAg Try.prog 78 = some false := by kernel_rfl
@[simp] theorem zOf_78 : zOf Try.prog 78 = some (Value.pointer none) := by kernel_rfl
attribute [simp] Try.underlying79
@[simp] theorem szOf_79 : szOf Try.prog 79 = some 2 := by kernel_rfl
@[simp] theorem isAg_79 : isAg Try.prog 79 = some true := by kernel_rfl
@[simp] theorem zOf_79 : zOf Try.prog 79 = some (Value.agg #[Value.bool false, Value.pointer none]) := by kernel_rfl
@[simp] theorem info_79 : Try.prog.info? 79 = some Try.t79 := by kernel_rfl
@[simp] theorem zero_79 : Try.t79.zero = some (Value.agg #[Value.bool false, Value.pointer none]) := by kernel_rfl
@[simp] theorem size_79 : Try.t79.size = 2 := by kernel_rfl
@[simp] theorem bytes_79 : Try.t79.bytes = 16 := by kernel_rfl
attribute [simp] Try.underlying80
@[simp] theorem szOf_80 : szOf Try.prog 80 = some 1 := by kernel_rfl
@[simp] theorem isAg_80 : isAg Try.prog 80 = some false := by kernel_rfl
@[simp] theorem zOf_80 : zOf Try.prog 80 = some (Value.slice none 0 0) := by kernel_rfl
attribute [simp] Try.underlying81
@[simp] theorem szOf_81 : szOf Try.prog 81 = some 1 := by kernel_rfl
@[simp] theorem isAg_81 : isAg Try.prog 81 = some false := by kernel_rfl
@[simp] theorem zOf_81 : zOf Try.prog 81 = some (Value.int IntKind.u8 0) := by kernel_rfl
attribute [simp] Try.underlying82
@[simp] theorem szOf_82 : szOf Try.prog 82 = some 1 := by kernel_rfl
@[simp] theorem isAg_82 : isAg Try.prog 82 = some false := by kernel_rfl
@[simp] theorem zOf_82 : zOf Try.prog 82 = some (Value.tuple #[Value.int IntKind.u8 0, Value.bool false]) := by kernel_rfl
attribute [simp] Try.underlying83
@[simp] theorem szOf_83 : szOf Try.prog 83 = some 1 := by kernel_rfl
@[simp] theorem isAg_83 : isAg Try.prog 83 = some false := by kernel_rfl
@[simp] theorem zOf_83 : zOf Try.prog 83 = some Value.nilIface := by kernel_rfl
@[simp] theorem info_83 : Try.prog.info? 83 = some Try.t83 := by kernel_rfl
@[simp] theorem zero_83 : Try.t83.zero = some Value.nilIface := by kernel_rfl
@[simp] theorem size_83 : Try.t83.size = 1 := by kernel_rfl
@[simp] theorem bytes_83 : Try.t83.bytes = 16 := by kernel_rfl
attribute [simp] Try.underlying84
@[simp] theorem szOf_84 : szOf Try.prog 84 = some 1 := by kernel_rfl
@[simp] theorem isAg_84 : isAg Try.prog 84 = some false := by kernel_rfl
@[simp] theorem zOf_84 : zOf Try.prog 84 = some (Value.int IntKind.u16 0) := by kernel_rfl
attribute [simp] Try.underlying85
@[simp] theorem szOf_85 : szOf Try.prog 85 = some 1 := by kernel_rfl
@[simp] theorem isAg_85 : isAg Try.prog 85 = some false := by kernel_rfl
@[simp] theorem zOf_85 : zOf Try.prog 85 = some (Value.tuple #[Value.int IntKind.u16 0, Value.bool false]) := by kernel_rfl
attribute [simp] Try.underlying86
@[simp] theorem szOf_86 : szOf Try.prog 86 = some 1 := by kernel_rfl
@[simp] theorem isAg_86 : isAg Try.prog 86 = some false := by kernel_rfl
@[simp] theorem zOf_86 : zOf Try.prog 86 = some (Value.tuple #[Value.int IntKind.u16 0, Value.int IntKind.u16 0]) := by kernel_rfl
attribute [simp] Try.underlying87
@[simp] theorem szOf_87 : szOf Try.prog 87 = some 1 := by kernel_rfl
@[simp] theorem isAg_87 : isAg Try.prog 87 = some false := by kernel_rfl
@[simp] theorem zOf_87 : zOf Try.prog 87 = some Value.nilFunc := by kernel_rfl
attribute [simp] Try.underlying88
@[simp] theorem szOf_88 : szOf Try.prog 88 = some 1 := by kernel_rfl
@[simp] theorem isAg_88 : isAg Try.prog 88 = some false := by kernel_rfl
@[simp] theorem zOf_88 : zOf Try.prog 88 = some (Value.tuple #[Value.int IntKind.u16 0, Value.int IntKind.u16 0, Value.int IntKind.i64 0]) := by kernel_rfl
attribute [simp] Try.underlying89
@[simp] theorem szOf_89 : szOf Try.prog 89 = some 1 := by kernel_rfl
@[simp] theorem isAg_89 : isAg Try.prog 89 = some false := by kernel_rfl
@[simp] theorem zOf_89 : zOf Try.prog 89 = some Value.nilFunc := by kernel_rfl
attribute [simp] Try.underlying90
@[simp] theorem szOf_90 : szOf Try.prog 90 = some 1 := by kernel_rfl
@[simp] theorem isAg_90 : isAg Try.prog 90 = some false := by kernel_rfl
@[simp] theorem zOf_90 : zOf Try.prog 90 = some Value.nilFunc := by kernel_rfl
attribute [simp] Try.underlying91
@[simp] theorem szOf_91 : szOf Try.prog 91 = some 1 := by kernel_rfl
@[simp] theorem isAg_91 : isAg Try.prog 91 = some false := by kernel_rfl
@[simp] theorem zOf_91 : zOf Try.prog 91 = some (Value.int IntKind.u32 0) := by kernel_rfl
attribute [simp] Try.underlying92
@[simp] theorem szOf_92 : szOf Try.prog 92 = some 1 := by kernel_rfl
@[simp] theorem isAg_92 : isAg Try.prog 92 = some false := by kernel_rfl
@[simp] theorem zOf_92 : zOf Try.prog 92 = some Value.nilFunc := by kernel_rfl
attribute [simp] Try.underlying93
@[simp] theorem szOf_93 : szOf Try.prog 93 = some 1 := by kernel_rfl
@[simp] theorem isAg_93 : isAg Try.prog 93 = some false := by kernel_rfl
@[simp] theorem zOf_93 : zOf Try.prog 93 = some Value.nilFunc := by kernel_rfl
attribute [simp] Try.underlying94
@[simp] theorem szOf_94 : szOf Try.prog 94 = some 4 := by kernel_rfl
@[simp] theorem isAg_94 : isAg Try.prog 94 = some true := by kernel_rfl
@[simp] theorem zOf_94 : zOf Try.prog 94 = some (Value.agg #[Value.pointer none, Value.pointer none, Value.pointer none, Value.string { data := #[] }]) := by kernel_rfl
attribute [simp] Try.underlying95
@[simp] theorem szOf_95 : szOf Try.prog 95 = some 4 := by kernel_rfl
@[simp] theorem isAg_95 : isAg Try.prog 95 = some true := by kernel_rfl
@[simp] theorem zOf_95 : zOf Try.prog 95 = some (Value.agg #[Value.pointer none, Value.pointer none, Value.pointer none, Value.string { data := #[] }]) := by kernel_rfl
attribute [simp] Try.underlying96
@[simp] theorem szOf_96 : szOf Try.prog 96 = some 0 := by kernel_rfl
@[simp] theorem isAg_96 : isAg Try.prog 96 = some true := by kernel_rfl
@[simp] theorem zOf_96 : zOf Try.prog 96 = some (Value.agg #[]) := by kernel_rfl
attribute [simp] Try.underlying97
@[simp] theorem szOf_97 : szOf Try.prog 97 = some 0 := by kernel_rfl
@[simp] theorem isAg_97 : isAg Try.prog 97 = some true := by kernel_rfl
@[simp] theorem zOf_97 : zOf Try.prog 97 = some (Value.agg #[]) := by kernel_rfl
attribute [simp] Try.underlying98
@[simp] theorem szOf_98 : szOf Try.prog 98 = some 0 := by kernel_rfl
@[simp] theorem isAg_98 : isAg Try.prog 98 = some true := by kernel_rfl
@[simp] theorem zOf_98 : zOf Try.prog 98 = some (Value.agg #[]) := by kernel_rfl
attribute [simp] Try.underlying99
@[simp] theorem szOf_99 : szOf Try.prog 99 = some 1 := by kernel_rfl
@[simp] theorem isAg_99 : isAg Try.prog 99 = some false := by kernel_rfl
@[simp] theorem zOf_99 : zOf Try.prog 99 = some Value.nilFunc := by kernel_rfl
attribute [simp] Try.underlying100
@[simp] theorem szOf_100 : szOf Try.prog 100 = some 1 := by kernel_rfl
@[simp] theorem isAg_100 : isAg Try.prog 100 = some false := by kernel_rfl
@[simp] theorem zOf_100 : zOf Try.prog 100 = some (Value.int IntKind.u8 0) := by kernel_rfl
attribute [simp] Try.underlying101
@[simp] theorem szOf_101 : szOf Try.prog 101 = some 1 := by kernel_rfl
@[simp] theorem isAg_101 : isAg Try.prog 101 = some false := by kernel_rfl
@[simp] theorem zOf_101 : zOf Try.prog 101 = some (Value.int IntKind.u8 0) := by kernel_rfl
attribute [simp] Try.underlying102
@[simp] theorem szOf_102 : szOf Try.prog 102 = some 1 := by kernel_rfl
@[simp] theorem isAg_102 : isAg Try.prog 102 = some false := by kernel_rfl
@[simp] theorem zOf_102 : zOf Try.prog 102 = some Value.nilFunc := by kernel_rfl
attribute [simp] Try.underlying103
@[simp] theorem szOf_103 : szOf Try.prog 103 = some 1 := by kernel_rfl
@[simp] theorem isAg_103 : isAg Try.prog 103 = some false := by kernel_rfl
@[simp] theorem zOf_103 : zOf Try.prog 103 = some (Value.int IntKind.i32 0) := by kernel_rfl
attribute [simp] Try.underlying104
@[simp] theorem szOf_104 : szOf Try.prog 104 = some 1 := by kernel_rfl
@[simp] theorem isAg_104 : isAg Try.prog 104 = some false := by kernel_rfl
@[simp] theorem zOf_104 : zOf Try.prog 104 = some (Value.int IntKind.i32 0) := by kernel_rfl
attribute [simp] Try.underlying105
@[simp] theorem szOf_105 : szOf Try.prog 105 = some 11 := by kernel_rfl
@[simp] theorem isAg_105 : isAg Try.prog 105 = some true := by kernel_rfl
@[simp] theorem zOf_105 : zOf Try.prog 105 = some (Value.agg #[Value.int IntKind.u64 0, Value.int IntKind.u64 0, Value.int IntKind.u32 0, Value.int IntKind.u8 0, Value.int IntKind.u8 0, Value.int IntKind.u8 0, Value.int IntKind.u8 0, Value.nilFunc, Value.pointer none, Value.int IntKind.i32 0, Value.int IntKind.i32 0]) := by kernel_rfl
attribute [simp] Try.underlying106
@[simp] theorem szOf_106 : szOf Try.prog 106 = some 11 := by kernel_rfl
@[simp] theorem isAg_106 : isAg Try.prog 106 = some true := by kernel_rfl
@[simp] theorem zOf_106 : zOf Try.prog 106 = some (Value.agg #[Value.int IntKind.u64 0, Value.int IntKind.u64 0, Value.int IntKind.u32 0, Value.int IntKind.u8 0, Value.int IntKind.u8 0, Value.int IntKind.u8 0, Value.int IntKind.u8 0, Value.nilFunc, Value.pointer none, Value.int IntKind.i32 0, Value.int IntKind.i32 0]) := by kernel_rfl
attribute [simp] Try.underlying107
@[simp] theorem szOf_107 : szOf Try.prog 107 = some 1 := by kernel_rfl
@[simp] theorem isAg_107 : isAg Try.prog 107 = some false := by kernel_rfl
@[simp] theorem zOf_107 : zOf Try.prog 107 = some (Value.pointer none) := by kernel_rfl
end Go.Proofs.Ytjopikjefpenkaa
