/- What the plain machine asks of each type. -/
import Derived.Test.YtjopikjefpenkaaDoorG2
import Derived.Test.YtjopikjefpenkaaDoorProg
namespace Go.Proofs.YtjopikjefpenkaaDoor
open Go.RowKit
set_option maxRecDepth 100000
theorem mixed : Tryd.prog.follows .mixedOrders = true := by kernel_rfl
attribute [simp] Tryd.underlying0
@[simp] theorem szOf_0 : szOf Tryd.prog 0 = some 1 := by kernel_rfl
@[simp] theorem isAg_0 : isAg Tryd.prog 0 = some false := by kernel_rfl
@[simp] theorem zOf_0 : zOf Tryd.prog 0 = some (Value.tuple #[]) := by kernel_rfl
attribute [simp] Tryd.underlying1
@[simp] theorem szOf_1 : szOf Tryd.prog 1 = some 1 := by kernel_rfl
@[simp] theorem isAg_1 : isAg Tryd.prog 1 = some false := by kernel_rfl
@[simp] theorem zOf_1 : zOf Tryd.prog 1 = some Value.nilFunc := by kernel_rfl
attribute [simp] Tryd.underlying2
@[simp] theorem szOf_2 : szOf Tryd.prog 2 = some 1 := by kernel_rfl
@[simp] theorem isAg_2 : isAg Tryd.prog 2 = some false := by kernel_rfl
@[simp] theorem zOf_2 : zOf Tryd.prog 2 = some (Value.int IntKind.i64 0) := by kernel_rfl
attribute [simp] Tryd.underlying3
@[simp] theorem szOf_3 : szOf Tryd.prog 3 = some 1 := by kernel_rfl
@[simp] theorem isAg_3 : isAg Tryd.prog 3 = some false := by kernel_rfl
@[simp] theorem zOf_3 : zOf Tryd.prog 3 = some (Value.int IntKind.i64 0) := by kernel_rfl
attribute [simp] Tryd.underlying4
@[simp] theorem szOf_4 : szOf Tryd.prog 4 = some 1 := by kernel_rfl
@[simp] theorem isAg_4 : isAg Tryd.prog 4 = some false := by kernel_rfl
@[simp] theorem zOf_4 : zOf Tryd.prog 4 = some (Value.bool false) := by kernel_rfl
attribute [simp] Tryd.underlying5
@[simp] theorem szOf_5 : szOf Tryd.prog 5 = some 1 := by kernel_rfl
@[simp] theorem isAg_5 : isAg Tryd.prog 5 = some false := by kernel_rfl
@[simp] theorem zOf_5 : zOf Tryd.prog 5 = some (Value.int IntKind.u8 0) := by kernel_rfl
@[simp] theorem info_5 : Tryd.prog.info? 5 = some Tryd.t5 := by kernel_rfl
@[simp] theorem zero_5 : Tryd.t5.zero = some (Value.int IntKind.u8 0) := by kernel_rfl
@[simp] theorem size_5 : Tryd.t5.size = 1 := by kernel_rfl
@[simp] theorem bytes_5 : Tryd.t5.bytes = 1 := by kernel_rfl
attribute [simp] Tryd.underlying6
@[simp] theorem szOf_6 : szOf Tryd.prog 6 = some 1 := by kernel_rfl
@[simp] theorem isAg_6 : isAg Tryd.prog 6 = some false := by kernel_rfl
@[simp] theorem zOf_6 : zOf Tryd.prog 6 = some (Value.int IntKind.u8 0) := by kernel_rfl
attribute [simp] Tryd.underlying7
@[simp] theorem szOf_7 : szOf Tryd.prog 7 = some 4 := by kernel_rfl
@[simp] theorem isAg_7 : isAg Tryd.prog 7 = some true := by kernel_rfl
@[simp] theorem zOf_7 : zOf Tryd.prog 7 = some (Value.agg #[Value.int IntKind.i64 0, Value.int IntKind.i64 0, Value.bool false, Value.int IntKind.u8 0]) := by kernel_rfl
@[simp] theorem stood_7 : Tryd.prog.stoodInHeld 7 = false := by kernel_rfl
@[simp] theorem guard_7 : Tryd.prog.eqGuardType Tryd.prog.depth 7 = false := by kernel_rfl
attribute [simp] Tryd.underlying8
@[simp] theorem szOf_8 : szOf Tryd.prog 8 = some 4 := by kernel_rfl
@[simp] theorem isAg_8 : isAg Tryd.prog 8 = some true := by kernel_rfl
@[simp] theorem zOf_8 : zOf Tryd.prog 8 = some (Value.agg #[Value.int IntKind.i64 0, Value.int IntKind.i64 0, Value.bool false, Value.int IntKind.u8 0]) := by kernel_rfl
attribute [simp] Tryd.underlying9
@[simp] theorem szOf_9 : szOf Tryd.prog 9 = some 1 := by kernel_rfl
@[simp] theorem isAg_9 : isAg Tryd.prog 9 = some false := by kernel_rfl
@[simp] theorem zOf_9 : zOf Tryd.prog 9 = some (Value.string { data := #[] }) := by kernel_rfl
@[simp] theorem info_9 : Tryd.prog.info? 9 = some Tryd.t9 := by kernel_rfl
@[simp] theorem zero_9 : Tryd.t9.zero = some (Value.string { data := #[] }) := by kernel_rfl
@[simp] theorem size_9 : Tryd.t9.size = 1 := by kernel_rfl
@[simp] theorem bytes_9 : Tryd.t9.bytes = 16 := by kernel_rfl
attribute [simp] Tryd.underlying10
@[simp] theorem szOf_10 : szOf Tryd.prog 10 = some 1 := by kernel_rfl
@[simp] theorem isAg_10 : isAg Tryd.prog 10 = some false := by kernel_rfl
@[simp] theorem zOf_10 : zOf Tryd.prog 10 = some (Value.string { data := #[] }) := by kernel_rfl
attribute [simp] Tryd.underlying11
@[simp] theorem szOf_11 : szOf Tryd.prog 11 = some 1 := by kernel_rfl
@[simp] theorem isAg_11 : isAg Tryd.prog 11 = some false := by kernel_rfl
@[simp] theorem zOf_11 : zOf Tryd.prog 11 = some (Value.string { data := #[] }) := by kernel_rfl
attribute [simp] Tryd.underlying12
@[simp] theorem szOf_12 : szOf Tryd.prog 12 = some 1 := by kernel_rfl
@[simp] theorem isAg_12 : isAg Tryd.prog 12 = some false := by kernel_rfl
@[simp] theorem zOf_12 : zOf Tryd.prog 12 = some (Value.int IntKind.u64 0) := by kernel_rfl
attribute [simp] Tryd.underlying13
@[simp] theorem szOf_13 : szOf Tryd.prog 13 = some 2 := by kernel_rfl
@[simp] theorem isAg_13 : isAg Tryd.prog 13 = some true := by kernel_rfl
@[simp] theorem zOf_13 : zOf Tryd.prog 13 = some (Value.agg #[Value.string { data := #[] }, Value.int IntKind.u64 0]) := by kernel_rfl
attribute [simp] Tryd.underlying14
@[simp] theorem szOf_14 : szOf Tryd.prog 14 = some 2 := by kernel_rfl
@[simp] theorem isAg_14 : isAg Tryd.prog 14 = some true := by kernel_rfl
@[simp] theorem zOf_14 : zOf Tryd.prog 14 = some (Value.agg #[Value.string { data := #[] }, Value.int IntKind.u64 0]) := by kernel_rfl
attribute [simp] Tryd.underlying15
@[simp] theorem szOf_15 : szOf Tryd.prog 15 = some 1 := by kernel_rfl
@[simp] theorem isAg_15 : isAg Tryd.prog 15 = some false := by kernel_rfl
@[simp] theorem zOf_15 : zOf Tryd.prog 15 = some (Value.pointer none) := by kernel_rfl
attribute [simp] Tryd.underlying16
@[simp] theorem szOf_16 : szOf Tryd.prog 16 = some 1 := by kernel_rfl
@[simp] theorem isAg_16 : isAg Tryd.prog 16 = some false := by kernel_rfl
@[simp] theorem zOf_16 : zOf Tryd.prog 16 = some (Value.pointer none) := by kernel_rfl
attribute [simp] Tryd.underlying17
@[simp] theorem szOf_17 : szOf Tryd.prog 17 = some 1 := by kernel_rfl
@[simp] theorem isAg_17 : isAg Tryd.prog 17 = some false := by kernel_rfl
@[simp] theorem zOf_17 : zOf Tryd.prog 17 = some (Value.pointer none) := by kernel_rfl
attribute [simp] Tryd.underlying18
@[simp] theorem szOf_18 : szOf Tryd.prog 18 = some 1 := by kernel_rfl
@[simp] theorem isAg_18 : isAg Tryd.prog 18 = some true := by kernel_rfl
@[simp] theorem zOf_18 : zOf Tryd.prog 18 = some (Value.agg #[Value.pointer none]) := by kernel_rfl
attribute [simp] Tryd.underlying19
@[simp] theorem szOf_19 : szOf Tryd.prog 19 = some 1 := by kernel_rfl
@[simp] theorem isAg_19 : isAg Tryd.prog 19 = some true := by kernel_rfl
@[simp] theorem zOf_19 : zOf Tryd.prog 19 = some (Value.agg #[Value.pointer none]) := by kernel_rfl
attribute [simp] Tryd.underlying20
@[simp] theorem szOf_20 : szOf Tryd.prog 20 = some 1 := by kernel_rfl
@[simp] theorem isAg_20 : isAg Tryd.prog 20 = some false := by kernel_rfl
@[simp] theorem zOf_20 : zOf Tryd.prog 20 = some Value.nilIface := by kernel_rfl
attribute [simp] Tryd.underlying21
@[simp] theorem szOf_21 : szOf Tryd.prog 21 = some 1 := by kernel_rfl
@[simp] theorem isAg_21 : isAg Tryd.prog 21 = some false := by kernel_rfl
@[simp] theorem zOf_21 : zOf Tryd.prog 21 = some (Value.int IntKind.i32 0) := by kernel_rfl
attribute [simp] Tryd.underlying22
@[simp] theorem szOf_22 : szOf Tryd.prog 22 = some 1 := by kernel_rfl
@[simp] theorem isAg_22 : isAg Tryd.prog 22 = some false := by kernel_rfl
@[simp] theorem zOf_22 : zOf Tryd.prog 22 = some (Value.slice none 0 0) := by kernel_rfl
attribute [simp] Tryd.underlying23
@[simp] theorem szOf_23 : szOf Tryd.prog 23 = some 1 := by kernel_rfl
@[simp] theorem isAg_23 : isAg Tryd.prog 23 = some false := by kernel_rfl
@[simp] theorem zOf_23 : zOf Tryd.prog 23 = some (Value.slice none 0 0) := by kernel_rfl
attribute [simp] Tryd.underlying24
@[simp] theorem szOf_24 : szOf Tryd.prog 24 = some 1 := by kernel_rfl
@[simp] theorem isAg_24 : isAg Tryd.prog 24 = some false := by kernel_rfl
@[simp] theorem zOf_24 : zOf Tryd.prog 24 = some (Value.int IntKind.i64 0) := by kernel_rfl
attribute [simp] Tryd.underlying25
@[simp] theorem szOf_25 : szOf Tryd.prog 25 = some 1 := by kernel_rfl
@[simp] theorem isAg_25 : isAg Tryd.prog 25 = some false := by kernel_rfl
@[simp] theorem zOf_25 : zOf Tryd.prog 25 = some (Value.tuple #[Value.slice none 0 0, Value.int IntKind.i64 0]) := by kernel_rfl
attribute [simp] Tryd.underlying26
@[simp] theorem szOf_26 : szOf Tryd.prog 26 = some 1 := by kernel_rfl
@[simp] theorem isAg_26 : isAg Tryd.prog 26 = some false := by kernel_rfl
@[simp] theorem zOf_26 : zOf Tryd.prog 26 = some Value.nilFunc := by kernel_rfl
attribute [simp] Tryd.underlying27
@[simp] theorem szOf_27 : szOf Tryd.prog 27 = some 1 := by kernel_rfl
@[simp] theorem isAg_27 : isAg Tryd.prog 27 = some false := by kernel_rfl
@[simp] theorem zOf_27 : zOf Tryd.prog 27 = some Value.nilFunc := by kernel_rfl
attribute [simp] Tryd.underlying28
@[simp] theorem szOf_28 : szOf Tryd.prog 28 = some 1 := by kernel_rfl
@[simp] theorem isAg_28 : isAg Tryd.prog 28 = some false := by kernel_rfl
@[simp] theorem zOf_28 : zOf Tryd.prog 28 = some Value.nilFunc := by kernel_rfl
attribute [simp] Tryd.underlying29
@[simp] theorem szOf_29 : szOf Tryd.prog 29 = some 1 := by kernel_rfl
@[simp] theorem isAg_29 : isAg Tryd.prog 29 = some false := by kernel_rfl
@[simp] theorem zOf_29 : zOf Tryd.prog 29 = some (Value.tuple #[Value.slice none 0 0, Value.int IntKind.i64 0]) := by kernel_rfl
attribute [simp] Tryd.underlying30
@[simp] theorem szOf_30 : szOf Tryd.prog 30 = some 1 := by kernel_rfl
@[simp] theorem isAg_30 : isAg Tryd.prog 30 = some false := by kernel_rfl
@[simp] theorem zOf_30 : zOf Tryd.prog 30 = some Value.nilFunc := by kernel_rfl
attribute [simp] Tryd.underlying31
@[simp] theorem szOf_31 : szOf Tryd.prog 31 = some 1 := by kernel_rfl
@[simp] theorem isAg_31 : isAg Tryd.prog 31 = some false := by kernel_rfl
@[simp] theorem zOf_31 : zOf Tryd.prog 31 = some Value.nilFunc := by kernel_rfl
attribute [simp] Tryd.underlying32
@[simp] theorem szOf_32 : szOf Tryd.prog 32 = some 1 := by kernel_rfl
@[simp] theorem isAg_32 : isAg Tryd.prog 32 = some false := by kernel_rfl
@[simp] theorem zOf_32 : zOf Tryd.prog 32 = some Value.nilFunc := by kernel_rfl
attribute [simp] Tryd.underlying33
@[simp] theorem szOf_33 : szOf Tryd.prog 33 = some 1 := by kernel_rfl
@[simp] theorem isAg_33 : isAg Tryd.prog 33 = some false := by kernel_rfl
@[simp] theorem zOf_33 : zOf Tryd.prog 33 = some Value.nilFunc := by kernel_rfl
attribute [simp] Tryd.underlying34
@[simp] theorem szOf_34 : szOf Tryd.prog 34 = some 1 := by kernel_rfl
@[simp] theorem isAg_34 : isAg Tryd.prog 34 = some false := by kernel_rfl
@[simp] theorem zOf_34 : zOf Tryd.prog 34 = some (Value.tuple #[Value.string { data := #[] }, Value.int IntKind.i64 0]) := by kernel_rfl
attribute [simp] Tryd.underlying35
@[simp] theorem szOf_35 : szOf Tryd.prog 35 = some 1 := by kernel_rfl
@[simp] theorem isAg_35 : isAg Tryd.prog 35 = some false := by kernel_rfl
@[simp] theorem zOf_35 : zOf Tryd.prog 35 = some Value.nilFunc := by kernel_rfl
attribute [simp] Tryd.underlying36
@[simp] theorem szOf_36 : szOf Tryd.prog 36 = some 1 := by kernel_rfl
@[simp] theorem isAg_36 : isAg Tryd.prog 36 = some false := by kernel_rfl
@[simp] theorem zOf_36 : zOf Tryd.prog 36 = some (Value.int IntKind.u8 0) := by kernel_rfl
attribute [simp] Tryd.underlying37
@[simp] theorem szOf_37 : szOf Tryd.prog 37 = some 1 := by kernel_rfl
@[simp] theorem isAg_37 : isAg Tryd.prog 37 = some false := by kernel_rfl
@[simp] theorem zOf_37 : zOf Tryd.prog 37 = some (Value.int IntKind.u16 0) := by kernel_rfl
attribute [simp] Tryd.underlying38
@[simp] theorem szOf_38 : szOf Tryd.prog 38 = some 1 := by kernel_rfl
@[simp] theorem isAg_38 : isAg Tryd.prog 38 = some false := by kernel_rfl
@[simp] theorem zOf_38 : zOf Tryd.prog 38 = some (Value.int IntKind.u16 0) := by kernel_rfl
@[simp] theorem info_38 : Tryd.prog.info? 38 = some Tryd.t38 := by kernel_rfl
@[simp] theorem zero_38 : Tryd.t38.zero = some (Value.int IntKind.u16 0) := by kernel_rfl
@[simp] theorem size_38 : Tryd.t38.size = 1 := by kernel_rfl
@[simp] theorem bytes_38 : Tryd.t38.bytes = 2 := by kernel_rfl
attribute [simp] Tryd.underlying39
@[simp] theorem szOf_39 : szOf Tryd.prog 39 = some 4 := by kernel_rfl
@[simp] theorem isAg_39 : isAg Tryd.prog 39 = some true := by kernel_rfl
@[simp] theorem zOf_39 : zOf Tryd.prog 39 = some (Value.agg #[Value.int IntKind.u8 0, Value.int IntKind.u8 0, Value.int IntKind.u8 0, Value.int IntKind.u16 0]) := by kernel_rfl
@[simp] theorem stood_39 : Tryd.prog.stoodInHeld 39 = false := by kernel_rfl
@[simp] theorem guard_39 : Tryd.prog.eqGuardType Tryd.prog.depth 39 = false := by kernel_rfl
attribute [simp] Tryd.underlying40
@[simp] theorem szOf_40 : szOf Tryd.prog 40 = some 4 := by kernel_rfl
@[simp] theorem isAg_40 : isAg Tryd.prog 40 = some true := by kernel_rfl
@[simp] theorem zOf_40 : zOf Tryd.prog 40 = some (Value.agg #[Value.int IntKind.u8 0, Value.int IntKind.u8 0, Value.int IntKind.u8 0, Value.int IntKind.u16 0]) := by kernel_rfl
@[simp] theorem info_40 : Tryd.prog.info? 40 = some Tryd.t40 := by kernel_rfl
@[simp] theorem zero_40 : Tryd.t40.zero = some (Value.agg #[Value.int IntKind.u8 0, Value.int IntKind.u8 0, Value.int IntKind.u8 0, Value.int IntKind.u16 0]) := by kernel_rfl
@[simp] theorem size_40 : Tryd.t40.size = 4 := by kernel_rfl
@[simp] theorem bytes_40 : Tryd.t40.bytes = 6 := by kernel_rfl
@[simp] theorem stood_40 : Tryd.prog.stoodInHeld 40 = false := by kernel_rfl
@[simp] theorem guard_40 : Tryd.prog.eqGuardType Tryd.prog.depth 40 = false := by kernel_rfl
attribute [simp] Tryd.underlying41
@[simp] theorem szOf_41 : szOf Tryd.prog 41 = some 1 := by kernel_rfl
@[simp] theorem isAg_41 : isAg Tryd.prog 41 = some false := by kernel_rfl
@[simp] theorem zOf_41 : zOf Tryd.prog 41 = some (Value.tuple #[Value.agg #[Value.int IntKind.u8 0, Value.int IntKind.u8 0, Value.int IntKind.u8 0, Value.int IntKind.u16 0], Value.int IntKind.i64 0]) := by kernel_rfl
attribute [simp] Tryd.underlying42
@[simp] theorem szOf_42 : szOf Tryd.prog 42 = some 1 := by kernel_rfl
@[simp] theorem isAg_42 : isAg Tryd.prog 42 = some false := by kernel_rfl
@[simp] theorem zOf_42 : zOf Tryd.prog 42 = some Value.nilFunc := by kernel_rfl
attribute [simp] Tryd.underlying43
@[simp] theorem szOf_43 : szOf Tryd.prog 43 = some 1 := by kernel_rfl
@[simp] theorem isAg_43 : isAg Tryd.prog 43 = some false := by kernel_rfl
@[simp] theorem zOf_43 : zOf Tryd.prog 43 = some Value.nilFunc := by kernel_rfl
attribute [simp] Tryd.underlying44
@[simp] theorem szOf_44 : szOf Tryd.prog 44 = some 1 := by kernel_rfl
@[simp] theorem isAg_44 : isAg Tryd.prog 44 = some false := by kernel_rfl
@[simp] theorem zOf_44 : zOf Tryd.prog 44 = some Value.nilFunc := by kernel_rfl
attribute [simp] Tryd.underlying45
@[simp] theorem szOf_45 : szOf Tryd.prog 45 = some 8 := by kernel_rfl
@[simp] theorem isAg_45 : isAg Tryd.prog 45 = some true := by kernel_rfl
@[simp] theorem zOf_45 : zOf Tryd.prog 45 = some (Value.agg #[Value.int IntKind.u16 0, Value.int IntKind.u16 0, Value.int IntKind.u16 0, Value.int IntKind.u16 0, Value.int IntKind.u16 0, Value.int IntKind.u16 0, Value.int IntKind.u16 0, Value.int IntKind.u16 0]) := by kernel_rfl
@[simp] theorem stood_45 : Tryd.prog.stoodInHeld 45 = false := by kernel_rfl
@[simp] theorem guard_45 : Tryd.prog.eqGuardType Tryd.prog.depth 45 = false := by kernel_rfl
attribute [simp] Tryd.underlying46
@[simp] theorem szOf_46 : szOf Tryd.prog 46 = some 9 := by kernel_rfl
@[simp] theorem isAg_46 : isAg Tryd.prog 46 = some true := by kernel_rfl
@[simp] theorem zOf_46 : zOf Tryd.prog 46 = some (Value.agg #[Value.int IntKind.u16 0, Value.int IntKind.u16 0, Value.int IntKind.u16 0, Value.int IntKind.u16 0, Value.int IntKind.u16 0, Value.int IntKind.u16 0, Value.int IntKind.u16 0, Value.int IntKind.u16 0, Value.int IntKind.u16 0]) := by kernel_rfl
@[simp] theorem stood_46 : Tryd.prog.stoodInHeld 46 = false := by kernel_rfl
@[simp] theorem guard_46 : Tryd.prog.eqGuardType Tryd.prog.depth 46 = false := by kernel_rfl
attribute [simp] Tryd.underlying47
@[simp] theorem szOf_47 : szOf Tryd.prog 47 = some 9 := by kernel_rfl
@[simp] theorem isAg_47 : isAg Tryd.prog 47 = some true := by kernel_rfl
@[simp] theorem zOf_47 : zOf Tryd.prog 47 = some (Value.agg #[Value.int IntKind.u16 0, Value.int IntKind.u16 0, Value.int IntKind.u16 0, Value.int IntKind.u16 0, Value.int IntKind.u16 0, Value.int IntKind.u16 0, Value.int IntKind.u16 0, Value.int IntKind.u16 0, Value.int IntKind.u16 0]) := by kernel_rfl
@[simp] theorem stood_47 : Tryd.prog.stoodInHeld 47 = false := by kernel_rfl
@[simp] theorem guard_47 : Tryd.prog.eqGuardType Tryd.prog.depth 47 = false := by kernel_rfl
attribute [simp] Tryd.underlying48
@[simp] theorem szOf_48 : szOf Tryd.prog 48 = some 1 := by kernel_rfl
@[simp] theorem isAg_48 : isAg Tryd.prog 48 = some false := by kernel_rfl
@[simp] theorem zOf_48 : zOf Tryd.prog 48 = some (Value.tuple #[Value.agg #[Value.int IntKind.u16 0, Value.int IntKind.u16 0, Value.int IntKind.u16 0, Value.int IntKind.u16 0, Value.int IntKind.u16 0, Value.int IntKind.u16 0, Value.int IntKind.u16 0, Value.int IntKind.u16 0, Value.int IntKind.u16 0], Value.int IntKind.i64 0]) := by kernel_rfl
attribute [simp] Tryd.underlying49
@[simp] theorem szOf_49 : szOf Tryd.prog 49 = some 1 := by kernel_rfl
@[simp] theorem isAg_49 : isAg Tryd.prog 49 = some false := by kernel_rfl
@[simp] theorem zOf_49 : zOf Tryd.prog 49 = some Value.nilFunc := by kernel_rfl
attribute [simp] Tryd.underlying50
@[simp] theorem szOf_50 : szOf Tryd.prog 50 = some 1 := by kernel_rfl
@[simp] theorem isAg_50 : isAg Tryd.prog 50 = some false := by kernel_rfl
@[simp] theorem zOf_50 : zOf Tryd.prog 50 = some Value.nilFunc := by kernel_rfl
attribute [simp] Tryd.underlying51
@[simp] theorem szOf_51 : szOf Tryd.prog 51 = some 1 := by kernel_rfl
@[simp] theorem isAg_51 : isAg Tryd.prog 51 = some false := by kernel_rfl
@[simp] theorem zOf_51 : zOf Tryd.prog 51 = some Value.nilFunc := by kernel_rfl
attribute [simp] Tryd.underlying52
@[simp] theorem szOf_52 : szOf Tryd.prog 52 = some 1 := by kernel_rfl
@[simp] theorem isAg_52 : isAg Tryd.prog 52 = some false := by kernel_rfl
@[simp] theorem zOf_52 : zOf Tryd.prog 52 = some Value.nilFunc := by kernel_rfl
attribute [simp] Tryd.underlying53
@[simp] theorem szOf_53 : szOf Tryd.prog 53 = some 1 := by kernel_rfl
@[simp] theorem isAg_53 : isAg Tryd.prog 53 = some false := by kernel_rfl
@[simp] theorem zOf_53 : zOf Tryd.prog 53 = some Value.nilFunc := by kernel_rfl
attribute [simp] Tryd.underlying54
@[simp] theorem szOf_54 : szOf Tryd.prog 54 = some 1 := by kernel_rfl
@[simp] theorem isAg_54 : isAg Tryd.prog 54 = some false := by kernel_rfl
@[simp] theorem zOf_54 : zOf Tryd.prog 54 = some Value.nilFunc := by kernel_rfl
attribute [simp] Tryd.underlying55
@[simp] theorem szOf_55 : szOf Tryd.prog 55 = some 1 := by kernel_rfl
@[simp] theorem isAg_55 : isAg Tryd.prog 55 = some false := by kernel_rfl
@[simp] theorem zOf_55 : zOf Tryd.prog 55 = some Value.nilFunc := by kernel_rfl
attribute [simp] Tryd.underlying56
@[simp] theorem szOf_56 : szOf Tryd.prog 56 = some 1 := by kernel_rfl
@[simp] theorem isAg_56 : isAg Tryd.prog 56 = some false := by kernel_rfl
@[simp] theorem zOf_56 : zOf Tryd.prog 56 = some Value.nilFunc := by kernel_rfl
attribute [simp] Tryd.underlying57
@[simp] theorem szOf_57 : szOf Tryd.prog 57 = some 1 := by kernel_rfl
@[simp] theorem isAg_57 : isAg Tryd.prog 57 = some false := by kernel_rfl
@[simp] theorem zOf_57 : zOf Tryd.prog 57 = some Value.nilFunc := by kernel_rfl
attribute [simp] Tryd.underlying58
@[simp] theorem szOf_58 : szOf Tryd.prog 58 = some 1 := by kernel_rfl
@[simp] theorem isAg_58 : isAg Tryd.prog 58 = some false := by kernel_rfl
@[simp] theorem zOf_58 : zOf Tryd.prog 58 = some Value.nilFunc := by kernel_rfl
attribute [simp] Tryd.underlying59
@[simp] theorem szOf_59 : szOf Tryd.prog 59 = some 1 := by kernel_rfl
@[simp] theorem isAg_59 : isAg Tryd.prog 59 = some false := by kernel_rfl
@[simp] theorem zOf_59 : zOf Tryd.prog 59 = some Value.nilFunc := by kernel_rfl
attribute [simp] Tryd.underlying60
@[simp] theorem szOf_60 : szOf Tryd.prog 60 = some 1 := by kernel_rfl
@[simp] theorem isAg_60 : isAg Tryd.prog 60 = some false := by kernel_rfl
@[simp] theorem zOf_60 : zOf Tryd.prog 60 = some Value.nilFunc := by kernel_rfl
attribute [simp] Tryd.underlying61
@[simp] theorem szOf_61 : szOf Tryd.prog 61 = some 1 := by kernel_rfl
@[simp] theorem isAg_61 : isAg Tryd.prog 61 = some false := by kernel_rfl
@[simp] theorem zOf_61 : zOf Tryd.prog 61 = some (Value.slice none 0 0) := by kernel_rfl
attribute [simp] Tryd.underlying62
@[simp] theorem szOf_62 : szOf Tryd.prog 62 = some 1 := by kernel_rfl
@[simp] theorem isAg_62 : isAg Tryd.prog 62 = some false := by kernel_rfl
@[simp] theorem zOf_62 : zOf Tryd.prog 62 = some (Value.slice none 0 0) := by kernel_rfl
attribute [simp] Tryd.underlying63
@[simp] theorem szOf_63 : szOf Tryd.prog 63 = some 1 := by kernel_rfl
@[simp] theorem isAg_63 : isAg Tryd.prog 63 = some false := by kernel_rfl
@[simp] theorem zOf_63 : zOf Tryd.prog 63 = some Value.nilFunc := by kernel_rfl
attribute [simp] Tryd.underlying64
@[simp] theorem szOf_64 : szOf Tryd.prog 64 = some 1 := by kernel_rfl
@[simp] theorem isAg_64 : isAg Tryd.prog 64 = some false := by kernel_rfl
@[simp] theorem zOf_64 : zOf Tryd.prog 64 = some Value.nilIface := by kernel_rfl
@[simp] theorem info_64 : Tryd.prog.info? 64 = some Tryd.t64 := by kernel_rfl
@[simp] theorem zero_64 : Tryd.t64.zero = some Value.nilIface := by kernel_rfl
@[simp] theorem size_64 : Tryd.t64.size = 1 := by kernel_rfl
@[simp] theorem bytes_64 : Tryd.t64.bytes = 16 := by kernel_rfl
attribute [simp] Tryd.underlying65
@[simp] theorem szOf_65 : szOf Tryd.prog 65 = some 1 := by kernel_rfl
@[simp] theorem isAg_65 : isAg Tryd.prog 65 = some false := by kernel_rfl
@[simp] theorem zOf_65 : zOf Tryd.prog 65 = some Value.nilFunc := by kernel_rfl
attribute [simp] Tryd.underlying66
@[simp] theorem szOf_66 : szOf Tryd.prog 66 = some 1 := by kernel_rfl
@[simp] theorem isAg_66 : isAg Tryd.prog 66 = some false := by kernel_rfl
@[simp] theorem zOf_66 : zOf Tryd.prog 66 = some Value.nilFunc := by kernel_rfl
attribute [simp] Tryd.underlying67
@[simp] theorem szOf_67 : szOf Tryd.prog 67 = some 1 := by kernel_rfl
@[simp] theorem isAg_67 : isAg Tryd.prog 67 = some false := by kernel_rfl
@[simp] theorem zOf_67 : zOf Tryd.prog 67 = some (Value.tuple #[Value.string { data := #[] }, Value.string { data := #[] }, Value.bool false]) := by kernel_rfl
attribute [simp] Tryd.underlying68
@[simp] theorem szOf_68 : szOf Tryd.prog 68 = some 1 := by kernel_rfl
@[simp] theorem isAg_68 : isAg Tryd.prog 68 = some false := by kernel_rfl
@[simp] theorem zOf_68 : zOf Tryd.prog 68 = some Value.nilFunc := by kernel_rfl
attribute [simp] Tryd.underlying69
@[simp] theorem szOf_69 : szOf Tryd.prog 69 = some 1 := by kernel_rfl
@[simp] theorem isAg_69 : isAg Tryd.prog 69 = some false := by kernel_rfl
@[simp] theorem zOf_69 : zOf Tryd.prog 69 = some (Value.tuple #[Value.int IntKind.u8 0, Value.bool false]) := by kernel_rfl
attribute [simp] Tryd.underlying70
@[simp] theorem szOf_70 : szOf Tryd.prog 70 = some 1 := by kernel_rfl
@[simp] theorem isAg_70 : isAg Tryd.prog 70 = some false := by kernel_rfl
@[simp] theorem zOf_70 : zOf Tryd.prog 70 = some Value.nilFunc := by kernel_rfl
attribute [simp] Tryd.underlying71
@[simp] theorem szOf_71 : szOf Tryd.prog 71 = some 3 := by kernel_rfl
@[simp] theorem isAg_71 : isAg Tryd.prog 71 = some true := by kernel_rfl
@[simp] theorem zOf_71 : zOf Tryd.prog 71 = some (Value.agg #[Value.bool false, Value.bool false, Value.bool false]) := by kernel_rfl
@[simp] theorem stood_71 : Tryd.prog.stoodInHeld 71 = false := by kernel_rfl
@[simp] theorem guard_71 : Tryd.prog.eqGuardType Tryd.prog.depth 71 = false := by kernel_rfl
attribute [simp] Tryd.underlying72
@[simp] theorem szOf_72 : szOf Tryd.prog 72 = some 3 := by kernel_rfl
@[simp] theorem isAg_72 : isAg Tryd.prog 72 = some true := by kernel_rfl
@[simp] theorem zOf_72 : zOf Tryd.prog 72 = some (Value.agg #[Value.bool false, Value.bool false, Value.bool false]) := by kernel_rfl
@[simp] theorem stood_72 : Tryd.prog.stoodInHeld 72 = false := by kernel_rfl
@[simp] theorem guard_72 : Tryd.prog.eqGuardType Tryd.prog.depth 72 = false := by kernel_rfl
attribute [simp] Tryd.underlying73
@[simp] theorem szOf_73 : szOf Tryd.prog 73 = some 1 := by kernel_rfl
@[simp] theorem isAg_73 : isAg Tryd.prog 73 = some false := by kernel_rfl
@[simp] theorem zOf_73 : zOf Tryd.prog 73 = some Value.nilFunc := by kernel_rfl
attribute [simp] Tryd.underlying74
@[simp] theorem szOf_74 : szOf Tryd.prog 74 = some 1 := by kernel_rfl
@[simp] theorem isAg_74 : isAg Tryd.prog 74 = some false := by kernel_rfl
@[simp] theorem zOf_74 : zOf Tryd.prog 74 = some (Value.tuple #[Value.nilIface, Value.bool false]) := by kernel_rfl
attribute [simp] Tryd.underlying75
@[simp] theorem szOf_75 : szOf Tryd.prog 75 = some 1 := by kernel_rfl
@[simp] theorem isAg_75 : isAg Tryd.prog 75 = some false := by kernel_rfl
@[simp] theorem zOf_75 : zOf Tryd.prog 75 = some Value.nilFunc := by kernel_rfl
attribute [simp] Tryd.underlying76
@[simp] theorem szOf_76 : szOf Tryd.prog 76 = some 1 := by kernel_rfl
@[simp] theorem isAg_76 : isAg Tryd.prog 76 = some false := by kernel_rfl
@[simp] theorem zOf_76 : zOf Tryd.prog 76 = some (Value.tuple #[Value.agg #[Value.int IntKind.u8 0, Value.int IntKind.u8 0, Value.int IntKind.u8 0, Value.int IntKind.u16 0], Value.bool false]) := by kernel_rfl
attribute [simp] Tryd.underlying77
@[simp] theorem szOf_77 : szOf Tryd.prog 77 = some 1 := by kernel_rfl
@[simp] theorem isAg_77 : isAg Tryd.prog 77 = some false := by kernel_rfl
@[simp] theorem zOf_77 : zOf Tryd.prog 77 = some Value.nilFunc := by kernel_rfl
attribute [simp] Tryd.underlying78
@[simp] theorem szOf_78 : szOf Tryd.prog 78 = some 1 := by kernel_rfl
@[simp] theorem isAg_78 : isAg Tryd.prog 78 = some false := by kernel_rfl
@[simp] theorem zOf_78 : zOf Tryd.prog 78 = some (Value.tuple #[Value.bool false, Value.bool false, Value.bool false]) := by kernel_rfl
attribute [simp] Tryd.underlying79
@[simp] theorem szOf_79 : szOf Tryd.prog 79 = some 1 := by kernel_rfl
@[simp] theorem isAg_79 : isAg Tryd.prog 79 = some false := by kernel_rfl
@[simp] theorem zOf_79 : zOf Tryd.prog 79 = some Value.nilFunc := by kernel_rfl
attribute [simp] Tryd.underlying80
@[simp] theorem szOf_80 : szOf Tryd.prog 80 = some 1 := by kernel_rfl
@[simp] theorem isAg_80 : isAg Tryd.prog 80 = some false := by kernel_rfl
@[simp] theorem zOf_80 : zOf Tryd.prog 80 = some Value.nilFunc := by kernel_rfl
attribute [simp] Tryd.underlying81
@[simp] theorem szOf_81 : szOf Tryd.prog 81 = some 1 := by kernel_rfl
@[simp] theorem isAg_81 : isAg Tryd.prog 81 = some false := by kernel_rfl
@[simp] theorem zOf_81 : zOf Tryd.prog 81 = some Value.nilFunc := by kernel_rfl
attribute [simp] Tryd.underlying82
@[simp] theorem szOf_82 : szOf Tryd.prog 82 = some 1 := by kernel_rfl
@[simp] theorem isAg_82 : isAg Tryd.prog 82 = some false := by kernel_rfl
@[simp] theorem zOf_82 : zOf Tryd.prog 82 = some Value.nilFunc := by kernel_rfl
attribute [simp] Tryd.underlying83
@[simp] theorem szOf_83 : szOf Tryd.prog 83 = some 1 := by kernel_rfl
@[simp] theorem isAg_83 : isAg Tryd.prog 83 = some false := by kernel_rfl
@[simp] theorem zOf_83 : zOf Tryd.prog 83 = some (Value.tuple #[Value.int IntKind.u8 0, Value.bool false]) := by kernel_rfl
attribute [simp] Tryd.underlying84
@[simp] theorem szOf_84 : szOf Tryd.prog 84 = some 1 := by kernel_rfl
@[simp] theorem isAg_84 : isAg Tryd.prog 84 = some false := by kernel_rfl
@[simp] theorem zOf_84 : zOf Tryd.prog 84 = some Value.nilFunc := by kernel_rfl
attribute [simp] Tryd.underlying85
@[simp] theorem szOf_85 : szOf Tryd.prog 85 = some 1 := by kernel_rfl
@[simp] theorem isAg_85 : isAg Tryd.prog 85 = some false := by kernel_rfl
@[simp] theorem zOf_85 : zOf Tryd.prog 85 = some (Value.tuple #[Value.int IntKind.u16 0, Value.int IntKind.i64 0]) := by kernel_rfl
attribute [simp] Tryd.underlying86
@[simp] theorem szOf_86 : szOf Tryd.prog 86 = some 1 := by kernel_rfl
@[simp] theorem isAg_86 : isAg Tryd.prog 86 = some false := by kernel_rfl
@[simp] theorem zOf_86 : zOf Tryd.prog 86 = some Value.nilFunc := by kernel_rfl
attribute [simp] Tryd.underlying87
@[simp] theorem szOf_87 : szOf Tryd.prog 87 = some 9 := by kernel_rfl
@[simp] theorem isAg_87 : isAg Tryd.prog 87 = some true := by kernel_rfl
@[simp] theorem zOf_87 : zOf Tryd.prog 87 = some (Value.agg #[Value.int IntKind.u16 0, Value.int IntKind.u16 0, Value.int IntKind.u16 0, Value.int IntKind.u16 0, Value.int IntKind.u16 0, Value.int IntKind.u16 0, Value.int IntKind.u16 0, Value.int IntKind.u16 0, Value.int IntKind.u16 0]) := by kernel_rfl
@[simp] theorem stood_87 : Tryd.prog.stoodInHeld 87 = false := by kernel_rfl
@[simp] theorem guard_87 : Tryd.prog.eqGuardType Tryd.prog.depth 87 = false := by kernel_rfl
attribute [simp] Tryd.underlying88
@[simp] theorem szOf_88 : szOf Tryd.prog 88 = some 1 := by kernel_rfl
@[simp] theorem isAg_88 : isAg Tryd.prog 88 = some false := by kernel_rfl
@[simp] theorem zOf_88 : zOf Tryd.prog 88 = some (Value.slice none 0 0) := by kernel_rfl
attribute [simp] Tryd.underlying89
@[simp] theorem szOf_89 : szOf Tryd.prog 89 = some 1 := by kernel_rfl
@[simp] theorem isAg_89 : isAg Tryd.prog 89 = some false := by kernel_rfl
@[simp] theorem zOf_89 : zOf Tryd.prog 89 = some (Value.int IntKind.u8 0) := by kernel_rfl
attribute [simp] Tryd.underlying90
@[simp] theorem szOf_90 : szOf Tryd.prog 90 = some 5 := by kernel_rfl
@[simp] theorem isAg_90 : isAg Tryd.prog 90 = some true := by kernel_rfl
@[simp] theorem zOf_90 : zOf Tryd.prog 90 = some (Value.agg #[Value.int IntKind.u8 0, Value.int IntKind.u16 0, Value.int IntKind.u16 0, Value.int IntKind.u8 0, Value.int IntKind.i64 0]) := by kernel_rfl
@[simp] theorem stood_90 : Tryd.prog.stoodInHeld 90 = false := by kernel_rfl
@[simp] theorem guard_90 : Tryd.prog.eqGuardType Tryd.prog.depth 90 = false := by kernel_rfl
attribute [simp] Tryd.underlying91
@[simp] theorem szOf_91 : szOf Tryd.prog 91 = some 5 := by kernel_rfl
@[simp] theorem isAg_91 : isAg Tryd.prog 91 = some true := by kernel_rfl
@[simp] theorem zOf_91 : zOf Tryd.prog 91 = some (Value.agg #[Value.int IntKind.u8 0, Value.int IntKind.u16 0, Value.int IntKind.u16 0, Value.int IntKind.u8 0, Value.int IntKind.i64 0]) := by kernel_rfl
@[simp] theorem stood_91 : Tryd.prog.stoodInHeld 91 = false := by kernel_rfl
@[simp] theorem guard_91 : Tryd.prog.eqGuardType Tryd.prog.depth 91 = false := by kernel_rfl
attribute [simp] Tryd.underlying92
@[simp] theorem szOf_92 : szOf Tryd.prog 92 = some 1 := by kernel_rfl
@[simp] theorem isAg_92 : isAg Tryd.prog 92 = some false := by kernel_rfl
@[simp] theorem zOf_92 : zOf Tryd.prog 92 = some (Value.tuple #[Value.agg #[Value.int IntKind.u16 0, Value.int IntKind.u16 0, Value.int IntKind.u16 0, Value.int IntKind.u16 0, Value.int IntKind.u16 0, Value.int IntKind.u16 0, Value.int IntKind.u16 0, Value.int IntKind.u16 0, Value.int IntKind.u16 0], Value.agg #[Value.int IntKind.u8 0, Value.int IntKind.u16 0, Value.int IntKind.u16 0, Value.int IntKind.u8 0, Value.int IntKind.i64 0], Value.int IntKind.i64 0]) := by kernel_rfl
attribute [simp] Tryd.underlying93
@[simp] theorem szOf_93 : szOf Tryd.prog 93 = some 1 := by kernel_rfl
@[simp] theorem isAg_93 : isAg Tryd.prog 93 = some false := by kernel_rfl
@[simp] theorem zOf_93 : zOf Tryd.prog 93 = some Value.nilFunc := by kernel_rfl
attribute [simp] Tryd.underlying94
@[simp] theorem szOf_94 : szOf Tryd.prog 94 = some 1 := by kernel_rfl
@[simp] theorem isAg_94 : isAg Tryd.prog 94 = some false := by kernel_rfl
@[simp] theorem zOf_94 : zOf Tryd.prog 94 = some Value.nilFunc := by kernel_rfl
attribute [simp] Tryd.underlying95
@[simp] theorem szOf_95 : szOf Tryd.prog 95 = some 8 := by kernel_rfl
@[simp] theorem isAg_95 : isAg Tryd.prog 95 = some true := by kernel_rfl
@[simp] theorem zOf_95 : zOf Tryd.prog 95 = some (Value.agg #[Value.bool false, Value.bool false, Value.bool false, Value.bool false, Value.bool false, Value.bool false, Value.bool false, Value.bool false]) := by kernel_rfl
@[simp] theorem stood_95 : Tryd.prog.stoodInHeld 95 = false := by kernel_rfl
@[simp] theorem guard_95 : Tryd.prog.eqGuardType Tryd.prog.depth 95 = false := by kernel_rfl
attribute [simp] Tryd.underlying96
@[simp] theorem szOf_96 : szOf Tryd.prog 96 = some 1 := by kernel_rfl
@[simp] theorem isAg_96 : isAg Tryd.prog 96 = some false := by kernel_rfl
@[simp] theorem zOf_96 : zOf Tryd.prog 96 = some Value.nilFunc := by kernel_rfl
attribute [simp] Tryd.underlying97
@[simp] theorem szOf_97 : szOf Tryd.prog 97 = some 2 := by kernel_rfl
@[simp] theorem isAg_97 : isAg Tryd.prog 97 = some true := by kernel_rfl
@[simp] theorem zOf_97 : zOf Tryd.prog 97 = some (Value.agg #[Value.int IntKind.u8 0, Value.int IntKind.u16 0]) := by kernel_rfl
@[simp] theorem stood_97 : Tryd.prog.stoodInHeld 97 = false := by kernel_rfl
@[simp] theorem guard_97 : Tryd.prog.eqGuardType Tryd.prog.depth 97 = false := by kernel_rfl
attribute [simp] Tryd.underlying98
@[simp] theorem szOf_98 : szOf Tryd.prog 98 = some 2 := by kernel_rfl
@[simp] theorem isAg_98 : isAg Tryd.prog 98 = some true := by kernel_rfl
@[simp] theorem zOf_98 : zOf Tryd.prog 98 = some (Value.agg #[Value.int IntKind.u8 0, Value.int IntKind.u16 0]) := by kernel_rfl
@[simp] theorem stood_98 : Tryd.prog.stoodInHeld 98 = false := by kernel_rfl
@[simp] theorem guard_98 : Tryd.prog.eqGuardType Tryd.prog.depth 98 = false := by kernel_rfl
attribute [simp] Tryd.underlying99
@[simp] theorem szOf_99 : szOf Tryd.prog 99 = some 1 := by kernel_rfl
@[simp] theorem isAg_99 : isAg Tryd.prog 99 = some false := by kernel_rfl
@[simp] theorem zOf_99 : zOf Tryd.prog 99 = some (Value.tuple #[Value.agg #[Value.int IntKind.u8 0, Value.int IntKind.u16 0], Value.bool false]) := by kernel_rfl
attribute [simp] Tryd.underlying100
@[simp] theorem szOf_100 : szOf Tryd.prog 100 = some 1 := by kernel_rfl
@[simp] theorem isAg_100 : isAg Tryd.prog 100 = some false := by kernel_rfl
@[simp] theorem zOf_100 : zOf Tryd.prog 100 = some Value.nilIface := by kernel_rfl
attribute [simp] Tryd.underlying101
@[simp] theorem szOf_101 : szOf Tryd.prog 101 = some 1 := by kernel_rfl
@[simp] theorem isAg_101 : isAg Tryd.prog 101 = some false := by kernel_rfl
@[simp] theorem zOf_101 : zOf Tryd.prog 101 = some Value.nilFunc := by kernel_rfl
attribute [simp] Tryd.underlying102
@[simp] theorem szOf_102 : szOf Tryd.prog 102 = some 2 := by kernel_rfl
@[simp] theorem isAg_102 : isAg Tryd.prog 102 = some true := by kernel_rfl
@[simp] theorem zOf_102 : zOf Tryd.prog 102 = some (Value.agg #[Value.int IntKind.u8 0, Value.int IntKind.u8 0]) := by kernel_rfl
@[simp] theorem stood_102 : Tryd.prog.stoodInHeld 102 = false := by kernel_rfl
@[simp] theorem guard_102 : Tryd.prog.eqGuardType Tryd.prog.depth 102 = false := by kernel_rfl
attribute [simp] Tryd.underlying103
@[simp] theorem szOf_103 : szOf Tryd.prog 103 = some 1 := by kernel_rfl
@[simp] theorem isAg_103 : isAg Tryd.prog 103 = some false := by kernel_rfl
@[simp] theorem zOf_103 : zOf Tryd.prog 103 = some Value.nilFunc := by kernel_rfl
attribute [simp] Tryd.underlying104
@[simp] theorem szOf_104 : szOf Tryd.prog 104 = some 1 := by kernel_rfl
@[simp] theorem isAg_104 : isAg Tryd.prog 104 = some false := by kernel_rfl
@[simp] theorem zOf_104 : zOf Tryd.prog 104 = some (Value.int IntKind.u64 0) := by kernel_rfl
attribute [simp] Tryd.underlying105
@[simp] theorem szOf_105 : szOf Tryd.prog 105 = some 1 := by kernel_rfl
@[simp] theorem isAg_105 : isAg Tryd.prog 105 = some false := by kernel_rfl
@[simp] theorem zOf_105 : zOf Tryd.prog 105 = some Value.nilFunc := by kernel_rfl
attribute [simp] Tryd.underlying106
@[simp] theorem szOf_106 : szOf Tryd.prog 106 = some 1 := by kernel_rfl
@[simp] theorem isAg_106 : isAg Tryd.prog 106 = some false := by kernel_rfl
@[simp] theorem zOf_106 : zOf Tryd.prog 106 = some Value.nilFunc := by kernel_rfl
attribute [simp] Tryd.underlying107
@[simp] theorem szOf_107 : szOf Tryd.prog 107 = some 1 := by kernel_rfl
@[simp] theorem isAg_107 : isAg Tryd.prog 107 = some false := by kernel_rfl
@[simp] theorem zOf_107 : zOf Tryd.prog 107 = some (Value.int IntKind.u8 0) := by kernel_rfl
attribute [simp] Tryd.underlying108
@[simp] theorem szOf_108 : szOf Tryd.prog 108 = some 1 := by kernel_rfl
@[simp] theorem isAg_108 : isAg Tryd.prog 108 = some false := by kernel_rfl
@[simp] theorem zOf_108 : zOf Tryd.prog 108 = some (Value.int IntKind.u16 0) := by kernel_rfl
attribute [simp] Tryd.underlying109
@[simp] theorem szOf_109 : szOf Tryd.prog 109 = some 1 := by kernel_rfl
@[simp] theorem isAg_109 : isAg Tryd.prog 109 = some false := by kernel_rfl
@[simp] theorem zOf_109 : zOf Tryd.prog 109 = some Value.nilFunc := by kernel_rfl
attribute [simp] Tryd.underlying110
@[simp] theorem szOf_110 : szOf Tryd.prog 110 = some 1 := by kernel_rfl
@[simp] theorem isAg_110 : isAg Tryd.prog 110 = some false := by kernel_rfl
@[simp] theorem zOf_110 : zOf Tryd.prog 110 = some (Value.pointer none) := by kernel_rfl
attribute [simp] Tryd.underlying111
@[simp] theorem szOf_111 : szOf Tryd.prog 111 = some 2 := by kernel_rfl
@[simp] theorem isAg_111 : isAg Tryd.prog 111 = some true := by kernel_rfl
@[simp] theorem zOf_111 : zOf Tryd.prog 111 = some (Value.agg #[Value.pointer none, Value.slice none 0 0]) := by kernel_rfl
attribute [simp] Tryd.underlying112
@[simp] theorem szOf_112 : szOf Tryd.prog 112 = some 2 := by kernel_rfl
@[simp] theorem isAg_112 : isAg Tryd.prog 112 = some true := by kernel_rfl
@[simp] theorem zOf_112 : zOf Tryd.prog 112 = some (Value.agg #[Value.pointer none, Value.slice none 0 0]) := by kernel_rfl
attribute [simp] Tryd.underlying113
@[simp] theorem szOf_113 : szOf Tryd.prog 113 = some 1 := by kernel_rfl
@[simp] theorem isAg_113 : isAg Tryd.prog 113 = some false := by kernel_rfl
@[simp] theorem zOf_113 : zOf Tryd.prog 113 = some Value.nilFunc := by kernel_rfl
attribute [simp] Tryd.underlying114
@[simp] theorem szOf_114 : szOf Tryd.prog 114 = some 1 := by kernel_rfl
@[simp] theorem isAg_114 : isAg Tryd.prog 114 = some false := by kernel_rfl
@[simp] theorem zOf_114 : zOf Tryd.prog 114 = some Value.nilIface := by kernel_rfl
attribute [simp] Tryd.underlying115
@[simp] theorem szOf_115 : szOf Tryd.prog 115 = some 1 := by kernel_rfl
@[simp] theorem isAg_115 : isAg Tryd.prog 115 = some false := by kernel_rfl
@[simp] theorem zOf_115 : zOf Tryd.prog 115 = some Value.nilIface := by kernel_rfl
attribute [simp] Tryd.underlying116
@[simp] theorem szOf_116 : szOf Tryd.prog 116 = some 1 := by kernel_rfl
@[simp] theorem isAg_116 : isAg Tryd.prog 116 = some false := by kernel_rfl
@[simp] theorem zOf_116 : zOf Tryd.prog 116 = some (Value.tuple #[Value.int IntKind.i64 0, Value.nilIface]) := by kernel_rfl
attribute [simp] Tryd.underlying117
@[simp] theorem szOf_117 : szOf Tryd.prog 117 = some 1 := by kernel_rfl
@[simp] theorem isAg_117 : isAg Tryd.prog 117 = some false := by kernel_rfl
@[simp] theorem zOf_117 : zOf Tryd.prog 117 = some Value.nilFunc := by kernel_rfl
attribute [simp] Tryd.underlying118
@[simp] theorem szOf_118 : szOf Tryd.prog 118 = some 1 := by kernel_rfl
@[simp] theorem isAg_118 : isAg Tryd.prog 118 = some false := by kernel_rfl
@[simp] theorem zOf_118 : zOf Tryd.prog 118 = some Value.nilFunc := by kernel_rfl
attribute [simp] Tryd.underlying119
@[simp] theorem szOf_119 : szOf Tryd.prog 119 = some 1 := by kernel_rfl
@[simp] theorem isAg_119 : isAg Tryd.prog 119 = some false := by kernel_rfl
@[simp] theorem zOf_119 : zOf Tryd.prog 119 = some (Value.map none) := by kernel_rfl
attribute [simp] Tryd.underlying120
@[simp] theorem szOf_120 : szOf Tryd.prog 120 = some 1 := by kernel_rfl
@[simp] theorem isAg_120 : isAg Tryd.prog 120 = some false := by kernel_rfl
@[simp] theorem zOf_120 : zOf Tryd.prog 120 = some Value.nilFunc := by kernel_rfl
attribute [simp] Tryd.underlying121
@[simp] theorem szOf_121 : szOf Tryd.prog 121 = some 1 := by kernel_rfl
@[simp] theorem isAg_121 : isAg Tryd.prog 121 = some false := by kernel_rfl
@[simp] theorem zOf_121 : zOf Tryd.prog 121 = some (Value.pointer none) := by kernel_rfl
attribute [simp] Tryd.underlying122
@[simp] theorem szOf_122 : szOf Tryd.prog 122 = some 2 := by kernel_rfl
@[simp] theorem isAg_122 : isAg Tryd.prog 122 = some true := by kernel_rfl
@[simp] theorem zOf_122 : zOf Tryd.prog 122 = some (Value.agg #[Value.bool false, Value.pointer none]) := by kernel_rfl
@[simp] theorem info_122 : Tryd.prog.info? 122 = some Tryd.t122 := by kernel_rfl
@[simp] theorem zero_122 : Tryd.t122.zero = some (Value.agg #[Value.bool false, Value.pointer none]) := by kernel_rfl
@[simp] theorem size_122 : Tryd.t122.size = 2 := by kernel_rfl
@[simp] theorem bytes_122 : Tryd.t122.bytes = 16 := by kernel_rfl
attribute [simp] Tryd.underlying123
@[simp] theorem szOf_123 : szOf Tryd.prog 123 = some 1 := by kernel_rfl
@[simp] theorem isAg_123 : isAg Tryd.prog 123 = some false := by kernel_rfl
@[simp] theorem zOf_123 : zOf Tryd.prog 123 = some (Value.slice none 0 0) := by kernel_rfl
attribute [simp] Tryd.underlying124
@[simp] theorem szOf_124 : szOf Tryd.prog 124 = some 1 := by kernel_rfl
@[simp] theorem isAg_124 : isAg Tryd.prog 124 = some false := by kernel_rfl
@[simp] theorem zOf_124 : zOf Tryd.prog 124 = some (Value.tuple #[Value.int IntKind.u8 0, Value.bool false]) := by kernel_rfl
attribute [simp] Tryd.underlying125
@[simp] theorem szOf_125 : szOf Tryd.prog 125 = some 1 := by kernel_rfl
@[simp] theorem isAg_125 : isAg Tryd.prog 125 = some false := by kernel_rfl
@[simp] theorem zOf_125 : zOf Tryd.prog 125 = some (Value.tuple #[Value.int IntKind.u16 0, Value.bool false]) := by kernel_rfl
attribute [simp] Tryd.underlying126
@[simp] theorem szOf_126 : szOf Tryd.prog 126 = some 1 := by kernel_rfl
@[simp] theorem isAg_126 : isAg Tryd.prog 126 = some false := by kernel_rfl
@[simp] theorem zOf_126 : zOf Tryd.prog 126 = some Value.nilFunc := by kernel_rfl
attribute [simp] Tryd.underlying127
@[simp] theorem szOf_127 : szOf Tryd.prog 127 = some 1 := by kernel_rfl
@[simp] theorem isAg_127 : isAg Tryd.prog 127 = some false := by kernel_rfl
@[simp] theorem zOf_127 : zOf Tryd.prog 127 = some Value.nilFunc := by kernel_rfl
attribute [simp] Tryd.underlying128
@[simp] theorem szOf_128 : szOf Tryd.prog 128 = some 1 := by kernel_rfl
@[simp] theorem isAg_128 : isAg Tryd.prog 128 = some false := by kernel_rfl
@[simp] theorem zOf_128 : zOf Tryd.prog 128 = some (Value.tuple #[Value.int IntKind.i32 0, Value.int IntKind.i64 0]) := by kernel_rfl
attribute [simp] Tryd.underlying129
@[simp] theorem szOf_129 : szOf Tryd.prog 129 = some 1 := by kernel_rfl
@[simp] theorem isAg_129 : isAg Tryd.prog 129 = some false := by kernel_rfl
@[simp] theorem zOf_129 : zOf Tryd.prog 129 = some Value.nilFunc := by kernel_rfl
attribute [simp] Tryd.underlying130
@[simp] theorem szOf_130 : szOf Tryd.prog 130 = some 1 := by kernel_rfl
@[simp] theorem isAg_130 : isAg Tryd.prog 130 = some false := by kernel_rfl
@[simp] theorem zOf_130 : zOf Tryd.prog 130 = some (Value.tuple #[Value.int IntKind.u16 0, Value.bool false]) := by kernel_rfl
attribute [simp] Tryd.underlying131
@[simp] theorem szOf_131 : szOf Tryd.prog 131 = some 1 := by kernel_rfl
@[simp] theorem isAg_131 : isAg Tryd.prog 131 = some false := by kernel_rfl
@[simp] theorem zOf_131 : zOf Tryd.prog 131 = some Value.nilFunc := by kernel_rfl
attribute [simp] Tryd.underlying132
@[simp] theorem szOf_132 : szOf Tryd.prog 132 = some 1 := by kernel_rfl
@[simp] theorem isAg_132 : isAg Tryd.prog 132 = some false := by kernel_rfl
@[simp] theorem zOf_132 : zOf Tryd.prog 132 = some (Value.tuple #[Value.int IntKind.i64 0, Value.bool false]) := by kernel_rfl
attribute [simp] Tryd.underlying133
@[simp] theorem szOf_133 : szOf Tryd.prog 133 = some 1 := by kernel_rfl
@[simp] theorem isAg_133 : isAg Tryd.prog 133 = some false := by kernel_rfl
@[simp] theorem zOf_133 : zOf Tryd.prog 133 = some Value.nilFunc := by kernel_rfl
attribute [simp] Tryd.underlying134
@[simp] theorem szOf_134 : szOf Tryd.prog 134 = some 1 := by kernel_rfl
@[simp] theorem isAg_134 : isAg Tryd.prog 134 = some false := by kernel_rfl
@[simp] theorem zOf_134 : zOf Tryd.prog 134 = some Value.nilFunc := by kernel_rfl
attribute [simp] Tryd.underlying135
@[simp] theorem szOf_135 : szOf Tryd.prog 135 = some 4 := by kernel_rfl
@[simp] theorem isAg_135 : isAg Tryd.prog 135 = some true := by kernel_rfl
@[simp] theorem zOf_135 : zOf Tryd.prog 135 = some (Value.agg #[Value.int IntKind.u8 0, Value.int IntKind.u8 0, Value.int IntKind.u8 0, Value.int IntKind.u8 0]) := by kernel_rfl
@[simp] theorem stood_135 : Tryd.prog.stoodInHeld 135 = false := by kernel_rfl
@[simp] theorem guard_135 : Tryd.prog.eqGuardType Tryd.prog.depth 135 = false := by kernel_rfl
attribute [simp] Tryd.underlying136
@[simp] theorem szOf_136 : szOf Tryd.prog 136 = some 1 := by kernel_rfl
@[simp] theorem isAg_136 : isAg Tryd.prog 136 = some false := by kernel_rfl
@[simp] theorem zOf_136 : zOf Tryd.prog 136 = some Value.nilFunc := by kernel_rfl
attribute [simp] Tryd.underlying137
@[simp] theorem szOf_137 : szOf Tryd.prog 137 = some 1 := by kernel_rfl
@[simp] theorem isAg_137 : isAg Tryd.prog 137 = some false := by kernel_rfl
@[simp] theorem zOf_137 : zOf Tryd.prog 137 = some Value.nilFunc := by kernel_rfl
attribute [simp] Tryd.underlying138
@[simp] theorem szOf_138 : szOf Tryd.prog 138 = some 1 := by kernel_rfl
@[simp] theorem isAg_138 : isAg Tryd.prog 138 = some false := by kernel_rfl
@[simp] theorem zOf_138 : zOf Tryd.prog 138 = some (Value.tuple #[Value.agg #[Value.int IntKind.u16 0, Value.int IntKind.u16 0, Value.int IntKind.u16 0, Value.int IntKind.u16 0, Value.int IntKind.u16 0, Value.int IntKind.u16 0, Value.int IntKind.u16 0, Value.int IntKind.u16 0, Value.int IntKind.u16 0], Value.agg #[Value.int IntKind.u8 0, Value.int IntKind.u16 0, Value.int IntKind.u16 0, Value.int IntKind.u8 0, Value.int IntKind.i64 0]]) := by kernel_rfl
attribute [simp] Tryd.underlying139
@[simp] theorem szOf_139 : szOf Tryd.prog 139 = some 1 := by kernel_rfl
@[simp] theorem isAg_139 : isAg Tryd.prog 139 = some false := by kernel_rfl
@[simp] theorem zOf_139 : zOf Tryd.prog 139 = some Value.nilFunc := by kernel_rfl
attribute [simp] Tryd.underlying140
@[simp] theorem szOf_140 : szOf Tryd.prog 140 = some 1 := by kernel_rfl
@[simp] theorem isAg_140 : isAg Tryd.prog 140 = some false := by kernel_rfl
@[simp] theorem zOf_140 : zOf Tryd.prog 140 = some Value.nilFunc := by kernel_rfl
attribute [simp] Tryd.underlying141
@[simp] theorem szOf_141 : szOf Tryd.prog 141 = some 1 := by kernel_rfl
@[simp] theorem isAg_141 : isAg Tryd.prog 141 = some false := by kernel_rfl
@[simp] theorem zOf_141 : zOf Tryd.prog 141 = some Value.nilFunc := by kernel_rfl
attribute [simp] Tryd.underlying142
@[simp] theorem szOf_142 : szOf Tryd.prog 142 = some 5 := by kernel_rfl
@[simp] theorem isAg_142 : isAg Tryd.prog 142 = some true := by kernel_rfl
@[simp] theorem zOf_142 : zOf Tryd.prog 142 = some (Value.agg #[Value.int IntKind.u8 0, Value.int IntKind.u16 0, Value.int IntKind.u16 0, Value.int IntKind.u8 0, Value.int IntKind.i64 0]) := by kernel_rfl
@[simp] theorem stood_142 : Tryd.prog.stoodInHeld 142 = false := by kernel_rfl
@[simp] theorem guard_142 : Tryd.prog.eqGuardType Tryd.prog.depth 142 = false := by kernel_rfl
attribute [simp] Tryd.underlying143
@[simp] theorem szOf_143 : szOf Tryd.prog 143 = some 5 := by kernel_rfl
@[simp] theorem isAg_143 : isAg Tryd.prog 143 = some true := by kernel_rfl
@[simp] theorem zOf_143 : zOf Tryd.prog 143 = some (Value.agg #[Value.int IntKind.u8 0, Value.int IntKind.u16 0, Value.int IntKind.u16 0, Value.int IntKind.u8 0, Value.int IntKind.i64 0]) := by kernel_rfl
@[simp] theorem stood_143 : Tryd.prog.stoodInHeld 143 = false := by kernel_rfl
@[simp] theorem guard_143 : Tryd.prog.eqGuardType Tryd.prog.depth 143 = false := by kernel_rfl
attribute [simp] Tryd.underlying144
@[simp] theorem szOf_144 : szOf Tryd.prog 144 = some 1 := by kernel_rfl
@[simp] theorem isAg_144 : isAg Tryd.prog 144 = some false := by kernel_rfl
@[simp] theorem zOf_144 : zOf Tryd.prog 144 = some Value.nilFunc := by kernel_rfl
attribute [simp] Tryd.underlying145
@[simp] theorem szOf_145 : szOf Tryd.prog 145 = some 5 := by kernel_rfl
@[simp] theorem isAg_145 : isAg Tryd.prog 145 = some true := by kernel_rfl
@[simp] theorem zOf_145 : zOf Tryd.prog 145 = some (Value.agg #[Value.int IntKind.u8 0, Value.int IntKind.u16 0, Value.int IntKind.u16 0, Value.int IntKind.u8 0, Value.int IntKind.i64 0]) := by kernel_rfl
@[simp] theorem stood_145 : Tryd.prog.stoodInHeld 145 = false := by kernel_rfl
@[simp] theorem guard_145 : Tryd.prog.eqGuardType Tryd.prog.depth 145 = false := by kernel_rfl
attribute [simp] Tryd.underlying146
@[simp] theorem szOf_146 : szOf Tryd.prog 146 = some 2 := by kernel_rfl
@[simp] theorem isAg_146 : isAg Tryd.prog 146 = some true := by kernel_rfl
@[simp] theorem zOf_146 : zOf Tryd.prog 146 = some (Value.agg #[Value.int IntKind.u16 0, Value.bool false]) := by kernel_rfl
@[simp] theorem stood_146 : Tryd.prog.stoodInHeld 146 = false := by kernel_rfl
@[simp] theorem guard_146 : Tryd.prog.eqGuardType Tryd.prog.depth 146 = false := by kernel_rfl
attribute [simp] Tryd.underlying147
@[simp] theorem szOf_147 : szOf Tryd.prog 147 = some 2 := by kernel_rfl
@[simp] theorem isAg_147 : isAg Tryd.prog 147 = some true := by kernel_rfl
@[simp] theorem zOf_147 : zOf Tryd.prog 147 = some (Value.agg #[Value.int IntKind.u16 0, Value.bool false]) := by kernel_rfl
@[simp] theorem stood_147 : Tryd.prog.stoodInHeld 147 = false := by kernel_rfl
@[simp] theorem guard_147 : Tryd.prog.eqGuardType Tryd.prog.depth 147 = false := by kernel_rfl
attribute [simp] Tryd.underlying148
@[simp] theorem szOf_148 : szOf Tryd.prog 148 = some 1 := by kernel_rfl
@[simp] theorem isAg_148 : isAg Tryd.prog 148 = some false := by kernel_rfl
@[simp] theorem zOf_148 : zOf Tryd.prog 148 = some Value.nilFunc := by kernel_rfl
attribute [simp] Tryd.underlying149
@[simp] theorem szOf_149 : szOf Tryd.prog 149 = some 1 := by kernel_rfl
@[simp] theorem isAg_149 : isAg Tryd.prog 149 = some false := by kernel_rfl
@[simp] theorem zOf_149 : zOf Tryd.prog 149 = some Value.nilFunc := by kernel_rfl
attribute [simp] Tryd.underlying150
@[simp] theorem szOf_150 : szOf Tryd.prog 150 = some 1 := by kernel_rfl
@[simp] theorem isAg_150 : isAg Tryd.prog 150 = some false := by kernel_rfl
@[simp] theorem zOf_150 : zOf Tryd.prog 150 = some Value.nilFunc := by kernel_rfl
attribute [simp] Tryd.underlying151
@[simp] theorem szOf_151 : szOf Tryd.prog 151 = some 1 := by kernel_rfl
@[simp] theorem isAg_151 : isAg Tryd.prog 151 = some false := by kernel_rfl
@[simp] theorem zOf_151 : zOf Tryd.prog 151 = some Value.nilFunc := by kernel_rfl
attribute [simp] Tryd.underlying152
@[simp] theorem szOf_152 : szOf Tryd.prog 152 = some 1 := by kernel_rfl
@[simp] theorem isAg_152 : isAg Tryd.prog 152 = some false := by kernel_rfl
@[simp] theorem zOf_152 : zOf Tryd.prog 152 = some Value.nilFunc := by kernel_rfl
attribute [simp] Tryd.underlying153
@[simp] theorem szOf_153 : szOf Tryd.prog 153 = some 1 := by kernel_rfl
@[simp] theorem isAg_153 : isAg Tryd.prog 153 = some false := by kernel_rfl
@[simp] theorem zOf_153 : zOf Tryd.prog 153 = some Value.nilFunc := by kernel_rfl
attribute [simp] Tryd.underlying154
@[simp] theorem szOf_154 : szOf Tryd.prog 154 = some 1 := by kernel_rfl
@[simp] theorem isAg_154 : isAg Tryd.prog 154 = some false := by kernel_rfl
@[simp] theorem zOf_154 : zOf Tryd.prog 154 = some (Value.tuple #[Value.agg #[Value.int IntKind.u8 0, Value.int IntKind.u16 0, Value.int IntKind.u16 0, Value.int IntKind.u8 0, Value.int IntKind.i64 0], Value.bool false]) := by kernel_rfl
attribute [simp] Tryd.underlying155
@[simp] theorem szOf_155 : szOf Tryd.prog 155 = some 1 := by kernel_rfl
@[simp] theorem isAg_155 : isAg Tryd.prog 155 = some false := by kernel_rfl
@[simp] theorem zOf_155 : zOf Tryd.prog 155 = some Value.nilFunc := by kernel_rfl
attribute [simp] Tryd.underlying156
@[simp] theorem szOf_156 : szOf Tryd.prog 156 = some 1 := by kernel_rfl
@[simp] theorem isAg_156 : isAg Tryd.prog 156 = some false := by kernel_rfl
@[simp] theorem zOf_156 : zOf Tryd.prog 156 = some Value.nilFunc := by kernel_rfl
attribute [simp] Tryd.underlying157
@[simp] theorem szOf_157 : szOf Tryd.prog 157 = some 1 := by kernel_rfl
@[simp] theorem isAg_157 : isAg Tryd.prog 157 = some false := by kernel_rfl
@[simp] theorem zOf_157 : zOf Tryd.prog 157 = some Value.nilFunc := by kernel_rfl
attribute [simp] Tryd.underlying158
@[simp] theorem szOf_158 : szOf Tryd.prog 158 = some 1 := by kernel_rfl
@[simp] theorem isAg_158 : isAg Tryd.prog 158 = some false := by kernel_rfl
@[simp] theorem zOf_158 : zOf Tryd.prog 158 = some (Value.tuple #[Value.int IntKind.u16 0, Value.int IntKind.u16 0]) := by kernel_rfl
attribute [simp] Tryd.underlying159
@[simp] theorem szOf_159 : szOf Tryd.prog 159 = some 1 := by kernel_rfl
@[simp] theorem isAg_159 : isAg Tryd.prog 159 = some false := by kernel_rfl
@[simp] theorem zOf_159 : zOf Tryd.prog 159 = some Value.nilFunc := by kernel_rfl
attribute [simp] Tryd.underlying160
@[simp] theorem szOf_160 : szOf Tryd.prog 160 = some 1 := by kernel_rfl
@[simp] theorem isAg_160 : isAg Tryd.prog 160 = some false := by kernel_rfl
@[simp] theorem zOf_160 : zOf Tryd.prog 160 = some (Value.tuple #[Value.int IntKind.u16 0, Value.int IntKind.u16 0, Value.int IntKind.i64 0]) := by kernel_rfl
attribute [simp] Tryd.underlying161
@[simp] theorem szOf_161 : szOf Tryd.prog 161 = some 1 := by kernel_rfl
@[simp] theorem isAg_161 : isAg Tryd.prog 161 = some false := by kernel_rfl
@[simp] theorem zOf_161 : zOf Tryd.prog 161 = some Value.nilFunc := by kernel_rfl
attribute [simp] Tryd.underlying162
@[simp] theorem szOf_162 : szOf Tryd.prog 162 = some 1 := by kernel_rfl
@[simp] theorem isAg_162 : isAg Tryd.prog 162 = some false := by kernel_rfl
@[simp] theorem zOf_162 : zOf Tryd.prog 162 = some Value.nilFunc := by kernel_rfl
attribute [simp] Tryd.underlying163
@[simp] theorem szOf_163 : szOf Tryd.prog 163 = some 1 := by kernel_rfl
@[simp] theorem isAg_163 : isAg Tryd.prog 163 = some false := by kernel_rfl
@[simp] theorem zOf_163 : zOf Tryd.prog 163 = some Value.nilFunc := by kernel_rfl
attribute [simp] Tryd.underlying164
@[simp] theorem szOf_164 : szOf Tryd.prog 164 = some 1 := by kernel_rfl
@[simp] theorem isAg_164 : isAg Tryd.prog 164 = some false := by kernel_rfl
@[simp] theorem zOf_164 : zOf Tryd.prog 164 = some (Value.pointer none) := by kernel_rfl
attribute [simp] Tryd.underlying165
@[simp] theorem szOf_165 : szOf Tryd.prog 165 = some 1 := by kernel_rfl
@[simp] theorem isAg_165 : isAg Tryd.prog 165 = some false := by kernel_rfl
@[simp] theorem zOf_165 : zOf Tryd.prog 165 = some Value.nilFunc := by kernel_rfl
attribute [simp] Tryd.underlying166
@[simp] theorem szOf_166 : szOf Tryd.prog 166 = some 1 := by kernel_rfl
@[simp] theorem isAg_166 : isAg Tryd.prog 166 = some false := by kernel_rfl
@[simp] theorem zOf_166 : zOf Tryd.prog 166 = some Value.nilFunc := by kernel_rfl
attribute [simp] Tryd.underlying167
@[simp] theorem szOf_167 : szOf Tryd.prog 167 = some 1 := by kernel_rfl
@[simp] theorem isAg_167 : isAg Tryd.prog 167 = some false := by kernel_rfl
@[simp] theorem zOf_167 : zOf Tryd.prog 167 = some Value.nilFunc := by kernel_rfl
attribute [simp] Tryd.underlying168
@[simp] theorem szOf_168 : szOf Tryd.prog 168 = some 1 := by kernel_rfl
@[simp] theorem isAg_168 : isAg Tryd.prog 168 = some false := by kernel_rfl
@[simp] theorem zOf_168 : zOf Tryd.prog 168 = some Value.nilFunc := by kernel_rfl
attribute [simp] Tryd.underlying169
@[simp] theorem szOf_169 : szOf Tryd.prog 169 = some 256 := by kernel_rfl
@[simp] theorem isAg_169 : isAg Tryd.prog 169 = some true := by kernel_rfl
@[simp] theorem stood_169 : Tryd.prog.stoodInHeld 169 = false := by kernel_rfl
@[simp] theorem guard_169 : Tryd.prog.eqGuardType Tryd.prog.depth 169 = false := by kernel_rfl
attribute [simp] Tryd.underlying170
@[simp] theorem szOf_170 : szOf Tryd.prog 170 = some 2 := by kernel_rfl
@[simp] theorem isAg_170 : isAg Tryd.prog 170 = some true := by kernel_rfl
@[simp] theorem zOf_170 : zOf Tryd.prog 170 = some (Value.agg #[Value.int IntKind.u8 0, Value.int IntKind.u8 0]) := by kernel_rfl
@[simp] theorem stood_170 : Tryd.prog.stoodInHeld 170 = false := by kernel_rfl
@[simp] theorem guard_170 : Tryd.prog.eqGuardType Tryd.prog.depth 170 = false := by kernel_rfl
attribute [simp] Tryd.underlying171
@[simp] theorem szOf_171 : szOf Tryd.prog 171 = some 2 := by kernel_rfl
@[simp] theorem isAg_171 : isAg Tryd.prog 171 = some true := by kernel_rfl
@[simp] theorem zOf_171 : zOf Tryd.prog 171 = some (Value.agg #[Value.int IntKind.u8 0, Value.int IntKind.u8 0]) := by kernel_rfl
attribute [simp] Tryd.underlying172
@[simp] theorem szOf_172 : szOf Tryd.prog 172 = some 32 := by kernel_rfl
@[simp] theorem isAg_172 : isAg Tryd.prog 172 = some true := by kernel_rfl
@[simp] theorem zOf_172 : zOf Tryd.prog 172 = some (Value.agg #[Value.int IntKind.u8 0, Value.int IntKind.u8 0, Value.int IntKind.u8 0, Value.int IntKind.u8 0, Value.int IntKind.u8 0, Value.int IntKind.u8 0, Value.int IntKind.u8 0, Value.int IntKind.u8 0, Value.int IntKind.u8 0, Value.int IntKind.u8 0, Value.int IntKind.u8 0, Value.int IntKind.u8 0, Value.int IntKind.u8 0, Value.int IntKind.u8 0, Value.int IntKind.u8 0, Value.int IntKind.u8 0, Value.int IntKind.u8 0, Value.int IntKind.u8 0, Value.int IntKind.u8 0, Value.int IntKind.u8 0, Value.int IntKind.u8 0, Value.int IntKind.u8 0, Value.int IntKind.u8 0, Value.int IntKind.u8 0, Value.int IntKind.u8 0, Value.int IntKind.u8 0, Value.int IntKind.u8 0, Value.int IntKind.u8 0, Value.int IntKind.u8 0, Value.int IntKind.u8 0, Value.int IntKind.u8 0, Value.int IntKind.u8 0]) := by kernel_rfl
@[simp] theorem stood_172 : Tryd.prog.stoodInHeld 172 = false := by kernel_rfl
@[simp] theorem guard_172 : Tryd.prog.eqGuardType Tryd.prog.depth 172 = false := by kernel_rfl
attribute [simp] Tryd.underlying173
@[simp] theorem szOf_173 : szOf Tryd.prog 173 = some 1 := by kernel_rfl
@[simp] theorem isAg_173 : isAg Tryd.prog 173 = some false := by kernel_rfl
@[simp] theorem zOf_173 : zOf Tryd.prog 173 = some Value.nilFunc := by kernel_rfl
attribute [simp] Tryd.underlying174
@[simp] theorem szOf_174 : szOf Tryd.prog 174 = some 1 := by kernel_rfl
@[simp] theorem isAg_174 : isAg Tryd.prog 174 = some false := by kernel_rfl
@[simp] theorem zOf_174 : zOf Tryd.prog 174 = some Value.nilFunc := by kernel_rfl
attribute [simp] Tryd.underlying175
@[simp] theorem szOf_175 : szOf Tryd.prog 175 = some 1 := by kernel_rfl
@[simp] theorem isAg_175 : isAg Tryd.prog 175 = some false := by kernel_rfl
@[simp] theorem zOf_175 : zOf Tryd.prog 175 = some (Value.int IntKind.i64 0) := by kernel_rfl
attribute [simp] Tryd.underlying176
@[simp] theorem szOf_176 : szOf Tryd.prog 176 = some 1 := by kernel_rfl
@[simp] theorem isAg_176 : isAg Tryd.prog 176 = some false := by kernel_rfl
@[simp] theorem zOf_176 : zOf Tryd.prog 176 = some (Value.tuple #[Value.int IntKind.i64 0, Value.int IntKind.i64 0]) := by kernel_rfl
attribute [simp] Tryd.underlying177
@[simp] theorem szOf_177 : szOf Tryd.prog 177 = some 1 := by kernel_rfl
@[simp] theorem isAg_177 : isAg Tryd.prog 177 = some false := by kernel_rfl
@[simp] theorem zOf_177 : zOf Tryd.prog 177 = some Value.nilFunc := by kernel_rfl
attribute [simp] Tryd.underlying178
@[simp] theorem szOf_178 : szOf Tryd.prog 178 = some 1 := by kernel_rfl
@[simp] theorem isAg_178 : isAg Tryd.prog 178 = some false := by kernel_rfl
@[simp] theorem zOf_178 : zOf Tryd.prog 178 = some Value.nilFunc := by kernel_rfl
attribute [simp] Tryd.underlying179
@[simp] theorem szOf_179 : szOf Tryd.prog 179 = some 1 := by kernel_rfl
@[simp] theorem isAg_179 : isAg Tryd.prog 179 = some false := by kernel_rfl
@[simp] theorem zOf_179 : zOf Tryd.prog 179 = some Value.nilFunc := by kernel_rfl
attribute [simp] Tryd.underlying180
@[simp] theorem szOf_180 : szOf Tryd.prog 180 = some 1 := by kernel_rfl
@[simp] theorem isAg_180 : isAg Tryd.prog 180 = some false := by kernel_rfl
@[simp] theorem zOf_180 : zOf Tryd.prog 180 = some Value.nilFunc := by kernel_rfl
attribute [simp] Tryd.underlying181
@[simp] theorem szOf_181 : szOf Tryd.prog 181 = some 1 := by kernel_rfl
@[simp] theorem isAg_181 : isAg Tryd.prog 181 = some false := by kernel_rfl
@[simp] theorem zOf_181 : zOf Tryd.prog 181 = some Value.nilFunc := by kernel_rfl
attribute [simp] Tryd.underlying182
@[simp] theorem szOf_182 : szOf Tryd.prog 182 = some 1 := by kernel_rfl
@[simp] theorem isAg_182 : isAg Tryd.prog 182 = some false := by kernel_rfl
@[simp] theorem zOf_182 : zOf Tryd.prog 182 = some Value.nilFunc := by kernel_rfl
attribute [simp] Tryd.underlying183
@[simp] theorem szOf_183 : szOf Tryd.prog 183 = some 1 := by kernel_rfl
@[simp] theorem isAg_183 : isAg Tryd.prog 183 = some false := by kernel_rfl
@[simp] theorem zOf_183 : zOf Tryd.prog 183 = some (Value.int IntKind.u32 0) := by kernel_rfl
attribute [simp] Tryd.underlying184
@[simp] theorem szOf_184 : szOf Tryd.prog 184 = some 1 := by kernel_rfl
@[simp] theorem isAg_184 : isAg Tryd.prog 184 = some false := by kernel_rfl
@[simp] theorem zOf_184 : zOf Tryd.prog 184 = some Value.nilFunc := by kernel_rfl
attribute [simp] Tryd.underlying185
@[simp] theorem szOf_185 : szOf Tryd.prog 185 = some 1 := by kernel_rfl
@[simp] theorem isAg_185 : isAg Tryd.prog 185 = some false := by kernel_rfl
@[simp] theorem zOf_185 : zOf Tryd.prog 185 = some (Value.int IntKind.u64 0) := by kernel_rfl
attribute [simp] Tryd.underlying186
@[simp] theorem szOf_186 : szOf Tryd.prog 186 = some 1 := by kernel_rfl
@[simp] theorem isAg_186 : isAg Tryd.prog 186 = some false := by kernel_rfl
@[simp] theorem zOf_186 : zOf Tryd.prog 186 = some Value.nilFunc := by kernel_rfl
attribute [simp] Tryd.underlying187
@[simp] theorem szOf_187 : szOf Tryd.prog 187 = some 24 := by kernel_rfl
@[simp] theorem isAg_187 : isAg Tryd.prog 187 = some true := by kernel_rfl
@[simp] theorem zOf_187 : zOf Tryd.prog 187 = some (Value.agg #[Value.int IntKind.u8 0, Value.int IntKind.u8 0, Value.int IntKind.u8 0, Value.int IntKind.u8 0, Value.int IntKind.u8 0, Value.int IntKind.u8 0, Value.int IntKind.u8 0, Value.int IntKind.u8 0, Value.int IntKind.u8 0, Value.int IntKind.u8 0, Value.int IntKind.u8 0, Value.int IntKind.u8 0, Value.int IntKind.u8 0, Value.int IntKind.u8 0, Value.int IntKind.u8 0, Value.int IntKind.u8 0, Value.int IntKind.u8 0, Value.int IntKind.u8 0, Value.int IntKind.u8 0, Value.int IntKind.u8 0, Value.int IntKind.u8 0, Value.int IntKind.u8 0, Value.int IntKind.u8 0, Value.int IntKind.u8 0]) := by kernel_rfl
@[simp] theorem stood_187 : Tryd.prog.stoodInHeld 187 = false := by kernel_rfl
@[simp] theorem guard_187 : Tryd.prog.eqGuardType Tryd.prog.depth 187 = false := by kernel_rfl
attribute [simp] Tryd.underlying188
@[simp] theorem szOf_188 : szOf Tryd.prog 188 = some 1 := by kernel_rfl
@[simp] theorem isAg_188 : isAg Tryd.prog 188 = some false := by kernel_rfl
@[simp] theorem zOf_188 : zOf Tryd.prog 188 = some Value.nilFunc := by kernel_rfl
attribute [simp] Tryd.underlying189
@[simp] theorem szOf_189 : szOf Tryd.prog 189 = some 1 := by kernel_rfl
@[simp] theorem isAg_189 : isAg Tryd.prog 189 = some false := by kernel_rfl
@[simp] theorem zOf_189 : zOf Tryd.prog 189 = some (Value.tuple #[Value.slice none 0 0, Value.string { data := #[] }]) := by kernel_rfl
attribute [simp] Tryd.underlying190
@[simp] theorem szOf_190 : szOf Tryd.prog 190 = some 1 := by kernel_rfl
@[simp] theorem isAg_190 : isAg Tryd.prog 190 = some false := by kernel_rfl
@[simp] theorem zOf_190 : zOf Tryd.prog 190 = some Value.nilFunc := by kernel_rfl
attribute [simp] Tryd.underlying191
@[simp] theorem szOf_191 : szOf Tryd.prog 191 = some 1 := by kernel_rfl
@[simp] theorem isAg_191 : isAg Tryd.prog 191 = some false := by kernel_rfl
@[simp] theorem zOf_191 : zOf Tryd.prog 191 = some (Value.tuple #[Value.int IntKind.u32 0, Value.int IntKind.u32 0]) := by kernel_rfl
attribute [simp] Tryd.underlying192
@[simp] theorem szOf_192 : szOf Tryd.prog 192 = some 1 := by kernel_rfl
@[simp] theorem isAg_192 : isAg Tryd.prog 192 = some false := by kernel_rfl
@[simp] theorem zOf_192 : zOf Tryd.prog 192 = some Value.nilFunc := by kernel_rfl
attribute [simp] Tryd.underlying193
@[simp] theorem szOf_193 : szOf Tryd.prog 193 = some 1 := by kernel_rfl
@[simp] theorem isAg_193 : isAg Tryd.prog 193 = some false := by kernel_rfl
@[simp] theorem zOf_193 : zOf Tryd.prog 193 = some (Value.int IntKind.u64 0) := by kernel_rfl
attribute [simp] Tryd.underlying194
@[simp] theorem szOf_194 : szOf Tryd.prog 194 = some 1 := by kernel_rfl
@[simp] theorem isAg_194 : isAg Tryd.prog 194 = some false := by kernel_rfl
@[simp] theorem zOf_194 : zOf Tryd.prog 194 = some Value.nilFunc := by kernel_rfl
attribute [simp] Tryd.underlying195
@[simp] theorem szOf_195 : szOf Tryd.prog 195 = some 1 := by kernel_rfl
@[simp] theorem isAg_195 : isAg Tryd.prog 195 = some false := by kernel_rfl
@[simp] theorem zOf_195 : zOf Tryd.prog 195 = some Value.nilFunc := by kernel_rfl
attribute [simp] Tryd.underlying196
@[simp] theorem szOf_196 : szOf Tryd.prog 196 = some 1 := by kernel_rfl
@[simp] theorem isAg_196 : isAg Tryd.prog 196 = some false := by kernel_rfl
@[simp] theorem zOf_196 : zOf Tryd.prog 196 = some (Value.pointer none) := by kernel_rfl
attribute [simp] Tryd.underlying197
@[simp] theorem szOf_197 : szOf Tryd.prog 197 = some 1 := by kernel_rfl
@[simp] theorem isAg_197 : isAg Tryd.prog 197 = some false := by kernel_rfl
@[simp] theorem zOf_197 : zOf Tryd.prog 197 = some Value.nilFunc := by kernel_rfl
attribute [simp] Tryd.underlying198
@[simp] theorem szOf_198 : szOf Tryd.prog 198 = some 1 := by kernel_rfl
@[simp] theorem isAg_198 : isAg Tryd.prog 198 = some false := by kernel_rfl
@[simp] theorem zOf_198 : zOf Tryd.prog 198 = some Value.nilFunc := by kernel_rfl
attribute [simp] Tryd.underlying199
@[simp] theorem szOf_199 : szOf Tryd.prog 199 = some 1 := by kernel_rfl
@[simp] theorem isAg_199 : isAg Tryd.prog 199 = some false := by kernel_rfl
@[simp] theorem zOf_199 : zOf Tryd.prog 199 = some Value.nilFunc := by kernel_rfl
attribute [simp] Tryd.underlying200
@[simp] theorem szOf_200 : szOf Tryd.prog 200 = some 20 := by kernel_rfl
@[simp] theorem isAg_200 : isAg Tryd.prog 200 = some true := by kernel_rfl
@[simp] theorem zOf_200 : zOf Tryd.prog 200 = some (Value.agg #[Value.int IntKind.u64 0, Value.int IntKind.u64 0, Value.int IntKind.u64 0, Value.int IntKind.u64 0, Value.int IntKind.u64 0, Value.int IntKind.u64 0, Value.int IntKind.u64 0, Value.int IntKind.u64 0, Value.int IntKind.u64 0, Value.int IntKind.u64 0, Value.int IntKind.u64 0, Value.int IntKind.u64 0, Value.int IntKind.u64 0, Value.int IntKind.u64 0, Value.int IntKind.u64 0, Value.int IntKind.u64 0, Value.int IntKind.u64 0, Value.int IntKind.u64 0, Value.int IntKind.u64 0, Value.int IntKind.u64 0]) := by kernel_rfl
@[simp] theorem stood_200 : Tryd.prog.stoodInHeld 200 = false := by kernel_rfl
@[simp] theorem guard_200 : Tryd.prog.eqGuardType Tryd.prog.depth 200 = false := by kernel_rfl
attribute [simp] Tryd.underlying201
@[simp] theorem szOf_201 : szOf Tryd.prog 201 = some 65 := by kernel_rfl
@[simp] theorem isAg_201 : isAg Tryd.prog 201 = some true := by kernel_rfl
@[simp] theorem zOf_201 : zOf Tryd.prog 201 = some (Value.agg ([Value.int IntKind.u8 0, Value.int IntKind.u8 0, Value.int IntKind.u8 0, Value.int IntKind.u8 0, Value.int IntKind.u8 0, Value.int IntKind.u8 0, Value.int IntKind.u8 0, Value.int IntKind.u8 0, Value.int IntKind.u8 0, Value.int IntKind.u8 0, Value.int IntKind.u8 0, Value.int IntKind.u8 0, Value.int IntKind.u8 0, Value.int IntKind.u8 0, Value.int IntKind.u8 0, Value.int IntKind.u8 0, Value.int IntKind.u8 0, Value.int IntKind.u8 0, Value.int IntKind.u8 0, Value.int IntKind.u8 0, Value.int IntKind.u8 0, Value.int IntKind.u8 0, Value.int IntKind.u8 0, Value.int IntKind.u8 0, Value.int IntKind.u8 0, Value.int IntKind.u8 0, Value.int IntKind.u8 0, Value.int IntKind.u8 0, Value.int IntKind.u8 0, Value.int IntKind.u8 0, Value.int IntKind.u8 0, Value.int IntKind.u8 0].append [Value.int IntKind.u8 0, Value.int IntKind.u8 0, Value.int IntKind.u8 0, Value.int IntKind.u8 0, Value.int IntKind.u8 0, Value.int IntKind.u8 0, Value.int IntKind.u8 0, Value.int IntKind.u8 0, Value.int IntKind.u8 0, Value.int IntKind.u8 0, Value.int IntKind.u8 0, Value.int IntKind.u8 0, Value.int IntKind.u8 0, Value.int IntKind.u8 0, Value.int IntKind.u8 0, Value.int IntKind.u8 0, Value.int IntKind.u8 0, Value.int IntKind.u8 0, Value.int IntKind.u8 0, Value.int IntKind.u8 0, Value.int IntKind.u8 0, Value.int IntKind.u8 0, Value.int IntKind.u8 0, Value.int IntKind.u8 0, Value.int IntKind.u8 0, Value.int IntKind.u8 0, Value.int IntKind.u8 0, Value.int IntKind.u8 0, Value.int IntKind.u8 0, Value.int IntKind.u8 0, Value.int IntKind.u8 0, Value.int IntKind.u8 0, Value.int IntKind.u8 0]).toArray) := by kernel_rfl
@[simp] theorem stood_201 : Tryd.prog.stoodInHeld 201 = false := by kernel_rfl
@[simp] theorem guard_201 : Tryd.prog.eqGuardType Tryd.prog.depth 201 = false := by kernel_rfl
attribute [simp] Tryd.underlying202
@[simp] theorem szOf_202 : szOf Tryd.prog 202 = some 1 := by kernel_rfl
@[simp] theorem isAg_202 : isAg Tryd.prog 202 = some false := by kernel_rfl
@[simp] theorem zOf_202 : zOf Tryd.prog 202 = some Value.nilFunc := by kernel_rfl
attribute [simp] Tryd.underlying203
@[simp] theorem szOf_203 : szOf Tryd.prog 203 = some 1 := by kernel_rfl
@[simp] theorem isAg_203 : isAg Tryd.prog 203 = some false := by kernel_rfl
@[simp] theorem zOf_203 : zOf Tryd.prog 203 = some (Value.pointer none) := by kernel_rfl
attribute [simp] Tryd.underlying204
@[simp] theorem szOf_204 : szOf Tryd.prog 204 = some 1 := by kernel_rfl
@[simp] theorem isAg_204 : isAg Tryd.prog 204 = some false := by kernel_rfl
@[simp] theorem zOf_204 : zOf Tryd.prog 204 = some (Value.tuple #[Value.int IntKind.i64 0, Value.int IntKind.i64 0]) := by kernel_rfl
attribute [simp] Tryd.underlying205
@[simp] theorem szOf_205 : szOf Tryd.prog 205 = some 1 := by kernel_rfl
@[simp] theorem isAg_205 : isAg Tryd.prog 205 = some false := by kernel_rfl
@[simp] theorem zOf_205 : zOf Tryd.prog 205 = some Value.nilFunc := by kernel_rfl
attribute [simp] Tryd.underlying206
@[simp] theorem szOf_206 : szOf Tryd.prog 206 = some 32 := by kernel_rfl
@[simp] theorem isAg_206 : isAg Tryd.prog 206 = some true := by kernel_rfl
@[simp] theorem zOf_206 : zOf Tryd.prog 206 = some (Value.agg #[Value.int IntKind.u8 0, Value.int IntKind.u8 0, Value.int IntKind.u8 0, Value.int IntKind.u8 0, Value.int IntKind.u8 0, Value.int IntKind.u8 0, Value.int IntKind.u8 0, Value.int IntKind.u8 0, Value.int IntKind.u8 0, Value.int IntKind.u8 0, Value.int IntKind.u8 0, Value.int IntKind.u8 0, Value.int IntKind.u8 0, Value.int IntKind.u8 0, Value.int IntKind.u8 0, Value.int IntKind.u8 0, Value.int IntKind.u8 0, Value.int IntKind.u8 0, Value.int IntKind.u8 0, Value.int IntKind.u8 0, Value.int IntKind.u8 0, Value.int IntKind.u8 0, Value.int IntKind.u8 0, Value.int IntKind.u8 0, Value.int IntKind.u8 0, Value.int IntKind.u8 0, Value.int IntKind.u8 0, Value.int IntKind.u8 0, Value.int IntKind.u8 0, Value.int IntKind.u8 0, Value.int IntKind.u8 0, Value.int IntKind.u8 0]) := by kernel_rfl
@[simp] theorem stood_206 : Tryd.prog.stoodInHeld 206 = false := by kernel_rfl
@[simp] theorem guard_206 : Tryd.prog.eqGuardType Tryd.prog.depth 206 = false := by kernel_rfl
attribute [simp] Tryd.underlying207
@[simp] theorem szOf_207 : szOf Tryd.prog 207 = some 64 := by kernel_rfl
@[simp] theorem isAg_207 : isAg Tryd.prog 207 = some true := by kernel_rfl
@[simp] theorem zOf_207 : zOf Tryd.prog 207 = some (Value.agg #[Value.int IntKind.u8 0, Value.int IntKind.u8 0, Value.int IntKind.u8 0, Value.int IntKind.u8 0, Value.int IntKind.u8 0, Value.int IntKind.u8 0, Value.int IntKind.u8 0, Value.int IntKind.u8 0, Value.int IntKind.u8 0, Value.int IntKind.u8 0, Value.int IntKind.u8 0, Value.int IntKind.u8 0, Value.int IntKind.u8 0, Value.int IntKind.u8 0, Value.int IntKind.u8 0, Value.int IntKind.u8 0, Value.int IntKind.u8 0, Value.int IntKind.u8 0, Value.int IntKind.u8 0, Value.int IntKind.u8 0, Value.int IntKind.u8 0, Value.int IntKind.u8 0, Value.int IntKind.u8 0, Value.int IntKind.u8 0, Value.int IntKind.u8 0, Value.int IntKind.u8 0, Value.int IntKind.u8 0, Value.int IntKind.u8 0, Value.int IntKind.u8 0, Value.int IntKind.u8 0, Value.int IntKind.u8 0, Value.int IntKind.u8 0, Value.int IntKind.u8 0, Value.int IntKind.u8 0, Value.int IntKind.u8 0, Value.int IntKind.u8 0, Value.int IntKind.u8 0, Value.int IntKind.u8 0, Value.int IntKind.u8 0, Value.int IntKind.u8 0, Value.int IntKind.u8 0, Value.int IntKind.u8 0, Value.int IntKind.u8 0, Value.int IntKind.u8 0, Value.int IntKind.u8 0, Value.int IntKind.u8 0, Value.int IntKind.u8 0, Value.int IntKind.u8 0, Value.int IntKind.u8 0, Value.int IntKind.u8 0, Value.int IntKind.u8 0, Value.int IntKind.u8 0, Value.int IntKind.u8 0, Value.int IntKind.u8 0, Value.int IntKind.u8 0, Value.int IntKind.u8 0, Value.int IntKind.u8 0, Value.int IntKind.u8 0, Value.int IntKind.u8 0, Value.int IntKind.u8 0, Value.int IntKind.u8 0, Value.int IntKind.u8 0, Value.int IntKind.u8 0, Value.int IntKind.u8 0]) := by kernel_rfl
@[simp] theorem stood_207 : Tryd.prog.stoodInHeld 207 = false := by kernel_rfl
@[simp] theorem guard_207 : Tryd.prog.eqGuardType Tryd.prog.depth 207 = false := by kernel_rfl
attribute [simp] Tryd.underlying208
@[simp] theorem szOf_208 : szOf Tryd.prog 208 = some 4 := by kernel_rfl
@[simp] theorem isAg_208 : isAg Tryd.prog 208 = some true := by kernel_rfl
@[simp] theorem zOf_208 : zOf Tryd.prog 208 = some (Value.agg #[Value.pointer none, Value.pointer none, Value.pointer none, Value.string { data := #[] }]) := by kernel_rfl
attribute [simp] Tryd.underlying209
@[simp] theorem szOf_209 : szOf Tryd.prog 209 = some 4 := by kernel_rfl
@[simp] theorem isAg_209 : isAg Tryd.prog 209 = some true := by kernel_rfl
@[simp] theorem zOf_209 : zOf Tryd.prog 209 = some (Value.agg #[Value.pointer none, Value.pointer none, Value.pointer none, Value.string { data := #[] }]) := by kernel_rfl
attribute [simp] Tryd.underlying210
@[simp] theorem szOf_210 : szOf Tryd.prog 210 = some 0 := by kernel_rfl
@[simp] theorem isAg_210 : isAg Tryd.prog 210 = some true := by kernel_rfl
@[simp] theorem zOf_210 : zOf Tryd.prog 210 = some (Value.agg #[]) := by kernel_rfl
attribute [simp] Tryd.underlying211
@[simp] theorem szOf_211 : szOf Tryd.prog 211 = some 0 := by kernel_rfl
@[simp] theorem isAg_211 : isAg Tryd.prog 211 = some true := by kernel_rfl
@[simp] theorem zOf_211 : zOf Tryd.prog 211 = some (Value.agg #[]) := by kernel_rfl
attribute [simp] Tryd.underlying212
@[simp] theorem szOf_212 : szOf Tryd.prog 212 = some 0 := by kernel_rfl
@[simp] theorem isAg_212 : isAg Tryd.prog 212 = some true := by kernel_rfl
@[simp] theorem zOf_212 : zOf Tryd.prog 212 = some (Value.agg #[]) := by kernel_rfl
attribute [simp] Tryd.underlying213
@[simp] theorem szOf_213 : szOf Tryd.prog 213 = some 1 := by kernel_rfl
@[simp] theorem isAg_213 : isAg Tryd.prog 213 = some false := by kernel_rfl
@[simp] theorem zOf_213 : zOf Tryd.prog 213 = some Value.nilFunc := by kernel_rfl
attribute [simp] Tryd.underlying214
@[simp] theorem szOf_214 : szOf Tryd.prog 214 = some 1 := by kernel_rfl
@[simp] theorem isAg_214 : isAg Tryd.prog 214 = some false := by kernel_rfl
@[simp] theorem zOf_214 : zOf Tryd.prog 214 = some (Value.int IntKind.u8 0) := by kernel_rfl
attribute [simp] Tryd.underlying215
@[simp] theorem szOf_215 : szOf Tryd.prog 215 = some 1 := by kernel_rfl
@[simp] theorem isAg_215 : isAg Tryd.prog 215 = some false := by kernel_rfl
@[simp] theorem zOf_215 : zOf Tryd.prog 215 = some (Value.int IntKind.u8 0) := by kernel_rfl
attribute [simp] Tryd.underlying216
@[simp] theorem szOf_216 : szOf Tryd.prog 216 = some 1 := by kernel_rfl
@[simp] theorem isAg_216 : isAg Tryd.prog 216 = some false := by kernel_rfl
@[simp] theorem zOf_216 : zOf Tryd.prog 216 = some Value.nilFunc := by kernel_rfl
attribute [simp] Tryd.underlying217
@[simp] theorem szOf_217 : szOf Tryd.prog 217 = some 1 := by kernel_rfl
@[simp] theorem isAg_217 : isAg Tryd.prog 217 = some false := by kernel_rfl
@[simp] theorem zOf_217 : zOf Tryd.prog 217 = some (Value.int IntKind.i32 0) := by kernel_rfl
attribute [simp] Tryd.underlying218
@[simp] theorem szOf_218 : szOf Tryd.prog 218 = some 1 := by kernel_rfl
@[simp] theorem isAg_218 : isAg Tryd.prog 218 = some false := by kernel_rfl
@[simp] theorem zOf_218 : zOf Tryd.prog 218 = some (Value.int IntKind.i32 0) := by kernel_rfl
attribute [simp] Tryd.underlying219
@[simp] theorem szOf_219 : szOf Tryd.prog 219 = some 11 := by kernel_rfl
@[simp] theorem isAg_219 : isAg Tryd.prog 219 = some true := by kernel_rfl
@[simp] theorem zOf_219 : zOf Tryd.prog 219 = some (Value.agg #[Value.int IntKind.u64 0, Value.int IntKind.u64 0, Value.int IntKind.u32 0, Value.int IntKind.u8 0, Value.int IntKind.u8 0, Value.int IntKind.u8 0, Value.int IntKind.u8 0, Value.nilFunc, Value.pointer none, Value.int IntKind.i32 0, Value.int IntKind.i32 0]) := by kernel_rfl
attribute [simp] Tryd.underlying220
@[simp] theorem szOf_220 : szOf Tryd.prog 220 = some 11 := by kernel_rfl
@[simp] theorem isAg_220 : isAg Tryd.prog 220 = some true := by kernel_rfl
@[simp] theorem zOf_220 : zOf Tryd.prog 220 = some (Value.agg #[Value.int IntKind.u64 0, Value.int IntKind.u64 0, Value.int IntKind.u32 0, Value.int IntKind.u8 0, Value.int IntKind.u8 0, Value.int IntKind.u8 0, Value.int IntKind.u8 0, Value.nilFunc, Value.pointer none, Value.int IntKind.i32 0, Value.int IntKind.i32 0]) := by kernel_rfl
end Go.Proofs.YtjopikjefpenkaaDoor
