/-
  Facts on the types and functions of the program, each computed by the kernel. Printed by wip/abs/gen.py.
-/
import Derived.Test.YtkdpmjgigknbpaaDoorA17
import Derived.Test.YtkdpmjgigknbpaaDoorProg
import Derived.KernelRfl
namespace Go.Proofs.YtkdpmjgigknbpaaDoor
namespace Abs
theorem ldKind_2 : ldKind Tryd.prog 2 = some none := by kernel_rfl
theorem szOf_2 : szOf Tryd.prog 2 = some 1 := by kernel_rfl
theorem zCells_2 : zCells Tryd.prog 2 = some [.int .i64 0] := by kernel_rfl
theorem isBoolT_2 : isBoolT Tryd.prog 2 = false := by kernel_rfl
theorem isStrT_2 : isStrT Tryd.prog 2 = false := by kernel_rfl
theorem isSlT_2 : isSlT Tryd.prog 2 = false := by kernel_rfl
theorem slEl_2 : slEl Tryd.prog 2 = none := by kernel_rfl
theorem ldKind_3 : ldKind Tryd.prog 3 = some none := by kernel_rfl
theorem szOf_3 : szOf Tryd.prog 3 = some 1 := by kernel_rfl
theorem zCells_3 : zCells Tryd.prog 3 = some [.int .i64 0] := by kernel_rfl
theorem isBoolT_3 : isBoolT Tryd.prog 3 = false := by kernel_rfl
theorem isStrT_3 : isStrT Tryd.prog 3 = false := by kernel_rfl
theorem isSlT_3 : isSlT Tryd.prog 3 = false := by kernel_rfl
theorem slEl_3 : slEl Tryd.prog 3 = none := by kernel_rfl
theorem ldKind_4 : ldKind Tryd.prog 4 = some none := by kernel_rfl
theorem szOf_4 : szOf Tryd.prog 4 = some 1 := by kernel_rfl
theorem zCells_4 : zCells Tryd.prog 4 = some [.bool false] := by kernel_rfl
theorem isBoolT_4 : isBoolT Tryd.prog 4 = true := by kernel_rfl
theorem isStrT_4 : isStrT Tryd.prog 4 = false := by kernel_rfl
theorem isSlT_4 : isSlT Tryd.prog 4 = false := by kernel_rfl
theorem slEl_4 : slEl Tryd.prog 4 = none := by kernel_rfl
theorem ldKind_5 : ldKind Tryd.prog 5 = some none := by kernel_rfl
theorem szOf_5 : szOf Tryd.prog 5 = some 1 := by kernel_rfl
theorem zCells_5 : zCells Tryd.prog 5 = some [.int .u8 0] := by kernel_rfl
theorem isBoolT_5 : isBoolT Tryd.prog 5 = false := by kernel_rfl
theorem isStrT_5 : isStrT Tryd.prog 5 = false := by kernel_rfl
theorem isSlT_5 : isSlT Tryd.prog 5 = false := by kernel_rfl
theorem slEl_5 : slEl Tryd.prog 5 = none := by kernel_rfl
theorem ldKind_9 : ldKind Tryd.prog 9 = some none := by kernel_rfl
theorem szOf_9 : szOf Tryd.prog 9 = some 1 := by kernel_rfl
theorem zCells_9 : zCells Tryd.prog 9 = some [.string ⟨#[]⟩] := by kernel_rfl
theorem isBoolT_9 : isBoolT Tryd.prog 9 = false := by kernel_rfl
theorem isStrT_9 : isStrT Tryd.prog 9 = true := by kernel_rfl
theorem isSlT_9 : isSlT Tryd.prog 9 = false := by kernel_rfl
theorem slEl_9 : slEl Tryd.prog 9 = none := by kernel_rfl
theorem ldKind_12 : ldKind Tryd.prog 12 = some none := by kernel_rfl
theorem szOf_12 : szOf Tryd.prog 12 = some 1 := by kernel_rfl
theorem zCells_12 : zCells Tryd.prog 12 = some [.int .u64 0] := by kernel_rfl
theorem isBoolT_12 : isBoolT Tryd.prog 12 = false := by kernel_rfl
theorem isStrT_12 : isStrT Tryd.prog 12 = false := by kernel_rfl
theorem isSlT_12 : isSlT Tryd.prog 12 = false := by kernel_rfl
theorem slEl_12 : slEl Tryd.prog 12 = none := by kernel_rfl
theorem ldKind_21 : ldKind Tryd.prog 21 = some none := by kernel_rfl
theorem szOf_21 : szOf Tryd.prog 21 = some 1 := by kernel_rfl
theorem zCells_21 : zCells Tryd.prog 21 = some [.int .i32 0] := by kernel_rfl
theorem isBoolT_21 : isBoolT Tryd.prog 21 = false := by kernel_rfl
theorem isStrT_21 : isStrT Tryd.prog 21 = false := by kernel_rfl
theorem isSlT_21 : isSlT Tryd.prog 21 = false := by kernel_rfl
theorem slEl_21 : slEl Tryd.prog 21 = none := by kernel_rfl
theorem ldKind_22 : ldKind Tryd.prog 22 = some none := by kernel_rfl
theorem szOf_22 : szOf Tryd.prog 22 = some 1 := by kernel_rfl
theorem zCells_22 : zCells Tryd.prog 22 = some [.slice none 0 0] := by kernel_rfl
theorem isBoolT_22 : isBoolT Tryd.prog 22 = false := by kernel_rfl
theorem isStrT_22 : isStrT Tryd.prog 22 = false := by kernel_rfl
theorem isSlT_22 : isSlT Tryd.prog 22 = true := by kernel_rfl
theorem slEl_22 : slEl Tryd.prog 22 = some (1, 16) := by kernel_rfl
theorem slZero_22 : slZero Tryd.prog 22 = some [.string ⟨#[]⟩] := by kernel_rfl
theorem ldKind_25 : ldKind Tryd.prog 25 = some (some 16) := by kernel_rfl
theorem szOf_25 : szOf Tryd.prog 25 = some 16 := by kernel_rfl
theorem zCells_25 : zCells Tryd.prog 25 = some [.int .u8 0, .int .u8 0, .int .u8 0, .int .u8 0, .int .u8 0, .int .u8 0, .int .u8 0, .int .u8 0, .int .u8 0, .int .u8 0, .int .u8 0, .int .u8 0, .int .u8 0, .int .u8 0, .int .u8 0, .int .u8 0] := by kernel_rfl
theorem isBoolT_25 : isBoolT Tryd.prog 25 = false := by kernel_rfl
theorem isStrT_25 : isStrT Tryd.prog 25 = false := by kernel_rfl
theorem isSlT_25 : isSlT Tryd.prog 25 = false := by kernel_rfl
theorem slEl_25 : slEl Tryd.prog 25 = none := by kernel_rfl
theorem arEl_25 : arEl Tryd.prog 25 = some (16, 1) := by kernel_rfl
theorem arInt_25 : arInt Tryd.prog 25 = some (16, .u8) := by kernel_rfl
theorem bdOK_25 : bdOK Tryd.prog 25 = true := by kernel_rfl
theorem placeOf_25 (i : Nat) : placeOf Tryd.prog 25 i = some (i * 1, 1) := by kernel_rfl
theorem ldKind_26 : ldKind Tryd.prog 26 = some (some 16) := by kernel_rfl
theorem szOf_26 : szOf Tryd.prog 26 = some 16 := by kernel_rfl
theorem zCells_26 : zCells Tryd.prog 26 = some [.int .u8 0, .int .u8 0, .int .u8 0, .int .u8 0, .int .u8 0, .int .u8 0, .int .u8 0, .int .u8 0, .int .u8 0, .int .u8 0, .int .u8 0, .int .u8 0, .int .u8 0, .int .u8 0, .int .u8 0, .int .u8 0] := by kernel_rfl
theorem isBoolT_26 : isBoolT Tryd.prog 26 = false := by kernel_rfl
theorem isStrT_26 : isStrT Tryd.prog 26 = false := by kernel_rfl
theorem isSlT_26 : isSlT Tryd.prog 26 = false := by kernel_rfl
theorem slEl_26 : slEl Tryd.prog 26 = none := by kernel_rfl
theorem arEl_26 : arEl Tryd.prog 26 = some (16, 1) := by kernel_rfl
theorem arInt_26 : arInt Tryd.prog 26 = some (16, .u8) := by kernel_rfl
theorem bdOK_26 : bdOK Tryd.prog 26 = true := by kernel_rfl
theorem placeOf_26 (i : Nat) : placeOf Tryd.prog 26 i = some (i * 1, 1) := by kernel_rfl
theorem ldKind_30 : ldKind Tryd.prog 30 = some (some 2) := by kernel_rfl
theorem szOf_30 : szOf Tryd.prog 30 = some 2 := by kernel_rfl
theorem zCells_30 : zCells Tryd.prog 30 = some [.int .u8 0, .int .u8 0] := by kernel_rfl
theorem isBoolT_30 : isBoolT Tryd.prog 30 = false := by kernel_rfl
theorem isStrT_30 : isStrT Tryd.prog 30 = false := by kernel_rfl
theorem isSlT_30 : isSlT Tryd.prog 30 = false := by kernel_rfl
theorem slEl_30 : slEl Tryd.prog 30 = none := by kernel_rfl
theorem arEl_30 : arEl Tryd.prog 30 = some (2, 1) := by kernel_rfl
theorem arInt_30 : arInt Tryd.prog 30 = some (2, .u8) := by kernel_rfl
theorem bdOK_30 : bdOK Tryd.prog 30 = true := by kernel_rfl
theorem placeOf_30 (i : Nat) : placeOf Tryd.prog 30 i = some (i * 1, 1) := by kernel_rfl
theorem ldKind_31 : ldKind Tryd.prog 31 = some none := by kernel_rfl
theorem szOf_31 : szOf Tryd.prog 31 = some 1 := by kernel_rfl
theorem zCells_31 : zCells Tryd.prog 31 = some [.slice none 0 0] := by kernel_rfl
theorem isBoolT_31 : isBoolT Tryd.prog 31 = false := by kernel_rfl
theorem isStrT_31 : isStrT Tryd.prog 31 = false := by kernel_rfl
theorem isSlT_31 : isSlT Tryd.prog 31 = true := by kernel_rfl
theorem slEl_31 : slEl Tryd.prog 31 = some (1, 1) := by kernel_rfl
theorem slZero_31 : slZero Tryd.prog 31 = some [.int .u8 0] := by kernel_rfl
theorem ldKind_33 : ldKind Tryd.prog 33 = some (some 32) := by kernel_rfl
theorem szOf_33 : szOf Tryd.prog 33 = some 32 := by kernel_rfl
theorem zCells_33 : zCells Tryd.prog 33 = some [.int .u8 0, .int .u8 0, .int .u8 0, .int .u8 0, .int .u8 0, .int .u8 0, .int .u8 0, .int .u8 0, .int .u8 0, .int .u8 0, .int .u8 0, .int .u8 0, .int .u8 0, .int .u8 0, .int .u8 0, .int .u8 0, .int .u8 0, .int .u8 0, .int .u8 0, .int .u8 0, .int .u8 0, .int .u8 0, .int .u8 0, .int .u8 0, .int .u8 0, .int .u8 0, .int .u8 0, .int .u8 0, .int .u8 0, .int .u8 0, .int .u8 0, .int .u8 0] := by kernel_rfl
theorem isBoolT_33 : isBoolT Tryd.prog 33 = false := by kernel_rfl
theorem isStrT_33 : isStrT Tryd.prog 33 = false := by kernel_rfl
theorem isSlT_33 : isSlT Tryd.prog 33 = false := by kernel_rfl
theorem slEl_33 : slEl Tryd.prog 33 = none := by kernel_rfl
theorem arEl_33 : arEl Tryd.prog 33 = some (32, 1) := by kernel_rfl
theorem arInt_33 : arInt Tryd.prog 33 = some (32, .u8) := by kernel_rfl
theorem bdOK_33 : bdOK Tryd.prog 33 = true := by kernel_rfl
theorem placeOf_33 (i : Nat) : placeOf Tryd.prog 33 i = some (i * 1, 1) := by kernel_rfl
theorem ldKind_38 : ldKind Tryd.prog 38 = some none := by kernel_rfl
theorem szOf_38 : szOf Tryd.prog 38 = some 1 := by kernel_rfl
theorem zCells_38 : zCells Tryd.prog 38 = some [.int .u64 0] := by kernel_rfl
theorem isBoolT_38 : isBoolT Tryd.prog 38 = false := by kernel_rfl
theorem isStrT_38 : isStrT Tryd.prog 38 = false := by kernel_rfl
theorem isSlT_38 : isSlT Tryd.prog 38 = false := by kernel_rfl
theorem slEl_38 : slEl Tryd.prog 38 = none := by kernel_rfl
theorem ldKind_39 : ldKind Tryd.prog 39 = some (some 1) := by kernel_rfl
theorem szOf_39 : szOf Tryd.prog 39 = some 1 := by kernel_rfl
theorem zCells_39 : zCells Tryd.prog 39 = some [.int .u64 0] := by kernel_rfl
theorem isBoolT_39 : isBoolT Tryd.prog 39 = false := by kernel_rfl
theorem isStrT_39 : isStrT Tryd.prog 39 = false := by kernel_rfl
theorem isSlT_39 : isSlT Tryd.prog 39 = false := by kernel_rfl
theorem slEl_39 : slEl Tryd.prog 39 = none := by kernel_rfl
theorem bdOK_39 : bdOK Tryd.prog 39 = true := by kernel_rfl
theorem fOff_39_0 : fOff Tryd.prog 39 0 = some 0 := by kernel_rfl
theorem placeOf_39_0 : placeOf Tryd.prog 39 0 = some (0, 1) := by kernel_rfl
theorem ldKind_40 : ldKind Tryd.prog 40 = some (some 1) := by kernel_rfl
theorem szOf_40 : szOf Tryd.prog 40 = some 1 := by kernel_rfl
theorem zCells_40 : zCells Tryd.prog 40 = some [.int .u64 0] := by kernel_rfl
theorem isBoolT_40 : isBoolT Tryd.prog 40 = false := by kernel_rfl
theorem isStrT_40 : isStrT Tryd.prog 40 = false := by kernel_rfl
theorem isSlT_40 : isSlT Tryd.prog 40 = false := by kernel_rfl
theorem slEl_40 : slEl Tryd.prog 40 = none := by kernel_rfl
theorem bdOK_40 : bdOK Tryd.prog 40 = true := by kernel_rfl
theorem fOff_40_0 : fOff Tryd.prog 40 0 = some 0 := by kernel_rfl
theorem placeOf_40_0 : placeOf Tryd.prog 40 0 = some (0, 1) := by kernel_rfl
theorem ldKind_46 : ldKind Tryd.prog 46 = some none := by kernel_rfl
theorem szOf_46 : szOf Tryd.prog 46 = some 1 := by kernel_rfl
theorem zCells_46 : zCells Tryd.prog 46 = some [.slice none 0 0] := by kernel_rfl
theorem isBoolT_46 : isBoolT Tryd.prog 46 = false := by kernel_rfl
theorem isStrT_46 : isStrT Tryd.prog 46 = false := by kernel_rfl
theorem isSlT_46 : isSlT Tryd.prog 46 = true := by kernel_rfl
theorem slEl_46 : slEl Tryd.prog 46 = some (1, 8) := by kernel_rfl
theorem slZero_46 : slZero Tryd.prog 46 = some [.int .i64 0] := by kernel_rfl
theorem ldKind_55 : ldKind Tryd.prog 55 = some none := by kernel_rfl
theorem szOf_55 : szOf Tryd.prog 55 = some 1 := by kernel_rfl
theorem zCells_55 : zCells Tryd.prog 55 = some [.int .u16 0] := by kernel_rfl
theorem isBoolT_55 : isBoolT Tryd.prog 55 = false := by kernel_rfl
theorem isStrT_55 : isStrT Tryd.prog 55 = false := by kernel_rfl
theorem isSlT_55 : isSlT Tryd.prog 55 = false := by kernel_rfl
theorem slEl_55 : slEl Tryd.prog 55 = none := by kernel_rfl
theorem ldKind_57 : ldKind Tryd.prog 57 = some none := by kernel_rfl
theorem szOf_57 : szOf Tryd.prog 57 = some 1 := by kernel_rfl
theorem zCells_57 : zCells Tryd.prog 57 = some [.int .u32 0] := by kernel_rfl
theorem isBoolT_57 : isBoolT Tryd.prog 57 = false := by kernel_rfl
theorem isStrT_57 : isStrT Tryd.prog 57 = false := by kernel_rfl
theorem isSlT_57 : isSlT Tryd.prog 57 = false := by kernel_rfl
theorem slEl_57 : slEl Tryd.prog 57 = none := by kernel_rfl
theorem ldKind_58 : ldKind Tryd.prog 58 = some (some 8) := by kernel_rfl
theorem szOf_58 : szOf Tryd.prog 58 = some 8 := by kernel_rfl
theorem zCells_58 : zCells Tryd.prog 58 = some [.int .u32 0, .int .u32 0, .int .u32 0, .int .u32 0, .int .u32 0, .int .u32 0, .int .u32 0, .int .u32 0] := by kernel_rfl
theorem isBoolT_58 : isBoolT Tryd.prog 58 = false := by kernel_rfl
theorem isStrT_58 : isStrT Tryd.prog 58 = false := by kernel_rfl
theorem isSlT_58 : isSlT Tryd.prog 58 = false := by kernel_rfl
theorem slEl_58 : slEl Tryd.prog 58 = none := by kernel_rfl
theorem arEl_58 : arEl Tryd.prog 58 = some (8, 1) := by kernel_rfl
theorem arInt_58 : arInt Tryd.prog 58 = some (8, .u32) := by kernel_rfl
theorem bdOK_58 : bdOK Tryd.prog 58 = true := by kernel_rfl
theorem placeOf_58 (i : Nat) : placeOf Tryd.prog 58 i = some (i * 1, 1) := by kernel_rfl
theorem ldKind_59 : ldKind Tryd.prog 59 = some (some 64) := by kernel_rfl
theorem szOf_59 : szOf Tryd.prog 59 = some 64 := by kernel_rfl
theorem zCells_59 : zCells Tryd.prog 59 = some [.int .u8 0, .int .u8 0, .int .u8 0, .int .u8 0, .int .u8 0, .int .u8 0, .int .u8 0, .int .u8 0, .int .u8 0, .int .u8 0, .int .u8 0, .int .u8 0, .int .u8 0, .int .u8 0, .int .u8 0, .int .u8 0, .int .u8 0, .int .u8 0, .int .u8 0, .int .u8 0, .int .u8 0, .int .u8 0, .int .u8 0, .int .u8 0, .int .u8 0, .int .u8 0, .int .u8 0, .int .u8 0, .int .u8 0, .int .u8 0, .int .u8 0, .int .u8 0, .int .u8 0, .int .u8 0, .int .u8 0, .int .u8 0, .int .u8 0, .int .u8 0, .int .u8 0, .int .u8 0, .int .u8 0, .int .u8 0, .int .u8 0, .int .u8 0, .int .u8 0, .int .u8 0, .int .u8 0, .int .u8 0, .int .u8 0, .int .u8 0, .int .u8 0, .int .u8 0, .int .u8 0, .int .u8 0, .int .u8 0, .int .u8 0, .int .u8 0, .int .u8 0, .int .u8 0, .int .u8 0, .int .u8 0, .int .u8 0, .int .u8 0, .int .u8 0] := by kernel_rfl
theorem isBoolT_59 : isBoolT Tryd.prog 59 = false := by kernel_rfl
theorem isStrT_59 : isStrT Tryd.prog 59 = false := by kernel_rfl
theorem isSlT_59 : isSlT Tryd.prog 59 = false := by kernel_rfl
theorem slEl_59 : slEl Tryd.prog 59 = none := by kernel_rfl
theorem arEl_59 : arEl Tryd.prog 59 = some (64, 1) := by kernel_rfl
theorem arInt_59 : arInt Tryd.prog 59 = some (64, .u8) := by kernel_rfl
theorem bdOK_59 : bdOK Tryd.prog 59 = true := by kernel_rfl
theorem placeOf_59 (i : Nat) : placeOf Tryd.prog 59 i = some (i * 1, 1) := by kernel_rfl
theorem ldKind_60 : ldKind Tryd.prog 60 = some (some 73) := by kernel_rfl
theorem szOf_60 : szOf Tryd.prog 60 = some 73 := by kernel_rfl
theorem zCells_60 : zCells Tryd.prog 60 = some [.int .u32 0, .int .u32 0, .int .u32 0, .int .u32 0, .int .u32 0, .int .u32 0, .int .u32 0, .int .u32 0, .int .u8 0, .int .u8 0, .int .u8 0, .int .u8 0, .int .u8 0, .int .u8 0, .int .u8 0, .int .u8 0, .int .u8 0, .int .u8 0, .int .u8 0, .int .u8 0, .int .u8 0, .int .u8 0, .int .u8 0, .int .u8 0, .int .u8 0, .int .u8 0, .int .u8 0, .int .u8 0, .int .u8 0, .int .u8 0, .int .u8 0, .int .u8 0, .int .u8 0, .int .u8 0, .int .u8 0, .int .u8 0, .int .u8 0, .int .u8 0, .int .u8 0, .int .u8 0, .int .u8 0, .int .u8 0, .int .u8 0, .int .u8 0, .int .u8 0, .int .u8 0, .int .u8 0, .int .u8 0, .int .u8 0, .int .u8 0, .int .u8 0, .int .u8 0, .int .u8 0, .int .u8 0, .int .u8 0, .int .u8 0, .int .u8 0, .int .u8 0, .int .u8 0, .int .u8 0, .int .u8 0, .int .u8 0, .int .u8 0, .int .u8 0, .int .u8 0, .int .u8 0, .int .u8 0, .int .u8 0, .int .u8 0, .int .u8 0, .int .u8 0, .int .u8 0, .int .u64 0] := by kernel_rfl
theorem isBoolT_60 : isBoolT Tryd.prog 60 = false := by kernel_rfl
theorem isStrT_60 : isStrT Tryd.prog 60 = false := by kernel_rfl
theorem isSlT_60 : isSlT Tryd.prog 60 = false := by kernel_rfl
theorem slEl_60 : slEl Tryd.prog 60 = none := by kernel_rfl
theorem bdOK_60 : bdOK Tryd.prog 60 = true := by kernel_rfl
theorem fOff_60_0 : fOff Tryd.prog 60 0 = some 0 := by kernel_rfl
theorem placeOf_60_0 : placeOf Tryd.prog 60 0 = some (0, 8) := by kernel_rfl
theorem fOff_60_1 : fOff Tryd.prog 60 1 = some 8 := by kernel_rfl
theorem placeOf_60_1 : placeOf Tryd.prog 60 1 = some (8, 64) := by kernel_rfl
theorem fOff_60_2 : fOff Tryd.prog 60 2 = some 72 := by kernel_rfl
theorem placeOf_60_2 : placeOf Tryd.prog 60 2 = some (72, 1) := by kernel_rfl
theorem ldKind_61 : ldKind Tryd.prog 61 = some (some 73) := by kernel_rfl
theorem szOf_61 : szOf Tryd.prog 61 = some 73 := by kernel_rfl
theorem zCells_61 : zCells Tryd.prog 61 = some [.int .u32 0, .int .u32 0, .int .u32 0, .int .u32 0, .int .u32 0, .int .u32 0, .int .u32 0, .int .u32 0, .int .u8 0, .int .u8 0, .int .u8 0, .int .u8 0, .int .u8 0, .int .u8 0, .int .u8 0, .int .u8 0, .int .u8 0, .int .u8 0, .int .u8 0, .int .u8 0, .int .u8 0, .int .u8 0, .int .u8 0, .int .u8 0, .int .u8 0, .int .u8 0, .int .u8 0, .int .u8 0, .int .u8 0, .int .u8 0, .int .u8 0, .int .u8 0, .int .u8 0, .int .u8 0, .int .u8 0, .int .u8 0, .int .u8 0, .int .u8 0, .int .u8 0, .int .u8 0, .int .u8 0, .int .u8 0, .int .u8 0, .int .u8 0, .int .u8 0, .int .u8 0, .int .u8 0, .int .u8 0, .int .u8 0, .int .u8 0, .int .u8 0, .int .u8 0, .int .u8 0, .int .u8 0, .int .u8 0, .int .u8 0, .int .u8 0, .int .u8 0, .int .u8 0, .int .u8 0, .int .u8 0, .int .u8 0, .int .u8 0, .int .u8 0, .int .u8 0, .int .u8 0, .int .u8 0, .int .u8 0, .int .u8 0, .int .u8 0, .int .u8 0, .int .u8 0, .int .u64 0] := by kernel_rfl
theorem isBoolT_61 : isBoolT Tryd.prog 61 = false := by kernel_rfl
theorem isStrT_61 : isStrT Tryd.prog 61 = false := by kernel_rfl
theorem isSlT_61 : isSlT Tryd.prog 61 = false := by kernel_rfl
theorem slEl_61 : slEl Tryd.prog 61 = none := by kernel_rfl
theorem bdOK_61 : bdOK Tryd.prog 61 = true := by kernel_rfl
theorem fOff_61_0 : fOff Tryd.prog 61 0 = some 0 := by kernel_rfl
theorem placeOf_61_0 : placeOf Tryd.prog 61 0 = some (0, 8) := by kernel_rfl
theorem fOff_61_1 : fOff Tryd.prog 61 1 = some 8 := by kernel_rfl
theorem placeOf_61_1 : placeOf Tryd.prog 61 1 = some (8, 64) := by kernel_rfl
theorem fOff_61_2 : fOff Tryd.prog 61 2 = some 72 := by kernel_rfl
theorem placeOf_61_2 : placeOf Tryd.prog 61 2 = some (72, 1) := by kernel_rfl
theorem ldKind_72 : ldKind Tryd.prog 72 = some none := by kernel_rfl
theorem szOf_72 : szOf Tryd.prog 72 = some 1 := by kernel_rfl
theorem zCells_72 : zCells Tryd.prog 72 = some [.int .u64 0] := by kernel_rfl
theorem isBoolT_72 : isBoolT Tryd.prog 72 = false := by kernel_rfl
theorem isStrT_72 : isStrT Tryd.prog 72 = false := by kernel_rfl
theorem isSlT_72 : isSlT Tryd.prog 72 = false := by kernel_rfl
theorem slEl_72 : slEl Tryd.prog 72 = none := by kernel_rfl
theorem ldKind_75 : ldKind Tryd.prog 75 = some (some 64) := by kernel_rfl
theorem szOf_75 : szOf Tryd.prog 75 = some 64 := by kernel_rfl
theorem zCells_75 : zCells Tryd.prog 75 = some [.int .u32 0, .int .u32 0, .int .u32 0, .int .u32 0, .int .u32 0, .int .u32 0, .int .u32 0, .int .u32 0, .int .u32 0, .int .u32 0, .int .u32 0, .int .u32 0, .int .u32 0, .int .u32 0, .int .u32 0, .int .u32 0, .int .u32 0, .int .u32 0, .int .u32 0, .int .u32 0, .int .u32 0, .int .u32 0, .int .u32 0, .int .u32 0, .int .u32 0, .int .u32 0, .int .u32 0, .int .u32 0, .int .u32 0, .int .u32 0, .int .u32 0, .int .u32 0, .int .u32 0, .int .u32 0, .int .u32 0, .int .u32 0, .int .u32 0, .int .u32 0, .int .u32 0, .int .u32 0, .int .u32 0, .int .u32 0, .int .u32 0, .int .u32 0, .int .u32 0, .int .u32 0, .int .u32 0, .int .u32 0, .int .u32 0, .int .u32 0, .int .u32 0, .int .u32 0, .int .u32 0, .int .u32 0, .int .u32 0, .int .u32 0, .int .u32 0, .int .u32 0, .int .u32 0, .int .u32 0, .int .u32 0, .int .u32 0, .int .u32 0, .int .u32 0] := by kernel_rfl
theorem isBoolT_75 : isBoolT Tryd.prog 75 = false := by kernel_rfl
theorem isStrT_75 : isStrT Tryd.prog 75 = false := by kernel_rfl
theorem isSlT_75 : isSlT Tryd.prog 75 = false := by kernel_rfl
theorem slEl_75 : slEl Tryd.prog 75 = none := by kernel_rfl
theorem arEl_75 : arEl Tryd.prog 75 = some (64, 1) := by kernel_rfl
theorem arInt_75 : arInt Tryd.prog 75 = some (64, .u32) := by kernel_rfl
theorem bdOK_75 : bdOK Tryd.prog 75 = true := by kernel_rfl
theorem placeOf_75 (i : Nat) : placeOf Tryd.prog 75 i = some (i * 1, 1) := by kernel_rfl
theorem ldKind_79 : ldKind Tryd.prog 79 = some (some 16) := by kernel_rfl
theorem szOf_79 : szOf Tryd.prog 79 = some 16 := by kernel_rfl
theorem zCells_79 : zCells Tryd.prog 79 = some [.int .u64 0, .int .u64 0, .int .u64 0, .int .u64 0, .int .u64 0, .int .u64 0, .int .u64 0, .int .u64 0, .int .u64 0, .int .u64 0, .int .u64 0, .int .u64 0, .int .u64 0, .int .u64 0, .int .u64 0, .int .u64 0] := by kernel_rfl
theorem isBoolT_79 : isBoolT Tryd.prog 79 = false := by kernel_rfl
theorem isStrT_79 : isStrT Tryd.prog 79 = false := by kernel_rfl
theorem isSlT_79 : isSlT Tryd.prog 79 = false := by kernel_rfl
theorem slEl_79 : slEl Tryd.prog 79 = none := by kernel_rfl
theorem arEl_79 : arEl Tryd.prog 79 = some (16, 1) := by kernel_rfl
theorem arInt_79 : arInt Tryd.prog 79 = some (16, .u64) := by kernel_rfl
theorem bdOK_79 : bdOK Tryd.prog 79 = true := by kernel_rfl
theorem placeOf_79 (i : Nat) : placeOf Tryd.prog 79 i = some (i * 1, 1) := by kernel_rfl
theorem ldKind_80 : ldKind Tryd.prog 80 = some (some 4) := by kernel_rfl
theorem szOf_80 : szOf Tryd.prog 80 = some 4 := by kernel_rfl
theorem zCells_80 : zCells Tryd.prog 80 = some [.int .u32 0, .int .u32 0, .int .u32 0, .int .u32 0] := by kernel_rfl
theorem isBoolT_80 : isBoolT Tryd.prog 80 = false := by kernel_rfl
theorem isStrT_80 : isStrT Tryd.prog 80 = false := by kernel_rfl
theorem isSlT_80 : isSlT Tryd.prog 80 = false := by kernel_rfl
theorem slEl_80 : slEl Tryd.prog 80 = none := by kernel_rfl
theorem arEl_80 : arEl Tryd.prog 80 = some (4, 1) := by kernel_rfl
theorem arInt_80 : arInt Tryd.prog 80 = some (4, .u32) := by kernel_rfl
theorem bdOK_80 : bdOK Tryd.prog 80 = true := by kernel_rfl
theorem placeOf_80 (i : Nat) : placeOf Tryd.prog 80 i = some (i * 1, 1) := by kernel_rfl
theorem ldKind_81 : ldKind Tryd.prog 81 = some none := by kernel_rfl
theorem szOf_81 : szOf Tryd.prog 81 = some 1 := by kernel_rfl
theorem zCells_81 : zCells Tryd.prog 81 = some [.slice none 0 0] := by kernel_rfl
theorem isBoolT_81 : isBoolT Tryd.prog 81 = false := by kernel_rfl
theorem isStrT_81 : isStrT Tryd.prog 81 = false := by kernel_rfl
theorem isSlT_81 : isSlT Tryd.prog 81 = true := by kernel_rfl
theorem slEl_81 : slEl Tryd.prog 81 = some (1, 4) := by kernel_rfl
theorem slZero_81 : slZero Tryd.prog 81 = some [.int .u32 0] := by kernel_rfl
theorem ix_sl_22 {K : Res → Prop} {k : IntKind} {i : Int} {tag : Option Nat} {xs : List CV} : ex (indexAddrR Tryd.prog 22 (.v (.int k i)) (.sl tag 1 xs)) K = (0 ≤ i ∧ i.toNat * 1 < xs.length ∧ K (rv (.ep (xs.drop (i.toNat * 1))))) := ex_ix_sl slEl_22
theorem ix_bs_22 {K : Res → Prop} {k : IntKind} {i : Int} {q off len : Nat} : ex (indexAddrR Tryd.prog 22 (.v (.int k i)) (.bs q off len)) K = (0 ≤ i ∧ i < len ∧ K (rv (.bp q (off + i.toNat)))) := ex_ix_bs slEl_22
theorem len_sl_22 {K : Res → Prop} {tag : Option Nat} {xs : List CV} : ex (lenR Tryd.prog 22 (.sl tag 1 xs)) K = (0 < 1 ∧ K (rv (.v (.int .i64 (xs.length / 1 : Nat))))) := ex_len_sl slEl_22
theorem len_cl_22 {K : Res → Prop} {xs : List CV} : ex (lenR Tryd.prog 22 (.cl 1 xs)) K = (0 < 1 ∧ K (rv (.v (.int .i64 (xs.length / 1 : Nat))))) := ex_len_cl slEl_22
theorem bslice0_22 {K : Res → Prop} {d : Option Nat} : ex (buildSliceR Tryd.prog 22 d 0 []) K = K (rv (.emp 1)) := ex_bslice0 slEl_22
theorem bslice_22 {K : Res → Prop} {n m : Nat} {parts : List (Nat × AV)} : ex (buildSliceR Tryd.prog 22 (some n) (m + 1) parts) K = ((0 < 1 ∧ (m + 1) * 1 ≤ 16777216) ∧ exRows n 1 ((repeatL [.string ⟨#[]⟩] (m + 1)).map .v) (partsV parts) K) := ex_bslice slEl_22 slZero_22
theorem ix_bp_25 {K : Res → Prop} {k : IntKind} {i : Int} {q off : Nat} : ex (indexAddrR Tryd.prog 25 (.v (.int k i)) (.bp q off)) K = (0 ≤ i ∧ i < (16 : Nat) ∧ K (rv (.bp q (off + i.toNat * 1)))) := ex_ix_bp arEl_25
theorem ix_ep_25 {K : Res → Prop} {k : IntKind} {i : Int} {xs : List CV} : ex (indexAddrR Tryd.prog 25 (.v (.int k i)) (.ep xs)) K = (0 ≤ i ∧ i < (16 : Nat) ∧ K (rv (.ep (xs.drop (i.toNat * 1))))) := ex_ix_ep arEl_25
theorem sl_bp_25 {K : Res → Prop} {lo hi : Option AV} {k off : Nat} : ex (sliceR Tryd.prog 25 lo hi none (.bp k off)) K = (bndOK lo ∧ bndOK hi ∧ bnd 0 lo ≤ bnd 16 hi ∧ bnd 16 hi ≤ 16 ∧ bnd 0 lo < 16 ∧ K (rv (.bs k (off + bnd 0 lo) (bnd 16 hi - bnd 0 lo)))) := ex_slice_bp arEl_25
theorem sl_ep_25 {K : Res → Prop} {lo hi : Option AV} {xs : List CV} : ex (sliceR Tryd.prog 25 lo hi none (.ep xs)) K = (bndOK lo ∧ bndOK hi ∧ bnd 0 lo ≤ bnd 16 hi ∧ bnd 16 hi ≤ 16 ∧ 16 ≤ xs.length ∧ K (rv (.sl none 1 ((xs.take (bnd 16 hi)).drop (bnd 0 lo))))) := ex_slice_ep arEl_25
theorem ix_agg_25 {K : Res → Prop} {k : IntKind} {i : Int} {cs : Array Value} : ex (indexR Tryd.prog 25 (.v (.int k i)) (.v (.agg cs))) K = (0 ≤ i ∧ i < (16 : Nat) ∧ exIx (cs.toList[i.toNat]?) K) := ex_index_agg arInt_25
theorem build_25 {K : Res → Prop} {parts : List (Nat × AV)} : ex (buildR Tryd.prog 25 parts) K = exParts (placeOf Tryd.prog 25) [.int .u8 0, .int .u8 0, .int .u8 0, .int .u8 0, .int .u8 0, .int .u8 0, .int .u8 0, .int .u8 0, .int .u8 0, .int .u8 0, .int .u8 0, .int .u8 0, .int .u8 0, .int .u8 0, .int .u8 0, .int .u8 0] (partsV parts) K := ex_build zCells_25 bdOK_25
theorem ix_bp_26 {K : Res → Prop} {k : IntKind} {i : Int} {q off : Nat} : ex (indexAddrR Tryd.prog 26 (.v (.int k i)) (.bp q off)) K = (0 ≤ i ∧ i < (16 : Nat) ∧ K (rv (.bp q (off + i.toNat * 1)))) := ex_ix_bp arEl_26
theorem ix_ep_26 {K : Res → Prop} {k : IntKind} {i : Int} {xs : List CV} : ex (indexAddrR Tryd.prog 26 (.v (.int k i)) (.ep xs)) K = (0 ≤ i ∧ i < (16 : Nat) ∧ K (rv (.ep (xs.drop (i.toNat * 1))))) := ex_ix_ep arEl_26
theorem sl_bp_26 {K : Res → Prop} {lo hi : Option AV} {k off : Nat} : ex (sliceR Tryd.prog 26 lo hi none (.bp k off)) K = (bndOK lo ∧ bndOK hi ∧ bnd 0 lo ≤ bnd 16 hi ∧ bnd 16 hi ≤ 16 ∧ bnd 0 lo < 16 ∧ K (rv (.bs k (off + bnd 0 lo) (bnd 16 hi - bnd 0 lo)))) := ex_slice_bp arEl_26
theorem sl_ep_26 {K : Res → Prop} {lo hi : Option AV} {xs : List CV} : ex (sliceR Tryd.prog 26 lo hi none (.ep xs)) K = (bndOK lo ∧ bndOK hi ∧ bnd 0 lo ≤ bnd 16 hi ∧ bnd 16 hi ≤ 16 ∧ 16 ≤ xs.length ∧ K (rv (.sl none 1 ((xs.take (bnd 16 hi)).drop (bnd 0 lo))))) := ex_slice_ep arEl_26
theorem ix_agg_26 {K : Res → Prop} {k : IntKind} {i : Int} {cs : Array Value} : ex (indexR Tryd.prog 26 (.v (.int k i)) (.v (.agg cs))) K = (0 ≤ i ∧ i < (16 : Nat) ∧ exIx (cs.toList[i.toNat]?) K) := ex_index_agg arInt_26
theorem build_26 {K : Res → Prop} {parts : List (Nat × AV)} : ex (buildR Tryd.prog 26 parts) K = exParts (placeOf Tryd.prog 26) [.int .u8 0, .int .u8 0, .int .u8 0, .int .u8 0, .int .u8 0, .int .u8 0, .int .u8 0, .int .u8 0, .int .u8 0, .int .u8 0, .int .u8 0, .int .u8 0, .int .u8 0, .int .u8 0, .int .u8 0, .int .u8 0] (partsV parts) K := ex_build zCells_26 bdOK_26
theorem ix_bp_30 {K : Res → Prop} {k : IntKind} {i : Int} {q off : Nat} : ex (indexAddrR Tryd.prog 30 (.v (.int k i)) (.bp q off)) K = (0 ≤ i ∧ i < (2 : Nat) ∧ K (rv (.bp q (off + i.toNat * 1)))) := ex_ix_bp arEl_30
theorem ix_ep_30 {K : Res → Prop} {k : IntKind} {i : Int} {xs : List CV} : ex (indexAddrR Tryd.prog 30 (.v (.int k i)) (.ep xs)) K = (0 ≤ i ∧ i < (2 : Nat) ∧ K (rv (.ep (xs.drop (i.toNat * 1))))) := ex_ix_ep arEl_30
theorem sl_bp_30 {K : Res → Prop} {lo hi : Option AV} {k off : Nat} : ex (sliceR Tryd.prog 30 lo hi none (.bp k off)) K = (bndOK lo ∧ bndOK hi ∧ bnd 0 lo ≤ bnd 2 hi ∧ bnd 2 hi ≤ 2 ∧ bnd 0 lo < 2 ∧ K (rv (.bs k (off + bnd 0 lo) (bnd 2 hi - bnd 0 lo)))) := ex_slice_bp arEl_30
theorem sl_ep_30 {K : Res → Prop} {lo hi : Option AV} {xs : List CV} : ex (sliceR Tryd.prog 30 lo hi none (.ep xs)) K = (bndOK lo ∧ bndOK hi ∧ bnd 0 lo ≤ bnd 2 hi ∧ bnd 2 hi ≤ 2 ∧ 2 ≤ xs.length ∧ K (rv (.sl none 1 ((xs.take (bnd 2 hi)).drop (bnd 0 lo))))) := ex_slice_ep arEl_30
theorem ix_agg_30 {K : Res → Prop} {k : IntKind} {i : Int} {cs : Array Value} : ex (indexR Tryd.prog 30 (.v (.int k i)) (.v (.agg cs))) K = (0 ≤ i ∧ i < (2 : Nat) ∧ exIx (cs.toList[i.toNat]?) K) := ex_index_agg arInt_30
theorem build_30 {K : Res → Prop} {parts : List (Nat × AV)} : ex (buildR Tryd.prog 30 parts) K = exParts (placeOf Tryd.prog 30) [.int .u8 0, .int .u8 0] (partsV parts) K := ex_build zCells_30 bdOK_30
theorem ix_sl_31 {K : Res → Prop} {k : IntKind} {i : Int} {tag : Option Nat} {xs : List CV} : ex (indexAddrR Tryd.prog 31 (.v (.int k i)) (.sl tag 1 xs)) K = (0 ≤ i ∧ i.toNat * 1 < xs.length ∧ K (rv (.ep (xs.drop (i.toNat * 1))))) := ex_ix_sl slEl_31
theorem ix_bs_31 {K : Res → Prop} {k : IntKind} {i : Int} {q off len : Nat} : ex (indexAddrR Tryd.prog 31 (.v (.int k i)) (.bs q off len)) K = (0 ≤ i ∧ i < len ∧ K (rv (.bp q (off + i.toNat)))) := ex_ix_bs slEl_31
theorem len_sl_31 {K : Res → Prop} {tag : Option Nat} {xs : List CV} : ex (lenR Tryd.prog 31 (.sl tag 1 xs)) K = (0 < 1 ∧ K (rv (.v (.int .i64 (xs.length / 1 : Nat))))) := ex_len_sl slEl_31
theorem len_cl_31 {K : Res → Prop} {xs : List CV} : ex (lenR Tryd.prog 31 (.cl 1 xs)) K = (0 < 1 ∧ K (rv (.v (.int .i64 (xs.length / 1 : Nat))))) := ex_len_cl slEl_31
theorem bslice0_31 {K : Res → Prop} {d : Option Nat} : ex (buildSliceR Tryd.prog 31 d 0 []) K = K (rv (.emp 1)) := ex_bslice0 slEl_31
theorem bslice_31 {K : Res → Prop} {n m : Nat} {parts : List (Nat × AV)} : ex (buildSliceR Tryd.prog 31 (some n) (m + 1) parts) K = ((0 < 1 ∧ (m + 1) * 1 ≤ 16777216) ∧ exRows n 1 ((repeatL [.int .u8 0] (m + 1)).map .v) (partsV parts) K) := ex_bslice slEl_31 slZero_31
theorem ix_bp_33 {K : Res → Prop} {k : IntKind} {i : Int} {q off : Nat} : ex (indexAddrR Tryd.prog 33 (.v (.int k i)) (.bp q off)) K = (0 ≤ i ∧ i < (32 : Nat) ∧ K (rv (.bp q (off + i.toNat * 1)))) := ex_ix_bp arEl_33
theorem ix_ep_33 {K : Res → Prop} {k : IntKind} {i : Int} {xs : List CV} : ex (indexAddrR Tryd.prog 33 (.v (.int k i)) (.ep xs)) K = (0 ≤ i ∧ i < (32 : Nat) ∧ K (rv (.ep (xs.drop (i.toNat * 1))))) := ex_ix_ep arEl_33
theorem sl_bp_33 {K : Res → Prop} {lo hi : Option AV} {k off : Nat} : ex (sliceR Tryd.prog 33 lo hi none (.bp k off)) K = (bndOK lo ∧ bndOK hi ∧ bnd 0 lo ≤ bnd 32 hi ∧ bnd 32 hi ≤ 32 ∧ bnd 0 lo < 32 ∧ K (rv (.bs k (off + bnd 0 lo) (bnd 32 hi - bnd 0 lo)))) := ex_slice_bp arEl_33
theorem sl_ep_33 {K : Res → Prop} {lo hi : Option AV} {xs : List CV} : ex (sliceR Tryd.prog 33 lo hi none (.ep xs)) K = (bndOK lo ∧ bndOK hi ∧ bnd 0 lo ≤ bnd 32 hi ∧ bnd 32 hi ≤ 32 ∧ 32 ≤ xs.length ∧ K (rv (.sl none 1 ((xs.take (bnd 32 hi)).drop (bnd 0 lo))))) := ex_slice_ep arEl_33
theorem ix_agg_33 {K : Res → Prop} {k : IntKind} {i : Int} {cs : Array Value} : ex (indexR Tryd.prog 33 (.v (.int k i)) (.v (.agg cs))) K = (0 ≤ i ∧ i < (32 : Nat) ∧ exIx (cs.toList[i.toNat]?) K) := ex_index_agg arInt_33
theorem build_33 {K : Res → Prop} {parts : List (Nat × AV)} : ex (buildR Tryd.prog 33 parts) K = exParts (placeOf Tryd.prog 33) [.int .u8 0, .int .u8 0, .int .u8 0, .int .u8 0, .int .u8 0, .int .u8 0, .int .u8 0, .int .u8 0, .int .u8 0, .int .u8 0, .int .u8 0, .int .u8 0, .int .u8 0, .int .u8 0, .int .u8 0, .int .u8 0, .int .u8 0, .int .u8 0, .int .u8 0, .int .u8 0, .int .u8 0, .int .u8 0, .int .u8 0, .int .u8 0, .int .u8 0, .int .u8 0, .int .u8 0, .int .u8 0, .int .u8 0, .int .u8 0, .int .u8 0, .int .u8 0] (partsV parts) K := ex_build zCells_33 bdOK_33
theorem build_39 {K : Res → Prop} {parts : List (Nat × AV)} : ex (buildR Tryd.prog 39 parts) K = exParts (placeOf Tryd.prog 39) [.int .u64 0] (partsV parts) K := ex_build zCells_39 bdOK_39
theorem build_40 {K : Res → Prop} {parts : List (Nat × AV)} : ex (buildR Tryd.prog 40 parts) K = exParts (placeOf Tryd.prog 40) [.int .u64 0] (partsV parts) K := ex_build zCells_40 bdOK_40
theorem ix_sl_46 {K : Res → Prop} {k : IntKind} {i : Int} {tag : Option Nat} {xs : List CV} : ex (indexAddrR Tryd.prog 46 (.v (.int k i)) (.sl tag 1 xs)) K = (0 ≤ i ∧ i.toNat * 1 < xs.length ∧ K (rv (.ep (xs.drop (i.toNat * 1))))) := ex_ix_sl slEl_46
theorem ix_bs_46 {K : Res → Prop} {k : IntKind} {i : Int} {q off len : Nat} : ex (indexAddrR Tryd.prog 46 (.v (.int k i)) (.bs q off len)) K = (0 ≤ i ∧ i < len ∧ K (rv (.bp q (off + i.toNat)))) := ex_ix_bs slEl_46
theorem len_sl_46 {K : Res → Prop} {tag : Option Nat} {xs : List CV} : ex (lenR Tryd.prog 46 (.sl tag 1 xs)) K = (0 < 1 ∧ K (rv (.v (.int .i64 (xs.length / 1 : Nat))))) := ex_len_sl slEl_46
theorem len_cl_46 {K : Res → Prop} {xs : List CV} : ex (lenR Tryd.prog 46 (.cl 1 xs)) K = (0 < 1 ∧ K (rv (.v (.int .i64 (xs.length / 1 : Nat))))) := ex_len_cl slEl_46
theorem bslice0_46 {K : Res → Prop} {d : Option Nat} : ex (buildSliceR Tryd.prog 46 d 0 []) K = K (rv (.emp 1)) := ex_bslice0 slEl_46
theorem bslice_46 {K : Res → Prop} {n m : Nat} {parts : List (Nat × AV)} : ex (buildSliceR Tryd.prog 46 (some n) (m + 1) parts) K = ((0 < 1 ∧ (m + 1) * 1 ≤ 16777216) ∧ exRows n 1 ((repeatL [.int .i64 0] (m + 1)).map .v) (partsV parts) K) := ex_bslice slEl_46 slZero_46
theorem ix_bp_58 {K : Res → Prop} {k : IntKind} {i : Int} {q off : Nat} : ex (indexAddrR Tryd.prog 58 (.v (.int k i)) (.bp q off)) K = (0 ≤ i ∧ i < (8 : Nat) ∧ K (rv (.bp q (off + i.toNat * 1)))) := ex_ix_bp arEl_58
theorem ix_ep_58 {K : Res → Prop} {k : IntKind} {i : Int} {xs : List CV} : ex (indexAddrR Tryd.prog 58 (.v (.int k i)) (.ep xs)) K = (0 ≤ i ∧ i < (8 : Nat) ∧ K (rv (.ep (xs.drop (i.toNat * 1))))) := ex_ix_ep arEl_58
theorem sl_bp_58 {K : Res → Prop} {lo hi : Option AV} {k off : Nat} : ex (sliceR Tryd.prog 58 lo hi none (.bp k off)) K = (bndOK lo ∧ bndOK hi ∧ bnd 0 lo ≤ bnd 8 hi ∧ bnd 8 hi ≤ 8 ∧ bnd 0 lo < 8 ∧ K (rv (.bs k (off + bnd 0 lo) (bnd 8 hi - bnd 0 lo)))) := ex_slice_bp arEl_58
theorem sl_ep_58 {K : Res → Prop} {lo hi : Option AV} {xs : List CV} : ex (sliceR Tryd.prog 58 lo hi none (.ep xs)) K = (bndOK lo ∧ bndOK hi ∧ bnd 0 lo ≤ bnd 8 hi ∧ bnd 8 hi ≤ 8 ∧ 8 ≤ xs.length ∧ K (rv (.sl none 1 ((xs.take (bnd 8 hi)).drop (bnd 0 lo))))) := ex_slice_ep arEl_58
theorem ix_agg_58 {K : Res → Prop} {k : IntKind} {i : Int} {cs : Array Value} : ex (indexR Tryd.prog 58 (.v (.int k i)) (.v (.agg cs))) K = (0 ≤ i ∧ i < (8 : Nat) ∧ exIx (cs.toList[i.toNat]?) K) := ex_index_agg arInt_58
theorem build_58 {K : Res → Prop} {parts : List (Nat × AV)} : ex (buildR Tryd.prog 58 parts) K = exParts (placeOf Tryd.prog 58) [.int .u32 0, .int .u32 0, .int .u32 0, .int .u32 0, .int .u32 0, .int .u32 0, .int .u32 0, .int .u32 0] (partsV parts) K := ex_build zCells_58 bdOK_58
theorem ix_bp_59 {K : Res → Prop} {k : IntKind} {i : Int} {q off : Nat} : ex (indexAddrR Tryd.prog 59 (.v (.int k i)) (.bp q off)) K = (0 ≤ i ∧ i < (64 : Nat) ∧ K (rv (.bp q (off + i.toNat * 1)))) := ex_ix_bp arEl_59
theorem ix_ep_59 {K : Res → Prop} {k : IntKind} {i : Int} {xs : List CV} : ex (indexAddrR Tryd.prog 59 (.v (.int k i)) (.ep xs)) K = (0 ≤ i ∧ i < (64 : Nat) ∧ K (rv (.ep (xs.drop (i.toNat * 1))))) := ex_ix_ep arEl_59
theorem sl_bp_59 {K : Res → Prop} {lo hi : Option AV} {k off : Nat} : ex (sliceR Tryd.prog 59 lo hi none (.bp k off)) K = (bndOK lo ∧ bndOK hi ∧ bnd 0 lo ≤ bnd 64 hi ∧ bnd 64 hi ≤ 64 ∧ bnd 0 lo < 64 ∧ K (rv (.bs k (off + bnd 0 lo) (bnd 64 hi - bnd 0 lo)))) := ex_slice_bp arEl_59
theorem sl_ep_59 {K : Res → Prop} {lo hi : Option AV} {xs : List CV} : ex (sliceR Tryd.prog 59 lo hi none (.ep xs)) K = (bndOK lo ∧ bndOK hi ∧ bnd 0 lo ≤ bnd 64 hi ∧ bnd 64 hi ≤ 64 ∧ 64 ≤ xs.length ∧ K (rv (.sl none 1 ((xs.take (bnd 64 hi)).drop (bnd 0 lo))))) := ex_slice_ep arEl_59
theorem ix_agg_59 {K : Res → Prop} {k : IntKind} {i : Int} {cs : Array Value} : ex (indexR Tryd.prog 59 (.v (.int k i)) (.v (.agg cs))) K = (0 ≤ i ∧ i < (64 : Nat) ∧ exIx (cs.toList[i.toNat]?) K) := ex_index_agg arInt_59
theorem build_59 {K : Res → Prop} {parts : List (Nat × AV)} : ex (buildR Tryd.prog 59 parts) K = exParts (placeOf Tryd.prog 59) [.int .u8 0, .int .u8 0, .int .u8 0, .int .u8 0, .int .u8 0, .int .u8 0, .int .u8 0, .int .u8 0, .int .u8 0, .int .u8 0, .int .u8 0, .int .u8 0, .int .u8 0, .int .u8 0, .int .u8 0, .int .u8 0, .int .u8 0, .int .u8 0, .int .u8 0, .int .u8 0, .int .u8 0, .int .u8 0, .int .u8 0, .int .u8 0, .int .u8 0, .int .u8 0, .int .u8 0, .int .u8 0, .int .u8 0, .int .u8 0, .int .u8 0, .int .u8 0, .int .u8 0, .int .u8 0, .int .u8 0, .int .u8 0, .int .u8 0, .int .u8 0, .int .u8 0, .int .u8 0, .int .u8 0, .int .u8 0, .int .u8 0, .int .u8 0, .int .u8 0, .int .u8 0, .int .u8 0, .int .u8 0, .int .u8 0, .int .u8 0, .int .u8 0, .int .u8 0, .int .u8 0, .int .u8 0, .int .u8 0, .int .u8 0, .int .u8 0, .int .u8 0, .int .u8 0, .int .u8 0, .int .u8 0, .int .u8 0, .int .u8 0, .int .u8 0] (partsV parts) K := ex_build zCells_59 bdOK_59
theorem build_60 {K : Res → Prop} {parts : List (Nat × AV)} : ex (buildR Tryd.prog 60 parts) K = exParts (placeOf Tryd.prog 60) [.int .u32 0, .int .u32 0, .int .u32 0, .int .u32 0, .int .u32 0, .int .u32 0, .int .u32 0, .int .u32 0, .int .u8 0, .int .u8 0, .int .u8 0, .int .u8 0, .int .u8 0, .int .u8 0, .int .u8 0, .int .u8 0, .int .u8 0, .int .u8 0, .int .u8 0, .int .u8 0, .int .u8 0, .int .u8 0, .int .u8 0, .int .u8 0, .int .u8 0, .int .u8 0, .int .u8 0, .int .u8 0, .int .u8 0, .int .u8 0, .int .u8 0, .int .u8 0, .int .u8 0, .int .u8 0, .int .u8 0, .int .u8 0, .int .u8 0, .int .u8 0, .int .u8 0, .int .u8 0, .int .u8 0, .int .u8 0, .int .u8 0, .int .u8 0, .int .u8 0, .int .u8 0, .int .u8 0, .int .u8 0, .int .u8 0, .int .u8 0, .int .u8 0, .int .u8 0, .int .u8 0, .int .u8 0, .int .u8 0, .int .u8 0, .int .u8 0, .int .u8 0, .int .u8 0, .int .u8 0, .int .u8 0, .int .u8 0, .int .u8 0, .int .u8 0, .int .u8 0, .int .u8 0, .int .u8 0, .int .u8 0, .int .u8 0, .int .u8 0, .int .u8 0, .int .u8 0, .int .u64 0] (partsV parts) K := ex_build zCells_60 bdOK_60
theorem build_61 {K : Res → Prop} {parts : List (Nat × AV)} : ex (buildR Tryd.prog 61 parts) K = exParts (placeOf Tryd.prog 61) [.int .u32 0, .int .u32 0, .int .u32 0, .int .u32 0, .int .u32 0, .int .u32 0, .int .u32 0, .int .u32 0, .int .u8 0, .int .u8 0, .int .u8 0, .int .u8 0, .int .u8 0, .int .u8 0, .int .u8 0, .int .u8 0, .int .u8 0, .int .u8 0, .int .u8 0, .int .u8 0, .int .u8 0, .int .u8 0, .int .u8 0, .int .u8 0, .int .u8 0, .int .u8 0, .int .u8 0, .int .u8 0, .int .u8 0, .int .u8 0, .int .u8 0, .int .u8 0, .int .u8 0, .int .u8 0, .int .u8 0, .int .u8 0, .int .u8 0, .int .u8 0, .int .u8 0, .int .u8 0, .int .u8 0, .int .u8 0, .int .u8 0, .int .u8 0, .int .u8 0, .int .u8 0, .int .u8 0, .int .u8 0, .int .u8 0, .int .u8 0, .int .u8 0, .int .u8 0, .int .u8 0, .int .u8 0, .int .u8 0, .int .u8 0, .int .u8 0, .int .u8 0, .int .u8 0, .int .u8 0, .int .u8 0, .int .u8 0, .int .u8 0, .int .u8 0, .int .u8 0, .int .u8 0, .int .u8 0, .int .u8 0, .int .u8 0, .int .u8 0, .int .u8 0, .int .u8 0, .int .u64 0] (partsV parts) K := ex_build zCells_61 bdOK_61
theorem ix_bp_75 {K : Res → Prop} {k : IntKind} {i : Int} {q off : Nat} : ex (indexAddrR Tryd.prog 75 (.v (.int k i)) (.bp q off)) K = (0 ≤ i ∧ i < (64 : Nat) ∧ K (rv (.bp q (off + i.toNat * 1)))) := ex_ix_bp arEl_75
theorem ix_ep_75 {K : Res → Prop} {k : IntKind} {i : Int} {xs : List CV} : ex (indexAddrR Tryd.prog 75 (.v (.int k i)) (.ep xs)) K = (0 ≤ i ∧ i < (64 : Nat) ∧ K (rv (.ep (xs.drop (i.toNat * 1))))) := ex_ix_ep arEl_75
theorem sl_bp_75 {K : Res → Prop} {lo hi : Option AV} {k off : Nat} : ex (sliceR Tryd.prog 75 lo hi none (.bp k off)) K = (bndOK lo ∧ bndOK hi ∧ bnd 0 lo ≤ bnd 64 hi ∧ bnd 64 hi ≤ 64 ∧ bnd 0 lo < 64 ∧ K (rv (.bs k (off + bnd 0 lo) (bnd 64 hi - bnd 0 lo)))) := ex_slice_bp arEl_75
theorem sl_ep_75 {K : Res → Prop} {lo hi : Option AV} {xs : List CV} : ex (sliceR Tryd.prog 75 lo hi none (.ep xs)) K = (bndOK lo ∧ bndOK hi ∧ bnd 0 lo ≤ bnd 64 hi ∧ bnd 64 hi ≤ 64 ∧ 64 ≤ xs.length ∧ K (rv (.sl none 1 ((xs.take (bnd 64 hi)).drop (bnd 0 lo))))) := ex_slice_ep arEl_75
theorem ix_agg_75 {K : Res → Prop} {k : IntKind} {i : Int} {cs : Array Value} : ex (indexR Tryd.prog 75 (.v (.int k i)) (.v (.agg cs))) K = (0 ≤ i ∧ i < (64 : Nat) ∧ exIx (cs.toList[i.toNat]?) K) := ex_index_agg arInt_75
theorem build_75 {K : Res → Prop} {parts : List (Nat × AV)} : ex (buildR Tryd.prog 75 parts) K = exParts (placeOf Tryd.prog 75) [.int .u32 0, .int .u32 0, .int .u32 0, .int .u32 0, .int .u32 0, .int .u32 0, .int .u32 0, .int .u32 0, .int .u32 0, .int .u32 0, .int .u32 0, .int .u32 0, .int .u32 0, .int .u32 0, .int .u32 0, .int .u32 0, .int .u32 0, .int .u32 0, .int .u32 0, .int .u32 0, .int .u32 0, .int .u32 0, .int .u32 0, .int .u32 0, .int .u32 0, .int .u32 0, .int .u32 0, .int .u32 0, .int .u32 0, .int .u32 0, .int .u32 0, .int .u32 0, .int .u32 0, .int .u32 0, .int .u32 0, .int .u32 0, .int .u32 0, .int .u32 0, .int .u32 0, .int .u32 0, .int .u32 0, .int .u32 0, .int .u32 0, .int .u32 0, .int .u32 0, .int .u32 0, .int .u32 0, .int .u32 0, .int .u32 0, .int .u32 0, .int .u32 0, .int .u32 0, .int .u32 0, .int .u32 0, .int .u32 0, .int .u32 0, .int .u32 0, .int .u32 0, .int .u32 0, .int .u32 0, .int .u32 0, .int .u32 0, .int .u32 0, .int .u32 0] (partsV parts) K := ex_build zCells_75 bdOK_75
theorem ix_bp_79 {K : Res → Prop} {k : IntKind} {i : Int} {q off : Nat} : ex (indexAddrR Tryd.prog 79 (.v (.int k i)) (.bp q off)) K = (0 ≤ i ∧ i < (16 : Nat) ∧ K (rv (.bp q (off + i.toNat * 1)))) := ex_ix_bp arEl_79
theorem ix_ep_79 {K : Res → Prop} {k : IntKind} {i : Int} {xs : List CV} : ex (indexAddrR Tryd.prog 79 (.v (.int k i)) (.ep xs)) K = (0 ≤ i ∧ i < (16 : Nat) ∧ K (rv (.ep (xs.drop (i.toNat * 1))))) := ex_ix_ep arEl_79
theorem sl_bp_79 {K : Res → Prop} {lo hi : Option AV} {k off : Nat} : ex (sliceR Tryd.prog 79 lo hi none (.bp k off)) K = (bndOK lo ∧ bndOK hi ∧ bnd 0 lo ≤ bnd 16 hi ∧ bnd 16 hi ≤ 16 ∧ bnd 0 lo < 16 ∧ K (rv (.bs k (off + bnd 0 lo) (bnd 16 hi - bnd 0 lo)))) := ex_slice_bp arEl_79
theorem sl_ep_79 {K : Res → Prop} {lo hi : Option AV} {xs : List CV} : ex (sliceR Tryd.prog 79 lo hi none (.ep xs)) K = (bndOK lo ∧ bndOK hi ∧ bnd 0 lo ≤ bnd 16 hi ∧ bnd 16 hi ≤ 16 ∧ 16 ≤ xs.length ∧ K (rv (.sl none 1 ((xs.take (bnd 16 hi)).drop (bnd 0 lo))))) := ex_slice_ep arEl_79
theorem ix_agg_79 {K : Res → Prop} {k : IntKind} {i : Int} {cs : Array Value} : ex (indexR Tryd.prog 79 (.v (.int k i)) (.v (.agg cs))) K = (0 ≤ i ∧ i < (16 : Nat) ∧ exIx (cs.toList[i.toNat]?) K) := ex_index_agg arInt_79
theorem build_79 {K : Res → Prop} {parts : List (Nat × AV)} : ex (buildR Tryd.prog 79 parts) K = exParts (placeOf Tryd.prog 79) [.int .u64 0, .int .u64 0, .int .u64 0, .int .u64 0, .int .u64 0, .int .u64 0, .int .u64 0, .int .u64 0, .int .u64 0, .int .u64 0, .int .u64 0, .int .u64 0, .int .u64 0, .int .u64 0, .int .u64 0, .int .u64 0] (partsV parts) K := ex_build zCells_79 bdOK_79
theorem ix_bp_80 {K : Res → Prop} {k : IntKind} {i : Int} {q off : Nat} : ex (indexAddrR Tryd.prog 80 (.v (.int k i)) (.bp q off)) K = (0 ≤ i ∧ i < (4 : Nat) ∧ K (rv (.bp q (off + i.toNat * 1)))) := ex_ix_bp arEl_80
theorem ix_ep_80 {K : Res → Prop} {k : IntKind} {i : Int} {xs : List CV} : ex (indexAddrR Tryd.prog 80 (.v (.int k i)) (.ep xs)) K = (0 ≤ i ∧ i < (4 : Nat) ∧ K (rv (.ep (xs.drop (i.toNat * 1))))) := ex_ix_ep arEl_80
theorem sl_bp_80 {K : Res → Prop} {lo hi : Option AV} {k off : Nat} : ex (sliceR Tryd.prog 80 lo hi none (.bp k off)) K = (bndOK lo ∧ bndOK hi ∧ bnd 0 lo ≤ bnd 4 hi ∧ bnd 4 hi ≤ 4 ∧ bnd 0 lo < 4 ∧ K (rv (.bs k (off + bnd 0 lo) (bnd 4 hi - bnd 0 lo)))) := ex_slice_bp arEl_80
theorem sl_ep_80 {K : Res → Prop} {lo hi : Option AV} {xs : List CV} : ex (sliceR Tryd.prog 80 lo hi none (.ep xs)) K = (bndOK lo ∧ bndOK hi ∧ bnd 0 lo ≤ bnd 4 hi ∧ bnd 4 hi ≤ 4 ∧ 4 ≤ xs.length ∧ K (rv (.sl none 1 ((xs.take (bnd 4 hi)).drop (bnd 0 lo))))) := ex_slice_ep arEl_80
theorem ix_agg_80 {K : Res → Prop} {k : IntKind} {i : Int} {cs : Array Value} : ex (indexR Tryd.prog 80 (.v (.int k i)) (.v (.agg cs))) K = (0 ≤ i ∧ i < (4 : Nat) ∧ exIx (cs.toList[i.toNat]?) K) := ex_index_agg arInt_80
theorem build_80 {K : Res → Prop} {parts : List (Nat × AV)} : ex (buildR Tryd.prog 80 parts) K = exParts (placeOf Tryd.prog 80) [.int .u32 0, .int .u32 0, .int .u32 0, .int .u32 0] (partsV parts) K := ex_build zCells_80 bdOK_80
theorem ix_sl_81 {K : Res → Prop} {k : IntKind} {i : Int} {tag : Option Nat} {xs : List CV} : ex (indexAddrR Tryd.prog 81 (.v (.int k i)) (.sl tag 1 xs)) K = (0 ≤ i ∧ i.toNat * 1 < xs.length ∧ K (rv (.ep (xs.drop (i.toNat * 1))))) := ex_ix_sl slEl_81
theorem ix_bs_81 {K : Res → Prop} {k : IntKind} {i : Int} {q off len : Nat} : ex (indexAddrR Tryd.prog 81 (.v (.int k i)) (.bs q off len)) K = (0 ≤ i ∧ i < len ∧ K (rv (.bp q (off + i.toNat)))) := ex_ix_bs slEl_81
theorem len_sl_81 {K : Res → Prop} {tag : Option Nat} {xs : List CV} : ex (lenR Tryd.prog 81 (.sl tag 1 xs)) K = (0 < 1 ∧ K (rv (.v (.int .i64 (xs.length / 1 : Nat))))) := ex_len_sl slEl_81
theorem len_cl_81 {K : Res → Prop} {xs : List CV} : ex (lenR Tryd.prog 81 (.cl 1 xs)) K = (0 < 1 ∧ K (rv (.v (.int .i64 (xs.length / 1 : Nat))))) := ex_len_cl slEl_81
theorem bslice0_81 {K : Res → Prop} {d : Option Nat} : ex (buildSliceR Tryd.prog 81 d 0 []) K = K (rv (.emp 1)) := ex_bslice0 slEl_81
theorem bslice_81 {K : Res → Prop} {n m : Nat} {parts : List (Nat × AV)} : ex (buildSliceR Tryd.prog 81 (some n) (m + 1) parts) K = ((0 < 1 ∧ (m + 1) * 1 ≤ 16777216) ∧ exRows n 1 ((repeatL [.int .u32 0] (m + 1)).map .v) (partsV parts) K) := ex_bslice slEl_81 slZero_81
theorem cvt_2_2 : cvt Tryd.prog 2 2 = some (.toInt .i64) := by kernel_rfl
theorem cvt_2_3 : cvt Tryd.prog 2 3 = some (.toInt .i64) := by kernel_rfl
theorem cvt_2_5 : cvt Tryd.prog 2 5 = some (.toInt .u8) := by kernel_rfl
theorem cvt_2_12 : cvt Tryd.prog 2 12 = some (.toInt .u64) := by kernel_rfl
theorem cvt_2_21 : cvt Tryd.prog 2 21 = some (.toInt .i32) := by kernel_rfl
theorem cvt_2_38 : cvt Tryd.prog 2 38 = some (.toInt .u64) := by kernel_rfl
theorem cvt_2_55 : cvt Tryd.prog 2 55 = some (.toInt .u16) := by kernel_rfl
theorem cvt_2_57 : cvt Tryd.prog 2 57 = some (.toInt .u32) := by kernel_rfl
theorem cvt_2_72 : cvt Tryd.prog 2 72 = some (.toInt .u64) := by kernel_rfl
theorem cvt_3_2 : cvt Tryd.prog 3 2 = some (.toInt .i64) := by kernel_rfl
theorem cvt_3_3 : cvt Tryd.prog 3 3 = some (.toInt .i64) := by kernel_rfl
theorem cvt_3_5 : cvt Tryd.prog 3 5 = some (.toInt .u8) := by kernel_rfl
theorem cvt_3_12 : cvt Tryd.prog 3 12 = some (.toInt .u64) := by kernel_rfl
theorem cvt_3_21 : cvt Tryd.prog 3 21 = some (.toInt .i32) := by kernel_rfl
theorem cvt_3_38 : cvt Tryd.prog 3 38 = some (.toInt .u64) := by kernel_rfl
theorem cvt_3_55 : cvt Tryd.prog 3 55 = some (.toInt .u16) := by kernel_rfl
theorem cvt_3_57 : cvt Tryd.prog 3 57 = some (.toInt .u32) := by kernel_rfl
theorem cvt_3_72 : cvt Tryd.prog 3 72 = some (.toInt .u64) := by kernel_rfl
theorem cvt_5_2 : cvt Tryd.prog 5 2 = some (.toInt .i64) := by kernel_rfl
theorem cvt_5_3 : cvt Tryd.prog 5 3 = some (.toInt .i64) := by kernel_rfl
theorem cvt_5_5 : cvt Tryd.prog 5 5 = some (.toInt .u8) := by kernel_rfl
theorem cvt_5_12 : cvt Tryd.prog 5 12 = some (.toInt .u64) := by kernel_rfl
theorem cvt_5_21 : cvt Tryd.prog 5 21 = some (.toInt .i32) := by kernel_rfl
theorem cvt_5_38 : cvt Tryd.prog 5 38 = some (.toInt .u64) := by kernel_rfl
theorem cvt_5_55 : cvt Tryd.prog 5 55 = some (.toInt .u16) := by kernel_rfl
theorem cvt_5_57 : cvt Tryd.prog 5 57 = some (.toInt .u32) := by kernel_rfl
theorem cvt_5_72 : cvt Tryd.prog 5 72 = some (.toInt .u64) := by kernel_rfl
theorem cvt_12_2 : cvt Tryd.prog 12 2 = some (.toInt .i64) := by kernel_rfl
theorem cvt_12_3 : cvt Tryd.prog 12 3 = some (.toInt .i64) := by kernel_rfl
theorem cvt_12_5 : cvt Tryd.prog 12 5 = some (.toInt .u8) := by kernel_rfl
theorem cvt_12_12 : cvt Tryd.prog 12 12 = some (.toInt .u64) := by kernel_rfl
theorem cvt_12_21 : cvt Tryd.prog 12 21 = some (.toInt .i32) := by kernel_rfl
theorem cvt_12_38 : cvt Tryd.prog 12 38 = some (.toInt .u64) := by kernel_rfl
theorem cvt_12_55 : cvt Tryd.prog 12 55 = some (.toInt .u16) := by kernel_rfl
theorem cvt_12_57 : cvt Tryd.prog 12 57 = some (.toInt .u32) := by kernel_rfl
theorem cvt_12_72 : cvt Tryd.prog 12 72 = some (.toInt .u64) := by kernel_rfl
theorem cvt_21_2 : cvt Tryd.prog 21 2 = some (.toInt .i64) := by kernel_rfl
theorem cvt_21_3 : cvt Tryd.prog 21 3 = some (.toInt .i64) := by kernel_rfl
theorem cvt_21_5 : cvt Tryd.prog 21 5 = some (.toInt .u8) := by kernel_rfl
theorem cvt_21_12 : cvt Tryd.prog 21 12 = some (.toInt .u64) := by kernel_rfl
theorem cvt_21_21 : cvt Tryd.prog 21 21 = some (.toInt .i32) := by kernel_rfl
theorem cvt_21_38 : cvt Tryd.prog 21 38 = some (.toInt .u64) := by kernel_rfl
theorem cvt_21_55 : cvt Tryd.prog 21 55 = some (.toInt .u16) := by kernel_rfl
theorem cvt_21_57 : cvt Tryd.prog 21 57 = some (.toInt .u32) := by kernel_rfl
theorem cvt_21_72 : cvt Tryd.prog 21 72 = some (.toInt .u64) := by kernel_rfl
theorem cvt_38_2 : cvt Tryd.prog 38 2 = some (.toInt .i64) := by kernel_rfl
theorem cvt_38_3 : cvt Tryd.prog 38 3 = some (.toInt .i64) := by kernel_rfl
theorem cvt_38_5 : cvt Tryd.prog 38 5 = some (.toInt .u8) := by kernel_rfl
theorem cvt_38_12 : cvt Tryd.prog 38 12 = some (.toInt .u64) := by kernel_rfl
theorem cvt_38_21 : cvt Tryd.prog 38 21 = some (.toInt .i32) := by kernel_rfl
theorem cvt_38_38 : cvt Tryd.prog 38 38 = some (.toInt .u64) := by kernel_rfl
theorem cvt_38_55 : cvt Tryd.prog 38 55 = some (.toInt .u16) := by kernel_rfl
theorem cvt_38_57 : cvt Tryd.prog 38 57 = some (.toInt .u32) := by kernel_rfl
theorem cvt_38_72 : cvt Tryd.prog 38 72 = some (.toInt .u64) := by kernel_rfl
theorem cvt_55_2 : cvt Tryd.prog 55 2 = some (.toInt .i64) := by kernel_rfl
theorem cvt_55_3 : cvt Tryd.prog 55 3 = some (.toInt .i64) := by kernel_rfl
theorem cvt_55_5 : cvt Tryd.prog 55 5 = some (.toInt .u8) := by kernel_rfl
theorem cvt_55_12 : cvt Tryd.prog 55 12 = some (.toInt .u64) := by kernel_rfl
theorem cvt_55_21 : cvt Tryd.prog 55 21 = some (.toInt .i32) := by kernel_rfl
theorem cvt_55_38 : cvt Tryd.prog 55 38 = some (.toInt .u64) := by kernel_rfl
theorem cvt_55_55 : cvt Tryd.prog 55 55 = some (.toInt .u16) := by kernel_rfl
theorem cvt_55_57 : cvt Tryd.prog 55 57 = some (.toInt .u32) := by kernel_rfl
theorem cvt_55_72 : cvt Tryd.prog 55 72 = some (.toInt .u64) := by kernel_rfl
theorem cvt_57_2 : cvt Tryd.prog 57 2 = some (.toInt .i64) := by kernel_rfl
theorem cvt_57_3 : cvt Tryd.prog 57 3 = some (.toInt .i64) := by kernel_rfl
theorem cvt_57_5 : cvt Tryd.prog 57 5 = some (.toInt .u8) := by kernel_rfl
theorem cvt_57_12 : cvt Tryd.prog 57 12 = some (.toInt .u64) := by kernel_rfl
theorem cvt_57_21 : cvt Tryd.prog 57 21 = some (.toInt .i32) := by kernel_rfl
theorem cvt_57_38 : cvt Tryd.prog 57 38 = some (.toInt .u64) := by kernel_rfl
theorem cvt_57_55 : cvt Tryd.prog 57 55 = some (.toInt .u16) := by kernel_rfl
theorem cvt_57_57 : cvt Tryd.prog 57 57 = some (.toInt .u32) := by kernel_rfl
theorem cvt_57_72 : cvt Tryd.prog 57 72 = some (.toInt .u64) := by kernel_rfl
theorem cvt_72_2 : cvt Tryd.prog 72 2 = some (.toInt .i64) := by kernel_rfl
theorem cvt_72_3 : cvt Tryd.prog 72 3 = some (.toInt .i64) := by kernel_rfl
theorem cvt_72_5 : cvt Tryd.prog 72 5 = some (.toInt .u8) := by kernel_rfl
theorem cvt_72_12 : cvt Tryd.prog 72 12 = some (.toInt .u64) := by kernel_rfl
theorem cvt_72_21 : cvt Tryd.prog 72 21 = some (.toInt .i32) := by kernel_rfl
theorem cvt_72_38 : cvt Tryd.prog 72 38 = some (.toInt .u64) := by kernel_rfl
theorem cvt_72_55 : cvt Tryd.prog 72 55 = some (.toInt .u16) := by kernel_rfl
theorem cvt_72_57 : cvt Tryd.prog 72 57 = some (.toInt .u32) := by kernel_rfl
theorem cvt_72_72 : cvt Tryd.prog 72 72 = some (.toInt .u64) := by kernel_rfl
theorem cvt_31_9 : cvt Tryd.prog 31 9 = some .toStr := by kernel_rfl
theorem cvt_9_31 : cvt Tryd.prog 9 31 = some .toBytes := by kernel_rfl
theorem hasBody_3 : hasBody Tryd.prog 3 = true := by kernel_rfl
theorem hasBody_4 : hasBody Tryd.prog 4 = true := by kernel_rfl
theorem hasBody_5 : hasBody Tryd.prog 5 = true := by kernel_rfl
theorem hasBody_6 : hasBody Tryd.prog 6 = true := by kernel_rfl
theorem hasBody_7 : hasBody Tryd.prog 7 = true := by kernel_rfl
theorem hasBody_8 : hasBody Tryd.prog 8 = true := by kernel_rfl
theorem hasBody_9 : hasBody Tryd.prog 9 = true := by kernel_rfl
theorem hasBody_10 : hasBody Tryd.prog 10 = true := by kernel_rfl
theorem hasBody_11 : hasBody Tryd.prog 11 = true := by kernel_rfl
theorem hasBody_12 : hasBody Tryd.prog 12 = true := by kernel_rfl
theorem hasBody_13 : hasBody Tryd.prog 13 = true := by kernel_rfl
theorem hasBody_14 : hasBody Tryd.prog 14 = true := by kernel_rfl
theorem hasBody_15 : hasBody Tryd.prog 15 = true := by kernel_rfl
theorem hasBody_16 : hasBody Tryd.prog 16 = true := by kernel_rfl
theorem hasBody_17 : hasBody Tryd.prog 17 = true := by kernel_rfl
theorem hasBody_18 : hasBody Tryd.prog 18 = true := by kernel_rfl
theorem hasBody_19 : hasBody Tryd.prog 19 = true := by kernel_rfl
theorem hasBody_20 : hasBody Tryd.prog 20 = true := by kernel_rfl
theorem hasBody_21 : hasBody Tryd.prog 21 = true := by kernel_rfl
theorem hasBody_22 : hasBody Tryd.prog 22 = true := by kernel_rfl
theorem hasBody_23 : hasBody Tryd.prog 23 = true := by kernel_rfl
theorem hasBody_24 : hasBody Tryd.prog 24 = true := by kernel_rfl
theorem hasBody_25 : hasBody Tryd.prog 25 = true := by kernel_rfl
theorem hasBody_26 : hasBody Tryd.prog 26 = true := by kernel_rfl
theorem hasBody_27 : hasBody Tryd.prog 27 = true := by kernel_rfl
theorem hasBody_28 : hasBody Tryd.prog 28 = true := by kernel_rfl
theorem hasBody_29 : hasBody Tryd.prog 29 = true := by kernel_rfl
theorem hasBody_30 : hasBody Tryd.prog 30 = true := by kernel_rfl
theorem hasBody_31 : hasBody Tryd.prog 31 = true := by kernel_rfl
theorem hasBody_32 : hasBody Tryd.prog 32 = true := by kernel_rfl
theorem hasBody_33 : hasBody Tryd.prog 33 = true := by kernel_rfl
theorem hasBody_34 : hasBody Tryd.prog 34 = true := by kernel_rfl
theorem hasBody_35 : hasBody Tryd.prog 35 = true := by kernel_rfl
theorem hasBody_36 : hasBody Tryd.prog 36 = true := by kernel_rfl
theorem hasBody_37 : hasBody Tryd.prog 37 = true := by kernel_rfl
theorem hasBody_38 : hasBody Tryd.prog 38 = true := by kernel_rfl
theorem hasBody_39 : hasBody Tryd.prog 39 = true := by kernel_rfl
theorem hasBody_40 : hasBody Tryd.prog 40 = true := by kernel_rfl
theorem hasBody_41 : hasBody Tryd.prog 41 = true := by kernel_rfl
theorem hasBody_42 : hasBody Tryd.prog 42 = true := by kernel_rfl
theorem hasBody_43 : hasBody Tryd.prog 43 = true := by kernel_rfl
theorem hasBody_44 : hasBody Tryd.prog 44 = true := by kernel_rfl
theorem hasBody_45 : hasBody Tryd.prog 45 = true := by kernel_rfl
theorem hasBody_46 : hasBody Tryd.prog 46 = true := by kernel_rfl
theorem hasBody_47 : hasBody Tryd.prog 47 = true := by kernel_rfl
theorem hasBody_48 : hasBody Tryd.prog 48 = true := by kernel_rfl
theorem hasBody_49 : hasBody Tryd.prog 49 = true := by kernel_rfl
theorem hasBody_50 : hasBody Tryd.prog 50 = true := by kernel_rfl
theorem hasBody_51 : hasBody Tryd.prog 51 = true := by kernel_rfl
theorem hasBody_52 : hasBody Tryd.prog 52 = true := by kernel_rfl
theorem hasBody_53 : hasBody Tryd.prog 53 = true := by kernel_rfl
theorem hasBody_54 : hasBody Tryd.prog 54 = true := by kernel_rfl
theorem hasBody_55 : hasBody Tryd.prog 55 = true := by kernel_rfl
theorem mixed : Tryd.prog.follows .mixedOrders = true := by kernel_rfl
end Abs
end Go.Proofs.YtkdpmjgigknbpaaDoor
