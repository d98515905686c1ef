/-
  Facts on the types and functions of the program, each computed by the kernel. Printed by wip/abs/gen.py.
-/
import Derived.Test.YtijboooekbdinaaA17
import Derived.Test.YtijboooekbdinaaProg
import Derived.KernelRfl
namespace Go.Proofs.Ytijboooekbdinaa
namespace Abs
theorem ldKind_2 : ldKind Try.prog 2 = some none := by kernel_rfl
theorem szOf_2 : szOf Try.prog 2 = some 1 := by kernel_rfl
theorem zCells_2 : zCells Try.prog 2 = some [.int .i64 0] := by kernel_rfl
theorem isBoolT_2 : isBoolT Try.prog 2 = false := by kernel_rfl
theorem isStrT_2 : isStrT Try.prog 2 = false := by kernel_rfl
theorem isSlT_2 : isSlT Try.prog 2 = false := by kernel_rfl
theorem slEl_2 : slEl Try.prog 2 = none := by kernel_rfl
theorem ldKind_3 : ldKind Try.prog 3 = some none := by kernel_rfl
theorem szOf_3 : szOf Try.prog 3 = some 1 := by kernel_rfl
theorem zCells_3 : zCells Try.prog 3 = some [.int .i64 0] := by kernel_rfl
theorem isBoolT_3 : isBoolT Try.prog 3 = false := by kernel_rfl
theorem isStrT_3 : isStrT Try.prog 3 = false := by kernel_rfl
theorem isSlT_3 : isSlT Try.prog 3 = false := by kernel_rfl
theorem slEl_3 : slEl Try.prog 3 = none := by kernel_rfl
theorem ldKind_4 : ldKind Try.prog 4 = some none := by kernel_rfl
theorem szOf_4 : szOf Try.prog 4 = some 1 := by kernel_rfl
theorem zCells_4 : zCells Try.prog 4 = some [.bool false] := by kernel_rfl
theorem isBoolT_4 : isBoolT Try.prog 4 = true := by kernel_rfl
theorem isStrT_4 : isStrT Try.prog 4 = false := by kernel_rfl
theorem isSlT_4 : isSlT Try.prog 4 = false := by kernel_rfl
theorem slEl_4 : slEl Try.prog 4 = none := by kernel_rfl
theorem ldKind_5 : ldKind Try.prog 5 = some none := by kernel_rfl
theorem szOf_5 : szOf Try.prog 5 = some 1 := by kernel_rfl
theorem zCells_5 : zCells Try.prog 5 = some [.int .u8 0] := by kernel_rfl
theorem isBoolT_5 : isBoolT Try.prog 5 = false := by kernel_rfl
theorem isStrT_5 : isStrT Try.prog 5 = false := by kernel_rfl
theorem isSlT_5 : isSlT Try.prog 5 = false := by kernel_rfl
theorem slEl_5 : slEl Try.prog 5 = none := by kernel_rfl
theorem ldKind_9 : ldKind Try.prog 9 = some none := by kernel_rfl
theorem szOf_9 : szOf Try.prog 9 = some 1 := by kernel_rfl
theorem zCells_9 : zCells Try.prog 9 = some [.string ⟨#[]⟩] := by kernel_rfl
theorem isBoolT_9 : isBoolT Try.prog 9 = false := by kernel_rfl
theorem isStrT_9 : isStrT Try.prog 9 = true := by kernel_rfl
theorem isSlT_9 : isSlT Try.prog 9 = false := by kernel_rfl
theorem slEl_9 : slEl Try.prog 9 = none := by kernel_rfl
theorem ldKind_12 : ldKind Try.prog 12 = some none := by kernel_rfl
theorem szOf_12 : szOf Try.prog 12 = some 1 := by kernel_rfl
theorem zCells_12 : zCells Try.prog 12 = some [.int .u64 0] := by kernel_rfl
theorem isBoolT_12 : isBoolT Try.prog 12 = false := by kernel_rfl
theorem isStrT_12 : isStrT Try.prog 12 = false := by kernel_rfl
theorem isSlT_12 : isSlT Try.prog 12 = false := by kernel_rfl
theorem slEl_12 : slEl Try.prog 12 = none := by kernel_rfl
theorem ldKind_21 : ldKind Try.prog 21 = some none := by kernel_rfl
theorem szOf_21 : szOf Try.prog 21 = some 1 := by kernel_rfl
theorem zCells_21 : zCells Try.prog 21 = some [.int .i32 0] := by kernel_rfl
theorem isBoolT_21 : isBoolT Try.prog 21 = false := by kernel_rfl
theorem isStrT_21 : isStrT Try.prog 21 = false := by kernel_rfl
theorem isSlT_21 : isSlT Try.prog 21 = false := by kernel_rfl
theorem slEl_21 : slEl Try.prog 21 = none := by kernel_rfl
theorem ldKind_22 : ldKind Try.prog 22 = some none := by kernel_rfl
theorem szOf_22 : szOf Try.prog 22 = some 1 := by kernel_rfl
theorem zCells_22 : zCells Try.prog 22 = some [.slice none 0 0] := by kernel_rfl
theorem isBoolT_22 : isBoolT Try.prog 22 = false := by kernel_rfl
theorem isStrT_22 : isStrT Try.prog 22 = false := by kernel_rfl
theorem isSlT_22 : isSlT Try.prog 22 = true := by kernel_rfl
theorem slEl_22 : slEl Try.prog 22 = some (1, 8) := by kernel_rfl
theorem slZero_22 : slZero Try.prog 22 = some [.int .i64 0] := by kernel_rfl
theorem ldKind_23 : ldKind Try.prog 23 = some none := by kernel_rfl
theorem szOf_23 : szOf Try.prog 23 = some 1 := by kernel_rfl
theorem zCells_23 : zCells Try.prog 23 = some [.slice none 0 0] := by kernel_rfl
theorem isBoolT_23 : isBoolT Try.prog 23 = false := by kernel_rfl
theorem isStrT_23 : isStrT Try.prog 23 = false := by kernel_rfl
theorem isSlT_23 : isSlT Try.prog 23 = true := by kernel_rfl
theorem slEl_23 : slEl Try.prog 23 = some (1, 16) := by kernel_rfl
theorem slZero_23 : slZero Try.prog 23 = some [.string ⟨#[]⟩] := by kernel_rfl
theorem ldKind_24 : ldKind Try.prog 24 = some none := by kernel_rfl
theorem szOf_24 : szOf Try.prog 24 = some 1 := by kernel_rfl
theorem zCells_24 : zCells Try.prog 24 = some [.slice none 0 0] := by kernel_rfl
theorem isBoolT_24 : isBoolT Try.prog 24 = false := by kernel_rfl
theorem isStrT_24 : isStrT Try.prog 24 = false := by kernel_rfl
theorem isSlT_24 : isSlT Try.prog 24 = true := by kernel_rfl
theorem slEl_24 : slEl Try.prog 24 = some (16, 16) := by kernel_rfl
theorem slZero_24 : slZero Try.prog 24 = some [.int .u8 0, .int .u8 0, .int .u8 0, .int .u8 0, .int .u8 0, .int .u8 0, .int .u8 0, .int .u8 0, .int .u8 0, .int .u8 0, .int .u8 0, .int .u8 0, .int .u8 0, .int .u8 0, .int .u8 0, .int .u8 0] := by kernel_rfl
theorem ldKind_28 : ldKind Try.prog 28 = some none := by kernel_rfl
theorem szOf_28 : szOf Try.prog 28 = some 1 := by kernel_rfl
theorem zCells_28 : zCells Try.prog 28 = some [.slice none 0 0] := by kernel_rfl
theorem isBoolT_28 : isBoolT Try.prog 28 = false := by kernel_rfl
theorem isStrT_28 : isStrT Try.prog 28 = false := by kernel_rfl
theorem isSlT_28 : isSlT Try.prog 28 = true := by kernel_rfl
theorem slEl_28 : slEl Try.prog 28 = some (1, 1) := by kernel_rfl
theorem slZero_28 : slZero Try.prog 28 = some [.int .u8 0] := by kernel_rfl
theorem ldKind_35 : ldKind Try.prog 35 = some none := by kernel_rfl
theorem szOf_35 : szOf Try.prog 35 = some 1 := by kernel_rfl
theorem zCells_35 : zCells Try.prog 35 = some [.int .i64 0] := by kernel_rfl
theorem isBoolT_35 : isBoolT Try.prog 35 = false := by kernel_rfl
theorem isStrT_35 : isStrT Try.prog 35 = false := by kernel_rfl
theorem isSlT_35 : isSlT Try.prog 35 = false := by kernel_rfl
theorem slEl_35 : slEl Try.prog 35 = none := by kernel_rfl
theorem ldKind_54 : ldKind Try.prog 54 = some none := by kernel_rfl
theorem szOf_54 : szOf Try.prog 54 = some 1 := by kernel_rfl
theorem zCells_54 : zCells Try.prog 54 = some [.slice none 0 0] := by kernel_rfl
theorem isBoolT_54 : isBoolT Try.prog 54 = false := by kernel_rfl
theorem isStrT_54 : isStrT Try.prog 54 = false := by kernel_rfl
theorem isSlT_54 : isSlT Try.prog 54 = true := by kernel_rfl
theorem slEl_54 : slEl Try.prog 54 = some (1, 24) := by kernel_rfl
theorem slZero_54 : slZero Try.prog 54 = some [.slice none 0 0] := by kernel_rfl
theorem ldKind_56 : ldKind Try.prog 56 = some (some 16) := by kernel_rfl
theorem szOf_56 : szOf Try.prog 56 = some 16 := by kernel_rfl
theorem zCells_56 : zCells Try.prog 56 = some [.int .u8 0, .int .u8 0, .int .u8 0, .int .u8 0, .int .u8 0, .int .u8 0, .int .u8 0, .int .u8 0, .int .u8 0, .int .u8 0, .int .u8 0, .int .u8 0, .int .u8 0, .int .u8 0, .int .u8 0, .int .u8 0] := by kernel_rfl
theorem isBoolT_56 : isBoolT Try.prog 56 = false := by kernel_rfl
theorem isStrT_56 : isStrT Try.prog 56 = false := by kernel_rfl
theorem isSlT_56 : isSlT Try.prog 56 = false := by kernel_rfl
theorem slEl_56 : slEl Try.prog 56 = none := by kernel_rfl
theorem arEl_56 : arEl Try.prog 56 = some (16, 1) := by kernel_rfl
theorem arInt_56 : arInt Try.prog 56 = some (16, .u8) := by kernel_rfl
theorem bdOK_56 : bdOK Try.prog 56 = true := by kernel_rfl
theorem placeOf_56 (i : Nat) : placeOf Try.prog 56 i = some (i * 1, 1) := by kernel_rfl
theorem ldKind_57 : ldKind Try.prog 57 = some (some 16) := by kernel_rfl
theorem szOf_57 : szOf Try.prog 57 = some 16 := by kernel_rfl
theorem zCells_57 : zCells Try.prog 57 = some [.int .u8 0, .int .u8 0, .int .u8 0, .int .u8 0, .int .u8 0, .int .u8 0, .int .u8 0, .int .u8 0, .int .u8 0, .int .u8 0, .int .u8 0, .int .u8 0, .int .u8 0, .int .u8 0, .int .u8 0, .int .u8 0] := by kernel_rfl
theorem isBoolT_57 : isBoolT Try.prog 57 = false := by kernel_rfl
theorem isStrT_57 : isStrT Try.prog 57 = false := by kernel_rfl
theorem isSlT_57 : isSlT Try.prog 57 = false := by kernel_rfl
theorem slEl_57 : slEl Try.prog 57 = none := by kernel_rfl
theorem arEl_57 : arEl Try.prog 57 = some (16, 1) := by kernel_rfl
theorem arInt_57 : arInt Try.prog 57 = some (16, .u8) := by kernel_rfl
theorem bdOK_57 : bdOK Try.prog 57 = true := by kernel_rfl
theorem placeOf_57 (i : Nat) : placeOf Try.prog 57 i = some (i * 1, 1) := by kernel_rfl
theorem ldKind_58 : ldKind Try.prog 58 = some none := by kernel_rfl
theorem szOf_58 : szOf Try.prog 58 = some 1 := by kernel_rfl
theorem zCells_58 : zCells Try.prog 58 = some [.int .u64 0] := by kernel_rfl
theorem isBoolT_58 : isBoolT Try.prog 58 = false := by kernel_rfl
theorem isStrT_58 : isStrT Try.prog 58 = false := by kernel_rfl
theorem isSlT_58 : isSlT Try.prog 58 = false := by kernel_rfl
theorem slEl_58 : slEl Try.prog 58 = none := by kernel_rfl
theorem ldKind_59 : ldKind Try.prog 59 = some none := by kernel_rfl
theorem szOf_59 : szOf Try.prog 59 = some 1 := by kernel_rfl
theorem zCells_59 : zCells Try.prog 59 = some [.int .u64 0] := by kernel_rfl
theorem isBoolT_59 : isBoolT Try.prog 59 = false := by kernel_rfl
theorem isStrT_59 : isStrT Try.prog 59 = false := by kernel_rfl
theorem isSlT_59 : isSlT Try.prog 59 = false := by kernel_rfl
theorem slEl_59 : slEl Try.prog 59 = none := by kernel_rfl
theorem ldKind_78 : ldKind Try.prog 78 = some none := by kernel_rfl
theorem szOf_78 : szOf Try.prog 78 = some 1 := by kernel_rfl
theorem zCells_78 : zCells Try.prog 78 = some [.int .u32 0] := by kernel_rfl
theorem isBoolT_78 : isBoolT Try.prog 78 = false := by kernel_rfl
theorem isStrT_78 : isStrT Try.prog 78 = false := by kernel_rfl
theorem isSlT_78 : isSlT Try.prog 78 = false := by kernel_rfl
theorem slEl_78 : slEl Try.prog 78 = none := by kernel_rfl
theorem ix_sl_22 {K : Res → Prop} {k : IntKind} {i : Int} {tag : Option Nat} {xs : List CV} : ex (indexAddrR Try.prog 22 (.v (.int k i)) (.sl tag 1 xs)) K = (0 ≤ i ∧ i.toNat * 1 < xs.length ∧ K (rv (.ep (xs.drop (i.toNat * 1))))) := ex_ix_sl slEl_22
theorem ix_bs_22 {K : Res → Prop} {k : IntKind} {i : Int} {q off len : Nat} : ex (indexAddrR Try.prog 22 (.v (.int k i)) (.bs q off len)) K = (0 ≤ i ∧ i < len ∧ K (rv (.bp q (off + i.toNat)))) := ex_ix_bs slEl_22
theorem len_sl_22 {K : Res → Prop} {tag : Option Nat} {xs : List CV} : ex (lenR Try.prog 22 (.sl tag 1 xs)) K = (0 < 1 ∧ K (rv (.v (.int .i64 (xs.length / 1 : Nat))))) := ex_len_sl slEl_22
theorem len_cl_22 {K : Res → Prop} {xs : List CV} : ex (lenR Try.prog 22 (.cl 1 xs)) K = (0 < 1 ∧ K (rv (.v (.int .i64 (xs.length / 1 : Nat))))) := ex_len_cl slEl_22
theorem bslice0_22 {K : Res → Prop} {d : Option Nat} : ex (buildSliceR Try.prog 22 d 0 []) K = K (rv (.emp 1)) := ex_bslice0 slEl_22
theorem bslice_22 {K : Res → Prop} {n m : Nat} {parts : List (Nat × AV)} : ex (buildSliceR Try.prog 22 (some n) (m + 1) parts) K = ((0 < 1 ∧ (m + 1) * 1 ≤ 16777216) ∧ exRows n 1 ((repeatL [.int .i64 0] (m + 1)).map .v) (partsV parts) K) := ex_bslice slEl_22 slZero_22
theorem ix_sl_23 {K : Res → Prop} {k : IntKind} {i : Int} {tag : Option Nat} {xs : List CV} : ex (indexAddrR Try.prog 23 (.v (.int k i)) (.sl tag 1 xs)) K = (0 ≤ i ∧ i.toNat * 1 < xs.length ∧ K (rv (.ep (xs.drop (i.toNat * 1))))) := ex_ix_sl slEl_23
theorem ix_bs_23 {K : Res → Prop} {k : IntKind} {i : Int} {q off len : Nat} : ex (indexAddrR Try.prog 23 (.v (.int k i)) (.bs q off len)) K = (0 ≤ i ∧ i < len ∧ K (rv (.bp q (off + i.toNat)))) := ex_ix_bs slEl_23
theorem len_sl_23 {K : Res → Prop} {tag : Option Nat} {xs : List CV} : ex (lenR Try.prog 23 (.sl tag 1 xs)) K = (0 < 1 ∧ K (rv (.v (.int .i64 (xs.length / 1 : Nat))))) := ex_len_sl slEl_23
theorem len_cl_23 {K : Res → Prop} {xs : List CV} : ex (lenR Try.prog 23 (.cl 1 xs)) K = (0 < 1 ∧ K (rv (.v (.int .i64 (xs.length / 1 : Nat))))) := ex_len_cl slEl_23
theorem bslice0_23 {K : Res → Prop} {d : Option Nat} : ex (buildSliceR Try.prog 23 d 0 []) K = K (rv (.emp 1)) := ex_bslice0 slEl_23
theorem bslice_23 {K : Res → Prop} {n m : Nat} {parts : List (Nat × AV)} : ex (buildSliceR Try.prog 23 (some n) (m + 1) parts) K = ((0 < 1 ∧ (m + 1) * 1 ≤ 16777216) ∧ exRows n 1 ((repeatL [.string ⟨#[]⟩] (m + 1)).map .v) (partsV parts) K) := ex_bslice slEl_23 slZero_23
theorem ix_sl_24 {K : Res → Prop} {k : IntKind} {i : Int} {tag : Option Nat} {xs : List CV} : ex (indexAddrR Try.prog 24 (.v (.int k i)) (.sl tag 16 xs)) K = (0 ≤ i ∧ i.toNat * 16 < xs.length ∧ K (rv (.ep (xs.drop (i.toNat * 16))))) := ex_ix_sl slEl_24
theorem len_sl_24 {K : Res → Prop} {tag : Option Nat} {xs : List CV} : ex (lenR Try.prog 24 (.sl tag 16 xs)) K = (0 < 16 ∧ K (rv (.v (.int .i64 (xs.length / 16 : Nat))))) := ex_len_sl slEl_24
theorem len_cl_24 {K : Res → Prop} {xs : List CV} : ex (lenR Try.prog 24 (.cl 16 xs)) K = (0 < 16 ∧ K (rv (.v (.int .i64 (xs.length / 16 : Nat))))) := ex_len_cl slEl_24
theorem bslice0_24 {K : Res → Prop} {d : Option Nat} : ex (buildSliceR Try.prog 24 d 0 []) K = K (rv (.emp 16)) := ex_bslice0 slEl_24
theorem bslice_24 {K : Res → Prop} {n m : Nat} {parts : List (Nat × AV)} : ex (buildSliceR Try.prog 24 (some n) (m + 1) parts) K = ((0 < 16 ∧ (m + 1) * 16 ≤ 16777216) ∧ exRows n 16 ((repeatL [.int .u8 0, .int .u8 0, .int .u8 0, .int .u8 0, .int .u8 0, .int .u8 0, .int .u8 0, .int .u8 0, .int .u8 0, .int .u8 0, .int .u8 0, .int .u8 0, .int .u8 0, .int .u8 0, .int .u8 0, .int .u8 0] (m + 1)).map .v) (partsV parts) K) := ex_bslice slEl_24 slZero_24
theorem ix_sl_28 {K : Res → Prop} {k : IntKind} {i : Int} {tag : Option Nat} {xs : List CV} : ex (indexAddrR Try.prog 28 (.v (.int k i)) (.sl tag 1 xs)) K = (0 ≤ i ∧ i.toNat * 1 < xs.length ∧ K (rv (.ep (xs.drop (i.toNat * 1))))) := ex_ix_sl slEl_28
theorem ix_bs_28 {K : Res → Prop} {k : IntKind} {i : Int} {q off len : Nat} : ex (indexAddrR Try.prog 28 (.v (.int k i)) (.bs q off len)) K = (0 ≤ i ∧ i < len ∧ K (rv (.bp q (off + i.toNat)))) := ex_ix_bs slEl_28
theorem len_sl_28 {K : Res → Prop} {tag : Option Nat} {xs : List CV} : ex (lenR Try.prog 28 (.sl tag 1 xs)) K = (0 < 1 ∧ K (rv (.v (.int .i64 (xs.length / 1 : Nat))))) := ex_len_sl slEl_28
theorem len_cl_28 {K : Res → Prop} {xs : List CV} : ex (lenR Try.prog 28 (.cl 1 xs)) K = (0 < 1 ∧ K (rv (.v (.int .i64 (xs.length / 1 : Nat))))) := ex_len_cl slEl_28
theorem bslice0_28 {K : Res → Prop} {d : Option Nat} : ex (buildSliceR Try.prog 28 d 0 []) K = K (rv (.emp 1)) := ex_bslice0 slEl_28
theorem bslice_28 {K : Res → Prop} {n m : Nat} {parts : List (Nat × AV)} : ex (buildSliceR Try.prog 28 (some n) (m + 1) parts) K = ((0 < 1 ∧ (m + 1) * 1 ≤ 16777216) ∧ exRows n 1 ((repeatL [.int .u8 0] (m + 1)).map .v) (partsV parts) K) := ex_bslice slEl_28 slZero_28
theorem ix_sl_54 {K : Res → Prop} {k : IntKind} {i : Int} {tag : Option Nat} {xs : List CV} : ex (indexAddrR Try.prog 54 (.v (.int k i)) (.sl tag 1 xs)) K = (0 ≤ i ∧ i.toNat * 1 < xs.length ∧ K (rv (.ep (xs.drop (i.toNat * 1))))) := ex_ix_sl slEl_54
theorem ix_bs_54 {K : Res → Prop} {k : IntKind} {i : Int} {q off len : Nat} : ex (indexAddrR Try.prog 54 (.v (.int k i)) (.bs q off len)) K = (0 ≤ i ∧ i < len ∧ K (rv (.bp q (off + i.toNat)))) := ex_ix_bs slEl_54
theorem len_sl_54 {K : Res → Prop} {tag : Option Nat} {xs : List CV} : ex (lenR Try.prog 54 (.sl tag 1 xs)) K = (0 < 1 ∧ K (rv (.v (.int .i64 (xs.length / 1 : Nat))))) := ex_len_sl slEl_54
theorem len_cl_54 {K : Res → Prop} {xs : List CV} : ex (lenR Try.prog 54 (.cl 1 xs)) K = (0 < 1 ∧ K (rv (.v (.int .i64 (xs.length / 1 : Nat))))) := ex_len_cl slEl_54
theorem bslice0_54 {K : Res → Prop} {d : Option Nat} : ex (buildSliceR Try.prog 54 d 0 []) K = K (rv (.emp 1)) := ex_bslice0 slEl_54
theorem bslice_54 {K : Res → Prop} {n m : Nat} {parts : List (Nat × AV)} : ex (buildSliceR Try.prog 54 (some n) (m + 1) parts) K = ((0 < 1 ∧ (m + 1) * 1 ≤ 16777216) ∧ exRows n 1 ((repeatL [.slice none 0 0] (m + 1)).map .v) (partsV parts) K) := ex_bslice slEl_54 slZero_54
theorem ix_bp_56 {K : Res → Prop} {k : IntKind} {i : Int} {q off : Nat} : ex (indexAddrR Try.prog 56 (.v (.int k i)) (.bp q off)) K = (0 ≤ i ∧ i < (16 : Nat) ∧ K (rv (.bp q (off + i.toNat * 1)))) := ex_ix_bp arEl_56
theorem ix_ep_56 {K : Res → Prop} {k : IntKind} {i : Int} {xs : List CV} : ex (indexAddrR Try.prog 56 (.v (.int k i)) (.ep xs)) K = (0 ≤ i ∧ i < (16 : Nat) ∧ K (rv (.ep (xs.drop (i.toNat * 1))))) := ex_ix_ep arEl_56
theorem sl_bp_56 {K : Res → Prop} {lo hi : Option AV} {k off : Nat} : ex (sliceR Try.prog 56 lo hi none (.bp k off)) K = (bndOK lo ∧ bndOK hi ∧ bnd 0 lo ≤ bnd 16 hi ∧ bnd 16 hi ≤ 16 ∧ bnd 0 lo < 16 ∧ K (rv (.bs k (off + bnd 0 lo) (bnd 16 hi - bnd 0 lo)))) := ex_slice_bp arEl_56
theorem sl_ep_56 {K : Res → Prop} {lo hi : Option AV} {xs : List CV} : ex (sliceR Try.prog 56 lo hi none (.ep xs)) K = (bndOK lo ∧ bndOK hi ∧ bnd 0 lo ≤ bnd 16 hi ∧ bnd 16 hi ≤ 16 ∧ 16 ≤ xs.length ∧ K (rv (.sl none 1 ((xs.take (bnd 16 hi)).drop (bnd 0 lo))))) := ex_slice_ep arEl_56
theorem ix_agg_56 {K : Res → Prop} {k : IntKind} {i : Int} {cs : Array Value} : ex (indexR Try.prog 56 (.v (.int k i)) (.v (.agg cs))) K = (0 ≤ i ∧ i < (16 : Nat) ∧ exIx (cs.toList[i.toNat]?) K) := ex_index_agg arInt_56
theorem build_56 {K : Res → Prop} {parts : List (Nat × AV)} : ex (buildR Try.prog 56 parts) K = exParts (placeOf Try.prog 56) [.int .u8 0, .int .u8 0, .int .u8 0, .int .u8 0, .int .u8 0, .int .u8 0, .int .u8 0, .int .u8 0, .int .u8 0, .int .u8 0, .int .u8 0, .int .u8 0, .int .u8 0, .int .u8 0, .int .u8 0, .int .u8 0] (partsV parts) K := ex_build zCells_56 bdOK_56
theorem ix_bp_57 {K : Res → Prop} {k : IntKind} {i : Int} {q off : Nat} : ex (indexAddrR Try.prog 57 (.v (.int k i)) (.bp q off)) K = (0 ≤ i ∧ i < (16 : Nat) ∧ K (rv (.bp q (off + i.toNat * 1)))) := ex_ix_bp arEl_57
theorem ix_ep_57 {K : Res → Prop} {k : IntKind} {i : Int} {xs : List CV} : ex (indexAddrR Try.prog 57 (.v (.int k i)) (.ep xs)) K = (0 ≤ i ∧ i < (16 : Nat) ∧ K (rv (.ep (xs.drop (i.toNat * 1))))) := ex_ix_ep arEl_57
theorem sl_bp_57 {K : Res → Prop} {lo hi : Option AV} {k off : Nat} : ex (sliceR Try.prog 57 lo hi none (.bp k off)) K = (bndOK lo ∧ bndOK hi ∧ bnd 0 lo ≤ bnd 16 hi ∧ bnd 16 hi ≤ 16 ∧ bnd 0 lo < 16 ∧ K (rv (.bs k (off + bnd 0 lo) (bnd 16 hi - bnd 0 lo)))) := ex_slice_bp arEl_57
theorem sl_ep_57 {K : Res → Prop} {lo hi : Option AV} {xs : List CV} : ex (sliceR Try.prog 57 lo hi none (.ep xs)) K = (bndOK lo ∧ bndOK hi ∧ bnd 0 lo ≤ bnd 16 hi ∧ bnd 16 hi ≤ 16 ∧ 16 ≤ xs.length ∧ K (rv (.sl none 1 ((xs.take (bnd 16 hi)).drop (bnd 0 lo))))) := ex_slice_ep arEl_57
theorem ix_agg_57 {K : Res → Prop} {k : IntKind} {i : Int} {cs : Array Value} : ex (indexR Try.prog 57 (.v (.int k i)) (.v (.agg cs))) K = (0 ≤ i ∧ i < (16 : Nat) ∧ exIx (cs.toList[i.toNat]?) K) := ex_index_agg arInt_57
theorem build_57 {K : Res → Prop} {parts : List (Nat × AV)} : ex (buildR Try.prog 57 parts) K = exParts (placeOf Try.prog 57) [.int .u8 0, .int .u8 0, .int .u8 0, .int .u8 0, .int .u8 0, .int .u8 0, .int .u8 0, .int .u8 0, .int .u8 0, .int .u8 0, .int .u8 0, .int .u8 0, .int .u8 0, .int .u8 0, .int .u8 0, .int .u8 0] (partsV parts) K := ex_build zCells_57 bdOK_57
theorem cvt_2_2 : cvt Try.prog 2 2 = some (.toInt .i64) := by kernel_rfl
theorem cvt_2_3 : cvt Try.prog 2 3 = some (.toInt .i64) := by kernel_rfl
theorem cvt_2_5 : cvt Try.prog 2 5 = some (.toInt .u8) := by kernel_rfl
theorem cvt_2_12 : cvt Try.prog 2 12 = some (.toInt .u64) := by kernel_rfl
theorem cvt_2_21 : cvt Try.prog 2 21 = some (.toInt .i32) := by kernel_rfl
theorem cvt_2_35 : cvt Try.prog 2 35 = some (.toInt .i64) := by kernel_rfl
theorem cvt_2_58 : cvt Try.prog 2 58 = some (.toInt .u64) := by kernel_rfl
theorem cvt_2_59 : cvt Try.prog 2 59 = some (.toInt .u64) := by kernel_rfl
theorem cvt_2_78 : cvt Try.prog 2 78 = some (.toInt .u32) := by kernel_rfl
theorem cvt_3_2 : cvt Try.prog 3 2 = some (.toInt .i64) := by kernel_rfl
theorem cvt_3_3 : cvt Try.prog 3 3 = some (.toInt .i64) := by kernel_rfl
theorem cvt_3_5 : cvt Try.prog 3 5 = some (.toInt .u8) := by kernel_rfl
theorem cvt_3_12 : cvt Try.prog 3 12 = some (.toInt .u64) := by kernel_rfl
theorem cvt_3_21 : cvt Try.prog 3 21 = some (.toInt .i32) := by kernel_rfl
theorem cvt_3_35 : cvt Try.prog 3 35 = some (.toInt .i64) := by kernel_rfl
theorem cvt_3_58 : cvt Try.prog 3 58 = some (.toInt .u64) := by kernel_rfl
theorem cvt_3_59 : cvt Try.prog 3 59 = some (.toInt .u64) := by kernel_rfl
theorem cvt_3_78 : cvt Try.prog 3 78 = some (.toInt .u32) := by kernel_rfl
theorem cvt_5_2 : cvt Try.prog 5 2 = some (.toInt .i64) := by kernel_rfl
theorem cvt_5_3 : cvt Try.prog 5 3 = some (.toInt .i64) := by kernel_rfl
theorem cvt_5_5 : cvt Try.prog 5 5 = some (.toInt .u8) := by kernel_rfl
theorem cvt_5_12 : cvt Try.prog 5 12 = some (.toInt .u64) := by kernel_rfl
theorem cvt_5_21 : cvt Try.prog 5 21 = some (.toInt .i32) := by kernel_rfl
theorem cvt_5_35 : cvt Try.prog 5 35 = some (.toInt .i64) := by kernel_rfl
theorem cvt_5_58 : cvt Try.prog 5 58 = some (.toInt .u64) := by kernel_rfl
theorem cvt_5_59 : cvt Try.prog 5 59 = some (.toInt .u64) := by kernel_rfl
theorem cvt_5_78 : cvt Try.prog 5 78 = some (.toInt .u32) := by kernel_rfl
theorem cvt_12_2 : cvt Try.prog 12 2 = some (.toInt .i64) := by kernel_rfl
theorem cvt_12_3 : cvt Try.prog 12 3 = some (.toInt .i64) := by kernel_rfl
theorem cvt_12_5 : cvt Try.prog 12 5 = some (.toInt .u8) := by kernel_rfl
theorem cvt_12_12 : cvt Try.prog 12 12 = some (.toInt .u64) := by kernel_rfl
theorem cvt_12_21 : cvt Try.prog 12 21 = some (.toInt .i32) := by kernel_rfl
theorem cvt_12_35 : cvt Try.prog 12 35 = some (.toInt .i64) := by kernel_rfl
theorem cvt_12_58 : cvt Try.prog 12 58 = some (.toInt .u64) := by kernel_rfl
theorem cvt_12_59 : cvt Try.prog 12 59 = some (.toInt .u64) := by kernel_rfl
theorem cvt_12_78 : cvt Try.prog 12 78 = some (.toInt .u32) := by kernel_rfl
theorem cvt_21_2 : cvt Try.prog 21 2 = some (.toInt .i64) := by kernel_rfl
theorem cvt_21_3 : cvt Try.prog 21 3 = some (.toInt .i64) := by kernel_rfl
theorem cvt_21_5 : cvt Try.prog 21 5 = some (.toInt .u8) := by kernel_rfl
theorem cvt_21_12 : cvt Try.prog 21 12 = some (.toInt .u64) := by kernel_rfl
theorem cvt_21_21 : cvt Try.prog 21 21 = some (.toInt .i32) := by kernel_rfl
theorem cvt_21_35 : cvt Try.prog 21 35 = some (.toInt .i64) := by kernel_rfl
theorem cvt_21_58 : cvt Try.prog 21 58 = some (.toInt .u64) := by kernel_rfl
theorem cvt_21_59 : cvt Try.prog 21 59 = some (.toInt .u64) := by kernel_rfl
theorem cvt_21_78 : cvt Try.prog 21 78 = some (.toInt .u32) := by kernel_rfl
theorem cvt_35_2 : cvt Try.prog 35 2 = some (.toInt .i64) := by kernel_rfl
theorem cvt_35_3 : cvt Try.prog 35 3 = some (.toInt .i64) := by kernel_rfl
theorem cvt_35_5 : cvt Try.prog 35 5 = some (.toInt .u8) := by kernel_rfl
theorem cvt_35_12 : cvt Try.prog 35 12 = some (.toInt .u64) := by kernel_rfl
theorem cvt_35_21 : cvt Try.prog 35 21 = some (.toInt .i32) := by kernel_rfl
theorem cvt_35_35 : cvt Try.prog 35 35 = some (.toInt .i64) := by kernel_rfl
theorem cvt_35_58 : cvt Try.prog 35 58 = some (.toInt .u64) := by kernel_rfl
theorem cvt_35_59 : cvt Try.prog 35 59 = some (.toInt .u64) := by kernel_rfl
theorem cvt_35_78 : cvt Try.prog 35 78 = some (.toInt .u32) := by kernel_rfl
theorem cvt_58_2 : cvt Try.prog 58 2 = some (.toInt .i64) := by kernel_rfl
theorem cvt_58_3 : cvt Try.prog 58 3 = some (.toInt .i64) := by kernel_rfl
theorem cvt_58_5 : cvt Try.prog 58 5 = some (.toInt .u8) := by kernel_rfl
theorem cvt_58_12 : cvt Try.prog 58 12 = some (.toInt .u64) := by kernel_rfl
theorem cvt_58_21 : cvt Try.prog 58 21 = some (.toInt .i32) := by kernel_rfl
theorem cvt_58_35 : cvt Try.prog 58 35 = some (.toInt .i64) := by kernel_rfl
theorem cvt_58_58 : cvt Try.prog 58 58 = some (.toInt .u64) := by kernel_rfl
theorem cvt_58_59 : cvt Try.prog 58 59 = some (.toInt .u64) := by kernel_rfl
theorem cvt_58_78 : cvt Try.prog 58 78 = some (.toInt .u32) := by kernel_rfl
theorem cvt_59_2 : cvt Try.prog 59 2 = some (.toInt .i64) := by kernel_rfl
theorem cvt_59_3 : cvt Try.prog 59 3 = some (.toInt .i64) := by kernel_rfl
theorem cvt_59_5 : cvt Try.prog 59 5 = some (.toInt .u8) := by kernel_rfl
theorem cvt_59_12 : cvt Try.prog 59 12 = some (.toInt .u64) := by kernel_rfl
theorem cvt_59_21 : cvt Try.prog 59 21 = some (.toInt .i32) := by kernel_rfl
theorem cvt_59_35 : cvt Try.prog 59 35 = some (.toInt .i64) := by kernel_rfl
theorem cvt_59_58 : cvt Try.prog 59 58 = some (.toInt .u64) := by kernel_rfl
theorem cvt_59_59 : cvt Try.prog 59 59 = some (.toInt .u64) := by kernel_rfl
theorem cvt_59_78 : cvt Try.prog 59 78 = some (.toInt .u32) := by kernel_rfl
theorem cvt_78_2 : cvt Try.prog 78 2 = some (.toInt .i64) := by kernel_rfl
theorem cvt_78_3 : cvt Try.prog 78 3 = some (.toInt .i64) := by kernel_rfl
theorem cvt_78_5 : cvt Try.prog 78 5 = some (.toInt .u8) := by kernel_rfl
theorem cvt_78_12 : cvt Try.prog 78 12 = some (.toInt .u64) := by kernel_rfl
theorem cvt_78_21 : cvt Try.prog 78 21 = some (.toInt .i32) := by kernel_rfl
theorem cvt_78_35 : cvt Try.prog 78 35 = some (.toInt .i64) := by kernel_rfl
theorem cvt_78_58 : cvt Try.prog 78 58 = some (.toInt .u64) := by kernel_rfl
theorem cvt_78_59 : cvt Try.prog 78 59 = some (.toInt .u64) := by kernel_rfl
theorem cvt_78_78 : cvt Try.prog 78 78 = some (.toInt .u32) := by kernel_rfl
theorem cvt_28_9 : cvt Try.prog 28 9 = some .toStr := by kernel_rfl
theorem cvt_9_28 : cvt Try.prog 9 28 = some .toBytes := by kernel_rfl
theorem hasBody_3 : hasBody Try.prog 3 = true := by kernel_rfl
theorem hasBody_4 : hasBody Try.prog 4 = true := by kernel_rfl
theorem hasBody_5 : hasBody Try.prog 5 = true := by kernel_rfl
theorem hasBody_6 : hasBody Try.prog 6 = true := by kernel_rfl
theorem hasBody_7 : hasBody Try.prog 7 = true := by kernel_rfl
theorem hasBody_8 : hasBody Try.prog 8 = true := by kernel_rfl
theorem hasBody_9 : hasBody Try.prog 9 = true := by kernel_rfl
theorem hasBody_10 : hasBody Try.prog 10 = true := by kernel_rfl
theorem hasBody_11 : hasBody Try.prog 11 = true := by kernel_rfl
theorem hasBody_12 : hasBody Try.prog 12 = true := by kernel_rfl
theorem hasBody_13 : hasBody Try.prog 13 = true := by kernel_rfl
theorem hasBody_14 : hasBody Try.prog 14 = true := by kernel_rfl
theorem hasBody_15 : hasBody Try.prog 15 = true := by kernel_rfl
theorem hasBody_16 : hasBody Try.prog 16 = true := by kernel_rfl
theorem hasBody_17 : hasBody Try.prog 17 = true := by kernel_rfl
theorem hasBody_18 : hasBody Try.prog 18 = true := by kernel_rfl
theorem hasBody_19 : hasBody Try.prog 19 = true := by kernel_rfl
theorem hasBody_20 : hasBody Try.prog 20 = true := by kernel_rfl
theorem hasBody_21 : hasBody Try.prog 21 = true := by kernel_rfl
theorem hasBody_22 : hasBody Try.prog 22 = true := by kernel_rfl
theorem hasBody_23 : hasBody Try.prog 23 = true := by kernel_rfl
theorem hasBody_24 : hasBody Try.prog 24 = true := by kernel_rfl
theorem hasBody_25 : hasBody Try.prog 25 = true := by kernel_rfl
theorem hasBody_26 : hasBody Try.prog 26 = true := by kernel_rfl
theorem hasBody_27 : hasBody Try.prog 27 = true := by kernel_rfl
theorem hasBody_28 : hasBody Try.prog 28 = true := by kernel_rfl
theorem hasBody_29 : hasBody Try.prog 29 = true := by kernel_rfl
theorem hasBody_30 : hasBody Try.prog 30 = true := by kernel_rfl
theorem hasBody_31 : hasBody Try.prog 31 = true := by kernel_rfl
theorem hasBody_32 : hasBody Try.prog 32 = true := by kernel_rfl
theorem hasBody_33 : hasBody Try.prog 33 = true := by kernel_rfl
theorem hasBody_34 : hasBody Try.prog 34 = true := by kernel_rfl
theorem hasBody_35 : hasBody Try.prog 35 = true := by kernel_rfl
theorem hasBody_36 : hasBody Try.prog 36 = true := by kernel_rfl
theorem hasBody_37 : hasBody Try.prog 37 = true := by kernel_rfl
theorem hasBody_38 : hasBody Try.prog 38 = true := by kernel_rfl
theorem hasBody_39 : hasBody Try.prog 39 = true := by kernel_rfl
theorem hasBody_40 : hasBody Try.prog 40 = true := by kernel_rfl
theorem hasBody_41 : hasBody Try.prog 41 = true := by kernel_rfl
theorem hasBody_42 : hasBody Try.prog 42 = true := by kernel_rfl
theorem hasBody_43 : hasBody Try.prog 43 = true := by kernel_rfl
theorem hasBody_44 : hasBody Try.prog 44 = true := by kernel_rfl
theorem hasBody_45 : hasBody Try.prog 45 = true := by kernel_rfl
theorem hasBody_46 : hasBody Try.prog 46 = true := by kernel_rfl
theorem hasBody_47 : hasBody Try.prog 47 = true := by kernel_rfl
theorem hasBody_48 : hasBody Try.prog 48 = true := by kernel_rfl
theorem mixed : Try.prog.follows .mixedOrders = true := by kernel_rfl
end Abs
end Go.Proofs.Ytijboooekbdinaa
