/-
  FnExactReadNum: for every argument, the law returns true, and the arguments read behind the call as they read before (the tied card: the listed tables as the program's text lays them).
  Conditions: none beyond the given statement's own.
-/
import Derived.Test.YtmcmgeedhbgglaaDoorKk1
import Derived.Test.YtmcmgeedhbgglaaDoorRows
import Derived.Shelf.LaysM
import Derived.Shelf.Strconv.Itoa3
import Derived.Lib.Strings
import Derived.Lib.AtoiAll
import Derived.Lib.AtoiAllCases
import Derived.Shelf.Strconv.AtoiAll
import Derived.Handed
import Derived.LaidMore
import Derived.MakeChecks
import Derived.Stop.LaidErr
import Derived.Shelf.Vars
import Derived.Test.YtmcmgeedhbgglaaDoorTie
import Derived.Test.YtmcmgeedhbgglaaDoorCards
import Derived.WalkKit
import Derived.ProofKit
import Derived.OpenShut
import Derived.ShutString
import Derived.ChangeOld
import Derived.Below
import Derived.SizedLaws
import Derived.SevenTiedAt
namespace Go.Proofs.YtmcmgeedhbgglaaDoor.AM
open Go.RowKit
@[simp] theorem tk_2 : tk Tryd.prog 2 = some (1, false) := by kernel_rfl
@[simp] theorem tsz_2 : tsz Tryd.prog 2 = some 1 := by kernel_rfl
@[simp] theorem tzero_2 : tzero Tryd.prog 2 = some [.int .i64 0] := by kernel_rfl
@[simp] theorem tby_2 : tby Tryd.prog 2 = some 8 := by kernel_rfl
@[simp] theorem und_2 : Tryd.prog.underlying 2 = some (.int .i64) := by kernel_rfl
@[simp] theorem tk_3 : tk Tryd.prog 3 = some (1, false) := by kernel_rfl
@[simp] theorem tsz_3 : tsz Tryd.prog 3 = some 1 := by kernel_rfl
@[simp] theorem tzero_3 : tzero Tryd.prog 3 = some [.int .i64 0] := by kernel_rfl
@[simp] theorem tby_3 : tby Tryd.prog 3 = some 8 := by kernel_rfl
@[simp] theorem und_3 : Tryd.prog.underlying 3 = some (.int .i64) := by kernel_rfl
@[simp] theorem tk_4 : tk Tryd.prog 4 = some (1, false) := by kernel_rfl
@[simp] theorem tsz_4 : tsz Tryd.prog 4 = some 1 := by kernel_rfl
@[simp] theorem tzero_4 : tzero Tryd.prog 4 = some [.bool false] := by kernel_rfl
@[simp] theorem tby_4 : tby Tryd.prog 4 = some 1 := by kernel_rfl
@[simp] theorem und_4 : Tryd.prog.underlying 4 = some .bool := by kernel_rfl
@[simp] theorem tk_5 : tk Tryd.prog 5 = some (1, false) := by kernel_rfl
@[simp] theorem tsz_5 : tsz Tryd.prog 5 = some 1 := by kernel_rfl
@[simp] theorem tzero_5 : tzero Tryd.prog 5 = some [.int .u8 0] := by kernel_rfl
@[simp] theorem tby_5 : tby Tryd.prog 5 = some 1 := by kernel_rfl
@[simp] theorem und_5 : Tryd.prog.underlying 5 = some (.int .u8) := by kernel_rfl
@[simp] theorem tk_6 : tk Tryd.prog 6 = some (1, false) := by kernel_rfl
@[simp] theorem tsz_6 : tsz Tryd.prog 6 = some 1 := by kernel_rfl
@[simp] theorem tzero_6 : tzero Tryd.prog 6 = some [.int .u8 0] := by kernel_rfl
@[simp] theorem tby_6 : tby Tryd.prog 6 = some 1 := by kernel_rfl
@[simp] theorem und_6 : Tryd.prog.underlying 6 = some (.int .u8) := by kernel_rfl
@[simp] theorem tk_7 : tk Tryd.prog 7 = some (4, true) := by kernel_rfl
@[simp] theorem tsz_7 : tsz Tryd.prog 7 = some 4 := by kernel_rfl
@[simp] theorem tzero_7 : tzero Tryd.prog 7 = some [.int .i64 0, .int .i64 0, .bool false, .int .u8 0] := by kernel_rfl
@[simp] theorem tby_7 : tby Tryd.prog 7 = some 24 := by kernel_rfl
@[simp] theorem tfld_7_0 : tfld Tryd.prog 7 0 = some (0, 1, 2) := by kernel_rfl
@[simp] theorem tfld_7_1 : tfld Tryd.prog 7 1 = some (1, 1, 3) := by kernel_rfl
@[simp] theorem tfld_7_2 : tfld Tryd.prog 7 2 = some (2, 1, 4) := by kernel_rfl
@[simp] theorem tfld_7_3 : tfld Tryd.prog 7 3 = some (3, 1, 6) := by kernel_rfl
@[simp] theorem tbuild_7 : tbuild Tryd.prog 7 = some ([.int .i64 0, .int .i64 0, .bool false, .int .u8 0], [(0, 1), (1, 1), (2, 1), (3, 1)]) := by kernel_rfl
@[simp] theorem tkinds_7 : tkinds Tryd.prog 7 = some [.i, .i, .b, .i] := by kernel_rfl
@[simp] theorem tk_8 : tk Tryd.prog 8 = some (4, true) := by kernel_rfl
@[simp] theorem tsz_8 : tsz Tryd.prog 8 = some 4 := by kernel_rfl
@[simp] theorem tzero_8 : tzero Tryd.prog 8 = some [.int .i64 0, .int .i64 0, .bool false, .int .u8 0] := by kernel_rfl
@[simp] theorem tby_8 : tby Tryd.prog 8 = some 24 := by kernel_rfl
@[simp] theorem tfld_8_0 : tfld Tryd.prog 8 0 = some (0, 1, 2) := by kernel_rfl
@[simp] theorem tfld_8_1 : tfld Tryd.prog 8 1 = some (1, 1, 3) := by kernel_rfl
@[simp] theorem tfld_8_2 : tfld Tryd.prog 8 2 = some (2, 1, 4) := by kernel_rfl
@[simp] theorem tfld_8_3 : tfld Tryd.prog 8 3 = some (3, 1, 6) := by kernel_rfl
@[simp] theorem tbuild_8 : tbuild Tryd.prog 8 = some ([.int .i64 0, .int .i64 0, .bool false, .int .u8 0], [(0, 1), (1, 1), (2, 1), (3, 1)]) := by kernel_rfl
@[simp] theorem tkinds_8 : tkinds Tryd.prog 8 = some [.i, .i, .b, .i] := by kernel_rfl
@[simp] theorem tk_9 : tk Tryd.prog 9 = some (1, false) := by kernel_rfl
@[simp] theorem tsz_9 : tsz Tryd.prog 9 = some 1 := by kernel_rfl
@[simp] theorem tzero_9 : tzero Tryd.prog 9 = some [.str ByteArray.empty] := by kernel_rfl
@[simp] theorem tby_9 : tby Tryd.prog 9 = some 16 := by kernel_rfl
@[simp] theorem und_9 : Tryd.prog.underlying 9 = some .string := by kernel_rfl
@[simp] theorem tk_10 : tk Tryd.prog 10 = some (1, false) := by kernel_rfl
@[simp] theorem tsz_10 : tsz Tryd.prog 10 = some 1 := by kernel_rfl
@[simp] theorem tzero_10 : tzero Tryd.prog 10 = some [.str ByteArray.empty] := by kernel_rfl
@[simp] theorem tby_10 : tby Tryd.prog 10 = some 16 := by kernel_rfl
@[simp] theorem und_10 : Tryd.prog.underlying 10 = some .string := by kernel_rfl
@[simp] theorem tk_11 : tk Tryd.prog 11 = some (1, false) := by kernel_rfl
@[simp] theorem tsz_11 : tsz Tryd.prog 11 = some 1 := by kernel_rfl
@[simp] theorem tzero_11 : tzero Tryd.prog 11 = some [.str ByteArray.empty] := by kernel_rfl
@[simp] theorem tby_11 : tby Tryd.prog 11 = some 16 := by kernel_rfl
@[simp] theorem und_11 : Tryd.prog.underlying 11 = some .string := by kernel_rfl
@[simp] theorem tk_12 : tk Tryd.prog 12 = some (1, false) := by kernel_rfl
@[simp] theorem tsz_12 : tsz Tryd.prog 12 = some 1 := by kernel_rfl
@[simp] theorem tzero_12 : tzero Tryd.prog 12 = some [.int .u64 0] := by kernel_rfl
@[simp] theorem tby_12 : tby Tryd.prog 12 = some 8 := by kernel_rfl
@[simp] theorem und_12 : Tryd.prog.underlying 12 = some (.int .u64) := by kernel_rfl
@[simp] theorem tk_13 : tk Tryd.prog 13 = some (2, true) := by kernel_rfl
@[simp] theorem tsz_13 : tsz Tryd.prog 13 = some 2 := by kernel_rfl
@[simp] theorem tzero_13 : tzero Tryd.prog 13 = some [.str ByteArray.empty, .int .u64 0] := by kernel_rfl
@[simp] theorem tby_13 : tby Tryd.prog 13 = some 24 := by kernel_rfl
@[simp] theorem tfld_13_0 : tfld Tryd.prog 13 0 = some (0, 1, 9) := by kernel_rfl
@[simp] theorem tfld_13_1 : tfld Tryd.prog 13 1 = some (1, 1, 12) := by kernel_rfl
@[simp] theorem tbuild_13 : tbuild Tryd.prog 13 = some ([.str ByteArray.empty, .int .u64 0], [(0, 1), (1, 1)]) := by kernel_rfl
@[simp] theorem tk_14 : tk Tryd.prog 14 = some (2, true) := by kernel_rfl
@[simp] theorem tsz_14 : tsz Tryd.prog 14 = some 2 := by kernel_rfl
@[simp] theorem tzero_14 : tzero Tryd.prog 14 = some [.str ByteArray.empty, .int .u64 0] := by kernel_rfl
@[simp] theorem tby_14 : tby Tryd.prog 14 = some 24 := by kernel_rfl
@[simp] theorem tfld_14_0 : tfld Tryd.prog 14 0 = some (0, 1, 9) := by kernel_rfl
@[simp] theorem tfld_14_1 : tfld Tryd.prog 14 1 = some (1, 1, 12) := by kernel_rfl
@[simp] theorem tbuild_14 : tbuild Tryd.prog 14 = some ([.str ByteArray.empty, .int .u64 0], [(0, 1), (1, 1)]) := by kernel_rfl
@[simp] theorem tk_15 : tk Tryd.prog 15 = some (1, false) := by kernel_rfl
@[simp] theorem tsz_15 : tsz Tryd.prog 15 = some 1 := by kernel_rfl
@[simp] theorem tzero_15 : tzero Tryd.prog 15 = some [.nilp] := by kernel_rfl
@[simp] theorem tby_15 : tby Tryd.prog 15 = some 8 := by kernel_rfl
@[simp] theorem tk_16 : tk Tryd.prog 16 = some (1, false) := by kernel_rfl
@[simp] theorem tsz_16 : tsz Tryd.prog 16 = some 1 := by kernel_rfl
@[simp] theorem tzero_16 : tzero Tryd.prog 16 = some [.nilp] := by kernel_rfl
@[simp] theorem tby_16 : tby Tryd.prog 16 = some 8 := by kernel_rfl
@[simp] theorem tk_17 : tk Tryd.prog 17 = some (1, false) := by kernel_rfl
@[simp] theorem tsz_17 : tsz Tryd.prog 17 = some 1 := by kernel_rfl
@[simp] theorem tzero_17 : tzero Tryd.prog 17 = some [.nilp] := by kernel_rfl
@[simp] theorem tby_17 : tby Tryd.prog 17 = some 8 := by kernel_rfl
@[simp] theorem tk_18 : tk Tryd.prog 18 = some (1, true) := by kernel_rfl
@[simp] theorem tsz_18 : tsz Tryd.prog 18 = some 1 := by kernel_rfl
@[simp] theorem tzero_18 : tzero Tryd.prog 18 = some [.nilp] := by kernel_rfl
@[simp] theorem tby_18 : tby Tryd.prog 18 = some 8 := by kernel_rfl
@[simp] theorem tfld_18_0 : tfld Tryd.prog 18 0 = some (0, 1, 17) := by kernel_rfl
@[simp] theorem tbuild_18 : tbuild Tryd.prog 18 = some ([.nilp], [(0, 1)]) := by kernel_rfl
@[simp] theorem tk_19 : tk Tryd.prog 19 = some (1, true) := by kernel_rfl
@[simp] theorem tsz_19 : tsz Tryd.prog 19 = some 1 := by kernel_rfl
@[simp] theorem tzero_19 : tzero Tryd.prog 19 = some [.nilp] := by kernel_rfl
@[simp] theorem tby_19 : tby Tryd.prog 19 = some 8 := by kernel_rfl
@[simp] theorem tfld_19_0 : tfld Tryd.prog 19 0 = some (0, 1, 17) := by kernel_rfl
@[simp] theorem tbuild_19 : tbuild Tryd.prog 19 = some ([.nilp], [(0, 1)]) := by kernel_rfl
@[simp] theorem tk_20 : tk Tryd.prog 20 = some (1, false) := by kernel_rfl
@[simp] theorem tsz_20 : tsz Tryd.prog 20 = some 1 := by kernel_rfl
@[simp] theorem tzero_20 : tzero Tryd.prog 20 = some [.nilif] := by kernel_rfl
@[simp] theorem tby_20 : tby Tryd.prog 20 = some 16 := by kernel_rfl
@[simp] theorem tk_21 : tk Tryd.prog 21 = some (1, false) := by kernel_rfl
@[simp] theorem tsz_21 : tsz Tryd.prog 21 = some 1 := by kernel_rfl
@[simp] theorem tzero_21 : tzero Tryd.prog 21 = some [.int .i32 0] := by kernel_rfl
@[simp] theorem tby_21 : tby Tryd.prog 21 = some 4 := by kernel_rfl
@[simp] theorem und_21 : Tryd.prog.underlying 21 = some (.int .i32) := by kernel_rfl
@[simp] theorem tk_22 : tk Tryd.prog 22 = some (1, false) := by kernel_rfl
@[simp] theorem tsz_22 : tsz Tryd.prog 22 = some 1 := by kernel_rfl
@[simp] theorem tzero_22 : tzero Tryd.prog 22 = some [.nilsl] := by kernel_rfl
@[simp] theorem tby_22 : tby Tryd.prog 22 = some 24 := by kernel_rfl
@[simp] theorem telem_22 : telem Tryd.prog 22 = some 3 := by kernel_rfl
@[simp] theorem und_22 : Tryd.prog.underlying 22 = some (.slice 3) := by kernel_rfl
@[simp] theorem tk_23 : tk Tryd.prog 23 = some (1, false) := by kernel_rfl
@[simp] theorem tsz_23 : tsz Tryd.prog 23 = some 1 := by kernel_rfl
@[simp] theorem tzero_23 : tzero Tryd.prog 23 = some [.nilsl] := by kernel_rfl
@[simp] theorem tby_23 : tby Tryd.prog 23 = some 24 := by kernel_rfl
@[simp] theorem telem_23 : telem Tryd.prog 23 = some 22 := by kernel_rfl
@[simp] theorem und_23 : Tryd.prog.underlying 23 = some (.slice 22) := by kernel_rfl
@[simp] theorem tk_24 : tk Tryd.prog 24 = some (9, true) := by kernel_rfl
@[simp] theorem tsz_24 : tsz Tryd.prog 24 = some 9 := by kernel_rfl
@[simp] theorem tzero_24 : tzero Tryd.prog 24 = some [.int .i64 0, .nilsl, .nilsl, .nilsl, .nilsl, .nilsl, .int .i64 0, .bool false, .int .i64 0] := by kernel_rfl
@[simp] theorem tby_24 : tby Tryd.prog 24 = some 152 := by kernel_rfl
@[simp] theorem tfld_24_0 : tfld Tryd.prog 24 0 = some (0, 1, 3) := by kernel_rfl
@[simp] theorem tfld_24_1 : tfld Tryd.prog 24 1 = some (1, 1, 22) := by kernel_rfl
@[simp] theorem tfld_24_2 : tfld Tryd.prog 24 2 = some (2, 1, 22) := by kernel_rfl
@[simp] theorem tfld_24_3 : tfld Tryd.prog 24 3 = some (3, 1, 23) := by kernel_rfl
@[simp] theorem tfld_24_4 : tfld Tryd.prog 24 4 = some (4, 1, 22) := by kernel_rfl
@[simp] theorem tfld_24_5 : tfld Tryd.prog 24 5 = some (5, 1, 22) := by kernel_rfl
@[simp] theorem tfld_24_6 : tfld Tryd.prog 24 6 = some (6, 1, 3) := by kernel_rfl
@[simp] theorem tfld_24_7 : tfld Tryd.prog 24 7 = some (7, 1, 4) := by kernel_rfl
@[simp] theorem tfld_24_8 : tfld Tryd.prog 24 8 = some (8, 1, 3) := by kernel_rfl
@[simp] theorem tbuild_24 : tbuild Tryd.prog 24 = some ([.int .i64 0, .nilsl, .nilsl, .nilsl, .nilsl, .nilsl, .int .i64 0, .bool false, .int .i64 0], [(0, 1), (1, 1), (2, 1), (3, 1), (4, 1), (5, 1), (6, 1), (7, 1), (8, 1)]) := by kernel_rfl
@[simp] theorem tk_25 : tk Tryd.prog 25 = some (9, true) := by kernel_rfl
@[simp] theorem tsz_25 : tsz Tryd.prog 25 = some 9 := by kernel_rfl
@[simp] theorem tzero_25 : tzero Tryd.prog 25 = some [.int .i64 0, .nilsl, .nilsl, .nilsl, .nilsl, .nilsl, .int .i64 0, .bool false, .int .i64 0] := by kernel_rfl
@[simp] theorem tby_25 : tby Tryd.prog 25 = some 152 := by kernel_rfl
@[simp] theorem tfld_25_0 : tfld Tryd.prog 25 0 = some (0, 1, 3) := by kernel_rfl
@[simp] theorem tfld_25_1 : tfld Tryd.prog 25 1 = some (1, 1, 22) := by kernel_rfl
@[simp] theorem tfld_25_2 : tfld Tryd.prog 25 2 = some (2, 1, 22) := by kernel_rfl
@[simp] theorem tfld_25_3 : tfld Tryd.prog 25 3 = some (3, 1, 23) := by kernel_rfl
@[simp] theorem tfld_25_4 : tfld Tryd.prog 25 4 = some (4, 1, 22) := by kernel_rfl
@[simp] theorem tfld_25_5 : tfld Tryd.prog 25 5 = some (5, 1, 22) := by kernel_rfl
@[simp] theorem tfld_25_6 : tfld Tryd.prog 25 6 = some (6, 1, 3) := by kernel_rfl
@[simp] theorem tfld_25_7 : tfld Tryd.prog 25 7 = some (7, 1, 4) := by kernel_rfl
@[simp] theorem tfld_25_8 : tfld Tryd.prog 25 8 = some (8, 1, 3) := by kernel_rfl
@[simp] theorem tbuild_25 : tbuild Tryd.prog 25 = some ([.int .i64 0, .nilsl, .nilsl, .nilsl, .nilsl, .nilsl, .int .i64 0, .bool false, .int .i64 0], [(0, 1), (1, 1), (2, 1), (3, 1), (4, 1), (5, 1), (6, 1), (7, 1), (8, 1)]) := by kernel_rfl
@[simp] theorem tk_28 : tk Tryd.prog 28 = some (9, true) := by kernel_rfl
@[simp] theorem tsz_28 : tsz Tryd.prog 28 = some 9 := by kernel_rfl
@[simp] theorem tzero_28 : tzero Tryd.prog 28 = some [.int .i64 0, .nilsl, .nilsl, .nilsl, .nilsl, .nilsl, .int .i64 0, .bool false, .int .i64 0] := by kernel_rfl
@[simp] theorem tby_28 : tby Tryd.prog 28 = some 152 := by kernel_rfl
@[simp] theorem tfld_28_0 : tfld Tryd.prog 28 0 = some (0, 1, 3) := by kernel_rfl
@[simp] theorem tfld_28_1 : tfld Tryd.prog 28 1 = some (1, 1, 22) := by kernel_rfl
@[simp] theorem tfld_28_2 : tfld Tryd.prog 28 2 = some (2, 1, 22) := by kernel_rfl
@[simp] theorem tfld_28_3 : tfld Tryd.prog 28 3 = some (3, 1, 23) := by kernel_rfl
@[simp] theorem tfld_28_4 : tfld Tryd.prog 28 4 = some (4, 1, 22) := by kernel_rfl
@[simp] theorem tfld_28_5 : tfld Tryd.prog 28 5 = some (5, 1, 22) := by kernel_rfl
@[simp] theorem tfld_28_6 : tfld Tryd.prog 28 6 = some (6, 1, 3) := by kernel_rfl
@[simp] theorem tfld_28_7 : tfld Tryd.prog 28 7 = some (7, 1, 4) := by kernel_rfl
@[simp] theorem tfld_28_8 : tfld Tryd.prog 28 8 = some (8, 1, 3) := by kernel_rfl
@[simp] theorem tbuild_28 : tbuild Tryd.prog 28 = some ([.int .i64 0, .nilsl, .nilsl, .nilsl, .nilsl, .nilsl, .int .i64 0, .bool false, .int .i64 0], [(0, 1), (1, 1), (2, 1), (3, 1), (4, 1), (5, 1), (6, 1), (7, 1), (8, 1)]) := by kernel_rfl
@[simp] theorem tk_35 : tk Tryd.prog 35 = some (1, false) := by kernel_rfl
@[simp] theorem tsz_35 : tsz Tryd.prog 35 = some 1 := by kernel_rfl
@[simp] theorem tzero_35 : tzero Tryd.prog 35 = some [.nilsl] := by kernel_rfl
@[simp] theorem tby_35 : tby Tryd.prog 35 = some 24 := by kernel_rfl
@[simp] theorem telem_35 : telem Tryd.prog 35 = some 93 := by kernel_rfl
@[simp] theorem und_35 : Tryd.prog.underlying 35 = some (.slice 93) := by kernel_rfl
@[simp] theorem tk_36 : tk Tryd.prog 36 = some (4, true) := by kernel_rfl
@[simp] theorem tsz_36 : tsz Tryd.prog 36 = some 4 := by kernel_rfl
@[simp] theorem tzero_36 : tzero Tryd.prog 36 = some [.nilsl, .int .i64 0, .int .i64 0, .nilsl] := by kernel_rfl
@[simp] theorem tby_36 : tby Tryd.prog 36 = some 64 := by kernel_rfl
@[simp] theorem tfld_36_0 : tfld Tryd.prog 36 0 = some (0, 1, 22) := by kernel_rfl
@[simp] theorem tfld_36_1 : tfld Tryd.prog 36 1 = some (1, 1, 3) := by kernel_rfl
@[simp] theorem tfld_36_2 : tfld Tryd.prog 36 2 = some (2, 1, 3) := by kernel_rfl
@[simp] theorem tfld_36_3 : tfld Tryd.prog 36 3 = some (3, 1, 35) := by kernel_rfl
@[simp] theorem tbuild_36 : tbuild Tryd.prog 36 = some ([.nilsl, .int .i64 0, .int .i64 0, .nilsl], [(0, 1), (1, 1), (2, 1), (3, 1)]) := by kernel_rfl
@[simp] theorem tk_37 : tk Tryd.prog 37 = some (4, true) := by kernel_rfl
@[simp] theorem tsz_37 : tsz Tryd.prog 37 = some 4 := by kernel_rfl
@[simp] theorem tzero_37 : tzero Tryd.prog 37 = some [.nilsl, .int .i64 0, .int .i64 0, .nilsl] := by kernel_rfl
@[simp] theorem tby_37 : tby Tryd.prog 37 = some 64 := by kernel_rfl
@[simp] theorem tfld_37_0 : tfld Tryd.prog 37 0 = some (0, 1, 22) := by kernel_rfl
@[simp] theorem tfld_37_1 : tfld Tryd.prog 37 1 = some (1, 1, 3) := by kernel_rfl
@[simp] theorem tfld_37_2 : tfld Tryd.prog 37 2 = some (2, 1, 3) := by kernel_rfl
@[simp] theorem tfld_37_3 : tfld Tryd.prog 37 3 = some (3, 1, 35) := by kernel_rfl
@[simp] theorem tbuild_37 : tbuild Tryd.prog 37 = some ([.nilsl, .int .i64 0, .int .i64 0, .nilsl], [(0, 1), (1, 1), (2, 1), (3, 1)]) := by kernel_rfl
@[simp] theorem tk_40 : tk Tryd.prog 40 = some (1, false) := by kernel_rfl
@[simp] theorem tsz_40 : tsz Tryd.prog 40 = some 1 := by kernel_rfl
@[simp] theorem tzero_40 : tzero Tryd.prog 40 = some [.nilsl] := by kernel_rfl
@[simp] theorem tby_40 : tby Tryd.prog 40 = some 24 := by kernel_rfl
@[simp] theorem telem_40 : telem Tryd.prog 40 = some 74 := by kernel_rfl
@[simp] theorem und_40 : Tryd.prog.underlying 40 = some (.slice 74) := by kernel_rfl
@[simp] theorem tk_41 : tk Tryd.prog 41 = some (4, true) := by kernel_rfl
@[simp] theorem tsz_41 : tsz Tryd.prog 41 = some 4 := by kernel_rfl
@[simp] theorem tzero_41 : tzero Tryd.prog 41 = some [.nilsl, .int .i64 0, .int .i64 0, .nilsl] := by kernel_rfl
@[simp] theorem tby_41 : tby Tryd.prog 41 = some 64 := by kernel_rfl
@[simp] theorem tfld_41_0 : tfld Tryd.prog 41 0 = some (0, 1, 22) := by kernel_rfl
@[simp] theorem tfld_41_1 : tfld Tryd.prog 41 1 = some (1, 1, 3) := by kernel_rfl
@[simp] theorem tfld_41_2 : tfld Tryd.prog 41 2 = some (2, 1, 3) := by kernel_rfl
@[simp] theorem tfld_41_3 : tfld Tryd.prog 41 3 = some (3, 1, 40) := by kernel_rfl
@[simp] theorem tbuild_41 : tbuild Tryd.prog 41 = some ([.nilsl, .int .i64 0, .int .i64 0, .nilsl], [(0, 1), (1, 1), (2, 1), (3, 1)]) := by kernel_rfl
@[simp] theorem tk_42 : tk Tryd.prog 42 = some (4, true) := by kernel_rfl
@[simp] theorem tsz_42 : tsz Tryd.prog 42 = some 4 := by kernel_rfl
@[simp] theorem tzero_42 : tzero Tryd.prog 42 = some [.nilsl, .int .i64 0, .int .i64 0, .nilsl] := by kernel_rfl
@[simp] theorem tby_42 : tby Tryd.prog 42 = some 64 := by kernel_rfl
@[simp] theorem tfld_42_0 : tfld Tryd.prog 42 0 = some (0, 1, 22) := by kernel_rfl
@[simp] theorem tfld_42_1 : tfld Tryd.prog 42 1 = some (1, 1, 3) := by kernel_rfl
@[simp] theorem tfld_42_2 : tfld Tryd.prog 42 2 = some (2, 1, 3) := by kernel_rfl
@[simp] theorem tfld_42_3 : tfld Tryd.prog 42 3 = some (3, 1, 40) := by kernel_rfl
@[simp] theorem tbuild_42 : tbuild Tryd.prog 42 = some ([.nilsl, .int .i64 0, .int .i64 0, .nilsl], [(0, 1), (1, 1), (2, 1), (3, 1)]) := by kernel_rfl
@[simp] theorem tk_53 : tk Tryd.prog 53 = some (3, true) := by kernel_rfl
@[simp] theorem tsz_53 : tsz Tryd.prog 53 = some 3 := by kernel_rfl
@[simp] theorem tzero_53 : tzero Tryd.prog 53 = some [.int .i64 0, .int .i64 0, .nilsl] := by kernel_rfl
@[simp] theorem tby_53 : tby Tryd.prog 53 = some 40 := by kernel_rfl
@[simp] theorem tfld_53_0 : tfld Tryd.prog 53 0 = some (0, 1, 3) := by kernel_rfl
@[simp] theorem tfld_53_1 : tfld Tryd.prog 53 1 = some (1, 1, 3) := by kernel_rfl
@[simp] theorem tfld_53_2 : tfld Tryd.prog 53 2 = some (2, 1, 22) := by kernel_rfl
@[simp] theorem tbuild_53 : tbuild Tryd.prog 53 = some ([.int .i64 0, .int .i64 0, .nilsl], [(0, 1), (1, 1), (2, 1)]) := by kernel_rfl
@[simp] theorem tk_54 : tk Tryd.prog 54 = some (3, true) := by kernel_rfl
@[simp] theorem tsz_54 : tsz Tryd.prog 54 = some 3 := by kernel_rfl
@[simp] theorem tzero_54 : tzero Tryd.prog 54 = some [.int .i64 0, .int .i64 0, .nilsl] := by kernel_rfl
@[simp] theorem tby_54 : tby Tryd.prog 54 = some 40 := by kernel_rfl
@[simp] theorem tfld_54_0 : tfld Tryd.prog 54 0 = some (0, 1, 3) := by kernel_rfl
@[simp] theorem tfld_54_1 : tfld Tryd.prog 54 1 = some (1, 1, 3) := by kernel_rfl
@[simp] theorem tfld_54_2 : tfld Tryd.prog 54 2 = some (2, 1, 22) := by kernel_rfl
@[simp] theorem tbuild_54 : tbuild Tryd.prog 54 = some ([.int .i64 0, .int .i64 0, .nilsl], [(0, 1), (1, 1), (2, 1)]) := by kernel_rfl
@[simp] theorem tk_58 : tk Tryd.prog 58 = some (1, false) := by kernel_rfl
@[simp] theorem tsz_58 : tsz Tryd.prog 58 = some 1 := by kernel_rfl
@[simp] theorem tzero_58 : tzero Tryd.prog 58 = some [.nilsl] := by kernel_rfl
@[simp] theorem tby_58 : tby Tryd.prog 58 = some 24 := by kernel_rfl
@[simp] theorem telem_58 : telem Tryd.prog 58 = some 9 := by kernel_rfl
@[simp] theorem und_58 : Tryd.prog.underlying 58 = some (.slice 9) := by kernel_rfl
@[simp] theorem tk_65 : tk Tryd.prog 65 = some (1, false) := by kernel_rfl
@[simp] theorem tsz_65 : tsz Tryd.prog 65 = some 1 := by kernel_rfl
@[simp] theorem tzero_65 : tzero Tryd.prog 65 = some [.nilif] := by kernel_rfl
@[simp] theorem tby_65 : tby Tryd.prog 65 = some 16 := by kernel_rfl
@[simp] theorem tk_66 : tk Tryd.prog 66 = some (1, false) := by kernel_rfl
@[simp] theorem tsz_66 : tsz Tryd.prog 66 = some 1 := by kernel_rfl
@[simp] theorem tzero_66 : tzero Tryd.prog 66 = some [.nilif] := by kernel_rfl
@[simp] theorem tby_66 : tby Tryd.prog 66 = some 16 := by kernel_rfl
@[simp] theorem tk_73 : tk Tryd.prog 73 = some (5, true) := by kernel_rfl
@[simp] theorem tsz_73 : tsz Tryd.prog 73 = some 5 := by kernel_rfl
@[simp] theorem tzero_73 : tzero Tryd.prog 73 = some [.int .i64 0, .int .i64 0, .int .i64 0, .int .i64 0, .int .i64 0] := by kernel_rfl
@[simp] theorem tby_73 : tby Tryd.prog 73 = some 40 := by kernel_rfl
@[simp] theorem tfld_73_0 : tfld Tryd.prog 73 0 = some (0, 1, 3) := by kernel_rfl
@[simp] theorem tfld_73_1 : tfld Tryd.prog 73 1 = some (1, 1, 3) := by kernel_rfl
@[simp] theorem tfld_73_2 : tfld Tryd.prog 73 2 = some (2, 1, 3) := by kernel_rfl
@[simp] theorem tfld_73_3 : tfld Tryd.prog 73 3 = some (3, 1, 3) := by kernel_rfl
@[simp] theorem tfld_73_4 : tfld Tryd.prog 73 4 = some (4, 1, 3) := by kernel_rfl
@[simp] theorem tbuild_73 : tbuild Tryd.prog 73 = some ([.int .i64 0, .int .i64 0, .int .i64 0, .int .i64 0, .int .i64 0], [(0, 1), (1, 1), (2, 1), (3, 1), (4, 1)]) := by kernel_rfl
@[simp] theorem tkinds_73 : tkinds Tryd.prog 73 = some [.i, .i, .i, .i, .i] := by kernel_rfl
@[simp] theorem tk_74 : tk Tryd.prog 74 = some (5, true) := by kernel_rfl
@[simp] theorem tsz_74 : tsz Tryd.prog 74 = some 5 := by kernel_rfl
@[simp] theorem tzero_74 : tzero Tryd.prog 74 = some [.int .i64 0, .int .i64 0, .int .i64 0, .int .i64 0, .int .i64 0] := by kernel_rfl
@[simp] theorem tby_74 : tby Tryd.prog 74 = some 40 := by kernel_rfl
@[simp] theorem tfld_74_0 : tfld Tryd.prog 74 0 = some (0, 1, 3) := by kernel_rfl
@[simp] theorem tfld_74_1 : tfld Tryd.prog 74 1 = some (1, 1, 3) := by kernel_rfl
@[simp] theorem tfld_74_2 : tfld Tryd.prog 74 2 = some (2, 1, 3) := by kernel_rfl
@[simp] theorem tfld_74_3 : tfld Tryd.prog 74 3 = some (3, 1, 3) := by kernel_rfl
@[simp] theorem tfld_74_4 : tfld Tryd.prog 74 4 = some (4, 1, 3) := by kernel_rfl
@[simp] theorem tbuild_74 : tbuild Tryd.prog 74 = some ([.int .i64 0, .int .i64 0, .int .i64 0, .int .i64 0, .int .i64 0], [(0, 1), (1, 1), (2, 1), (3, 1), (4, 1)]) := by kernel_rfl
@[simp] theorem tkinds_74 : tkinds Tryd.prog 74 = some [.i, .i, .i, .i, .i] := by kernel_rfl
@[simp] theorem tk_79 : tk Tryd.prog 79 = some (1, false) := by kernel_rfl
@[simp] theorem tsz_79 : tsz Tryd.prog 79 = some 1 := by kernel_rfl
@[simp] theorem tzero_79 : tzero Tryd.prog 79 = some [.nilp] := by kernel_rfl
@[simp] theorem tby_79 : tby Tryd.prog 79 = some 8 := by kernel_rfl
@[simp] theorem tk_81 : tk Tryd.prog 81 = some (1, false) := by kernel_rfl
@[simp] theorem tsz_81 : tsz Tryd.prog 81 = some 1 := by kernel_rfl
@[simp] theorem tzero_81 : tzero Tryd.prog 81 = some [.nilp] := by kernel_rfl
@[simp] theorem tby_81 : tby Tryd.prog 81 = some 8 := by kernel_rfl
@[simp] theorem tk_82 : tk Tryd.prog 82 = some (1, false) := by kernel_rfl
@[simp] theorem tsz_82 : tsz Tryd.prog 82 = some 1 := by kernel_rfl
@[simp] theorem tzero_82 : tzero Tryd.prog 82 = some [.nilsl] := by kernel_rfl
@[simp] theorem tby_82 : tby Tryd.prog 82 = some 24 := by kernel_rfl
@[simp] theorem telem_82 : telem Tryd.prog 82 = some 5 := by kernel_rfl
@[simp] theorem und_82 : Tryd.prog.underlying 82 = some (.slice 5) := by kernel_rfl
@[simp] theorem tk_83 : tk Tryd.prog 83 = some (2, true) := by kernel_rfl
@[simp] theorem tsz_83 : tsz Tryd.prog 83 = some 2 := by kernel_rfl
@[simp] theorem tzero_83 : tzero Tryd.prog 83 = some [.nilp, .nilsl] := by kernel_rfl
@[simp] theorem tby_83 : tby Tryd.prog 83 = some 32 := by kernel_rfl
@[simp] theorem tfld_83_0 : tfld Tryd.prog 83 0 = some (0, 1, 81) := by kernel_rfl
@[simp] theorem tfld_83_1 : tfld Tryd.prog 83 1 = some (1, 1, 82) := by kernel_rfl
@[simp] theorem tbuild_83 : tbuild Tryd.prog 83 = some ([.nilp, .nilsl], [(0, 1), (1, 1)]) := by kernel_rfl
@[simp] theorem tk_84 : tk Tryd.prog 84 = some (2, true) := by kernel_rfl
@[simp] theorem tsz_84 : tsz Tryd.prog 84 = some 2 := by kernel_rfl
@[simp] theorem tzero_84 : tzero Tryd.prog 84 = some [.nilp, .nilsl] := by kernel_rfl
@[simp] theorem tby_84 : tby Tryd.prog 84 = some 32 := by kernel_rfl
@[simp] theorem tfld_84_0 : tfld Tryd.prog 84 0 = some (0, 1, 81) := by kernel_rfl
@[simp] theorem tfld_84_1 : tfld Tryd.prog 84 1 = some (1, 1, 82) := by kernel_rfl
@[simp] theorem tbuild_84 : tbuild Tryd.prog 84 = some ([.nilp, .nilsl], [(0, 1), (1, 1)]) := by kernel_rfl
@[simp] theorem tk_93 : tk Tryd.prog 93 = some (5, true) := by kernel_rfl
@[simp] theorem tsz_93 : tsz Tryd.prog 93 = some 5 := by kernel_rfl
@[simp] theorem tzero_93 : tzero Tryd.prog 93 = some [.int .i64 0, .int .i64 0, .int .i64 0, .int .i64 0, .int .i64 0] := by kernel_rfl
@[simp] theorem tby_93 : tby Tryd.prog 93 = some 40 := by kernel_rfl
@[simp] theorem tfld_93_0 : tfld Tryd.prog 93 0 = some (0, 1, 3) := by kernel_rfl
@[simp] theorem tfld_93_1 : tfld Tryd.prog 93 1 = some (1, 1, 3) := by kernel_rfl
@[simp] theorem tfld_93_2 : tfld Tryd.prog 93 2 = some (2, 1, 3) := by kernel_rfl
@[simp] theorem tfld_93_3 : tfld Tryd.prog 93 3 = some (3, 1, 3) := by kernel_rfl
@[simp] theorem tfld_93_4 : tfld Tryd.prog 93 4 = some (4, 1, 3) := by kernel_rfl
@[simp] theorem tbuild_93 : tbuild Tryd.prog 93 = some ([.int .i64 0, .int .i64 0, .int .i64 0, .int .i64 0, .int .i64 0], [(0, 1), (1, 1), (2, 1), (3, 1), (4, 1)]) := by kernel_rfl
@[simp] theorem tkinds_93 : tkinds Tryd.prog 93 = some [.i, .i, .i, .i, .i] := by kernel_rfl
@[simp] theorem tk_95 : tk Tryd.prog 95 = some (1, false) := by kernel_rfl
@[simp] theorem tsz_95 : tsz Tryd.prog 95 = some 1 := by kernel_rfl
@[simp] theorem tzero_95 : tzero Tryd.prog 95 = some [.nilsl] := by kernel_rfl
@[simp] theorem tby_95 : tby Tryd.prog 95 = some 24 := by kernel_rfl
@[simp] theorem telem_95 : telem Tryd.prog 95 = some 136 := by kernel_rfl
@[simp] theorem und_95 : Tryd.prog.underlying 95 = some (.slice 136) := by kernel_rfl
@[simp] theorem tk_96 : tk Tryd.prog 96 = some (4, true) := by kernel_rfl
@[simp] theorem tsz_96 : tsz Tryd.prog 96 = some 4 := by kernel_rfl
@[simp] theorem tzero_96 : tzero Tryd.prog 96 = some [.nilsl, .int .i64 0, .int .i64 0, .nilsl] := by kernel_rfl
@[simp] theorem tby_96 : tby Tryd.prog 96 = some 64 := by kernel_rfl
@[simp] theorem tfld_96_0 : tfld Tryd.prog 96 0 = some (0, 1, 22) := by kernel_rfl
@[simp] theorem tfld_96_1 : tfld Tryd.prog 96 1 = some (1, 1, 3) := by kernel_rfl
@[simp] theorem tfld_96_2 : tfld Tryd.prog 96 2 = some (2, 1, 3) := by kernel_rfl
@[simp] theorem tfld_96_3 : tfld Tryd.prog 96 3 = some (3, 1, 95) := by kernel_rfl
@[simp] theorem tbuild_96 : tbuild Tryd.prog 96 = some ([.nilsl, .int .i64 0, .int .i64 0, .nilsl], [(0, 1), (1, 1), (2, 1), (3, 1)]) := by kernel_rfl
@[simp] theorem tk_97 : tk Tryd.prog 97 = some (4, true) := by kernel_rfl
@[simp] theorem tsz_97 : tsz Tryd.prog 97 = some 4 := by kernel_rfl
@[simp] theorem tzero_97 : tzero Tryd.prog 97 = some [.nilsl, .int .i64 0, .int .i64 0, .nilsl] := by kernel_rfl
@[simp] theorem tby_97 : tby Tryd.prog 97 = some 64 := by kernel_rfl
@[simp] theorem tfld_97_0 : tfld Tryd.prog 97 0 = some (0, 1, 22) := by kernel_rfl
@[simp] theorem tfld_97_1 : tfld Tryd.prog 97 1 = some (1, 1, 3) := by kernel_rfl
@[simp] theorem tfld_97_2 : tfld Tryd.prog 97 2 = some (2, 1, 3) := by kernel_rfl
@[simp] theorem tfld_97_3 : tfld Tryd.prog 97 3 = some (3, 1, 95) := by kernel_rfl
@[simp] theorem tbuild_97 : tbuild Tryd.prog 97 = some ([.nilsl, .int .i64 0, .int .i64 0, .nilsl], [(0, 1), (1, 1), (2, 1), (3, 1)]) := by kernel_rfl
@[simp] theorem tk_104 : tk Tryd.prog 104 = some (1, false) := by kernel_rfl
@[simp] theorem tsz_104 : tsz Tryd.prog 104 = some 1 := by kernel_rfl
@[simp] theorem tzero_104 : tzero Tryd.prog 104 = some [.nilp] := by kernel_rfl
@[simp] theorem tby_104 : tby Tryd.prog 104 = some 8 := by kernel_rfl
@[simp] theorem tk_105 : tk Tryd.prog 105 = some (1, false) := by kernel_rfl
@[simp] theorem tsz_105 : tsz Tryd.prog 105 = some 1 := by kernel_rfl
@[simp] theorem tzero_105 : tzero Tryd.prog 105 = some [.int .i64 0] := by kernel_rfl
@[simp] theorem tby_105 : tby Tryd.prog 105 = some 8 := by kernel_rfl
@[simp] theorem und_105 : Tryd.prog.underlying 105 = some (.int .i64) := by kernel_rfl
@[simp] theorem tk_108 : tk Tryd.prog 108 = some (1, false) := by kernel_rfl
@[simp] theorem tsz_108 : tsz Tryd.prog 108 = some 1 := by kernel_rfl
@[simp] theorem tzero_108 : tzero Tryd.prog 108 = some [.nilp] := by kernel_rfl
@[simp] theorem tby_108 : tby Tryd.prog 108 = some 8 := by kernel_rfl
@[simp] theorem tk_117 : tk Tryd.prog 117 = some (24, true) := by kernel_rfl
@[simp] theorem tsz_117 : tsz Tryd.prog 117 = some 24 := by kernel_rfl
@[simp] theorem tzero_117 : tzero Tryd.prog 117 = some [.int .u8 0, .int .u8 0, .int .u8 0, .int .u8 0, .int .u8 0, .int .u8 0, .int .u8 0, .int .u8 0, .int .u8 0, .int .u8 0, .int .u8 0, .int .u8 0, .int .u8 0, .int .u8 0, .int .u8 0, .int .u8 0, .int .u8 0, .int .u8 0, .int .u8 0, .int .u8 0, .int .u8 0, .int .u8 0, .int .u8 0, .int .u8 0] := by kernel_rfl
@[simp] theorem tby_117 : tby Tryd.prog 117 = some 24 := by kernel_rfl
@[simp] theorem tk_118 : tk Tryd.prog 118 = some (1, false) := by kernel_rfl
@[simp] theorem tsz_118 : tsz Tryd.prog 118 = some 1 := by kernel_rfl
@[simp] theorem tzero_118 : tzero Tryd.prog 118 = some [.int .u64 0] := by kernel_rfl
@[simp] theorem tby_118 : tby Tryd.prog 118 = some 8 := by kernel_rfl
@[simp] theorem und_118 : Tryd.prog.underlying 118 = some (.int .u64) := by kernel_rfl
@[simp] theorem tk_123 : tk Tryd.prog 123 = some (1, false) := by kernel_rfl
@[simp] theorem tsz_123 : tsz Tryd.prog 123 = some 1 := by kernel_rfl
@[simp] theorem tzero_123 : tzero Tryd.prog 123 = some [.nilp] := by kernel_rfl
@[simp] theorem tby_123 : tby Tryd.prog 123 = some 8 := by kernel_rfl
@[simp] theorem tk_128 : tk Tryd.prog 128 = some (1, false) := by kernel_rfl
@[simp] theorem tsz_128 : tsz Tryd.prog 128 = some 1 := by kernel_rfl
@[simp] theorem tzero_128 : tzero Tryd.prog 128 = some [.int .u64 0] := by kernel_rfl
@[simp] theorem tby_128 : tby Tryd.prog 128 = some 8 := by kernel_rfl
@[simp] theorem und_128 : Tryd.prog.underlying 128 = some (.int .u64) := by kernel_rfl
@[simp] theorem tk_130 : tk Tryd.prog 130 = some (3, true) := by kernel_rfl
@[simp] theorem tsz_130 : tsz Tryd.prog 130 = some 3 := by kernel_rfl
@[simp] theorem tzero_130 : tzero Tryd.prog 130 = some [.str ByteArray.empty, .str ByteArray.empty, .nilif] := by kernel_rfl
@[simp] theorem tby_130 : tby Tryd.prog 130 = some 48 := by kernel_rfl
@[simp] theorem tfld_130_0 : tfld Tryd.prog 130 0 = some (0, 1, 9) := by kernel_rfl
@[simp] theorem tfld_130_1 : tfld Tryd.prog 130 1 = some (1, 1, 9) := by kernel_rfl
@[simp] theorem tfld_130_2 : tfld Tryd.prog 130 2 = some (2, 1, 66) := by kernel_rfl
@[simp] theorem tbuild_130 : tbuild Tryd.prog 130 = some ([.str ByteArray.empty, .str ByteArray.empty, .nilif], [(0, 1), (1, 1), (2, 1)]) := by kernel_rfl
@[simp] theorem tk_131 : tk Tryd.prog 131 = some (3, true) := by kernel_rfl
@[simp] theorem tsz_131 : tsz Tryd.prog 131 = some 3 := by kernel_rfl
@[simp] theorem tzero_131 : tzero Tryd.prog 131 = some [.str ByteArray.empty, .str ByteArray.empty, .nilif] := by kernel_rfl
@[simp] theorem tby_131 : tby Tryd.prog 131 = some 48 := by kernel_rfl
@[simp] theorem tfld_131_0 : tfld Tryd.prog 131 0 = some (0, 1, 9) := by kernel_rfl
@[simp] theorem tfld_131_1 : tfld Tryd.prog 131 1 = some (1, 1, 9) := by kernel_rfl
@[simp] theorem tfld_131_2 : tfld Tryd.prog 131 2 = some (2, 1, 66) := by kernel_rfl
@[simp] theorem tbuild_131 : tbuild Tryd.prog 131 = some ([.str ByteArray.empty, .str ByteArray.empty, .nilif], [(0, 1), (1, 1), (2, 1)]) := by kernel_rfl
@[simp] theorem tk_134 : tk Tryd.prog 134 = some (1, false) := by kernel_rfl
@[simp] theorem tsz_134 : tsz Tryd.prog 134 = some 1 := by kernel_rfl
@[simp] theorem tzero_134 : tzero Tryd.prog 134 = some [.nilsl] := by kernel_rfl
@[simp] theorem tby_134 : tby Tryd.prog 134 = some 24 := by kernel_rfl
@[simp] theorem telem_134 : telem Tryd.prog 134 = some 140 := by kernel_rfl
@[simp] theorem und_134 : Tryd.prog.underlying 134 = some (.slice 140) := by kernel_rfl
@[simp] theorem tk_135 : tk Tryd.prog 135 = some (6, true) := by kernel_rfl
@[simp] theorem tsz_135 : tsz Tryd.prog 135 = some 6 := by kernel_rfl
@[simp] theorem tzero_135 : tzero Tryd.prog 135 = some [.int .i64 0, .int .i64 0, .int .i64 0, .nilsl, .nilsl, .nilsl] := by kernel_rfl
@[simp] theorem tby_135 : tby Tryd.prog 135 = some 96 := by kernel_rfl
@[simp] theorem tfld_135_0 : tfld Tryd.prog 135 0 = some (0, 1, 3) := by kernel_rfl
@[simp] theorem tfld_135_1 : tfld Tryd.prog 135 1 = some (1, 1, 3) := by kernel_rfl
@[simp] theorem tfld_135_2 : tfld Tryd.prog 135 2 = some (2, 1, 3) := by kernel_rfl
@[simp] theorem tfld_135_3 : tfld Tryd.prog 135 3 = some (3, 1, 134) := by kernel_rfl
@[simp] theorem tfld_135_4 : tfld Tryd.prog 135 4 = some (4, 1, 95) := by kernel_rfl
@[simp] theorem tfld_135_5 : tfld Tryd.prog 135 5 = some (5, 1, 95) := by kernel_rfl
@[simp] theorem tbuild_135 : tbuild Tryd.prog 135 = some ([.int .i64 0, .int .i64 0, .int .i64 0, .nilsl, .nilsl, .nilsl], [(0, 1), (1, 1), (2, 1), (3, 1), (4, 1), (5, 1)]) := by kernel_rfl
@[simp] theorem tk_136 : tk Tryd.prog 136 = some (6, true) := by kernel_rfl
@[simp] theorem tsz_136 : tsz Tryd.prog 136 = some 6 := by kernel_rfl
@[simp] theorem tzero_136 : tzero Tryd.prog 136 = some [.int .i64 0, .int .i64 0, .int .i64 0, .nilsl, .nilsl, .nilsl] := by kernel_rfl
@[simp] theorem tby_136 : tby Tryd.prog 136 = some 96 := by kernel_rfl
@[simp] theorem tfld_136_0 : tfld Tryd.prog 136 0 = some (0, 1, 3) := by kernel_rfl
@[simp] theorem tfld_136_1 : tfld Tryd.prog 136 1 = some (1, 1, 3) := by kernel_rfl
@[simp] theorem tfld_136_2 : tfld Tryd.prog 136 2 = some (2, 1, 3) := by kernel_rfl
@[simp] theorem tfld_136_3 : tfld Tryd.prog 136 3 = some (3, 1, 134) := by kernel_rfl
@[simp] theorem tfld_136_4 : tfld Tryd.prog 136 4 = some (4, 1, 95) := by kernel_rfl
@[simp] theorem tfld_136_5 : tfld Tryd.prog 136 5 = some (5, 1, 95) := by kernel_rfl
@[simp] theorem tbuild_136 : tbuild Tryd.prog 136 = some ([.int .i64 0, .int .i64 0, .int .i64 0, .nilsl, .nilsl, .nilsl], [(0, 1), (1, 1), (2, 1), (3, 1), (4, 1), (5, 1)]) := by kernel_rfl
@[simp] theorem tk_139 : tk Tryd.prog 139 = some (5, true) := by kernel_rfl
@[simp] theorem tsz_139 : tsz Tryd.prog 139 = some 5 := by kernel_rfl
@[simp] theorem tzero_139 : tzero Tryd.prog 139 = some [.int .i64 0, .int .i64 0, .int .i64 0, .str ByteArray.empty, .nilsl] := by kernel_rfl
@[simp] theorem tby_139 : tby Tryd.prog 139 = some 64 := by kernel_rfl
@[simp] theorem tfld_139_0 : tfld Tryd.prog 139 0 = some (0, 1, 3) := by kernel_rfl
@[simp] theorem tfld_139_1 : tfld Tryd.prog 139 1 = some (1, 1, 3) := by kernel_rfl
@[simp] theorem tfld_139_2 : tfld Tryd.prog 139 2 = some (2, 1, 3) := by kernel_rfl
@[simp] theorem tfld_139_3 : tfld Tryd.prog 139 3 = some (3, 1, 9) := by kernel_rfl
@[simp] theorem tfld_139_4 : tfld Tryd.prog 139 4 = some (4, 1, 134) := by kernel_rfl
@[simp] theorem tbuild_139 : tbuild Tryd.prog 139 = some ([.int .i64 0, .int .i64 0, .int .i64 0, .str ByteArray.empty, .nilsl], [(0, 1), (1, 1), (2, 1), (3, 1), (4, 1)]) := by kernel_rfl
@[simp] theorem tk_140 : tk Tryd.prog 140 = some (5, true) := by kernel_rfl
@[simp] theorem tsz_140 : tsz Tryd.prog 140 = some 5 := by kernel_rfl
@[simp] theorem tzero_140 : tzero Tryd.prog 140 = some [.int .i64 0, .int .i64 0, .int .i64 0, .str ByteArray.empty, .nilsl] := by kernel_rfl
@[simp] theorem tby_140 : tby Tryd.prog 140 = some 64 := by kernel_rfl
@[simp] theorem tfld_140_0 : tfld Tryd.prog 140 0 = some (0, 1, 3) := by kernel_rfl
@[simp] theorem tfld_140_1 : tfld Tryd.prog 140 1 = some (1, 1, 3) := by kernel_rfl
@[simp] theorem tfld_140_2 : tfld Tryd.prog 140 2 = some (2, 1, 3) := by kernel_rfl
@[simp] theorem tfld_140_3 : tfld Tryd.prog 140 3 = some (3, 1, 9) := by kernel_rfl
@[simp] theorem tfld_140_4 : tfld Tryd.prog 140 4 = some (4, 1, 134) := by kernel_rfl
@[simp] theorem tbuild_140 : tbuild Tryd.prog 140 = some ([.int .i64 0, .int .i64 0, .int .i64 0, .str ByteArray.empty, .nilsl], [(0, 1), (1, 1), (2, 1), (3, 1), (4, 1)]) := by kernel_rfl
@[simp] theorem tk_147 : tk Tryd.prog 147 = some (20, true) := by kernel_rfl
@[simp] theorem tsz_147 : tsz Tryd.prog 147 = some 20 := by kernel_rfl
@[simp] theorem tzero_147 : tzero Tryd.prog 147 = some [.int .u64 0, .int .u64 0, .int .u64 0, .int .u64 0, .int .u64 0, .int .u64 0, .int .u64 0, .int .u64 0, .int .u64 0, .int .u64 0, .int .u64 0, .int .u64 0, .int .u64 0, .int .u64 0, .int .u64 0, .int .u64 0, .int .u64 0, .int .u64 0, .int .u64 0, .int .u64 0] := by kernel_rfl
@[simp] theorem tby_147 : tby Tryd.prog 147 = some 160 := by kernel_rfl
@[simp] theorem tk_148 : tk Tryd.prog 148 = some (1, false) := by kernel_rfl
@[simp] theorem tsz_148 : tsz Tryd.prog 148 = some 1 := by kernel_rfl
@[simp] theorem tzero_148 : tzero Tryd.prog 148 = some [.int .u32 0] := by kernel_rfl
@[simp] theorem tby_148 : tby Tryd.prog 148 = some 4 := by kernel_rfl
@[simp] theorem und_148 : Tryd.prog.underlying 148 = some (.int .u32) := by kernel_rfl
@[simp] theorem tk_149 : tk Tryd.prog 149 = some (65, true) := by kernel_rfl
@[simp] theorem tsz_149 : tsz Tryd.prog 149 = some 65 := by kernel_rfl
@[simp] theorem tzero_149 : tzero Tryd.prog 149 = some [.int .u8 0, .int .u8 0, .int .u8 0, .int .u8 0, .int .u8 0, .int .u8 0, .int .u8 0, .int .u8 0, .int .u8 0, .int .u8 0, .int .u8 0, .int .u8 0, .int .u8 0, .int .u8 0, .int .u8 0, .int .u8 0, .int .u8 0, .int .u8 0, .int .u8 0, .int .u8 0, .int .u8 0, .int .u8 0, .int .u8 0, .int .u8 0, .int .u8 0, .int .u8 0, .int .u8 0, .int .u8 0, .int .u8 0, .int .u8 0, .int .u8 0, .int .u8 0, .int .u8 0, .int .u8 0, .int .u8 0, .int .u8 0, .int .u8 0, .int .u8 0, .int .u8 0, .int .u8 0, .int .u8 0, .int .u8 0, .int .u8 0, .int .u8 0, .int .u8 0, .int .u8 0, .int .u8 0, .int .u8 0, .int .u8 0, .int .u8 0, .int .u8 0, .int .u8 0, .int .u8 0, .int .u8 0, .int .u8 0, .int .u8 0, .int .u8 0, .int .u8 0, .int .u8 0, .int .u8 0, .int .u8 0, .int .u8 0, .int .u8 0, .int .u8 0, .int .u8 0] := by kernel_rfl
@[simp] theorem tby_149 : tby Tryd.prog 149 = some 65 := by kernel_rfl
@[simp] theorem tk_152 : tk Tryd.prog 152 = some (1, false) := by kernel_rfl
@[simp] theorem tsz_152 : tsz Tryd.prog 152 = some 1 := by kernel_rfl
@[simp] theorem tzero_152 : tzero Tryd.prog 152 = some [.nilp] := by kernel_rfl
@[simp] theorem tby_152 : tby Tryd.prog 152 = some 8 := by kernel_rfl
@[simp] theorem tk_153 : tk Tryd.prog 153 = some (1, true) := by kernel_rfl
@[simp] theorem tsz_153 : tsz Tryd.prog 153 = some 1 := by kernel_rfl
@[simp] theorem tzero_153 : tzero Tryd.prog 153 = some [.str ByteArray.empty] := by kernel_rfl
@[simp] theorem tby_153 : tby Tryd.prog 153 = some 16 := by kernel_rfl
@[simp] theorem tfld_153_0 : tfld Tryd.prog 153 0 = some (0, 1, 9) := by kernel_rfl
@[simp] theorem tbuild_153 : tbuild Tryd.prog 153 = some ([.str ByteArray.empty], [(0, 1)]) := by kernel_rfl
@[simp] theorem tkinds_153 : tkinds Tryd.prog 153 = some [.s] := by kernel_rfl
@[simp] theorem tk_154 : tk Tryd.prog 154 = some (1, true) := by kernel_rfl
@[simp] theorem tsz_154 : tsz Tryd.prog 154 = some 1 := by kernel_rfl
@[simp] theorem tzero_154 : tzero Tryd.prog 154 = some [.str ByteArray.empty] := by kernel_rfl
@[simp] theorem tby_154 : tby Tryd.prog 154 = some 16 := by kernel_rfl
@[simp] theorem tfld_154_0 : tfld Tryd.prog 154 0 = some (0, 1, 9) := by kernel_rfl
@[simp] theorem tbuild_154 : tbuild Tryd.prog 154 = some ([.str ByteArray.empty], [(0, 1)]) := by kernel_rfl
@[simp] theorem tkinds_154 : tkinds Tryd.prog 154 = some [.s] := by kernel_rfl
@[simp] theorem tk_162 : tk Tryd.prog 162 = some (32, true) := by kernel_rfl
@[simp] theorem tsz_162 : tsz Tryd.prog 162 = some 32 := by kernel_rfl
@[simp] theorem tzero_162 : tzero Tryd.prog 162 = some [.int .u8 0, .int .u8 0, .int .u8 0, .int .u8 0, .int .u8 0, .int .u8 0, .int .u8 0, .int .u8 0, .int .u8 0, .int .u8 0, .int .u8 0, .int .u8 0, .int .u8 0, .int .u8 0, .int .u8 0, .int .u8 0, .int .u8 0, .int .u8 0, .int .u8 0, .int .u8 0, .int .u8 0, .int .u8 0, .int .u8 0, .int .u8 0, .int .u8 0, .int .u8 0, .int .u8 0, .int .u8 0, .int .u8 0, .int .u8 0, .int .u8 0, .int .u8 0] := by kernel_rfl
@[simp] theorem tby_162 : tby Tryd.prog 162 = some 32 := by kernel_rfl
@[simp] theorem tk_163 : tk Tryd.prog 163 = some (64, true) := by kernel_rfl
@[simp] theorem tsz_163 : tsz Tryd.prog 163 = some 64 := by kernel_rfl
@[simp] theorem tzero_163 : tzero Tryd.prog 163 = some [.int .u8 0, .int .u8 0, .int .u8 0, .int .u8 0, .int .u8 0, .int .u8 0, .int .u8 0, .int .u8 0, .int .u8 0, .int .u8 0, .int .u8 0, .int .u8 0, .int .u8 0, .int .u8 0, .int .u8 0, .int .u8 0, .int .u8 0, .int .u8 0, .int .u8 0, .int .u8 0, .int .u8 0, .int .u8 0, .int .u8 0, .int .u8 0, .int .u8 0, .int .u8 0, .int .u8 0, .int .u8 0, .int .u8 0, .int .u8 0, .int .u8 0, .int .u8 0, .int .u8 0, .int .u8 0, .int .u8 0, .int .u8 0, .int .u8 0, .int .u8 0, .int .u8 0, .int .u8 0, .int .u8 0, .int .u8 0, .int .u8 0, .int .u8 0, .int .u8 0, .int .u8 0, .int .u8 0, .int .u8 0, .int .u8 0, .int .u8 0, .int .u8 0, .int .u8 0, .int .u8 0, .int .u8 0, .int .u8 0, .int .u8 0, .int .u8 0, .int .u8 0, .int .u8 0, .int .u8 0, .int .u8 0, .int .u8 0, .int .u8 0, .int .u8 0] := by kernel_rfl
@[simp] theorem tby_163 : tby Tryd.prog 163 = some 64 := by kernel_rfl
@[simp] theorem tk_165 : tk Tryd.prog 165 = some (256, true) := by kernel_rfl
@[simp] theorem tsz_165 : tsz Tryd.prog 165 = some 256 := by kernel_rfl
@[simp] theorem tzero_165 : tzero Tryd.prog 165 = some [.int .u8 0, .int .u8 0, .int .u8 0, .int .u8 0, .int .u8 0, .int .u8 0, .int .u8 0, .int .u8 0, .int .u8 0, .int .u8 0, .int .u8 0, .int .u8 0, .int .u8 0, .int .u8 0, .int .u8 0, .int .u8 0, .int .u8 0, .int .u8 0, .int .u8 0, .int .u8 0, .int .u8 0, .int .u8 0, .int .u8 0, .int .u8 0, .int .u8 0, .int .u8 0, .int .u8 0, .int .u8 0, .int .u8 0, .int .u8 0, .int .u8 0, .int .u8 0, .int .u8 0, .int .u8 0, .int .u8 0, .int .u8 0, .int .u8 0, .int .u8 0, .int .u8 0, .int .u8 0, .int .u8 0, .int .u8 0, .int .u8 0, .int .u8 0, .int .u8 0, .int .u8 0, .int .u8 0, .int .u8 0, .int .u8 0, .int .u8 0, .int .u8 0, .int .u8 0, .int .u8 0, .int .u8 0, .int .u8 0, .int .u8 0, .int .u8 0, .int .u8 0, .int .u8 0, .int .u8 0, .int .u8 0, .int .u8 0, .int .u8 0, .int .u8 0, .int .u8 0, .int .u8 0, .int .u8 0, .int .u8 0, .int .u8 0, .int .u8 0, .int .u8 0, .int .u8 0, .int .u8 0, .int .u8 0, .int .u8 0, .int .u8 0, .int .u8 0, .int .u8 0, .int .u8 0, .int .u8 0, .int .u8 0, .int .u8 0, .int .u8 0, .int .u8 0, .int .u8 0, .int .u8 0, .int .u8 0, .int .u8 0, .int .u8 0, .int .u8 0, .int .u8 0, .int .u8 0, .int .u8 0, .int .u8 0, .int .u8 0, .int .u8 0, .int .u8 0, .int .u8 0, .int .u8 0, .int .u8 0, .int .u8 0, .int .u8 0, .int .u8 0, .int .u8 0, .int .u8 0, .int .u8 0, .int .u8 0, .int .u8 0, .int .u8 0, .int .u8 0, .int .u8 0, .int .u8 0, .int .u8 0, .int .u8 0, .int .u8 0, .int .u8 0, .int .u8 0, .int .u8 0, .int .u8 0, .int .u8 0, .int .u8 0, .int .u8 0, .int .u8 0, .int .u8 0, .int .u8 0, .int .u8 0, .int .u8 0, .int .u8 0, .int .u8 0, .int .u8 0, .int .u8 0, .int .u8 0, .int .u8 0, .int .u8 0, .int .u8 0, .int .u8 0, .int .u8 0, .int .u8 0, .int .u8 0, .int .u8 0, .int .u8 0, .int .u8 0, .int .u8 0, .int .u8 0, .int .u8 0, .int .u8 0, .int .u8 0, .int .u8 0, .int .u8 0, .int .u8 0, .int .u8 0, .int .u8 0, .int .u8 0, .int .u8 0, .int .u8 0, .int .u8 0, .int .u8 0, .int .u8 0, .int .u8 0, .int .u8 0, .int .u8 0, .int .u8 0, .int .u8 0, .int .u8 0, .int .u8 0, .int .u8 0, .int .u8 0, .int .u8 0, .int .u8 0, .int .u8 0, .int .u8 0, .int .u8 0, .int .u8 0, .int .u8 0, .int .u8 0, .int .u8 0, .int .u8 0, .int .u8 0, .int .u8 0, .int .u8 0, .int .u8 0, .int .u8 0, .int .u8 0, .int .u8 0, .int .u8 0, .int .u8 0, .int .u8 0, .int .u8 0, .int .u8 0, .int .u8 0, .int .u8 0, .int .u8 0, .int .u8 0, .int .u8 0, .int .u8 0, .int .u8 0, .int .u8 0, .int .u8 0, .int .u8 0, .int .u8 0, .int .u8 0, .int .u8 0, .int .u8 0, .int .u8 0, .int .u8 0, .int .u8 0, .int .u8 0, .int .u8 0, .int .u8 0, .int .u8 0, .int .u8 0, .int .u8 0, .int .u8 0, .int .u8 0, .int .u8 0, .int .u8 0, .int .u8 0, .int .u8 0, .int .u8 0, .int .u8 0, .int .u8 0, .int .u8 0, .int .u8 0, .int .u8 0, .int .u8 0, .int .u8 0, .int .u8 0, .int .u8 0, .int .u8 0, .int .u8 0, .int .u8 0, .int .u8 0, .int .u8 0, .int .u8 0, .int .u8 0, .int .u8 0, .int .u8 0, .int .u8 0, .int .u8 0, .int .u8 0, .int .u8 0, .int .u8 0, .int .u8 0, .int .u8 0, .int .u8 0, .int .u8 0, .int .u8 0, .int .u8 0, .int .u8 0, .int .u8 0, .int .u8 0, .int .u8 0, .int .u8 0, .int .u8 0, .int .u8 0, .int .u8 0] := by kernel_rfl
@[simp] theorem tby_165 : tby Tryd.prog 165 = some 256 := by kernel_rfl
@[simp] theorem tk_166 : tk Tryd.prog 166 = some (2, true) := by kernel_rfl
@[simp] theorem tsz_166 : tsz Tryd.prog 166 = some 2 := by kernel_rfl
@[simp] theorem tzero_166 : tzero Tryd.prog 166 = some [.int .u8 0, .int .u8 0] := by kernel_rfl
@[simp] theorem tby_166 : tby Tryd.prog 166 = some 2 := by kernel_rfl
@[simp] theorem tfld_166_0 : tfld Tryd.prog 166 0 = some (0, 1, 5) := by kernel_rfl
@[simp] theorem tfld_166_1 : tfld Tryd.prog 166 1 = some (1, 1, 5) := by kernel_rfl
@[simp] theorem tbuild_166 : tbuild Tryd.prog 166 = some ([.int .u8 0, .int .u8 0], [(0, 1), (1, 1)]) := by kernel_rfl
@[simp] theorem tkinds_166 : tkinds Tryd.prog 166 = some [.i, .i] := by kernel_rfl
@[simp] theorem tk_167 : tk Tryd.prog 167 = some (2, true) := by kernel_rfl
@[simp] theorem tsz_167 : tsz Tryd.prog 167 = some 2 := by kernel_rfl
@[simp] theorem tzero_167 : tzero Tryd.prog 167 = some [.int .u8 0, .int .u8 0] := by kernel_rfl
@[simp] theorem tby_167 : tby Tryd.prog 167 = some 2 := by kernel_rfl
@[simp] theorem tfld_167_0 : tfld Tryd.prog 167 0 = some (0, 1, 5) := by kernel_rfl
@[simp] theorem tfld_167_1 : tfld Tryd.prog 167 1 = some (1, 1, 5) := by kernel_rfl
@[simp] theorem tbuild_167 : tbuild Tryd.prog 167 = some ([.int .u8 0, .int .u8 0], [(0, 1), (1, 1)]) := by kernel_rfl
@[simp] theorem tkinds_167 : tkinds Tryd.prog 167 = some [.i, .i] := by kernel_rfl
@[simp] theorem tk_168 : tk Tryd.prog 168 = some (32, true) := by kernel_rfl
@[simp] theorem tsz_168 : tsz Tryd.prog 168 = some 32 := by kernel_rfl
@[simp] theorem tzero_168 : tzero Tryd.prog 168 = some [.int .u8 0, .int .u8 0, .int .u8 0, .int .u8 0, .int .u8 0, .int .u8 0, .int .u8 0, .int .u8 0, .int .u8 0, .int .u8 0, .int .u8 0, .int .u8 0, .int .u8 0, .int .u8 0, .int .u8 0, .int .u8 0, .int .u8 0, .int .u8 0, .int .u8 0, .int .u8 0, .int .u8 0, .int .u8 0, .int .u8 0, .int .u8 0, .int .u8 0, .int .u8 0, .int .u8 0, .int .u8 0, .int .u8 0, .int .u8 0, .int .u8 0, .int .u8 0] := by kernel_rfl
@[simp] theorem tby_168 : tby Tryd.prog 168 = some 32 := by kernel_rfl
@[simp] theorem tk_171 : tk Tryd.prog 171 = some (4, true) := by kernel_rfl
@[simp] theorem tsz_171 : tsz Tryd.prog 171 = some 4 := by kernel_rfl
@[simp] theorem tzero_171 : tzero Tryd.prog 171 = some [.nilp, .nilp, .nilp, .str ByteArray.empty] := by kernel_rfl
@[simp] theorem tby_171 : tby Tryd.prog 171 = some 40 := by kernel_rfl
@[simp] theorem tfld_171_0 : tfld Tryd.prog 171 0 = some (0, 1, 17) := by kernel_rfl
@[simp] theorem tfld_171_1 : tfld Tryd.prog 171 1 = some (1, 1, 17) := by kernel_rfl
@[simp] theorem tfld_171_2 : tfld Tryd.prog 171 2 = some (2, 1, 17) := by kernel_rfl
@[simp] theorem tfld_171_3 : tfld Tryd.prog 171 3 = some (3, 1, 9) := by kernel_rfl
@[simp] theorem tbuild_171 : tbuild Tryd.prog 171 = some ([.nilp, .nilp, .nilp, .str ByteArray.empty], [(0, 1), (1, 1), (2, 1), (3, 1)]) := by kernel_rfl
@[simp] theorem tk_172 : tk Tryd.prog 172 = some (4, true) := by kernel_rfl
@[simp] theorem tsz_172 : tsz Tryd.prog 172 = some 4 := by kernel_rfl
@[simp] theorem tzero_172 : tzero Tryd.prog 172 = some [.nilp, .nilp, .nilp, .str ByteArray.empty] := by kernel_rfl
@[simp] theorem tby_172 : tby Tryd.prog 172 = some 40 := by kernel_rfl
@[simp] theorem tfld_172_0 : tfld Tryd.prog 172 0 = some (0, 1, 17) := by kernel_rfl
@[simp] theorem tfld_172_1 : tfld Tryd.prog 172 1 = some (1, 1, 17) := by kernel_rfl
@[simp] theorem tfld_172_2 : tfld Tryd.prog 172 2 = some (2, 1, 17) := by kernel_rfl
@[simp] theorem tfld_172_3 : tfld Tryd.prog 172 3 = some (3, 1, 9) := by kernel_rfl
@[simp] theorem tbuild_172 : tbuild Tryd.prog 172 = some ([.nilp, .nilp, .nilp, .str ByteArray.empty], [(0, 1), (1, 1), (2, 1), (3, 1)]) := by kernel_rfl
@[simp] theorem tk_173 : tk Tryd.prog 173 = some (0, true) := by kernel_rfl
@[simp] theorem tsz_173 : tsz Tryd.prog 173 = some 0 := by kernel_rfl
@[simp] theorem tzero_173 : tzero Tryd.prog 173 = some [] := by kernel_rfl
@[simp] theorem tby_173 : tby Tryd.prog 173 = some 0 := by kernel_rfl
@[simp] theorem tk_174 : tk Tryd.prog 174 = some (0, true) := by kernel_rfl
@[simp] theorem tsz_174 : tsz Tryd.prog 174 = some 0 := by kernel_rfl
@[simp] theorem tzero_174 : tzero Tryd.prog 174 = some [] := by kernel_rfl
@[simp] theorem tby_174 : tby Tryd.prog 174 = some 0 := by kernel_rfl
@[simp] theorem tfld_174_0 : tfld Tryd.prog 174 0 = some (0, 0, 173) := by kernel_rfl
@[simp] theorem tbuild_174 : tbuild Tryd.prog 174 = some ([], [(0, 0)]) := by kernel_rfl
@[simp] theorem tk_175 : tk Tryd.prog 175 = some (0, true) := by kernel_rfl
@[simp] theorem tsz_175 : tsz Tryd.prog 175 = some 0 := by kernel_rfl
@[simp] theorem tzero_175 : tzero Tryd.prog 175 = some [] := by kernel_rfl
@[simp] theorem tby_175 : tby Tryd.prog 175 = some 0 := by kernel_rfl
@[simp] theorem tfld_175_0 : tfld Tryd.prog 175 0 = some (0, 0, 173) := by kernel_rfl
@[simp] theorem tbuild_175 : tbuild Tryd.prog 175 = some ([], [(0, 0)]) := by kernel_rfl
@[simp] theorem tk_177 : tk Tryd.prog 177 = some (1, false) := by kernel_rfl
@[simp] theorem tsz_177 : tsz Tryd.prog 177 = some 1 := by kernel_rfl
@[simp] theorem tzero_177 : tzero Tryd.prog 177 = some [.int .u8 0] := by kernel_rfl
@[simp] theorem tby_177 : tby Tryd.prog 177 = some 1 := by kernel_rfl
@[simp] theorem und_177 : Tryd.prog.underlying 177 = some (.int .u8) := by kernel_rfl
@[simp] theorem tk_178 : tk Tryd.prog 178 = some (1, false) := by kernel_rfl
@[simp] theorem tsz_178 : tsz Tryd.prog 178 = some 1 := by kernel_rfl
@[simp] theorem tzero_178 : tzero Tryd.prog 178 = some [.int .u8 0] := by kernel_rfl
@[simp] theorem tby_178 : tby Tryd.prog 178 = some 1 := by kernel_rfl
@[simp] theorem und_178 : Tryd.prog.underlying 178 = some (.int .u8) := by kernel_rfl
@[simp] theorem tk_180 : tk Tryd.prog 180 = some (1, false) := by kernel_rfl
@[simp] theorem tsz_180 : tsz Tryd.prog 180 = some 1 := by kernel_rfl
@[simp] theorem tzero_180 : tzero Tryd.prog 180 = some [.int .i32 0] := by kernel_rfl
@[simp] theorem tby_180 : tby Tryd.prog 180 = some 4 := by kernel_rfl
@[simp] theorem und_180 : Tryd.prog.underlying 180 = some (.int .i32) := by kernel_rfl
@[simp] theorem tk_181 : tk Tryd.prog 181 = some (1, false) := by kernel_rfl
@[simp] theorem tsz_181 : tsz Tryd.prog 181 = some 1 := by kernel_rfl
@[simp] theorem tzero_181 : tzero Tryd.prog 181 = some [.int .i32 0] := by kernel_rfl
@[simp] theorem tby_181 : tby Tryd.prog 181 = some 4 := by kernel_rfl
@[simp] theorem und_181 : Tryd.prog.underlying 181 = some (.int .i32) := by kernel_rfl
theorem mixed : Tryd.prog.follows .mixedOrders = true := by kernel_rfl
theorem laid : laidOutB Tryd.prog = true := by kernel_rfl
end Go.Proofs.YtmcmgeedhbgglaaDoor.AM

set_option linter.unusedVariables false
set_option linter.unusedSimpArgs false
set_option maxRecDepth 4000
namespace Go.Proofs.YtmcmgeedhbgglaaDoor.AM
open Go.RowKit Go.Shelf

/-- The kit's numbers, led to this program's. -/
def laysItoa_ren : Go.Shelf.Ren := ⟨fun | 171 => 29 | 243 => 50 | 246 => 69 | 283 => 84 | 284 => 85 | 285 => 86 | 286 => 87 | 129 => 102 | 317 => 101 | 318 => 103 | 319 => 104 | 320 => 105 | 337 => 115 | 338 => 116 | n => n, fun | 3 => 3 | 9 => 9 | 2 => 2 | 4 => 4 | 171 => 117 | 0 => 0 | 53 => 118 | 37 => 82 | 5 => 5 | 173 => 121 | 212 => 147 | 51 => 148 | 20 => 20 | 213 => 149 | 46 => 128 | 232 => 162 | 233 => 163 | n => n, fun | 17 => 2 | 18 => 4 | 19 => 5 | n => n⟩
theorem laysItoa : LaysM.n171 Tryd.prog laysItoa_ren where
  mixed := by kernel_rfl
  f129 := Tryd.func102.trans (congrArg some (by kernel_rfl))
  f171 := Tryd.func29.trans (congrArg some (by kernel_rfl))
  f243 := Tryd.func50.trans (congrArg some (by kernel_rfl))
  f246 := Tryd.func69.trans (congrArg some (by kernel_rfl))
  f283 := Tryd.func84.trans (congrArg some (by kernel_rfl))
  f284 := Tryd.func85.trans (congrArg some (by kernel_rfl))
  f285 := Tryd.func86.trans (congrArg some (by kernel_rfl))
  f286 := Tryd.func87.trans (congrArg some (by kernel_rfl))
  f317 := Tryd.func101.trans (congrArg some (by kernel_rfl))
  f318 := Tryd.func103.trans (congrArg some (by kernel_rfl))
  f319 := Tryd.func104.trans (congrArg some (by kernel_rfl))
  f320 := Tryd.func105.trans (congrArg some (by kernel_rfl))
  f337 := Tryd.func115.trans (congrArg some (by kernel_rfl))
  f338 := Tryd.func116.trans (congrArg some (by kernel_rfl))
  t0 := Tryd.underlying0
  a0 := Tryd.isAgg0
  z0 := Tryd.sizeOf0
  v0 := Tryd.zeroValue0
  t2 := Tryd.underlying2
  a2 := Tryd.isAgg2
  z2 := Tryd.sizeOf2
  v2 := Tryd.zeroValue2
  t3 := Tryd.underlying3
  a3 := Tryd.isAgg3
  z3 := Tryd.sizeOf3
  v3 := Tryd.zeroValue3
  t4 := Tryd.underlying4
  a4 := Tryd.isAgg4
  z4 := Tryd.sizeOf4
  v4 := Tryd.zeroValue4
  t5 := Tryd.underlying5
  a5 := Tryd.isAgg5
  z5 := Tryd.sizeOf5
  v5 := Tryd.zeroValue5
  t9 := Tryd.underlying9
  a9 := Tryd.isAgg9
  z9 := Tryd.sizeOf9
  v9 := Tryd.zeroValue9
  t20 := Tryd.underlying20
  a20 := Tryd.isAgg20
  z20 := Tryd.sizeOf20
  v20 := Tryd.zeroValue20
  t37 := Tryd.underlying82
  a37 := Tryd.isAgg82
  z37 := Tryd.sizeOf82
  v37 := Tryd.zeroValue82
  t46 := Tryd.underlying128
  a46 := Tryd.isAgg128
  z46 := Tryd.sizeOf128
  v46 := Tryd.zeroValue128
  t51 := Tryd.underlying148
  a51 := Tryd.isAgg148
  z51 := Tryd.sizeOf148
  v51 := Tryd.zeroValue148
  t53 := Tryd.underlying118
  a53 := Tryd.isAgg118
  z53 := Tryd.sizeOf118
  v53 := Tryd.zeroValue118
  t171 := Tryd.underlying117
  a171 := Tryd.isAgg117
  z171 := Tryd.sizeOf117
  v171 := Tryd.zeroValue117
  t173 := Tryd.underlying121
  a173 := Tryd.isAgg121
  z173 := Tryd.sizeOf121
  v173 := Tryd.zeroValue121
  t212 := Tryd.underlying147
  a212 := Tryd.isAgg147
  z212 := Tryd.sizeOf147
  v212 := Tryd.zeroValue147
  t213 := Tryd.underlying149
  a213 := Tryd.isAgg149
  z213 := Tryd.sizeOf149
  t232 := Tryd.underlying162
  a232 := Tryd.isAgg162
  z232 := Tryd.sizeOf162
  v232 := Tryd.zeroValue162
  t233 := Tryd.underlying163
  a233 := Tryd.isAgg163
  z233 := Tryd.sizeOf163
  v233 := Tryd.zeroValue163
  g17 := by kernel_rfl
  g18 := by kernel_rfl
  g19 := by kernel_rfl
  i0 := by kernel_rfl
  i2 := by kernel_rfl
  i3 := by kernel_rfl
  i4 := by kernel_rfl
  i5 := by kernel_rfl
  i9 := by kernel_rfl
  i20 := by kernel_rfl
  i37 := by kernel_rfl
  i46 := by kernel_rfl
  i51 := by kernel_rfl
  i53 := by kernel_rfl
  i171 := by kernel_rfl
  i173 := by kernel_rfl
  i212 := by kernel_rfl
  i232 := by kernel_rfl
  i233 := by kernel_rfl
  m17 := by kernel_rfl
  m18 := by kernel_rfl
  m19 := by kernel_rfl

theorem tab_pow {mu : Nm → Nat → Option Loc} {pr : Bool → Nat → Prop} {h : Hp} {w : World} (R : Rel mu pr h w) : Go.Lib.TabIs Tryd.prog w "internal/strconv.uint64pow10" .u64 Go.Lib.pow10Tab := by
  obtain ⟨_, arr, ty, fr, hb, ha⟩ := R.tab 2 _ (by simp only [tabs]; exact List.mem_cons_self ..)
  subst ha
  have hg : Tryd.prog.globalNamed "internal/strconv.uint64pow10" = some 2 := by kernel_rfl
  simp only [Go.Lib.TabIs, World.var?, hg]
  simp [hb]
theorem below_grow {w : World} (k : Nat) (os : Array Obj) : Below w.heap.size w (Sort.grow (w.drewN k) os) :=
  ⟨rfl, rfl, rfl, by show w.heap.size ≤ (w.heap ++ os).size; simp, fun i hi => by
    show (w.heap ++ os)[i]? = _
    rw [Array.getElem?_append_left hi]⟩
/-- strconv.Itoa: the decimal numeral, for every number. -/
theorem itoaS (n : Int) (h0 : -9223372036854775808 ≤ n) (h1 : n ≤ 9223372036854775807) (h : Hp) : Sound Tryd.prog 29 [.int .i64 n] h fun v h' => v = .str (itoaT n) ∧ h' = h := by
  refine sound_lib Tryd.func29 rfl rfl fun mu pr w vs R hv => ?_
  obtain ⟨u, rfl⟩ : ∃ u, vs = [u] := by
    match vs, hv.1 with
    | [u], _ => exact ⟨u, rfl⟩
  obtain rfl : u = .int .i64 n := by
    obtain ⟨u', h1, h2⟩ := hv.2 0 _ rfl
    simp at h1
    subst h1
    cases h2
    rfl
  have C := Any.strconv_Itoa laysItoa n h0 h1 w (tab_pow R)
  refine Calls.mono (R := _) C ?_
  rintro e w' ⟨rfl, k, os, rfl⟩
  exact ⟨_, rfl, fun pr' hp => .str _, below_grow k os⟩
theorem itoaP (n : Int) (h0 : -9223372036854775808 ≤ n) (h1 : n ≤ 9223372036854775807) : Pure Tryd.prog 29 [.int .i64 n] (.str (itoaT n)) := fun T =>
  (itoaS n h0 h1 _).mono fun v h' ⟨e, _⟩ => by rw [e]; exact .str _
end Go.Proofs.YtmcmgeedhbgglaaDoor.AM

namespace Go.Proofs.YtmcmgeedhbgglaaDoor.AM
open Go.RowKit

private def MU1 : FuncId → Mode := fun f => if f = 27 then .fresh else if f = 999999 then .heap else .tree

theorem wrap_id {n : Int} (h1 : -9223372036854775808 ≤ n) (h2 : n ≤ 9223372036854775807) : IntKind.i64.wrap n = n := by
  simp [IntKind.wrap, IntKind.bits, IntKind.signed]
  omega
def marks (k : Int) (n : Nat) : List Int := (List.range n).map fun (i : Nat) => k + (i : Int)
theorem marks_length (k : Int) (n : Nat) : (marks k n).length = n := by simp [marks]
theorem marks_get {k : Int} {n i : Nat} (h : i < n) : (marks k n)[i]? = some (k + i) := by simp [marks, h]

theorem szIntS (xs : List Int) (left : Int) (h1 : 0 ≤ left) (h2 : left ≤ 2 ^ 20) (hm : xs.length ≤ maxLen) : Pure Tryd.prog 21 [ints true xs, .int .i64 left] (.int .i64 (if left < xs.length then -1 else left - xs.length)) := by
  intro T
  have hw : IntKind.i64.wrap (left - xs.length) = left - xs.length := wrap_id (by simp [maxLen] at hm; omega) (by omega)
  refine enter mixed MU1 Tryd.func21 rfl (by kernel_rfl) rfl ?_
  repeat' (first | (with_reducible first | refine stp ?_ | refine k_blk_o rfl ?_ | refine k_seq_n ?_) | ((try (conv => arg 1; simp [ints, hw])); with_reducible refine evp ?_) | ((with_reducible first | refine gd_b (fun hb => ?_) (fun hb => ?_) | refine br_b (fun hb => ?_) (fun hb => ?_)) <;> ((try simp only [Bool.not_eq_eq_eq_not, Bool.not_true, Bool.not_false] at hb); (try simp only [hb]); (try simp at hb))) | fail)
  · have : left < xs.length := by omega
    rw [if_pos this]; exact .int _ _
  · have : ¬ left < xs.length := by omega
    rw [if_neg this]; exact .int _ _

theorem toIntS (xs : List Int) (hl : xs.length ≤ 2 ^ 20) : Fresh Tryd.prog 27 [ints true xs] (fun c => ints c xs) := by
  intro T
  have hl2 : (xs.length : Int) ≤ 4294967296 := by omega
  refine enter mixed MU1 Tryd.func27 rfl (by kernel_rfl) rfl ?_
  repeat' (first | (with_reducible first | refine stp ?_ | refine k_blk_o rfl ?_ | refine k_seq_n ?_) | ((try (conv => arg 1; simp [ints, hl2])); with_reducible refine evp ?_) | fail)
  refine st_loop (fun (i : Nat) σ h => i ≤ xs.length ∧ σ 0 = ints true xs ∧ σ 3 = .sl (T + 1, 2, 0) 0 0 xs.length ∧ σ 4 = .int .i64 i ∧ T + 1 < h.tick ∧ ∃ ys : List Int, ys.length = xs.length ∧ ys.take i = xs.take i ∧ h.rows (T + 1, 2, 0) = some ⟨0, 1, ys.map fun n => [.int .i64 n]⟩) (fun i => xs.length - i) 0 ?init ?step
  case init =>
    simp [putA_get, envOf_0, hp_next_tick, hp_next_rows, hp_put_tick, hp_mt_tick, hp_rows_put]
    exact ⟨List.replicate xs.length 0, by simp, by simp⟩
  case step =>
    rintro i σ h ⟨hi, h0, h3, h4, ht, ys, hy, hyi, hr⟩
    repeat' (first | (with_reducible first | refine stp ?_ | refine k_blk_o rfl ?_ | refine k_seq_n ?_) | ((try (conv => arg 1; simp [ints, h0, h3, h4, hr])); with_reducible refine evp ?_) | fail)
    (try with_reducible refine st_if ?_)
    (try (conv => arg 1; simp [h0]))
    (try with_reducible refine at_mk ?_)
    refine ⟨fun hb => ?_, fun hb => ?_⟩
    · have hlt : i < xs.length := by simpa using hb
      have hx : xs[i]? = some (xs[i]) := by simp
      have hy2 : ys[i]? = some (ys[i]'(by omega)) := by simp
      have ht2 : T + 1 < h.tick + 1 + 1 := by omega
      have hw : IntKind.i64.wrap (i + 1) = i + 1 := wrap_id (by omega) (by omega)
      repeat' (first | (with_reducible first | refine stp ?_ | refine k_blk_o rfl ?_ | refine k_seq_n ?_) | ((try (conv => arg 1; simp [ints, h0, h3, h4, hr, hlt, hx, hy2, ht2, hw])); with_reducible refine evp ?_) | fail)
      refine k_lp_n (i + 1) (by omega) ⟨by omega, by simp [putA_get, putA_none, h0], by simp [putA_get, putA_none, h3], by simp [putA_get, putA_none, h4], by simp [hp_next_tick, hp_put_tick, hp_mt_tick]; omega, ys.set i xs[i], by simp [hy], ?_, ?_⟩
      · rw [List.take_add_one, List.take_add_one]
        simp [hyi, hy, hlt, List.take_set_of_le]
      · simp [hp_next_rows, hp_rows_put]
    · have hge : i = xs.length := by simp at hb; omega
      repeat' (first | (with_reducible first | refine stp ?_ | refine k_blk_o rfl ?_ | refine k_seq_n ?_) | ((try (conv => arg 1; simp [h0, h3, h4, hr])); with_reducible refine evp ?_) | fail)
      refine ⟨by simp [hp_next_tick]; omega, [(T + 1, 2, 0)], fun c => .one ?_, by simp, by simp [hp_next_tick]; omega⟩
      simp [resV]
      refine own_ints (by simpa [hp_next_rows] using hr) ?_ rfl
      subst hge
      rw [hyi]; simp

theorem eqIntS (xs : List Int) (hl : xs.length ≤ 2 ^ 62) : Pure Tryd.prog 34 [ints true xs, ints true xs] (.bool true) := by
  intro T
  refine enter mixed MU1 Tryd.func34 rfl (by kernel_rfl) rfl ?_
  repeat' (first | (with_reducible first | refine stp ?_ | refine k_blk_o rfl ?_ | refine k_seq_n ?_) | ((try (conv => arg 1; simp [ints])); with_reducible refine evp ?_) | fail)
  repeat' (first | (with_reducible first | refine stp ?_ | refine k_blk_o rfl ?_ | refine k_seq_n ?_) | ((try (conv => arg 1; simp [ints])); with_reducible refine evp ?_) | fail)
  refine st_loop (fun (i : Nat) σ h => i ≤ xs.length ∧ σ 0 = ints true xs ∧ σ 1 = ints true xs ∧ σ 5 = .int .i64 i) (fun i => xs.length - i) 0 ?init ?step
  case init =>
    simp [putA_get, envOf_0, envOf_1]
  case step =>
    rintro i σ h ⟨hi, h0, h1, h5⟩
    repeat' (first | (with_reducible first | refine stp ?_ | refine k_blk_o rfl ?_ | refine k_seq_n ?_) | ((try (conv => arg 1; simp [ints, h0, h5])); with_reducible refine evp ?_) | fail)
    (try with_reducible refine st_if ?_)
    (try (conv => arg 1; simp [ints]))
    (try with_reducible refine at_mk ?_)
    refine ⟨fun hb => ?_, fun hb => ?_⟩
    · have hlt : i < xs.length := by simpa using hb
      have hx : xs[i]? = some (xs[i]) := by simp
      have hw : IntKind.i64.wrap (i + 1) = i + 1 := wrap_id (by omega) (by omega)
      repeat' (first | (with_reducible first | refine stp ?_ | refine k_blk_o rfl ?_ | refine k_seq_n ?_) | ((try (conv => arg 1; simp [ints])); with_reducible refine evp ?_) | fail)
      repeat (with_reducible first | refine stp ?_ | refine k_seq_n ?_)
      refine st_draw 9 (fun _ => false) (by kernel_rfl) ?_
      simp only [List.take_succ_cons, List.take_zero, List.drop_succ_cons, List.drop_zero, List.take_nil, List.drop_nil]
      repeat' (first | (with_reducible first | refine stp ?_ | refine k_blk_o rfl ?_ | refine k_seq_n ?_) | ((try (conv => arg 1; simp [ints, h0, h1, h5, hx, hw])); with_reducible refine evp ?_) | ((with_reducible refine apn ?na ?_); (case na => simp [appNames, ints, intss] <;> first | kernel_rfl | (refine ⟨?_, ?_⟩ <;> kernel_rfl))) | fail)
      repeat' (first | (with_reducible first | refine stp ?_ | refine k_blk_o rfl ?_ | refine k_seq_n ?_) | ((try (conv => arg 1; simp [h5, hw])); with_reducible refine evp ?_) | ((with_reducible refine apn ?na ?_); (case na => simp [appNames, ints, intss] <;> first | kernel_rfl | (refine ⟨?_, ?_⟩ <;> kernel_rfl))) | fail)
      refine k_lp_n (i + 1) (by omega) ⟨by omega, by simp [putA_get, putA_none, h0], by simp [putA_get, putA_none, h1], by simp [putA_get, putA_none, h5]⟩
    · skip
      repeat' (first | (with_reducible first | refine stp ?_ | refine k_blk_o rfl ?_ | refine k_seq_n ?_) | ((try (conv => arg 1; simp [ints])); with_reducible refine evp ?_) | ((with_reducible refine apn ?na ?_); (case na => simp [appNames, ints, intss] <;> first | kernel_rfl | (refine ⟨?_, ?_⟩ <;> kernel_rfl))) | fail)
      exact .bool true

/-- What owns a slice of whole numbers. -/
theorem own_ints_inv {rows : Nm → Option Row} {a : AV} {xs : List Int} {ns : List Nm} (h : Own rows true [a] [ints true xs] ns) :
    (xs = [] ∧ (∀ c, Own rows c [a] [ints c []] ns) ∧ ((a = .nilsl ∧ ns = []) ∨ ∃ n ver off, a = .sl n ver off 0 ∧ ns = [n])) ∨
    (∃ n ver pre sp, a = .sl n ver pre.length xs.length ∧ ns = [n] ∧ rows n = some ⟨ver, 1, pre ++ ((xs.map fun x => [.int .i64 x]) ++ sp)⟩ ∧ (∀ e ∈ pre, e.length = 1) ∧ (∀ e ∈ sp, e.length = 1) ∧ ClRow ⟨ver, 1, pre⟩ ∧ ClRow ⟨ver, 1, sp⟩) := by
  unfold ints at h
  generalize hm : (xs.map fun n => [AV.int .i64 n]) = tm at h
  cases h with
  | nilsl h =>
    cases h
    exact .inl ⟨by simpa using hm, fun c => .nilsl .nil, .inl ⟨rfl, rfl⟩⟩
  | @sl _ _ ns1 ns2 n ver len s r _ h1 h2 h3 h4 h5 h6 h7 h8 h9 h10 =>
    cases h10
    have flat : ∀ (ys : List Int) (bs : List AV) (ns : List Nm), Own rows true bs (ys.map fun n => [AV.int .i64 n]).flatten ns → ns = [] ∧ bs = (ys.map fun n => [AV.int .i64 n]).flatten := by
      intro ys
      induction ys with
      | nil => intro bs ns h; cases h; exact ⟨rfl, rfl⟩
      | cons y ys ih =>
        intro bs ns h
        simp only [List.map_cons, List.flatten_cons, List.cons_append, List.nil_append] at h
        cases h with
        | int _ _ h => obtain ⟨e1, e2⟩ := ih _ _ h; exact ⟨e1, by simp [e2]⟩
    subst hm
    obtain ⟨e1, e2⟩ := flat xs _ _ h9
    subst e1
    have hlen : xs.length = len := by simpa using h7
    cases xs with
    | nil =>
      left
      simp at hlen
      subst hlen
      exact ⟨rfl, fun c => .sl n ver 0 s r [] h1 h2 h3 h4 h5 h6 rfl (by simp) (by simpa using Own.nil) .nil, .inr ⟨n, ver, 0, rfl, by simp⟩⟩
    | cons x xs =>
      right
      have hs : s = 1 := by
        have := h8 [.int .i64 x] (by simp)
        simpa using this.symm
      subst hs
      have key : ∀ (l : List (List AV)) (ys : List Int), (∀ e ∈ l, e.length = 1) → l.flatten = (ys.map fun n => [AV.int .i64 n]).flatten → l = ys.map fun n => [AV.int .i64 n] := by
        intro l
        induction l with
        | nil => intro ys _ he; cases ys with
          | nil => rfl
          | cons _ _ => simp at he
        | cons e l ih =>
          intro ys hl he
          have h1 := hl e (by simp)
          match e, h1 with
          | [v], _ =>
            cases ys with
            | nil => simp at he
            | cons y ys =>
              simp only [List.flatten_cons, List.map_cons, List.cons_append, List.nil_append, List.cons.injEq] at he
              rw [he.1, ih ys (fun e he => hl e (by simp [he])) he.2]
              rfl
      have e3 := key _ (x :: xs) (fun e he => h6 e (List.mem_of_mem_take he)) e2
      obtain ⟨ver', esz', elems⟩ := r
      simp only at h2 h3 e3 h6 h4 h5
      subst h2 h3
      refine ⟨n, ver', [], elems.drop len, by rw [hlen]; rfl, by simp, ?_, by simp, fun e he => h6 e (List.mem_of_mem_drop he), fun i e j x he hx => by simp at he, fun i e j x he hx => ?_⟩
      · rw [h1, List.nil_append, ← e3, List.take_append_drop]
      · refine h4 (len + i) e j x ?_ hx
        simpa [List.getElem?_drop] using he
  | slo n ver pre sp ys h1 h2 h3 h4 h5 h6 =>
    cases h6
    have hxy : ys = xs := by
      have h7 := congrArg (List.map fun l : List AV => match l with | [AV.int _ z] => z | _ => 0) hm
      simp only [List.map_map] at h7
      have e : ((fun l : List AV => match l with | [AV.int _ z] => z | _ => 0) ∘ fun n : Int => [AV.int IntKind.i64 n]) = id := funext fun z => rfl
      rw [e, List.map_id, List.map_id] at h7
      exact h7.symm
    subst hxy
    cases ys with
    | nil => exact .inl ⟨rfl, fun c => .slo n ver pre sp [] h1 h2 h3 h4 h5 .nil, .inr ⟨n, ver, _, rfl, rfl⟩⟩
    | cons y ys => exact .inr ⟨n, ver, pre, sp, rfl, rfl, h1, h4, h5, h2, h3⟩

theorem own_ints_mk {rows : Nm → Option Row} {n : Nm} {ver : Nat} {xs : List Int} {pre sp : List (List AV)} (h : rows n = some ⟨ver, 1, pre ++ ((xs.map fun x => [.int .i64 x]) ++ sp)⟩) (h0 : ∀ e ∈ pre, e.length = 1) (h1 : ∀ e ∈ sp, e.length = 1) (h3 : ClRow ⟨ver, 1, pre⟩) (h2 : ClRow ⟨ver, 1, sp⟩) {c : Bool} : Own rows c [.sl n ver pre.length xs.length] [ints c xs] [n] :=
  .slo n ver pre sp xs h h3 h2 h0 h1 .nil

theorem mid_get {α : Type} {pre l sp : List α} {i : Nat} (hi : i < l.length) : (pre ++ (l ++ sp))[pre.length + i]? = l[i]? := by
  rw [List.getElem?_append_right (by omega), Nat.add_sub_cancel_left, List.getElem?_append_left hi]
theorem mid_set {α : Type} {pre l sp : List α} {i : Nat} {e : α} (hi : i < l.length) : (pre ++ (l ++ sp)).set (pre.length + i) e = pre ++ (l.set i e ++ sp) := by
  rw [List.set_append, if_neg (by omega), Nat.add_sub_cancel_left, List.set_append, if_pos hi]

end Go.Proofs.YtmcmgeedhbgglaaDoor.AM

namespace Go.Proofs.YtmcmgeedhbgglaaDoor.AM
open Go.RowKit

theorem own_one {rows : Nm → Option Row} {c : Bool} {v t : AV} {ns : List Nm} (h : Own rows c [v] [t] ns) : v.one = true ∧ v.stored = true ∧ v.cells = [v] := by
  cases h <;> exact ⟨rfl, rfl, rfl⟩

theorem ownV_ints {rows : Nm → Option Row} {c : Bool} {v : AV} {xs : List Int} {ns : List Nm} (h : OwnV rows c v (ints c xs) ns) : Own rows c [v] [ints c xs] ns := by
  cases h with
  | one h => exact h

theorem dr_agg {c : Bool} {rows : Nm → Option Row} {as' ts : List AV} (h : DRs c rows as' ts) : DR c rows (.agg as') (.agg ts) := .agg _ _ h.1 h.2

theorem dr_ptr0 {c : Bool} {rows : Nm → Option Row} {n : Nm} {ver : Nat} {r : Row} {cs ts : List AV} (h1 : rows n = some r) (h2 : r.ver = ver) (h3 : r.elems[0]? = some cs) (h : DRs c rows cs ts) : DR c rows (.ptr n ver 0 0) (.tptr c ts) :=
  .ptr n ver 0 0 r cs ts h1 h2 h3 (by simpa using h.1) (fun j x y hx hy => h.2 j x y (by simpa using hx) hy)

theorem own_cons1 {rows : Nm → Option Row} {b : Bool} {l ts : List AV} {t : AV} {ns : List Nm} (h : Own rows b l (t :: ts) ns) : ∃ w l' n1 n2, l = w :: l' ∧ ns = n1 ++ n2 ∧ Own rows b [w] [t] n1 ∧ Own rows b l' ts n2 := by
  have hl := h.length
  match l, hl, h with
  | w :: l', hl, h =>
    obtain ⟨n1, n2, e, o1, o2⟩ := Own.split (as1 := [w]) (ts1 := [t]) (as2 := l') (ts2 := ts) h rfl
    exact ⟨w, l', n1, n2, rfl, e, o1, o2⟩

def cl1 (xs : List Int) : List (List AV) := xs.map fun x => [.int .i64 x]

section
variable {h h' : Hp} {bs bs' : Bx} {os : Ox} {n : Nm} {r r' : Row}
theorem Cx.box_drop {x : Nm × Row} (c : Cx h (x :: bs) os) : Cx h bs os := by
  refine ⟨fun y hy => c.box y (by simp [hy]), c.own, ?_, fun m hm => c.lt m ?_⟩
  · have := c.nd
    rw [show x = (x.1, x.2) from rfl, nms_box] at this
    exact (List.nodup_cons.1 this).2
  · rw [show x = (x.1, x.2) from rfl, nms_box]
    exact List.mem_cons_of_mem _ hm
end

/-- Whole numbers in a row, with what lies ahead and behind. -/
def ir (ver : Nat) (pre : List (List AV)) (xs : List Int) (sp : List (List AV)) : Row := ⟨ver, 1, pre ++ (cl1 xs ++ sp)⟩
structure IrOk (ver : Nat) (pre sp : List (List AV)) : Prop where
  h0 : ∀ e ∈ pre, e.length = 1
  h1 : ∀ e ∈ sp, e.length = 1
  h2 : ClRow ⟨ver, 1, pre⟩
  h3 : ClRow ⟨ver, 1, sp⟩
theorem ir_get {pre sp : List (List AV)} {xs : List Int} {i : Nat} (hi : i < xs.length) : (pre ++ (cl1 xs ++ sp))[pre.length + i]? = some [.int .i64 xs[i]] := by
  rw [mid_get (by simpa [cl1] using hi)]
  simp [cl1, hi]
theorem ir_set {pre sp : List (List AV)} {xs : List Int} {i : Nat} {y : Int} (hi : i < xs.length) : (pre ++ (cl1 xs ++ sp)).set (pre.length + i) [.int .i64 y] = pre ++ (cl1 (xs.set i y) ++ sp) := by
  rw [mid_set (by simpa [cl1] using hi)]
  simp [cl1, List.map_set]
theorem ir_ver {ver : Nat} {pre sp : List (List AV)} {xs : List Int} : (ir ver pre xs sp).ver = ver := Eq.refl _
theorem ir_esz {ver : Nat} {pre sp : List (List AV)} {xs : List Int} : (ir ver pre xs sp).esz = 1 := Eq.refl _
theorem ir_elems {ver : Nat} {pre sp : List (List AV)} {xs : List Int} : (ir ver pre xs sp).elems = pre ++ (cl1 xs ++ sp) := Eq.refl _
theorem ir_mk {ver : Nat} {pre sp : List (List AV)} {xs : List Int} : (⟨ver, 1, pre ++ (cl1 xs ++ sp)⟩ : Row) = ir ver pre xs sp := Eq.refl _

section
variable {h h' : Hp} {bs bs' : Bx} {os : Ox} {n k : Nm} {r r2 : Row} {T i j : Nat} {v w : AV} {ns : List Nm}
theorem Cx.open_ints {xs : List Int} (x : Cx h bs ((w, (fun b => ints b xs), ns) :: os)) (hx : 0 < xs.length) : ∃ k ver pre sp, w = .sl k ver pre.length xs.length ∧ ns = [k] ∧ IrOk ver pre sp ∧ Cx h ((k, ir ver pre xs sp) :: bs) os := by
  rcases own_ints_inv (own_of (x.o0 true) rfl) with ⟨rfl, _, _⟩ | ⟨k, ver, pre, sp, rfl, rfl, hr, h1, h2, h3, h4⟩
  · simp at hx
  · refine ⟨k, ver, pre, sp, rfl, rfl, ⟨h1, h2, h3, h4⟩, ?_, fun y hy => x.own y (by simp [hy]), ?_, fun m hm => x.lt m ?_⟩
    · intro y hy
      simp only [List.mem_cons] at hy
      rcases hy with rfl | hy
      · exact hr
      · exact x.box y hy
    · have := x.nd
      simp only [nms, List.map_cons, List.flatten_cons] at this ⊢
      exact (List.Perm.nodup_iff (by simp)).1 this
    · simp only [nms, List.map_cons, List.flatten_cons, List.mem_append, List.mem_cons] at hm ⊢
      rcases hm with (rfl | hm) | hm
      · simp
      · exact .inl hm
      · exact .inr (.inr hm)
theorem Cx.close_ints {ver : Nat} {pre sp : List (List AV)} {xs : List Int} (x : Cx h ((k, ir ver pre xs sp) :: bs) os) (q : IrOk ver pre sp) : Cx h bs ((.sl k ver pre.length xs.length, (fun b => ints b xs), [k]) :: os) := by
  refine ⟨fun y hy => x.box y (by simp [hy]), fun y hy b => ?_, ?_, fun m hm => x.lt m ?_⟩
  · simp only [List.mem_cons] at hy
    rcases hy with rfl | hy
    · exact .one (own_ints_mk x.b0 q.h0 q.h1 q.h2 q.h3)
    · exact x.own y hy b
  · have := x.nd
    simp only [nms, List.map_cons, List.flatten_cons] at this ⊢
    exact (List.Perm.nodup_iff (by simp)).2 this
  · simp only [nms, List.map_cons, List.flatten_cons, List.mem_append, List.mem_cons] at hm ⊢
    rcases hm with hm | (hm | hm) | hm
    · exact .inl (.inr hm)
    · exact .inl (.inl hm)
    · simp at hm
    · exact .inr hm

/-- A tick not below another one. -/
class GeT (t T : Nat) : Prop where
  le : t ≤ T
instance : GeT T T := ⟨Nat.le_refl _⟩
instance {t T : Nat} [g : GeT t T] : GeT t (T + 1) := ⟨Nat.le_succ_of_le g.le⟩
/-- What of a context is left behind a run. -/
class CxE (h : Hp) (bs : Bx) (os : Ox) (h' : Hp) (bs' : outParam Bx) : Prop where
  cx : Cx h bs os → Cx h' bs' os
  nm : bs'.map (·.1) = bs.map (·.1)
  tk : h.tick ≤ h'.tick
theorem Cx.to (x : Cx h bs os) [e : CxE h bs os h' bs'] : Cx h' bs' os := e.cx x
instance (priority := low) : CxE h bs os h bs := ⟨id, rfl, Nat.le_refl _⟩
instance [e : CxE h bs os h' bs'] : CxE h bs os h'.next bs' := ⟨fun x => (e.cx x).next, e.nm, by rw [hp_next_tick]; exact Nat.le_succ_of_le e.tk⟩
instance [g : GeT h.tick T] [e : CxE h bs os h' bs'] : CxE h bs os (h'.put (T, i, j) r) bs' := ⟨fun x => (e.cx x).put_junk (fun hm => by
    have hl := x.lt (T, i, j) (by
      simp only [nms, List.mem_append] at hm ⊢
      rw [← e.nm]
      exact hm)
    have := g.le
    simp only at hl
    omega), e.nm, by rw [hp_put_tick]; exact e.tk⟩
instance [e : CxE h bs os h' ((n, r) :: bs')] : CxE h bs os (h'.put n r2) ((n, r2) :: bs') := ⟨fun x => (e.cx x).box_set, e.nm, by rw [hp_put_tick]; exact e.tk⟩
instance {a : Nm × Row} [e : CxE h bs os h' (a :: (n, r) :: bs')] : CxE h bs os (h'.put n r2) (a :: (n, r2) :: bs') := ⟨fun x => (e.cx x).box_set1, e.nm, by rw [hp_put_tick]; exact e.tk⟩
instance {a b : Nm × Row} [e : CxE h bs os h' (a :: b :: (n, r) :: bs')] : CxE h bs os (h'.put n r2) (a :: b :: (n, r2) :: bs') := ⟨fun x => (e.cx x).box_set2, e.nm, by rw [hp_put_tick]; exact e.tk⟩
theorem Cx.box_set3 {a b c : Nm × Row} (x : Cx h (a :: b :: c :: (n, r) :: bs) os) : Cx (h.put n r2) (a :: b :: c :: (n, r2) :: bs) os := ((x.bperm (List.perm_middle (l₁ := [a, b, c]))).box_set (r' := r2)).bperm (List.perm_middle (l₁ := [a, b, c])).symm
theorem Cx.box_set4 {a b c d : Nm × Row} (x : Cx h (a :: b :: c :: d :: (n, r) :: bs) os) : Cx (h.put n r2) (a :: b :: c :: d :: (n, r2) :: bs) os := ((x.bperm (List.perm_middle (l₁ := [a, b, c, d]))).box_set (r' := r2)).bperm (List.perm_middle (l₁ := [a, b, c, d])).symm
instance {a b c : Nm × Row} [e : CxE h bs os h' (a :: b :: c :: (n, r) :: bs')] : CxE h bs os (h'.put n r2) (a :: b :: c :: (n, r2) :: bs') := ⟨fun x => (e.cx x).box_set3, e.nm, by rw [hp_put_tick]; exact e.tk⟩
instance {a b c d : Nm × Row} [e : CxE h bs os h' (a :: b :: c :: d :: (n, r) :: bs')] : CxE h bs os (h'.put n r2) (a :: b :: c :: d :: (n, r2) :: bs') := ⟨fun x => (e.cx x).box_set4, e.nm, by rw [hp_put_tick]; exact e.tk⟩

/-- The boxes, one by one. -/
def Bxs (h : Hp) : Bx → Prop
  | [] => True
  | (n, r) :: bs => h.rows n = some r ∧ n.1 < h.tick ∧ Bxs h bs
theorem Bxs.of : ∀ {bs : Bx}, (∀ y ∈ bs, h.rows y.1 = some y.2 ∧ y.1.1 < h.tick) → Bxs h bs
  | [], _ => trivial
  | (n, r) :: bs, p => ⟨(p (n, r) (by simp)).1, (p (n, r) (by simp)).2, Bxs.of fun y hy => p y (by simp [hy])⟩
theorem Cx.bxs (x : Cx h bs os) : Bxs h bs := Bxs.of fun y hy => ⟨x.box y hy, x.lt _ (mem_box hy)⟩
/-- Names apart. -/
def Aps : List Nm → Prop
  | [] => True
  | n :: l => (∀ m ∈ l, n ≠ m ∧ m ≠ n) ∧ Aps l
theorem Aps.of : ∀ {l : List Nm}, l.Nodup → Aps l
  | [], _ => trivial
  | n :: l, p => ⟨fun m hm => ⟨fun e => (List.nodup_cons.1 p).1 (e ▸ hm), fun e => (List.nodup_cons.1 p).1 (e ▸ hm)⟩, Aps.of (List.nodup_cons.1 p).2⟩
theorem Cx.aps (x : Cx h bs os) : Aps (bs.map (·.1)) := Aps.of (List.nodup_append.1 x.nd).1
end
theorem nm_ne {n : Nm} {t i j : Nat} (h : n.1 < t) : (n = (t, i, j)) = False := eq_false fun e => by rw [e] at h; exact Nat.lt_irrefl _ h
theorem nm_ne' {n : Nm} {t i j : Nat} (h : n.1 < t) : ((t, i, j) = n) = False := eq_false fun e => by rw [← e] at h; exact Nat.lt_irrefl _ h
theorem tk_ne {a t : Nat} (h : a < t) : (a = t) = False := eq_false (Nat.ne_of_lt h)
theorem tk_ne' {a t : Nat} (h : a < t) : (t = a) = False := eq_false (Nat.ne_of_gt h)

theorem cx_kg {P : Program} {M : FuncId → Mode} {C : CS} {D : Array Oper → (Nat → AV) → Hp → ((Nat → AV) → Hp → Prop) → Prop} {σ : Nat → AV} {K : Ex → (Nat → AV) → Hp → Prop} {h : Hp} {bs : Bx} {os : Ox} (F : Hp → Prop) {b : Code} (c : Cx h bs os) (f : F h) (k : ∀ h', Cx h' bs os → F h' → wpC P M C D b σ h' K) : KSeq P M C D b K .normal σ h := k h c f

/-- A row keeps its elements' size. -/
def Eszs (h h' : Hp) : Prop := ∀ n r r', h.rows n = some r → h'.rows n = some r' → r'.ver = r.ver → r'.esz = r.esz

theorem Sound.esz {P : Program} {f : FuncId} {args : List AV} {h : Hp} {K : AV → Hp → Prop} (s : Sound P f args h K) : Sound P f args h fun v h' => K v h' ∧ Eszs h h' := by
  refine ⟨s.1, fun mu pr w vs R hv => (s.2 mu pr w vs R hv).mono fun e w' ⟨z, v, h', mu', pr', e1, k, r, A⟩ => ⟨z, v, h', mu', pr', e1, ⟨k, fun n r1 r2 g1 g2 g3 => ?_⟩, r, A⟩⟩
  obtain ⟨l, arr, ty, m1, _, _, z1, _⟩ := R.row n r1 g1
  obtain ⟨l', arr', ty', m2, _, _, z2, _⟩ := A.rel.row n r2 g2
  have := A.ext.names _ _ _ m1
  rw [g3, this] at m2
  cases m2
  omega

theorem Sound.tk {P : Program} {f : FuncId} {args : List AV} {h : Hp} {K : AV → Hp → Prop} (s : Sound P f args h K) : Sound P f args h fun v h' => K v h' ∧ h.tick ≤ h'.tick :=
  ⟨s.1, fun mu pr w vs R hv => (s.2 mu pr w vs R hv).mono fun e w' ⟨z, v, h', mu', pr', e1, k, r, A⟩ => ⟨z, v, h', mu', pr', e1, ⟨k, A.tick⟩, r, A⟩⟩

def zeros (n : Nat) : List Int := List.replicate n 0

theorem zeros_succ (n : Nat) : zeros (n + 1) = zeros n ++ [0] := by simp [zeros, List.replicate_succ']

/-- Onto a row that ends where the slice ends. -/
theorem appendA_ext {P : Program} {t : TypeId} {m n : Nm} {v len s : Nat} {x : AV} {h : Hp} {l : List (List AV)} (es : List (List AV)) (h0 : ((telem P t).bind fun e => (tsz P e).bind fun s => (tby P e).bind fun bb => (tzero P e).bind fun z => some (s, decide (0 < s ∧ bb ≤ 32768 ∧ z.length = s))) = some (s, true))
    (hr : h.rows m = some ⟨v, s, l⟩) (hlen : l.length = len) (hx : srcElems h.rows x = some es) (hes : ∀ e ∈ es, e.length = s) (hl : len + es.length ≤ 4294967296) (hm : decide (m.1 < h.tick) = true) :
    appendA P t (.sl m v 0 len) x h n = some (.sl m (v + if es = [] then 0 else 1) 0 (len + es.length), h.put m ⟨v + if es = [] then 0 else 1, s, l ++ es⟩) := by
  simp only [Option.bind_eq_some_iff] at h0
  obtain ⟨e', he', s', hs, bb, hb, z, hz, hd⟩ := h0
  simp only [Option.some.injEq, Prod.mk.injEq, decide_eq_true_eq] at hd
  obtain ⟨e1, hd1, hd2, hd3⟩ := hd
  rw [e1] at hs hd1 hd3
  subst hlen
  have hall : es.all (fun e => e.length == s) = true := by
    rw [List.all_eq_true]
    intro e he
    simpa using hes e he
  unfold appendA
  simp only [he', hx, hs, hb, hz]
  rw [if_pos ⟨hd1, hd2, hd3, hall⟩]
  simp only [hr]
  rw [if_pos ⟨trivial, trivial, by omega, hl, of_decide_eq_true hm⟩]
  cases es with
  | nil =>
    simp only [if_true, List.length_nil, Nat.add_zero, List.append_nil]
    congr 2
    obtain ⟨rows, tick⟩ := h
    simp only [Hp.put]
    congr 1
    funext k
    by_cases hk : k = m
    · rw [if_pos hk, hk]; exact hr
    · rw [if_neg hk]
  | cons e es =>
    have hnot : ¬ 0 + (l.length + (e :: es).length) ≤ l.length := by simp
    rw [if_neg (by simp), if_neg hnot]
    simp

/-- Onto nothing: a new row. -/
theorem appendA_nil1 {P : Program} {t : TypeId} {n k : Nm} {vk s : Nat} {h : Hp} {e : List AV} (h0 : ((telem P t).bind fun e => (tsz P e).bind fun s => (tby P e).bind fun bb => (tzero P e).bind fun z => some (s, decide (0 < s ∧ bb ≤ 32768 ∧ z.length = s))) = some (s, true))
    (hk : h.rows k = some ⟨vk, s, [e]⟩) (he : e.length = s) :
    appendA P t .nilsl (.sl k vk 0 1) h n = some (.sl n 0 0 1, h.put n ⟨0, s, [e]⟩) := by
  simp only [Option.bind_eq_some_iff] at h0
  obtain ⟨e', he', s', hs, bb, hb, z, hz, hd⟩ := h0
  simp only [Option.some.injEq, Prod.mk.injEq, decide_eq_true_eq] at hd
  obtain ⟨e1, hd1, hd2, hd3⟩ := hd
  rw [e1] at hs hd1 hd3
  unfold appendA
  have hsrc : srcElems h.rows (.sl k vk 0 1) = some [e] := by simp [srcElems, hk]
  rw [he', hsrc]
  simp only [hs, hb, hz]
  simp [he, hd1, hd2, hd3]

theorem own_src {rows : Nm → Option Row} {w : AV} {xs : List Int} {ns : List Nm} (o : Own rows true [w] [ints true xs] ns) : srcElems rows w = some (xs.map fun n => [.int .i64 n]) := by
  rcases own_ints_inv o with ⟨rfl, _, hx⟩ | ⟨n, ver, pre, sp, rfl, rfl, hr, h1, h2, h3, h4⟩
  · rcases hx with ⟨rfl, hns⟩ | ⟨n, ver, off, rfl, hns⟩
    · rfl
    · generalize ht : ints true [] = t at o
      generalize hv : AV.sl n ver off 0 = v at o
      cases o with
      | int => cases hv
      | bool => cases hv
      | str => cases hv
      | nilsl => cases hv
      | sl n' ver' len s r ts' g1 g2 g3 g4 g5 g6 g7 g8 g9 g10 => injection hv with e1 e2 e3 e4; subst e1 e2 e3 e4; simp [srcElems, g1, g2]
      | slo n' ver' pre sp zs g1 =>
        injection hv with e1 e2 e3 e4
        have hz : zs = [] := by cases zs with | nil => rfl | cons => simp at e4
        subst e1 e2 e3 hz
        simp [srcElems, g1]
  · simp [srcElems, hr]

theorem hp_put_same {h : Hp} {m : Nm} {r : Row} (hr : h.rows m = some r) : h.put m r = h := by
  obtain ⟨rows, tick⟩ := h
  simp only [Hp.put]
  congr 1
  funext k
  by_cases hk : k = m
  · rw [if_pos hk, hk]; exact hr.symm
  · rw [if_neg hk]

/-- Over the first places of a row of zeros. -/
theorem copyA_zeros {P : Program} {t : TypeId} {n : Nm} {v s : Nat} {h : Hp} {A : List Int} (h0 : ((telem P t).bind fun e => tsz P e) = some 1) (hr : h.rows n = some ⟨v, 1, cl1 (zeros s)⟩) (hA : A.length ≤ s) (hm : n.1 < h.tick) :
    copyA P t (.sl n v 0 s) (ints true A) h = some (.int .i64 A.length, h.put n ⟨v, 1, cl1 (A ++ zeros (s - A.length))⟩) := by
  simp only [Option.bind_eq_some_iff] at h0
  obtain ⟨e, he, hs⟩ := h0
  have hl : (A.map fun n => [AV.int .i64 n]).length = A.length := by simp
  have ht : (A.map fun n => [AV.int .i64 n]).take s = A.map fun n => [AV.int .i64 n] := List.take_of_length_le (by simpa using hA)
  have hall : (A.map fun n => [AV.int .i64 n]).all (fun e => e.length == 1) = true := by simp
  unfold copyA
  simp only [he, srcElems_ints, lenOfA, hs]
  rw [if_pos ⟨hall, Nat.one_pos⟩, ht]
  by_cases hA0 : A = []
  · subst hA0
    rw [if_pos (by simp)]
    have : h.put n ⟨v, 1, cl1 ([] ++ zeros (s - 0))⟩ = h := hp_put_same (by simpa using hr)
    simp only [List.length_nil]
    rw [this]
    rfl
  · rw [if_neg (by simpa using hA0)]
    have e2 : (cl1 (zeros s)).drop A.length = cl1 (zeros (s - A.length)) := by simp [cl1, zeros]
    simp only [overA, hr]
    rw [if_pos ⟨trivial, trivial, by simp [cl1, zeros], by simpa using hA, hm⟩]
    have e3 : (List.map (fun n => [AV.int IntKind.i64 n]) (zeros s)).drop A.length = List.map (fun n => [AV.int IntKind.i64 n]) (zeros (s - A.length)) := e2
    simp [e3, cl1]

def inB (n lo hi : Int) : Bool := decide (lo ≤ n) && decide (n ≤ hi)

theorem inB_nat {x k : Int} (h : inB x 0 k = true) : ∃ n : Nat, x = (n : Int) ∧ (n : Int) ≤ k := by
  simp only [inB, Bool.and_eq_true, decide_eq_true_eq] at h
  exact ⟨x.toNat, by omega, by omega⟩

theorem cx_kf {h : Hp} {bs : Bx} {os : Ox} {P : Program} {M : FuncId → Mode} {C : CS} {D : Array Oper → (Nat → AV) → Hp → ((Nat → AV) → Hp → Prop) → Prop} {σ : Nat → AV} {K : Ex → (Nat → AV) → Hp → Prop} (F : Hp → Prop) {b : Code} (c : Cx h bs os) (f : F h) (k : ∀ h', Cx h' bs os → F h' → wpC P M C D b σ h' K) : KSeq P M C D b K .normal σ h := k h c f
theorem dr_tup2 {c : Bool} {rows : Nm → Option Row} {a b t u : AV} (h1 : DR c rows a t) (h2 : DR c rows b u) : DR c rows (.tup [a, b]) (.tup [t, u]) := have h : DRs c rows [a, b] [t, u] := .cons h1 (.cons h2 .nil); .tup _ _ h.1 h.2
theorem av_oneX {P : Program} {t : TypeId} {d : TypeDesc} (h : P.underlying t = some d) (hd : (match d with | .struct _ => false | _ => true) = true) (c : AV) : avOf P t [c] = c := by
  unfold avOf
  rw [h]
  cases d <;> first | rfl | cases hd
end Go.Proofs.YtmcmgeedhbgglaaDoor.AM

namespace Go.Proofs.YtmcmgeedhbgglaaDoor.AM
open Go.RowKit

/-- A text by its bytes. -/
def bs (l : List UInt8) : ByteArray := ⟨l.toArray⟩
theorem bs_mk (a : Array UInt8) : (⟨a⟩ : ByteArray) = bs a.toList := Eq.refl _
theorem bs_app (a b : List UInt8) : bs a ++ bs b = bs (a ++ b) := by
  apply ByteArray.ext
  simp [bs]
theorem bs_size (l : List UInt8) : (bs l).size = l.length := by simp [bs, ByteArray.size]
theorem bs_empty : ByteArray.empty = bs [] := Eq.refl _
theorem bs_extract (l : List UInt8) (i j : Nat) : (bs l).extract i j = bs ((l.drop i).take (j - i)) := by
  apply ByteArray.ext
  simp [bs, ByteArray.data_extract]
theorem bs_toList (l : List UInt8) : (bs l).toList = l := by
  rw [ByteArray.toList_eq]
  simp [bs]
theorem bs_get (l : List UInt8) (k : Nat) : (bs l)[k]? = l[k]? := by
  by_cases h : k < l.length
  · have : k < (bs l).size := by rw [bs_size]; exact h
    rw [getElem?_pos (bs l) k this, getElem?_pos l k h]
    rfl
  · have : ¬ k < (bs l).size := by rw [bs_size]; exact h
    rw [getElem?_neg (bs l) k this, getElem?_neg l k h]
theorem bs_of (s : ByteArray) : ∃ l, s = bs l := ⟨s.data.toList, rfl⟩
theorem bs_inj {a b : List UInt8} (h : bs a = bs b) : a = b := by
  have := congrArg (fun s => s.data.toList) h
  simpa [bs] using this
theorem bs_data (l : List UInt8) : (bs l).data.toList = l := by simp [bs]
/-- A bound on a text's length, by its form. -/
class Bd (l : List UInt8) (n : outParam Nat) : Prop where
  le : l.length ≤ n
instance : Bd [] 0 := ⟨Nat.le_refl _⟩
instance {x : UInt8} {l : List UInt8} {n : Nat} [h : Bd l n] : Bd (x :: l) (n + 1) := ⟨Nat.succ_le_succ h.le⟩
instance {a b : List UInt8} {n m : Nat} [h : Bd a n] [k : Bd b m] : Bd (a ++ b) (n + m) := ⟨by rw [List.length_append]; exact Nat.add_le_add h.le k.le⟩
theorem cat_le {a b : List UInt8} {n m : Nat} [h : Bd a n] [k : Bd b m] (hs : n + m ≤ 4611686018427387904) : (9223372036854775807 < ((bs a).size : Int) + ((bs b).size : Int)) = False := by
  have := h.le; have := k.le
  rw [bs_size, bs_size]
  exact eq_false (by omega)
section
variable {P : Program} {rows : Nm → Option Row} {t : TypeId} {l : List UInt8} {k k' : IntKind}
theorem slice_fr {i : Int} (hu : P.underlying t = some .string) (h0 : 0 ≤ i) (h1 : i ≤ l.length) : sliceA P rows t (.str (bs l)) (some (.int k i)) none false = some (.str (bs (l.drop i.toNat))) := by
  simp only [sliceA, hu, bnd, if_pos h0, bs_size]
  rw [if_neg (by simp), if_pos (by omega), bs_extract, List.take_of_length_le (by simp)]
theorem slice_to {j : Int} (hu : P.underlying t = some .string) (h0 : 0 ≤ j) (h1 : j ≤ l.length) : sliceA P rows t (.str (bs l)) none (some (.int k j)) false = some (.str (bs (l.take j.toNat))) := by
  simp only [sliceA, hu, bnd, if_pos h0, bs_size]
  rw [if_neg (by simp), if_pos (by omega), bs_extract]
  simp
theorem slice_ft {i j : Int} (hu : P.underlying t = some .string) (h0 : 0 ≤ i) (h1 : i ≤ j) (h2 : j ≤ l.length) : sliceA P rows t (.str (bs l)) (some (.int k i)) (some (.int k' j)) false = some (.str (bs ((l.drop i.toNat).take (j.toNat - i.toNat)))) := by
  simp only [sliceA, hu, bnd, if_pos h0, if_pos (show 0 ≤ j by omega), bs_size]
  rw [if_neg (by simp), if_pos (by omega), bs_extract]
theorem index_bs {i : Int} (hu : P.underlying t = some .string) (h0 : 0 ≤ i) (h1 : i.toNat < l.length) : indexA P t (.str (bs l)) (.int k i) = some (.int .u8 l[i.toNat].toNat) := by
  simp [indexA, hu, if_pos h0, bs_get, h1]
end
/-- A number's decimal numeral, byte by byte. -/
def dg (n : Int) : List UInt8 := Go.Lib.itoa n
theorem itoaT_dg (n : Int) : itoaT n = bs (dg n) := rfl
theorem dg_len {n : Int} (h : I64 n) : (dg n).length ≤ 20 := by
  have := itoa_size h.1 h.2
  rwa [itoaT_dg, bs_size] at this
theorem bd_dg {n : Int} (h : I64 n) : Bd (dg n) 20 := ⟨dg_len h⟩
theorem itoaB (n : Int) (h : I64 n) : Pure Tryd.prog 29 [.int .i64 n] (.str (bs (dg n))) := itoaP n h.1 h.2
/-- Words with a blank ahead of each. -/
def sp (xs : List (List UInt8)) : List UInt8 := xs.flatMap fun x => 32 :: x
theorem sp_nil : sp [] = [] := rfl
theorem sp_cons (x : List UInt8) (xs : List (List UInt8)) : sp (x :: xs) = 32 :: (x ++ sp xs) := by simp [sp]
theorem sp_app (a b : List (List UInt8)) : sp (a ++ b) = sp a ++ sp b := by simp [sp]
theorem sp_len {xs : List (List UInt8)} {k : Nat} (h : ∀ x ∈ xs, x.length ≤ k) : (sp xs).length ≤ xs.length * (k + 1) := by
  induction xs with
  | nil => simp [sp]
  | cons x xs ih =>
    have h1 := h x (by simp)
    have h2 := ih fun y hy => h y (by simp [hy])
    rw [sp_cons, List.length_cons, List.length_append, List.length_cons, Nat.succ_mul]
    omega
end Go.Proofs.YtmcmgeedhbgglaaDoor.AM

namespace Go.Proofs.YtmcmgeedhbgglaaDoor.AM
open Go.RowKit

private def MD5 : FuncId → Mode := fun f => .tree

theorem dec_slice {P : Program} {rows : Nm → Option Row} {t : TypeId} {d : Nat} (hu : P.underlying t = some .string) (h : d < 10) : sliceA P rows t (.str (bs [48, 49, 50, 51, 52, 53, 54, 55, 56, 57])) (some (.int .i64 d)) (some (.int .i64 (d + 1))) false = some (.str (bs [UInt8.ofNat (48 + d)])) := by
  have : ∀ d : Fin 10, (([48, 49, 50, 51, 52, 53, 54, 55, 56, 57] : List UInt8).drop d).take 1 = [UInt8.ofNat (48 + d)] := by decide +kernel
  rw [slice_ft hu (by omega) (by omega) (by simp; omega), ← this ⟨d, h⟩]
  congr 4
  omega
/-- A number of a sign. -/
def sg (n : Int) (u : Nat) : Int := if n < 0 then -(u : Int) else u
theorem sg_self (n : Int) : sg n n.natAbs = n := by unfold sg; split <;> omega
theorem sg_quo (n : Int) (u : Nat) : (sg n u).tdiv 10 = sg n (u / 10) := by
  unfold sg
  split
  · rw [Int.neg_tdiv]
    congr 1
  · rfl
theorem sg_rem (n : Int) (u : Nat) : (sg n u).tmod 10 = sg n (u % 10) := by
  unfold sg
  split
  · rw [Int.neg_tmod]
    congr 1
  · rfl
theorem sg_zero (n : Int) (u : Nat) : sg n u = 0 ↔ u = 0 := by unfold sg; split <;> omega
theorem dg_dd {n : Int} (h : n ≠ 0) : dg n = (if n < 0 then [45] else []) ++ dd n.natAbs := by
  unfold dg
  rcases Int.lt_trichotomy n 0 with h1 | h1 | h1
  · rw [itoa_neg h1, if_pos h1]; rfl
  · exact absurd h1 h
  · rw [itoa_pos h1, if_neg (by omega)]; rfl
theorem dg_zero : dg 0 = [48] := bs_inj (by rw [← itoaT_dg, itoa_zero]; rfl)

theorem specDecText (n : Int) (h : I64 n) : Pure Tryd.prog 23 [.int .i64 n] (.str (bs (dg n))) := by
  intro T
  obtain ⟨hb1, hb2⟩ := h
  refine enter mixed MD5 Tryd.func23 rfl (by kernel_rfl) rfl ?_
  by_cases hz : n = 0
  · subst hz
    repeat' (first | (with_reducible first | refine stp ?_ | refine k_blk_o rfl ?_ | refine k_seq_n ?_) | ((try (conv => arg 1; simp [bs_mk])); with_reducible refine evp ?_) | fail)
    rw [dg_zero]
    exact .str _
  have hnd : (dd n.natAbs).length ≤ 19 := dd_len 19 _ (by omega)
  repeat' (first | (with_reducible first | refine stp ?_ | refine k_blk_o rfl ?_ | refine k_seq_n ?_) | ((try (conv => arg 1; simp [bs_mk, hz])); with_reducible refine evp ?_) | fail)
  refine st_loop (fun (u : Nat) σ h => ∃ out, dd n.natAbs = dd u ++ out ∧ u ≤ n.natAbs ∧ σ 0 = .int .i64 n ∧ σ 3 = .str (bs out) ∧ σ 4 = .int .i64 (sg n u)) (fun u => u) n.natAbs ?init ?step
  case init =>
    exact ⟨[], by simp, Nat.le_refl _, by simp [putA_get, envOf_0], by simp [putA_get, envOf_0, opd, avc, avc1, bs_empty, bs_mk], by simp [putA_get, envOf_0, opd, avc, avc1, sg_self]⟩
  case step =>
    rintro u σ h ⟨out, ho, hu, s0, s3, s4⟩
    by_cases hu0 : u = 0
    · subst hu0
      have e0 : sg n 0 = 0 := (sg_zero n 0).2 rfl
      rw [dd_zero, List.nil_append] at ho
      haveI : Bd out 19 := ⟨by rw [← ho]; exact hnd⟩
      by_cases hneg : n < 0
      · skip
        repeat' (first | (with_reducible first | refine stp ?_ | refine k_blk_o rfl ?_ | refine k_seq_n ?_) | ((try (conv => arg 1; simp [s0, s3, s4, e0, hneg, bs_mk, cat_le, bs_app])); with_reducible refine evp ?_) | fail)
        rw [dg_dd hz, if_pos hneg, ho]
        exact .str _
      · skip
        repeat' (first | (with_reducible first | refine stp ?_ | refine k_blk_o rfl ?_ | refine k_seq_n ?_) | ((try (conv => arg 1; simp [s0, s3, s4, e0, hneg, bs_mk, cat_le, bs_app])); with_reducible refine evp ?_) | fail)
        rw [dg_dd hz, if_neg hneg, ho]
        exact .str _
    · have hs0 : ¬ sg n u = 0 := fun e => hu0 ((sg_zero n u).1 e)
      have hd : u % 10 < 10 := Nat.mod_lt _ (by decide)
      have er := sg_rem n u
      have eq := sg_quo n u
      have ho2 : dd n.natAbs = dd (u / 10) ++ (UInt8.ofNat (48 + u % 10) :: out) := by rw [ho, dd_pos hu0]; simp
      haveI : Bd out 19 := ⟨by have := congrArg List.length ho; rw [List.length_append] at this; omega⟩
      have hwq : IntKind.i64.wrap (sg n (u / 10)) = sg n (u / 10) := wrap_id (by unfold sg; split <;> omega) (by unfold sg; split <;> omega)
      generalize hdd : u % 10 = d at *
      have hw1 : IntKind.i64.wrap ((d : Int) + 1) = (d : Int) + 1 := wrap_id (by omega) (by omega)
      have hw2 : IntKind.i64.wrap (d : Int) = d := wrap_id (by omega) (by omega)
      have hnn : ¬ (d : Int) < 0 := by omega
      by_cases hneg : sg n d < 0
      · have hw3 : IntKind.i64.wrap (-(sg n d)) = d := by rw [wrap_id (by unfold sg; split <;> omega) (by unfold sg; split <;> omega)]; unfold sg at hneg ⊢; split at hneg <;> split <;> omega
        repeat' (first | (with_reducible first | refine stp ?_ | refine k_blk_o rfl ?_ | refine k_seq_n ?_) | ((try (conv => arg 1; simp [s0, s3, s4, hs0, er, eq, hneg, hw1, hw2, hw3, hwq,  bs_mk, hd, dec_slice, cat_le, bs_app])); with_reducible refine evp ?_) | fail)
        refine k_lp_n (u / 10) (by omega) ⟨_, ho2, by omega, by simp [s0], by simp, by simp⟩
      · have es : sg n d = d := by unfold sg at hneg ⊢; split at hneg <;> split <;> omega
        rw [es] at er
        repeat' (first | (with_reducible first | refine stp ?_ | refine k_blk_o rfl ?_ | refine k_seq_n ?_) | ((try (conv => arg 1; simp [s0, s3, s4, hs0, er, eq, hnn, hw1, hw2, hwq, bs_mk, hd, dec_slice, cat_le, bs_app])); with_reducible refine evp ?_) | fail)
        refine k_lp_n (u / 10) (by omega) ⟨_, ho2, by omega, by simp [s0], by simp, by simp⟩
end Go.Proofs.YtmcmgeedhbgglaaDoor.AM

namespace Go.Proofs.YtmcmgeedhbgglaaDoor.AM
open Go.RowKit

def wr (a : Int) : Int := IntKind.i64.wrap a
theorem wr_id {a : Int} (h : I64 a) : wr a = a := wrap_id h.1 h.2
theorem wr_in (a : Int) : I64 (wr a) := by
  unfold wr I64
  simp [IntKind.wrap, IntKind.bits, IntKind.signed]
  omega
theorem wr_step (u d : Int) : wr (wr (wr (10 * wr u) + (48 + d)) - 48) = wr (10 * u + d) := by
  unfold wr
  simp [IntKind.wrap, IntKind.bits, IntKind.signed]
  omega
theorem wr_neg (u : Int) : wr (-(wr u)) = wr (-u) := by
  unfold wr
  simp [IntKind.wrap, IntKind.bits, IntKind.signed]
  omega
def isD (b : UInt8) : Bool := decide (48 ≤ b.toNat) && decide (b.toNat ≤ 57)
/-- What digits spell, in 64 bits. -/
def nvS (n : Int) (b : UInt8) : Int := wr (wr (wr (10 * n) + b.toNat) - 48)
def nv (t : List UInt8) : Int := t.foldl nvS 0
theorem nv_snoc (t : List UInt8) (b : UInt8) : nv (t ++ [b]) = nvS (nv t) b := by simp [nv]
theorem nv_in (t : List UInt8) : I64 (nv t) := by
  rcases List.eq_nil_or_concat t with rfl | ⟨a, b, rfl⟩
  · exact ⟨by decide, by decide⟩
  · rw [List.concat_eq_append, nv_snoc]; exact wr_in _
theorem dig_toNat (u : Nat) : (UInt8.ofNat (48 + u % 10)).toNat = 48 + u % 10 := by
  rw [UInt8.toNat_ofNat']
  omega
theorem nv_dd (u : Nat) : nv (dd u) = wr u := by
  induction u using Nat.strongRecOn with
  | _ u ih =>
    by_cases h : u = 0
    · subst h; rw [dd_zero]; rfl
    · rw [dd_pos h, nv_snoc, ih (u / 10) (by omega)]
      unfold nvS
      rw [dig_toNat, show ((48 + u % 10 : Nat) : Int) = 48 + ((u % 10 : Nat) : Int) by omega, wr_step]
      congr 1
      omega
theorem dd_digits (u : Nat) : ∀ b ∈ dd u, isD b = true := by
  induction u using Nat.strongRecOn with
  | _ u ih =>
    by_cases h : u = 0
    · subst h; rw [dd_zero]; simp
    · rw [dd_pos h]
      intro b hb
      simp only [List.mem_append, List.mem_singleton] at hb
      rcases hb with hb | rfl
      · exact ih (u / 10) (by omega) b hb
      · unfold isD
        rw [dig_toNat]
        simp
        omega
theorem dd_ne {u : Nat} (h : u ≠ 0) : dd u ≠ [] := by rw [dd_pos h]; simp
theorem dd_nd {u : Nat} : 45 ∉ dd u := fun h => by
  have := dd_digits u 45 h
  revert this
  decide
theorem parse_snoc (d : UInt8) : ∀ (l : List UInt8) (a v : Nat), Go.Lib.parseUint10 a l = .ok v → Go.Lib.parseUint10 a (l ++ [d]) = Go.Lib.parseUint10 v [d]
  | [], a, v, h => by
    simp only [Go.Lib.parseUint10] at h
    injection h with h
    subst h
    rfl
  | c :: r, a, v, h => by
    simp only [Go.Lib.parseUint10] at h
    rw [List.cons_append]
    conv => lhs; unfold Go.Lib.parseUint10
    split at h
    · rename_i h1
      rw [if_pos h1]
      split at h
      · cases h
      · rename_i h2
        rw [if_neg h2]
        split at h
        · cases h
        · rename_i h3
          rw [if_neg h3]
          exact parse_snoc d r _ v h
    · cases h
theorem parse_dd (u : Nat) (hu : u < 18446744073709551616) : Go.Lib.parseUint10 0 (dd u) = .ok u := by
  induction u using Nat.strongRecOn with
  | _ u ih =>
    by_cases h : u = 0
    · subst h; rw [dd_zero]; rfl
    · rw [dd_pos h, parse_snoc _ _ _ _ (ih (u / 10) (by omega) (by omega))]
      simp only [Go.Lib.parseUint10, dig_toNat]
      rw [if_pos (by omega), if_neg (by omega), if_neg (by omega)]
      congr 1
      omega
theorem atoi_dg {v : Int} (h : I64 v) : Go.Lib.atoiAll (dg v) = .ok v := by
  obtain ⟨h0, h1⟩ := h
  rcases Int.lt_trichotomy v 0 with hv | rfl | hv
  · rw [dg_dd (by omega), if_pos hv]
    show Go.Lib.atoiAll (45 :: dd v.natAbs) = _
    rw [Go.Lib.atoiAll_minus]
    unfold Go.Lib.parseMag
    rw [if_neg (dd_ne (by omega)), parse_dd _ (by omega)]
    simp only [Go.Lib.signed]
    rw [if_neg (by omega)]
    congr 1
    omega
  · rw [dg_zero]; rfl
  · rw [dg_dd (by omega), if_neg (by omega), List.nil_append]
    have hne := dd_ne (u := v.natAbs) (by omega)
    have hd := dd_digits v.natAbs
    have hp := parse_dd v.natAbs (by omega)
    cases hl : dd v.natAbs with
    | nil => exact absurd hl hne
    | cons c r =>
      have hc := hd c (by rw [hl]; simp)
      simp only [isD, Bool.and_eq_true, decide_eq_true_eq] at hc
      rw [Go.Lib.atoiAll_plain _ _ (by omega) (by omega), ← hl]
      unfold Go.Lib.parseMag
      rw [if_neg hne, hp]
      simp only [Go.Lib.signless]
      rw [if_neg (by omega)]
      congr 1
      omega
/-- Behind a sign. -/
def tl (s : List UInt8) : List UInt8 := match s with
  | 45 :: r => r
  | _ => s
/-- A numeral's number; whether it is one. -/
def readR (s : List UInt8) : Int × Bool := match Go.Lib.atoiAll s with
  | .ok v => if dg v = s then (v, true) else (0, false)
  | _ => (0, false)
def spn (s : List UInt8) : Int := if tl s ≠ s then wr (-(nv (tl s))) else nv (tl s)
theorem spn_in (s : List UInt8) : I64 (spn s) := by
  unfold spn
  split
  · exact wr_in _
  · exact nv_in _
def specR (s : List UInt8) : Int × Bool :=
  if ((tl s).any (fun b => !isD b) || (decide (tl s ≠ []) && decide (19 < (tl s).length))) = true then (0, false)
  else if tl s = [] ∨ dg (spn s) ≠ s then (0, false)
  else (spn s, true)
theorem readR_in (s : List UInt8) : I64 (readR s).1 := by
  unfold readR
  split
  · rename_i v h
    split
    · exact Go.Lib.atoiAll_bounds h
    · exact ⟨by decide, by decide⟩
  · exact ⟨by decide, by decide⟩
theorem readR_dg {v : Int} (h : I64 v) : readR (dg v) = (v, true) := by
  unfold readR
  rw [atoi_dg h]
  simp
theorem readR_t {s : List UInt8} (h : (readR s).2 = true) : dg (readR s).1 = s := by
  unfold readR at *
  split at h
  · split at h
    · rename_i hv
      simp [hv]
    · cases h
  · cases h
theorem readR_f {s : List UInt8} (h : (readR s).2 = false) : readR s = (0, false) := by
  unfold readR at *
  split at h
  · split at h
    · cases h
    · rename_i hv
      simp [hv]
  · rfl
theorem specR_dg {v : Int} (h : I64 v) : specR (dg v) = (v, true) := by
  obtain ⟨h0, h1⟩ := h
  have key : ∀ (t : List UInt8) (s : List UInt8) (u : Nat), s = dg v → t = tl s → t ≠ [] → (∀ b ∈ t, isD b = true) → t.length ≤ 19 → (if t ≠ s then wr (-(nv t)) else nv t) = v → specR (dg v) = (v, true) := by
    intro t s u hs ht h2 h3 h4 h5
    subst ht
    rw [← hs]
    unfold specR
    have ha : (tl s).any (fun b => !isD b) = false := by
      rw [List.any_eq_false]
      intro b hb
      simp [h3 b hb]
    rw [ha, if_neg (by simp; omega), show spn s = v by unfold spn; exact h5, if_neg (by rw [hs] at h2 ⊢; simp [h2])]
  rcases Int.lt_trichotomy v 0 with hv | hv | hv
  · have e : dg v = 45 :: dd v.natAbs := by rw [dg_dd (by omega), if_pos hv]; rfl
    refine key (dd v.natAbs) (dg v) 0 rfl (by rw [e]; rfl) (dd_ne (by omega)) (dd_digits _) (dd_len 19 _ (by omega)) ?_
    rw [e, if_pos (fun h => by have := congrArg List.length h; simp at this), nv_dd, wr_neg]
    rw [show -((v.natAbs : Nat) : Int) = v by omega]
    exact wr_id ⟨h0, h1⟩
  · subst hv
    rw [dg_zero]
    decide +kernel
  · have e : dg v = dd v.natAbs := by rw [dg_dd (by omega), if_neg (by omega)]; rfl
    have ht : tl (dg v) = dg v := by
      unfold tl
      rw [e]
      split
      · rename_i r hr
        exact absurd (by rw [hr]; simp) (dd_nd (u := v.natAbs))
      · rfl
    refine key (dd v.natAbs) (dg v) 0 rfl (by rw [ht, e]) (dd_ne (by omega)) (dd_digits _) (dd_len 19 _ (by omega)) ?_
    rw [e, if_neg (fun h => h rfl), nv_dd, show ((v.natAbs : Nat) : Int) = v by omega]
    exact wr_id ⟨h0, h1⟩
theorem specR_t {s : List UInt8} (h : (specR s).2 = true) : dg (specR s).1 = s ∧ I64 (specR s).1 := by
  unfold specR at *
  split at h
  · cases h
  · rename_i h1
    split at h
    · cases h
    · rename_i h2
      rw [if_neg h1, if_neg h2]
      exact ⟨Classical.not_not.1 fun e => h2 (.inr e), spn_in s⟩
theorem specR_f {s : List UInt8} (h : (specR s).2 = false) : specR s = (0, false) := by
  unfold specR at *
  split at h
  · rename_i h1; rw [if_pos h1]
  · rename_i h1
    split at h
    · rename_i h2; rw [if_neg h1, if_pos h2]
    · cases h
/-- The reference's reading is the program's. -/
theorem specR_eq (s : List UInt8) : specR s = readR s := by
  cases h : (specR s).2 with
  | true =>
    obtain ⟨a, b⟩ := specR_t h
    have := readR_dg b
    rw [a] at this
    rw [this, ← h]
  | false =>
    cases h2 : (readR s).2 with
    | true =>
      have a := readR_t h2
      have := specR_dg (readR_in s)
      rw [a] at this
      rw [this] at h
      cases h
    | false => rw [specR_f h, readR_f h2]
end Go.Proofs.YtmcmgeedhbgglaaDoor.AM

namespace Go.Proofs.YtmcmgeedhbgglaaDoor.AM
open Go.RowKit Go.Shelf

/-- The kit's numbers, led to this program's. -/
def laysAtoi_ren : Go.Shelf.Ren := ⟨fun | 172 => 37 | 244 => 55 | 245 => 56 | 247 => 72 | 279 => 73 | 280 => 74 | 281 => 75 | 282 => 76 | 287 => 90 | 316 => 91 | 171 => 29 | 205 => 92 | 321 => 106 | 322 => 107 | 243 => 50 | 246 => 69 | 283 => 84 | 284 => 85 | 285 => 86 | 286 => 87 | 129 => 102 | 317 => 101 | 318 => 103 | 319 => 104 | 320 => 105 | 337 => 115 | 338 => 116 | n => n, fun | 9 => 9 | 3 => 3 | 75 => 66 | 76 => 67 | 4 => 4 | 5 => 5 | 167 => 105 | 37 => 82 | 0 => 0 | 85 => 106 | 2 => 2 | 168 => 108 | 53 => 118 | 175 => 126 | 46 => 128 | 210 => 131 | 127 => 104 | 145 => 154 | 143 => 152 | 21 => 21 | 171 => 117 | 173 => 121 | 212 => 147 | 51 => 148 | 20 => 20 | 213 => 149 | 232 => 162 | 233 => 163 | 80 => 86 | n => n, fun | 15 => 0 | 16 => 1 | 17 => 2 | 18 => 4 | 19 => 5 | n => n⟩
theorem laysAtoi : LaysC.n172 Tryd.prog laysAtoi_ren where
  mixed := by kernel_rfl
  f129 := Tryd.func102.trans (congrArg some (by kernel_rfl))
  f171 := Tryd.func29.trans (congrArg some (by kernel_rfl))
  f172 := Tryd.func37.trans (congrArg some (by kernel_rfl))
  f205 := Tryd.func92.trans (congrArg some (by kernel_rfl))
  f243 := Tryd.func50.trans (congrArg some (by kernel_rfl))
  f244 := Tryd.func55.trans (congrArg some (by kernel_rfl))
  f245 := Tryd.func56.trans (congrArg some (by kernel_rfl))
  f246 := Tryd.func69.trans (congrArg some (by kernel_rfl))
  f247 := Tryd.func72.trans (congrArg some (by kernel_rfl))
  f279 := Tryd.func73.trans (congrArg some (by kernel_rfl))
  f280 := Tryd.func74.trans (congrArg some (by kernel_rfl))
  f281 := Tryd.func75.trans (congrArg some (by kernel_rfl))
  f282 := Tryd.func76.trans (congrArg some (by kernel_rfl))
  f283 := Tryd.func84.trans (congrArg some (by kernel_rfl))
  f284 := Tryd.func85.trans (congrArg some (by kernel_rfl))
  f285 := Tryd.func86.trans (congrArg some (by kernel_rfl))
  f286 := Tryd.func87.trans (congrArg some (by kernel_rfl))
  f287 := Tryd.func90.trans (congrArg some (by kernel_rfl))
  f316 := Tryd.func91.trans (congrArg some (by kernel_rfl))
  f317 := Tryd.func101.trans (congrArg some (by kernel_rfl))
  f318 := Tryd.func103.trans (congrArg some (by kernel_rfl))
  f319 := Tryd.func104.trans (congrArg some (by kernel_rfl))
  f320 := Tryd.func105.trans (congrArg some (by kernel_rfl))
  f321 := Tryd.func106.trans (congrArg some (by kernel_rfl))
  f322 := Tryd.func107.trans (congrArg some (by kernel_rfl))
  f337 := Tryd.func115.trans (congrArg some (by kernel_rfl))
  f338 := Tryd.func116.trans (congrArg some (by kernel_rfl))
  t0 := Tryd.underlying0
  a0 := Tryd.isAgg0
  z0 := Tryd.sizeOf0
  v0 := Tryd.zeroValue0
  t2 := Tryd.underlying2
  a2 := Tryd.isAgg2
  z2 := Tryd.sizeOf2
  v2 := Tryd.zeroValue2
  t3 := Tryd.underlying3
  a3 := Tryd.isAgg3
  z3 := Tryd.sizeOf3
  v3 := Tryd.zeroValue3
  t4 := Tryd.underlying4
  a4 := Tryd.isAgg4
  z4 := Tryd.sizeOf4
  v4 := Tryd.zeroValue4
  t5 := Tryd.underlying5
  a5 := Tryd.isAgg5
  z5 := Tryd.sizeOf5
  v5 := Tryd.zeroValue5
  t9 := Tryd.underlying9
  a9 := Tryd.isAgg9
  z9 := Tryd.sizeOf9
  v9 := Tryd.zeroValue9
  t20 := Tryd.underlying20
  a20 := Tryd.isAgg20
  z20 := Tryd.sizeOf20
  v20 := Tryd.zeroValue20
  t21 := Tryd.underlying21
  a21 := Tryd.isAgg21
  z21 := Tryd.sizeOf21
  v21 := Tryd.zeroValue21
  t37 := Tryd.underlying82
  a37 := Tryd.isAgg82
  z37 := Tryd.sizeOf82
  v37 := Tryd.zeroValue82
  t46 := Tryd.underlying128
  a46 := Tryd.isAgg128
  z46 := Tryd.sizeOf128
  v46 := Tryd.zeroValue128
  t51 := Tryd.underlying148
  a51 := Tryd.isAgg148
  z51 := Tryd.sizeOf148
  v51 := Tryd.zeroValue148
  t53 := Tryd.underlying118
  a53 := Tryd.isAgg118
  z53 := Tryd.sizeOf118
  v53 := Tryd.zeroValue118
  t75 := Tryd.underlying66
  a75 := Tryd.isAgg66
  z75 := Tryd.sizeOf66
  v75 := Tryd.zeroValue66
  t76 := Tryd.underlying67
  a76 := Tryd.isAgg67
  z76 := Tryd.sizeOf67
  v76 := Tryd.zeroValue67
  t85 := Tryd.underlying106
  a85 := Tryd.isAgg106
  z85 := Tryd.sizeOf106
  v85 := Tryd.zeroValue106
  t127 := Tryd.underlying104
  a127 := Tryd.isAgg104
  z127 := Tryd.sizeOf104
  v127 := Tryd.zeroValue104
  t143 := Tryd.underlying152
  a143 := Tryd.isAgg152
  z143 := Tryd.sizeOf152
  v143 := Tryd.zeroValue152
  t145 := Tryd.underlying154
  a145 := Tryd.isAgg154
  z145 := Tryd.sizeOf154
  v145 := Tryd.zeroValue154
  t167 := Tryd.underlying105
  a167 := Tryd.isAgg105
  z167 := Tryd.sizeOf105
  v167 := Tryd.zeroValue105
  t168 := Tryd.underlying108
  a168 := Tryd.isAgg108
  z168 := Tryd.sizeOf108
  v168 := Tryd.zeroValue108
  t171 := Tryd.underlying117
  a171 := Tryd.isAgg117
  z171 := Tryd.sizeOf117
  v171 := Tryd.zeroValue117
  t173 := Tryd.underlying121
  a173 := Tryd.isAgg121
  z173 := Tryd.sizeOf121
  v173 := Tryd.zeroValue121
  t175 := Tryd.underlying126
  a175 := Tryd.isAgg126
  z175 := Tryd.sizeOf126
  v175 := Tryd.zeroValue126
  t210 := Tryd.underlying131
  a210 := Tryd.isAgg131
  z210 := Tryd.sizeOf131
  v210 := Tryd.zeroValue131
  t212 := Tryd.underlying147
  a212 := Tryd.isAgg147
  z212 := Tryd.sizeOf147
  v212 := Tryd.zeroValue147
  t213 := Tryd.underlying149
  a213 := Tryd.isAgg149
  z213 := Tryd.sizeOf149
  t232 := Tryd.underlying162
  a232 := Tryd.isAgg162
  z232 := Tryd.sizeOf162
  v232 := Tryd.zeroValue162
  t233 := Tryd.underlying163
  a233 := Tryd.isAgg163
  z233 := Tryd.sizeOf163
  v233 := Tryd.zeroValue163
  g15 := by kernel_rfl
  g16 := by kernel_rfl
  g17 := by kernel_rfl
  g18 := by kernel_rfl
  g19 := by kernel_rfl
  t80 := Tryd.underlying86
  a80 := Tryd.isAgg86
  z80 := Tryd.sizeOf86
  v80 := Tryd.zeroValue86
  i0 := by kernel_rfl
  i2 := by kernel_rfl
  i3 := by kernel_rfl
  i4 := by kernel_rfl
  i5 := by kernel_rfl
  i9 := by kernel_rfl
  i20 := by kernel_rfl
  i21 := by kernel_rfl
  i37 := by kernel_rfl
  i46 := by kernel_rfl
  i51 := by kernel_rfl
  i53 := by kernel_rfl
  i75 := by kernel_rfl
  i76 := by kernel_rfl
  i80 := by kernel_rfl
  i85 := by kernel_rfl
  i127 := by kernel_rfl
  i143 := by kernel_rfl
  i145 := by kernel_rfl
  i167 := by kernel_rfl
  i168 := by kernel_rfl
  i171 := by kernel_rfl
  i173 := by kernel_rfl
  i175 := by kernel_rfl
  i210 := by kernel_rfl
  i212 := by kernel_rfl
  i232 := by kernel_rfl
  i233 := by kernel_rfl
  m15 := by kernel_rfl
  m16 := by kernel_rfl
  m17 := by kernel_rfl
  m18 := by kernel_rfl
  m19 := by kernel_rfl
  c0 := by kernel_rfl
  c2 := by kernel_rfl
  c3 := by kernel_rfl
  c4 := by kernel_rfl
  c5 := by kernel_rfl
  c9 := by kernel_rfl
  c20 := by kernel_rfl
  c21 := by kernel_rfl
  c37 := by kernel_rfl
  c46 := by kernel_rfl
  c51 := by kernel_rfl
  c53 := by kernel_rfl
  c75 := by kernel_rfl
  c76 := by kernel_rfl
  c80 := by kernel_rfl
  c85 := by kernel_rfl
  c127 := by kernel_rfl
  c143 := by kernel_rfl
  c145 := by kernel_rfl
  c167 := by kernel_rfl
  c168 := by kernel_rfl
  c171 := by kernel_rfl
  c173 := by kernel_rfl
  c175 := by kernel_rfl
  c210 := by kernel_rfl
  c212 := by kernel_rfl
  c213 := by kernel_rfl
  c232 := by kernel_rfl
  c233 := by kernel_rfl

/-- A call of the library that leaves all that was there as it was; of its result a fact is told. -/
theorem sound_libK {P : Program} {f : FuncId} {args : List AV} {h : Hp} {fn : Func} {K : AV → Prop} (h1 : P.funcs[f]? = some fn) (h2 : fn.body.isNone = false) (h3 : (fn.name == "runtime.NumGoroutine") = false)
    (hc : ∀ (mu : Nm → Nat → Option Loc) (pr : Bool → Nat → Prop) (w : World) (vs : List Value), Rel mu pr h w → VRs mu pr w.heap args vs → Calls P f vs.toArray w fun e w' => ∃ z r, e = .returned z ∧ K r ∧ (∀ pr' hp, VR mu pr' hp r z) ∧ Below w.heap.size w w') :
    Sound P f args h fun v h' => K v ∧ h' = h := by
  refine ⟨⟨fn, h1, h2, h3⟩, fun mu pr w vs R hv => (hc mu pr w vs R hv).mono ?_⟩
  rintro e w' ⟨z, r, rfl, hK, hz, B⟩
  exact ⟨z, r, h, mu, pr, rfl, ⟨hK, rfl⟩, hz _ _, After.below R B⟩
theorem tab_errs {mu : Nm → Nat → Option Loc} {pr : Bool → Nat → Prop} {h : Hp} {w : World} (R : Rel mu pr h w) : (∃ t p, w.cell? ⟨0, 0, none⟩ = some (.iface t p)) ∧ ∃ t p, w.cell? ⟨1, 0, none⟩ = some (.iface t p) := by
  constructor
  · obtain ⟨_, arr, ty, fr, hb, t, p, ha⟩ := R.tab 0 _ (by simp only [tabs]; exact List.mem_cons_of_mem _ (List.mem_cons_of_mem _ (List.mem_cons_self ..)))
    subst ha
    exact ⟨t, p, by simp [World.cell?, hb]⟩
  · obtain ⟨_, arr, ty, fr, hb, t, p, ha⟩ := R.tab 1 _ (by simp only [tabs]; exact List.mem_cons_of_mem _ (List.mem_cons_of_mem _ (List.mem_cons_of_mem _ (List.mem_cons_self ..))))
    subst ha
    exact ⟨t, p, by simp [World.cell?, hb]⟩
/-- What strconv.Atoi yields. -/
def atoiV (l : List UInt8) : AV := match Go.Lib.atoiAll l with
  | .ok v => .tup [.int .i64 v, .nilif]
  | .range => .tup [.int .i64 (Go.Lib.atoiSat l), .errv]
  | _ => .tup [.int .i64 0, .errv]
theorem vr_pair {mu : Nm → Nat → Option Loc} {pr : Bool → Nat → Prop} {hp : Array Obj} {n : Int} {a : AV} {v : Value} (h : VR mu pr hp a v) : VR mu pr hp (.tup [.int .i64 n, a]) (.tuple #[.int .i64 n, v]) := by
  refine .tup _ _ (fun i => if i = 0 then .int .i64 n else v) rfl (fun i c hc => ?_) (fun i c hc => ?_)
  · match i, hc with
    | 0, _ => rfl
    | 1, _ => rfl
  · match i, hc with
    | 0, hc => simp at hc; subst hc; exact .int _ _
    | 1, hc => simp at hc; subst hc; exact h
theorem below_bytes {w : World} {t : TypeId} {s : ByteArray} : Below w.heap.size w (Go.Lib.bytesWorld w t s) := Go.Lib.bytesWorld_below w t s
/-- strconv.Atoi, at every text. -/
theorem atoiP (l : List UInt8) (hl : l.length ≤ 2 ^ 40) (h : Hp) : Sound Tryd.prog 37 [.str (bs l)] h fun v h' => v = atoiV l ∧ h' = h := by
  refine sound_libK Tryd.func37 rfl rfl fun mu pr w vs R hv => ?_
  obtain ⟨u, rfl⟩ : ∃ u, vs = [u] := by
    match vs, hv.1 with
    | [u], _ => exact ⟨u, rfl⟩
  obtain rfl : u = .string (bs l) := by
    obtain ⟨u', h1, h2⟩ := hv.2 0 _ rfl
    simp at h1
    subst h1
    cases h2
    rfl
  obtain ⟨⟨t1, p1, e1⟩, t2, p2, e2⟩ := tab_errs R
  have hz : (bs l).size ≤ 281474976710656 := by rw [bs_size]; omega
  cases ha : Go.Lib.atoiAll l with
  | ok v =>
    have C := Any.strconv_Atoi_ok laysAtoi (bs l) (by omega) v (by rw [bs_data]; exact ha) w
    refine Calls.mono (R := _) C ?_
    rintro e w' ⟨rfl, hw⟩
    refine ⟨_, _, rfl, rfl, fun pr' hp => ?_, ?_⟩
    · unfold atoiV; rw [ha]; exact vr_pair .nilif
    · rcases hw with rfl | ⟨t, rfl⟩
      · exact Below.refl _ _
      · exact below_bytes
  | range =>
    have C := Any.strconv_Atoi_range laysAtoi (bs l) hz (by rw [bs_data]; exact ha) (.iface t2 p2) w e2 (.inr ⟨t2, p2, rfl⟩)
    refine Calls.mono (R := _) C ?_
    rintro e w' ⟨N, rfl, _, _, B⟩
    refine ⟨_, _, rfl, rfl, fun pr' hp => ?_, B⟩
    unfold atoiV; rw [ha, bs_data]; exact vr_pair (.errv _ _)
  | _ =>
    have C := Any.strconv_Atoi_syntax laysAtoi (bs l) hz (by rw [bs_data]; exact ha) (.iface t1 p1) w e1 (.inr ⟨t1, p1, rfl⟩)
    refine Calls.mono (R := _) C ?_
    rintro e w' ⟨N, rfl, _, _, B⟩
    refine ⟨_, _, rfl, rfl, fun pr' hp => ?_, B⟩
    unfold atoiV; rw [ha]; exact vr_pair (.errv _ _)
end Go.Proofs.YtmcmgeedhbgglaaDoor.AM

namespace Go.Proofs.YtmcmgeedhbgglaaDoor.AM
open Go.RowKit

private def MW0 : FuncId → Mode := fun f => .tree

structure Word where
  Op : Int
  R : Int
  A : Int
  B : Int
  N : Int
def Word.cells (w : Word) : List AV := [.int .i64 w.Op, .int .i64 w.R, .int .i64 w.A, .int .i64 w.B, .int .i64 w.N]
def words (b : Bool) (ws : List Word) : AV := .tr b (ws.map Word.cells)
structure Image where
  Sizes : List Int
  Params : Int
  Slots : Int
  Code : List Word
def Image.cells (b : Bool) (m : Image) : List AV := [ints b m.Sizes, .int .i64 m.Params, .int .i64 m.Slots, words b m.Code]
@[simp] theorem one_words (b : Bool) (ws : List Word) : (words b ws).one = true := rfl
@[simp] theorem stored_words (b : Bool) (ws : List Word) : (words b ws).stored = true := rfl
@[simp] theorem cells_words (b : Bool) (ws : List Word) : (words b ws).cells = [words b ws] := rfl


theorem l01In (n lo hi : Int) : Pure Tryd.prog 40 [.int .i64 n, .int .i64 lo, .int .i64 hi] (.bool (inB n lo hi)) := by
  intro T
  refine enter mixed MW0 Tryd.func40 rfl (by kernel_rfl) rfl ?_
  repeat' (first
    | (with_reducible first | refine st_seq ?_ | refine st_reg ?_ | refine st_block ?_ | refine st_nil ?_ | refine st_skip ?_ | refine st_ret ?_ | refine st_exit ?_ | refine fr_nil ?_ | refine k_seq_n ?_ | refine k_seq_r ?_ | refine k_seq_e ?_ | refine k_blk_n ?_ | refine k_blk_r ?_ | refine k_blk_s ?_ | refine k_blk_o rfl ?_ | refine k_fn_r ?_ | refine k_fn_n ?_ | refine k_lp_r ?_ | refine k_lp_e ?_)
    | ((with_reducible first | refine st_move ?_ | refine st_asg ?_ | refine st_c ?_ | refine fr_c ?_); (try (conv => arg 1; simp)); (with_reducible refine at_mk ?_))
    | ((with_reducible first | refine st_g ?_ | refine fr_g ?_); (try (conv => arg 1; simp)); (with_reducible refine at_mk ?_); with_reducible first | refine gd_tt ?_ | refine gd_ff ?_ | refine gd_tf ?_ | refine gd_ft ?_ | refine gd_no ?_)
    | ((with_reducible first | refine st_gm ?_ | refine fr_gm ?_); (try (conv => arg 1; simp)); (with_reducible refine at_mk ?_); (with_reducible first | refine gm_bool ?_ | refine gm_gv ?_); refine ⟨_, (by intro hc; first | ((try simp only [Bool.and_eq_true] at hc); (try (conv => lhs; simp [hc])); first | done | exact rfl) | ((try simp [gq] at hc); (try (conv => lhs; simp [gq, hc])); first | done | exact rfl)), ?_⟩)
    | ((with_reducible refine st_m rfl ?_); (try (conv => arg 1; simp)); (with_reducible refine ev2_some ?_))
    | ((with_reducible refine fr_n rfl ?_); (try (conv => arg 1; simp)); (with_reducible refine evn_some ?_))
    | ((with_reducible first | refine st_cv ?_ | refine fr_cv ?_); (try (conv => arg 1; simp)); (with_reducible refine at_mk ?_); (with_reducible refine fn_mk ?_); (try (conv => arg 1; simp)); (with_reducible refine at_mk ?_))
    | ((with_reducible refine fr_a ?_); (try (conv => arg 1; simp)); (with_reducible refine at_mk ?_); (try (conv => arg 1; simp)); (with_reducible refine at_mk ?_); refine ⟨?names, ?_⟩; (case names => (simp [appNames, ints, intss] <;> first | kernel_rfl | (refine ⟨?_, ?_⟩ <;> kernel_rfl))); (try (conv => arg 1; simp)); (with_reducible refine ev2_some ?_))
    | ((with_reducible first | refine st_q ?_ | refine fr_q ?_ | refine st_res ?_); (try (conv => arg 1; simp)); (with_reducible refine ev_some ?_))
    | ((with_reducible refine st_if ?_); (try (conv => arg 1; simp)); (with_reducible refine at_mk ?_); with_reducible first | refine br_t ?_ | refine br_f ?_))
  exact dr_bool (by simp [inB])
theorem in_ (n lo hi : Int) : Pure Tryd.prog 44 [.int .i64 n, .int .i64 lo, .int .i64 hi] (.bool (inB n lo hi)) := by
  intro T
  refine enter mixed MW0 Tryd.func44 rfl (by kernel_rfl) rfl ?_
  repeat' (first
    | (with_reducible first | refine st_seq ?_ | refine st_reg ?_ | refine st_block ?_ | refine st_nil ?_ | refine st_skip ?_ | refine st_ret ?_ | refine st_exit ?_ | refine fr_nil ?_ | refine k_seq_n ?_ | refine k_seq_r ?_ | refine k_seq_e ?_ | refine k_blk_n ?_ | refine k_blk_r ?_ | refine k_blk_s ?_ | refine k_blk_o rfl ?_ | refine k_fn_r ?_ | refine k_fn_n ?_ | refine k_lp_r ?_ | refine k_lp_e ?_)
    | ((with_reducible first | refine st_move ?_ | refine st_asg ?_ | refine st_c ?_ | refine fr_c ?_); (try (conv => arg 1; simp)); (with_reducible refine at_mk ?_))
    | ((with_reducible first | refine st_g ?_ | refine fr_g ?_); (try (conv => arg 1; simp)); (with_reducible refine at_mk ?_); with_reducible first | refine gd_tt ?_ | refine gd_ff ?_ | refine gd_tf ?_ | refine gd_ft ?_ | refine gd_no ?_)
    | ((with_reducible first | refine st_gm ?_ | refine fr_gm ?_); (try (conv => arg 1; simp)); (with_reducible refine at_mk ?_); (with_reducible first | refine gm_bool ?_ | refine gm_gv ?_); refine ⟨_, (by intro hc; first | ((try simp only [Bool.and_eq_true] at hc); (try (conv => lhs; simp [hc])); first | done | exact rfl) | ((try simp [gq] at hc); (try (conv => lhs; simp [gq, hc])); first | done | exact rfl)), ?_⟩)
    | ((with_reducible refine st_m rfl ?_); (try (conv => arg 1; simp)); (with_reducible refine ev2_some ?_))
    | ((with_reducible refine fr_n rfl ?_); (try (conv => arg 1; simp)); (with_reducible refine evn_some ?_))
    | ((with_reducible first | refine st_cv ?_ | refine fr_cv ?_); (try (conv => arg 1; simp)); (with_reducible refine at_mk ?_); (with_reducible refine fn_mk ?_); (try (conv => arg 1; simp)); (with_reducible refine at_mk ?_))
    | ((with_reducible refine fr_a ?_); (try (conv => arg 1; simp)); (with_reducible refine at_mk ?_); (try (conv => arg 1; simp)); (with_reducible refine at_mk ?_); refine ⟨?names, ?_⟩; (case names => (simp [appNames, ints, intss] <;> first | kernel_rfl | (refine ⟨?_, ?_⟩ <;> kernel_rfl))); (try (conv => arg 1; simp)); (with_reducible refine ev2_some ?_))
    | ((with_reducible first | refine st_q ?_ | refine fr_q ?_ | refine st_res ?_); (try (conv => arg 1; simp)); (with_reducible refine ev_some ?_))
    | ((with_reducible refine st_if ?_); (try (conv => arg 1; simp)); (with_reducible refine at_mk ?_); with_reducible first | refine br_t ?_ | refine br_f ?_))
  exact dr_bool (by simp [inB])
end Go.Proofs.YtmcmgeedhbgglaaDoor.AM

namespace Go.Proofs.YtmcmgeedhbgglaaDoor.AM
open Go.RowKit

theorem own_nil_inv {rows : Nm → Option Row} {c : Bool} {ns : List Nm} (h : Own rows c [] [] ns) : ns = [] := by cases h; rfl
theorem ownV_agg_inv {rows : Nm → Option Row} {c : Bool} {l ts : List AV} {ns : List Nm} (h : OwnV rows c (.agg l) (.agg ts) ns) : Own rows c l ts ns := by
  cases h with
  | one h => cases h
  | agg h => exact h

theorem own_ints_flat {rows : Nm → Option Row} {c : Bool} : ∀ {xs : List Int} {ts : List AV} {ns : List Nm}, Own rows c (xs.map fun x => [AV.int .i64 x]).flatten ts ns → ns = []
  | [], ts, ns, h => by
    generalize hl : (([] : List Int).map fun x => [AV.int .i64 x]).flatten = l at h
    cases h <;> first | rfl | cases hl
  | x :: xs, ts, ns, h => by
    generalize hl : ((x :: xs).map fun x => [AV.int .i64 x]).flatten = l at h
    simp only [List.map_cons, List.flatten_cons, List.singleton_append] at hl
    cases h with
    | int _ _ h => injection hl with _ hl; subst hl; exact own_ints_flat h
    | _ => cases hl
/-- The names do not hang on the trees. -/
theorem Own.det {rows : Nm → Option Row} {c : Bool} {as1 ts : List AV} {ns : List Nm} (h : Own rows c as1 ts ns) : ∀ {c' : Bool} {ts' : List AV} {ns' : List Nm}, Own rows c' as1 ts' ns' → ns' = ns := by
  induction h with
  | nil => intro c' ts' ns' h'; cases h'; rfl
  | int _ _ _ ih => intro c' ts' ns' h'; cases h' with | int _ _ h' => exact ih h'
  | bool _ _ ih => intro c' ts' ns' h'; cases h' with | bool _ h' => exact ih h'
  | str _ _ ih => intro c' ts' ns' h'; cases h' with | str _ h' => exact ih h'
  | nilsl _ ih => intro c' ts' ns' h'; cases h' with | nilsl h' => exact ih h'
  | @sl as1 ts ns1 ns2 n ver len s r ts' h1 h2 h3 h4 h5 h6 h7 h8 h9 h10 ih1 ih2 =>
    intro c' ts' ns' h'
    generalize hl : AV.sl n ver 0 len :: as1 = l at h'
    cases h' with
    | sl n' ver' len' s' r' ts2 q1 q2 q3 q4 q5 q6 q7 q8 q9 q10 =>
      injection hl with hl e
      injection hl with e1 e2 _ e4
      subst e e1 e2 e4
      rw [h1] at q1
      cases q1
      rw [ih1 q9, ih2 q10]
    | slo n' ver' pre sp xs q1 q2 q3 q4 q5 q6 =>
      injection hl with hl e
      injection hl with e1 e2 e3 e4
      subst e e1 e2 e4
      have hp : pre = [] := List.eq_nil_of_length_eq_zero e3.symm
      subst hp
      rw [h1] at q1
      cases q1
      simp only [List.nil_append] at h9
      rw [List.take_left' (by simp)] at h9
      rw [own_ints_flat h9, ih2 q6]
      rfl
    | _ => cases hl
  | @slo as1 ts ns n ver pre sp xs h1 h2 h3 h4 h5 h6 ih =>
    intro c' ts' ns' h'
    generalize hl : AV.sl n ver pre.length xs.length :: as1 = l at h'
    cases h' with
    | sl n' ver' len' s' r' ts2 q1 q2 q3 q4 q5 q6 q7 q8 q9 q10 =>
      injection hl with hl e
      injection hl with e1 e2 e3 e4
      subst e e1 e2 e4
      have hp : pre = [] := List.eq_nil_of_length_eq_zero e3
      subst hp
      rw [h1] at q1
      cases q1
      simp only [List.nil_append] at q9
      rw [List.take_left' (by simp)] at q9
      rw [own_ints_flat q9, ih q10]
      rfl
    | slo n' ver' pre' sp' xs' q1 q2 q3 q4 q5 q6 =>
      injection hl with hl e
      injection hl with e1 e2 e3 e4
      subst e e1
      rw [ih q6]
    | _ => cases hl

section
variable {h h' : Hp} {bs : Bx} {os : Ox} {k : Nm} {ns ns1 ns2 : List Nm} {s ver : Nat} {w : AV} {es sp : List (List AV)} {ts : Bool → List (List AV)}
/-- What is owned, side by side. -/
theorem Cx.agg_app {l1 l2 : List AV} {t1 t2 : Bool → List AV} (x : Cx h bs ((.agg l2, (fun b => .agg (t2 b)), ns2) :: (.agg l1, (fun b => .agg (t1 b)), ns1) :: os)) : Cx h bs ((.agg (l1 ++ l2), (fun b => .agg (t1 b ++ t2 b)), ns1 ++ ns2) :: os) := by
  refine ⟨x.box, fun y hy b => ?_, ?_, fun m hm => x.lt m ?_⟩
  · simp only [List.mem_cons] at hy
    rcases hy with rfl | hy
    · exact .agg (Own.append (ownV_agg_inv (x.o1 b)) (ownV_agg_inv (x.o0 b)))
    · exact x.own y (by simp [hy]) b
  · have nd := x.nd
    simp only [nms, List.map_cons, List.flatten_cons] at nd ⊢
    refine (List.Perm.nodup_iff ?_).1 nd
    rw [← List.append_assoc ns2 ns1 _]
    exact List.Perm.append_left _ (List.Perm.append_right _ List.perm_append_comm)
  · simp only [nms, List.map_cons, List.flatten_cons, List.mem_append] at hm ⊢
    rcases hm with hm | (hm | hm) | hm
    · exact .inl hm
    · exact .inr (.inr (.inl hm))
    · exact .inr (.inl hm)
    · exact .inr (.inr (.inr hm))
theorem Cx.agg_split {l1 l2 : List AV} {t1 t2 : Bool → List AV} (hl : ∀ b, (t1 b).length = l1.length) (x : Cx h bs ((.agg (l1 ++ l2), (fun b => .agg (t1 b ++ t2 b)), ns) :: os)) : ∃ ns1 ns2, ns = ns1 ++ ns2 ∧ Cx h bs ((.agg l2, (fun b => .agg (t2 b)), ns2) :: (.agg l1, (fun b => .agg (t1 b)), ns1) :: os) := by
  obtain ⟨ns1, ns2, e, o1, o2⟩ := Own.split (ownV_agg_inv (x.o0 true)) (hl true)
  refine ⟨ns1, ns2, e, x.box, fun y hy b => ?_, ?_, fun m hm => x.lt m ?_⟩
  · obtain ⟨ns1', ns2', e', o1', o2'⟩ := Own.split (ownV_agg_inv (x.o0 b)) (hl b)
    simp only [List.mem_cons] at hy
    rcases hy with rfl | rfl | hy
    · rw [o2.det o2'] at o2'; exact .agg o2'
    · rw [o1.det o1'] at o1'; exact .agg o1'
    · exact x.own y (by simp [hy]) b
  · have nd := x.nd
    rw [e] at nd
    simp only [nms, List.map_cons, List.flatten_cons] at nd ⊢
    refine (List.Perm.nodup_iff ?_).1 nd
    rw [← List.append_assoc ns2 ns1 _]
    exact List.Perm.append_left _ (List.Perm.append_right _ List.perm_append_comm)
  · rw [e]
    simp only [nms, List.map_cons, List.flatten_cons, List.mem_append] at hm ⊢
    rcases hm with hm | hm | hm | hm
    · exact .inl hm
    · exact .inr (.inl (.inr hm))
    · exact .inr (.inl (.inl hm))
    · exact .inr (.inr hm)
/-- A value alone out of what is owned. -/
theorem Cx.agg_one {t : Bool → AV} (x : Cx h bs ((.agg [w], (fun b => .agg [t b]), ns) :: os)) : Cx h bs ((w, t, ns) :: os) :=
  ⟨x.box, fun y hy b => by
    simp only [List.mem_cons] at hy
    rcases hy with rfl | hy
    · exact .one (ownV_agg_inv (x.o0 b))
    · exact x.own y (by simp [hy]) b, x.nd, x.lt⟩
theorem Cx.agg_mk {t : Bool → AV} (x : Cx h bs ((w, t, ns) :: os)) (ht : ∀ b, (t b).one = true) : Cx h bs ((.agg [w], (fun b => .agg [t b]), ns) :: os) :=
  ⟨x.box, fun y hy b => by
    simp only [List.mem_cons] at hy
    rcases hy with rfl | hy
    · exact .agg (own_of (x.o0 b) (ht b))
    · exact x.own y (by simp [hy]) b, x.nd, x.lt⟩
/-- Other plain cells in the same place. -/
theorem Cx.agg_map {l l' : List AV} {t t' : Bool → List AV} (x : Cx h bs ((.agg l, (fun b => .agg (t b)), ns) :: os)) (f : ∀ b, Own h.rows b l (t b) ns → Own h.rows b l' (t' b) ns) : Cx h bs ((.agg l', (fun b => .agg (t' b)), ns) :: os) :=
  ⟨x.box, fun y hy b => by
    simp only [List.mem_cons] at hy
    rcases hy with rfl | hy
    · exact .agg (f b (ownV_agg_inv (x.o0 b)))
    · exact x.own y (by simp [hy]) b, x.nd, x.lt⟩
theorem Cx.close_row (x : Cx h ((k, ⟨ver, s, es ++ sp⟩) :: bs) ((.agg es.flatten, (fun b => .agg (ts b).flatten), ns) :: os)) (h1 : ∀ e ∈ es, e.length = s) (h2 : ∀ b, (ts b).length = es.length) (h3 : ∀ b, ∀ t ∈ ts b, t.length = s) (h4 : ∀ e ∈ sp, e.length = s) (h5 : ClRow ⟨ver, s, sp⟩) :
    Cx h bs ((.sl k ver 0 es.length, (fun b => .tr b (ts b)), k :: (ns ++ [])) :: os) := by
  have hcl : ClRow ⟨ver, s, es ++ sp⟩ := by
    intro i e j y he hy
    simp only at he
    by_cases hi : i < es.length
    · rw [List.getElem?_append_left hi] at he
      have hm : y ∈ es.flatten := List.mem_flatten.2 ⟨e, List.mem_of_getElem? he, List.mem_of_getElem? hy⟩
      obtain ⟨n, hn⟩ := List.mem_iff_getElem?.1 hm
      exact (ownV_agg_inv (x.o0 true)).cl n y hn
    · rw [List.getElem?_append_right (by omega)] at he
      exact h5 _ e j y he hy
  refine ⟨fun y hy => x.box y (by simp [hy]), fun y hy b => ?_, ?_, fun m hm => x.lt m ?_⟩
  · simp only [List.mem_cons] at hy
    rcases hy with rfl | hy
    · refine .one (.sl k ver es.length s _ (ts b) x.b0 rfl rfl hcl (by simp) (fun e he => ?_) (h2 b) (h3 b) ?_ .nil)
      · simp only [List.mem_append] at he
        exact he.elim (h1 e) (h4 e)
      · simpa using ownV_agg_inv (x.o0 b)
    · exact x.own y (by simp [hy]) b
  · have := x.nd
    simp only [nms, List.map_cons, List.flatten_cons, List.append_nil] at this ⊢
    exact (List.Perm.nodup_iff (by simp)).2 this
  · simp only [nms, List.map_cons, List.flatten_cons, List.append_nil, List.mem_append, List.mem_cons] at hm ⊢
    rcases hm with hm | (hm | hm) | hm
    · exact .inl (.inr hm)
    · exact .inl (.inl hm)
    · exact .inr (.inl hm)
    · exact .inr (.inr hm)
theorem Cx.open_row (x : Cx h bs ((w, (fun b => .tr b (ts b)), ns) :: os)) (hs : 1 < s) (h3 : ∀ b, ∀ t ∈ ts b, t.length = s) (hne : ts true ≠ []) :
    ∃ k ver es sp ns1, w = .sl k ver 0 es.length ∧ ns = k :: (ns1 ++ []) ∧ es.length = (ts true).length ∧ (∀ e ∈ es, e.length = s) ∧ (∀ e ∈ sp, e.length = s) ∧ ClRow ⟨ver, s, sp⟩ ∧ Cx h ((k, ⟨ver, s, es ++ sp⟩) :: bs) ((.agg es.flatten, (fun b => .agg (ts b).flatten), ns1) :: os) := by
  have o := own_of (x.o0 true) rfl
  have o' : ∀ b, Own h.rows b [w] [.tr b (ts b)] ns := fun b => own_of (x.o0 b) rfl
  generalize hw : w = w0 at o
  generalize ht : AV.tr true (ts true) = t0 at o
  cases o with
  | int => cases ht
  | bool => cases ht
  | str => cases ht
  | nilsl => injection ht with _ ht; exact absurd ht hne
  | slo n v pre sp xs =>
    exfalso
    injection ht with _ ht
    have hx : xs ≠ [] := fun e => hne (by rw [ht, e]; rfl)
    obtain ⟨a, l, rfl⟩ := List.exists_cons_of_ne_nil hx
    have := h3 true [.int .i64 a] (by rw [ht]; simp)
    simp at this
    omega
  | @sl _ _ ns1 ns2 n v len s' r ts' g1 g2 g3 g4 g5 g6 g7 g8 g9 g10 =>
    cases g10
    injection ht with _ ht
    subst hw ht
    obtain ⟨v', s2, l⟩ := r
    subst g2 g3
    have hss : s2 = s := by
      obtain ⟨a, l', e⟩ := List.exists_cons_of_ne_nil hne
      have a1 := h3 true a (by rw [e]; simp)
      have a2 := g8 a (by rw [e]; simp)
      simp only at a2
      omega
    subst hss
    have g5' : len ≤ l.length := g5
    have hlen : (l.take len).length = len := by simp only [List.length_take]; omega
    refine ⟨n, v', l.take len, l.drop len, ns1, by rw [hlen], rfl, by rw [hlen]; exact g7.symm, fun e he => g6 e (List.mem_of_mem_take he), fun e he => g6 e (List.mem_of_mem_drop he), fun i e j y he hy => ?_, ?_⟩
    · simp only [List.getElem?_drop] at he
      exact g4 _ e j y he hy
    · rw [List.take_append_drop]
      refine ⟨fun y hy => ?_, fun y hy b => ?_, ?_, fun m hm => x.lt m ?_⟩
      · simp only [List.mem_cons] at hy
        rcases hy with rfl | hy
        · exact g1
        · exact x.box y hy
      · simp only [List.mem_cons] at hy
        rcases hy with rfl | hy
        · refine .agg ?_
          have ob := o' b
          generalize ht2 : AV.tr b (ts b) = t2 at ob
          generalize hn2 : n :: (ns1 ++ []) = nn at ob
          generalize hw2 : AV.sl n v' 0 len = w2 at ob
          cases ob with
          | int => cases hw2
          | bool => cases hw2
          | str => cases hw2
          | nilsl => cases hw2
          | slo n2 v2 pre2 sp2 xs2 q1 q2 q3 q4 q5 q6 =>
            exfalso
            injection hw2 with e1 e2 e3 e4
            subst e1
            rw [g1] at q1
            injection q1 with q1
            injection q1 with _ q1 _
            omega
          | @sl _ _ m1 m2 n2 v2 len2 s2' r2 ts2 q1 q2 q3 q4 q5 q6 q7 q8 q9 q10 =>
            cases q10
            injection ht2 with _ ht2
            injection hw2 with e1 e2 e3 e4
            subst ht2 e1 e4
            rw [g1] at q1
            cases q1
            injection hn2 with _ hn2
            simp only [List.append_nil] at hn2
            subst hn2
            exact q9
        · exact x.own y (by simp [hy]) b
      · have := x.nd
        simp only [nms, List.map_cons, List.flatten_cons, List.append_nil] at this ⊢
        exact (List.Perm.nodup_iff (by simp)).1 this
      · simp only [nms, List.map_cons, List.flatten_cons, List.append_nil, List.mem_append, List.mem_cons] at hm ⊢
        rcases hm with (hm | hm) | hm | hm
        · exact .inr (.inl (.inl hm))
        · exact .inl hm
        · exact .inr (.inl (.inr hm))
        · exact .inr (.inr hm)
/-- A row of plain cells. -/
theorem Cx.open_flat {l : List (List AV)} (x : Cx h bs ((w, (fun b => .tr b l), ns) :: os)) (hf : ∀ e ∈ l, e.length = s ∧ ∀ x ∈ e, flatc x = true) (hs : 1 < s) (hne : l ≠ []) :
    ∃ k ver sp, w = .sl k ver 0 l.length ∧ ns = [k] ∧ (∀ e ∈ sp, e.length = s) ∧ ClRow ⟨ver, s, sp⟩ ∧ Cx h ((k, ⟨ver, s, l ++ sp⟩) :: bs) os := by
  rcases own_row_inv hf hs (own_of (x.o0 true) rfl) with ⟨h0, _⟩ | ⟨n, ver, sp, rfl, rfl, hr, h1, h2⟩
  · exact absurd h0 hne
  · refine ⟨n, ver, sp, rfl, rfl, h1, h2, ?_, fun y hy => x.own y (by simp [hy]), ?_, fun m hm => x.lt m ?_⟩
    · intro y hy
      simp only [List.mem_cons] at hy
      rcases hy with rfl | hy
      · exact hr
      · exact x.box y hy
    · have := x.nd
      simp only [nms, List.map_cons, List.flatten_cons] at this ⊢
      exact (List.Perm.nodup_iff (by simp)).1 this
    · simp only [nms, List.map_cons, List.flatten_cons, List.mem_append, List.mem_cons] at hm ⊢
      rcases hm with (rfl | hm) | hm
      · simp
      · exact .inl hm
      · exact .inr (.inr hm)
theorem Cx.close_flat {l : List (List AV)} (x : Cx h ((k, ⟨ver, s, l ++ sp⟩) :: bs) os) (hf : ∀ e ∈ l, e.length = s ∧ ∀ x ∈ e, flatc x = true) (h1 : ∀ e ∈ sp, e.length = s) (h2 : ClRow ⟨ver, s, sp⟩) :
    Cx h bs ((.sl k ver 0 l.length, (fun b => .tr b l), [k]) :: os) := by
  refine ⟨fun y hy => x.box y (by simp [hy]), fun y hy b => ?_, ?_, fun m hm => x.lt m ?_⟩
  · simp only [List.mem_cons] at hy
    rcases hy with rfl | hy
    · exact .one (own_row_mk x.b0 hf h1 h2)
    · exact x.own y (by simp [hy]) b
  · have := x.nd
    simp only [nms, List.map_cons, List.flatten_cons] at this ⊢
    exact (List.Perm.nodup_iff (by simp)).2 this
  · simp only [nms, List.map_cons, List.flatten_cons, List.mem_append, List.mem_cons] at hm ⊢
    rcases hm with hm | (hm | hm) | hm
    · exact .inl (.inr hm)
    · exact .inl (.inl hm)
    · simp at hm
    · exact .inr hm
theorem fin_own {t : Bool → AV} (x : Cx h' bs ((w, t, ns) :: os)) : ∃ ns, (∀ c, OwnV h'.rows c w (t c) ns) ∧ ns.Nodup ∧ ∀ n ∈ ns, n.1 < h'.tick := ⟨ns, x.o0, x.nodup, x.lts⟩
end
end Go.Proofs.YtmcmgeedhbgglaaDoor.AM

namespace Go.Proofs.YtmcmgeedhbgglaaDoor.AM
open Go.RowKit

theorem bs_getE {l : List UInt8} {k : Nat} (h : k < (bs l).size) : (bs l)[k] = l[k]'(by rw [bs_size] at h; exact h) := Eq.refl _
theorem rg2 : List.range 2 = [0, 1] := by decide
theorem rg3 : List.range 3 = [0, 1, 2] := by decide
theorem rg4 : List.range 4 = [0, 1, 2, 3] := by decide
theorem rg6 : List.range 6 = [0, 1, 2, 3, 4, 5] := by decide
theorem rg12 : List.range 12 = [0, 1, 2, 3, 4, 5, 6, 7, 8, 9, 10, 11] := by decide
/-- Texts in a slice. -/
def strs (b : Bool) (l : List ByteArray) : AV := .tr b (l.map fun x => [.str x])
@[simp] theorem one_strs (b : Bool) (xs : List ByteArray) : (strs b xs).one = true := rfl
@[simp] theorem stored_strs (b : Bool) (xs : List ByteArray) : (strs b xs).stored = true := rfl
@[simp] theorem cells_strs (b : Bool) (xs : List ByteArray) : (strs b xs).cells = [strs b xs] := rfl
theorem lenA_strs {P : Program} {t : TypeId} (b : Bool) (xs : List ByteArray) (h : (telem P t).isSome = true) : lenA P t (strs b xs) = some (.int .i64 xs.length) := by
  unfold strs
  rw [lenA_tr b _ h]
  simp
attribute [simp] lenA_strs
theorem dr_strs {c b : Bool} {rows : Nm → Option Row} (hb : b = true → c = true) (l : List ByteArray) : DR c rows (strs b l) (strs c l) := dr_trflat hb fun e he x hx => by
  simp at he; obtain ⟨a, _, rfl⟩ := he; simp at hx; subst hx; rfl
theorem dr_strs_sl {c : Bool} {rows : Nm → Option Row} {n : Nm} {l : List ByteArray} (h : rows n = some ⟨0, 1, l.map fun x => [.str x]⟩) : DR c rows (.sl n 0 0 l.length) (strs c l) := by
  refine .sl n 0 0 l.length _ _ h rfl (by simp) (by simp) (fun i e t he ht => ?_) (fun i e t j x y he ht hx hy => ?_)
  · simp only [Nat.zero_add] at he
    rw [he] at ht; cases ht; rfl
  · simp only [Nat.zero_add] at he
    rw [he] at ht; cases ht
    rw [hx] at hy; cases hy
    simp at he; obtain ⟨a, _, rfl⟩ := he
    match j, hx with
    | 0, hx => simp at hx; subst hx; exact .str _

theorem take_snoc {α : Type} {l : List α} {i : Nat} (hi : i < l.length) : l.take (i + 1) = l.take i ++ [l[i]] := by
  rw [List.take_add_one, List.getElem?_eq_getElem hi]; rfl
/-- A row of plain cells, read as data. -/
theorem dr_flat_sl {c : Bool} {rows : Nm → Option Row} {n : Nm} {ver s : Nat} {l : List (List AV)} {sp : List (List AV)} (h : rows n = some ⟨ver, s, l ++ sp⟩) (hf : ∀ e ∈ l, ∀ x ∈ e, flatc x = true) : DR c rows (.sl n ver 0 l.length) (.tr c l) := by
  have hg : ∀ i, i < l.length → (l ++ sp)[0 + i]? = l[i]? := fun i hi => by rw [Nat.zero_add, List.getElem?_append_left hi]
  refine .sl n ver 0 l.length _ _ h rfl (by simp) rfl (fun i e t he ht => ?_) (fun i e t j x y he ht hx hy => ?_)
  · have hi : i < l.length := (List.getElem?_eq_some_iff.1 ht).1
    rw [hg i hi] at he
    rw [he] at ht; cases ht; rfl
  · have hi : i < l.length := (List.getElem?_eq_some_iff.1 ht).1
    rw [hg i hi] at he
    rw [he] at ht; cases ht
    rw [hx] at hy; cases hy
    exact dr_flatc (hf e (List.mem_of_getElem? he) x (List.mem_of_getElem? hx))
def FL (s : Nat) (l : List (List AV)) (w : AV) (b : Bx) : Prop :=
  (w = .nilsl ∧ l = [] ∧ b = []) ∨ ∃ k ver sp, w = .sl k ver 0 l.length ∧ (∀ e ∈ sp, e.length = s ∧ ∀ x ∈ e, flatc x = true) ∧ b = [(k, ⟨ver, s, l ++ sp⟩)]
theorem FL.one {s : Nat} {l : List (List AV)} {w : AV} {b : Bx} (f : FL s l w b) : w.one = true ∧ w.stored = true ∧ w.cells = [w] := by
  rcases f with ⟨rfl, _, _⟩ | ⟨k, ver, sp, rfl, _, _⟩ <;> exact ⟨rfl, rfl, rfl⟩
theorem FL.nil {s : Nat} : FL s [] .nilsl [] := .inl ⟨rfl, rfl, rfl⟩
theorem FL.mt {s : Nat} {k : Nm} {ver : Nat} : FL s [] (.sl k ver 0 0) [(k, ⟨ver, s, []⟩)] := .inr ⟨k, ver, [], rfl, by simp, rfl⟩
theorem FL.dr {s : Nat} {l : List (List AV)} {w : AV} {b : Bx} {h : Hp} {c : Bool} (f : FL s l w b) (hf : ∀ e ∈ l, ∀ x ∈ e, flatc x = true) (x : ∀ y ∈ b, h.rows y.1 = some y.2) : DR c h.rows w (.tr c l) := by
  rcases f with ⟨rfl, rfl, rfl⟩ | ⟨k, ver, sp, rfl, _, rfl⟩
  · exact .nilsl
  · exact dr_flat_sl (s := s) (x (k, _) (List.mem_singleton.2 rfl)) hf
theorem appendA_room {P : Program} {t : TypeId} {m n k : Nm} {v vk s len : Nat} {h : Hp} {l sp : List (List AV)} {e e0 : List AV} (h0 : ((telem P t).bind fun e => (tsz P e).bind fun s => (tby P e).bind fun bb => (tzero P e).bind fun z => some (s, decide (0 < s ∧ bb ≤ 32768 ∧ z.length = s))) = some (s, true))
    (hr : h.rows m = some ⟨v, s, l ++ e0 :: sp⟩) (hlen : l.length = len) (hk : h.rows k = some ⟨vk, s, [e]⟩) (he : e.length = s) (hl : len + 1 ≤ 4294967296) (hm : m.1 < h.tick) :
    appendA P t (.sl m v 0 len) (.sl k vk 0 1) h n = some (.sl m v 0 (len + 1), h.put m ⟨v, s, (l ++ [e]) ++ sp⟩) := by
  simp only [Option.bind_eq_some_iff] at h0
  obtain ⟨e', he', s', hs, bb, hb, z, hz, hd⟩ := h0
  simp only [Option.some.injEq, Prod.mk.injEq, decide_eq_true_eq] at hd
  obtain ⟨e1, hd1, hd2, hd3⟩ := hd
  rw [e1] at hs hd1 hd3
  subst hlen
  unfold appendA
  have hsrc : srcElems h.rows (.sl k vk 0 1) = some [e] := by simp [srcElems, hk]
  rw [he', hsrc]
  simp only [hs, hb, hz]
  have a1 : (l ++ e0 :: sp).take l.length = l := by simp
  have a2 : (l ++ e0 :: sp).drop (l.length + 1) = sp := by rw [show l ++ e0 :: sp = (l ++ [e0]) ++ sp by simp]; exact List.drop_left' (by simp)
  have a3 : l.length ≤ (l ++ e0 :: sp).length := by simp
  have a4 : l.length + 1 ≤ (l ++ e0 :: sp).length := by simp
  simp only [List.length_append, List.length_cons] at a3 a4
  simp [he, hd1, hd2, hd3, hr, hl, hm, a1, a2, a3, a4]
theorem Cx.to_front {h : Hp} {fs b bs : Bx} {os : Ox} (x : Cx h (fs ++ (b ++ bs)) os) : Cx h (b ++ (fs ++ bs)) os := x.bperm (List.perm_append_comm_assoc fs b bs)
theorem FL.app {P : Program} {t : TypeId} {s : Nat} {l : List (List AV)} {w : AV} {b bs : Bx} {os : Ox} {h : Hp} {k n : Nm} {vk : Nat} {e : List AV} (h0 : ((telem P t).bind fun e => (tsz P e).bind fun s => (tby P e).bind fun bb => (tzero P e).bind fun z => some (s, decide (0 < s ∧ bb ≤ 32768 ∧ z.length = s))) = some (s, true))
    (f : FL s l w b) (x : Cx h (b ++ bs) os) (hk : h.rows k = some ⟨vk, s, [e]⟩) (he : e.length = s) (hl : l.length + 1 ≤ 4294967296) (hn : n ∉ nms (b ++ bs) os) (ht : n.1 < h.tick) :
    ∃ w' b' h', appendA P t w (.sl k vk 0 1) h n = some (w', h') ∧ FL s (l ++ [e]) w' b' ∧ Cx h' (b' ++ bs) os ∧ h'.tick = h.tick ∧ (w'.one = true ∧ w'.stored = true ∧ w'.cells = [w']) := by
  rcases f with ⟨rfl, rfl, rfl⟩ | ⟨m, ver, sp, rfl, hsp, rfl⟩
  · exact ⟨_, [(n, ⟨0, s, [e]⟩)], _, appendA_nil1 h0 hk he, .inr ⟨n, 0, [], rfl, fun e he => by (cases he), rfl⟩, x.box_add hn ht, rfl, rfl, rfl, rfl⟩
  · have ltm := x.lt m (mem_box (x := (m, _)) (List.mem_cons_self ..))
    cases sp with
    | nil =>
      refine ⟨_, [(m, ⟨ver + 1, s, l ++ [e]⟩)], _, appendA_snoc h0 (by simpa using x.b0) rfl hk he hl (decide_eq_true ltm), .inr ⟨m, ver + 1, [], by simp, fun e he => by (cases he), by simp⟩, x.box_set, rfl, rfl, rfl, rfl⟩
    | cons e0 sp =>
      exact ⟨_, [(m, ⟨ver, s, (l ++ [e]) ++ sp⟩)], _, appendA_room h0 x.b0 rfl hk he hl ltm, .inr ⟨m, ver, sp, by simp, fun e he => hsp e (by simp [he]), rfl⟩, x.box_set, rfl, rfl, rfl, rfl⟩
/-- The step of an append. -/
theorem ev2_app {P : Program} {t : TypeId} {s : Nat} {l : List (List AV)} {w : AV} {fs b bs : Bx} {os : Ox} {h : Hp} {k n : Nm} {vk : Nat} {e : List AV} {N : AV → Hp → Prop} (h0 : ((telem P t).bind fun e => (tsz P e).bind fun s => (tby P e).bind fun bb => (tzero P e).bind fun z => some (s, decide (0 < s ∧ bb ≤ 32768 ∧ z.length = s))) = some (s, true))
    (f : FL s l w b) (x : Cx h (fs ++ (b ++ bs)) os) (hk : h.rows k = some ⟨vk, s, [e]⟩) (he : e.length = s) (hl : l.length + 1 ≤ 4294967296) (hn : n ∉ nms (fs ++ (b ++ bs)) os) (ht : n.1 < h.tick)
    (kk : ∀ w' b' h', FL s (l ++ [e]) w' b' → Cx h' (fs ++ (b' ++ bs)) os → h'.tick = h.tick → (w'.one = true ∧ w'.stored = true ∧ w'.cells = [w']) → N w' h') : Ev2 (appendA P t w (.sl k vk 0 1) h n) N := by
  have y := x.to_front
  obtain ⟨w', b', h', ea, fl, z, tk, q⟩ := FL.app (n := n) h0 f y hk he hl (fun e => hn (by
    simp only [nms, List.map_append, List.mem_append] at e ⊢
    rcases e with (e | e | e) | e
    · exact .inl (.inr (.inl e))
    · exact .inl (.inl e)
    · exact .inl (.inr (.inr e))
    · exact .inr e)) ht
  rw [ea]
  exact kk w' b' h' fl z.to_front tk q
theorem FL.appN {P : Program} {t : TypeId} {s : Nat} {l : List (List AV)} {w : AV} {b bs : Bx} {os : Ox} {h : Hp} {k n : Nm} {vk : Nat} {e : List AV} (h0 : ((telem P t).bind fun e => (tsz P e).bind fun s => (tby P e).bind fun bb => (tzero P e).bind fun z => some (s, decide (0 < s ∧ bb ≤ 32768 ∧ z.length = s))) = some (s, true))
    (f : FL s l w b) (x : Cx h (b ++ bs) os) (hk : h.rows k = some ⟨vk, s, [e]⟩) (he : e.length = s) (hl : l.length + 1 ≤ 4294967296) (hn : n ∉ nms (b ++ bs) os) (ht : n.1 < h.tick) :
    ∃ w' b' h', appendA P t w (.sl k vk 0 1) h n = some (w', h') ∧ FL s (l ++ [e]) w' b' ∧ Cx h' (b' ++ bs) os ∧ h'.tick = h.tick ∧ (w'.one = true ∧ w'.stored = true ∧ w'.cells = [w']) ∧ ∀ y ∈ b', y.1 = n ∨ y.1 ∈ b.map (·.1) := by
  rcases f with ⟨rfl, rfl, rfl⟩ | ⟨m, ver, sp, rfl, hsp, rfl⟩
  · exact ⟨_, [(n, ⟨0, s, [e]⟩)], _, appendA_nil1 h0 hk he, .inr ⟨n, 0, [], rfl, fun e he => by (cases he), rfl⟩, x.box_add hn ht, rfl, ⟨rfl, rfl, rfl⟩, fun y hy => by simp at hy; subst hy; exact .inl rfl⟩
  · have ltm := x.lt m (mem_box (x := (m, _)) (List.mem_cons_self ..))
    cases sp with
    | nil =>
      refine ⟨_, [(m, ⟨ver + 1, s, l ++ [e]⟩)], _, appendA_snoc h0 (by simpa using x.b0) rfl hk he hl (decide_eq_true ltm), .inr ⟨m, ver + 1, [], by simp, fun e he => by (cases he), by simp⟩, x.box_set, rfl, ⟨rfl, rfl, rfl⟩, fun y hy => by simp at hy; subst hy; exact .inr (by simp)⟩
    | cons e0 sp =>
      exact ⟨_, [(m, ⟨ver, s, (l ++ [e]) ++ sp⟩)], _, appendA_room h0 x.b0 rfl hk he hl ltm, .inr ⟨m, ver, sp, by simp, fun e he => hsp e (by simp [he]), rfl⟩, x.box_set, rfl, ⟨rfl, rfl, rfl⟩, fun y hy => by simp at hy; subst hy; exact .inr (by simp)⟩
/-- The same, with the names. -/
theorem ev2_appN {P : Program} {t : TypeId} {s : Nat} {l : List (List AV)} {w : AV} {fs b bs : Bx} {os : Ox} {h : Hp} {k n : Nm} {vk : Nat} {e : List AV} {N : AV → Hp → Prop} (h0 : ((telem P t).bind fun e => (tsz P e).bind fun s => (tby P e).bind fun bb => (tzero P e).bind fun z => some (s, decide (0 < s ∧ bb ≤ 32768 ∧ z.length = s))) = some (s, true))
    (f : FL s l w b) (x : Cx h (fs ++ (b ++ bs)) os) (hk : h.rows k = some ⟨vk, s, [e]⟩) (he : e.length = s) (hl : l.length + 1 ≤ 4294967296) (hn : n ∉ nms (fs ++ (b ++ bs)) os) (ht : n.1 < h.tick)
    (kk : ∀ w' b' h', FL s (l ++ [e]) w' b' → Cx h' (fs ++ (b' ++ bs)) os → h'.tick = h.tick → (w'.one = true ∧ w'.stored = true ∧ w'.cells = [w']) → (∀ y ∈ b', y.1 = n ∨ y.1 ∈ b.map (·.1)) → N w' h') : Ev2 (appendA P t w (.sl k vk 0 1) h n) N := by
  have y := x.to_front
  obtain ⟨w', b', h', ea, fl, z, tk, q, qn⟩ := FL.appN (n := n) h0 f y hk he hl (fun e => hn (by
    simp only [nms, List.map_append, List.mem_append] at e ⊢
    rcases e with (e | e | e) | e
    · exact .inl (.inr (.inl e))
    · exact .inl (.inl e)
    · exact .inl (.inr (.inr e))
    · exact .inr e)) ht
  rw [ea]
  exact kk w' b' h' fl z.to_front tk q qn
theorem Cx.new_nin {h : Hp} {bs : Bx} {os : Ox} {T i : Nat} (x : Cx h bs os) (hT : h.tick ≤ T) : (T, i, 0) ∉ nms bs os := fun e => by
  have := x.lt _ e
  simp only at this
  omega
theorem FL.own {s : Nat} {l : List (List AV)} {w : AV} {b bs : Bx} {os : Ox} {h : Hp} (f : FL s l w b) (hf : ∀ e ∈ l, e.length = s ∧ ∀ x ∈ e, flatc x = true) (x : Cx h (b ++ bs) os) : ∃ ns, Cx h bs ((w, (fun c => .tr c l), ns) :: os) := by
  rcases f with ⟨rfl, rfl, rfl⟩ | ⟨k, ver, sp, rfl, hsp, rfl⟩
  · exact ⟨[], x.add_own (fun b => .one (.nilsl .nil)) .nil (fun n hn => by cases hn) (fun n _ => rfl) (Nat.le_refl _)⟩
  · exact ⟨[k], Cx.close_flat x hf (fun e he => (hsp e he).1) (clRow_flat fun e he => (hsp e he).2)⟩
/-- What a piece of code brings about, and no more of it. -/
theorem st_cut {P : Program} {M : FuncId → Mode} {σ : Nat → AV} {h : Hp} {K : Ex → (Nat → AV) → Hp → Prop} {a : Code} (R : (Nat → AV) → Hp → Prop) (w : wpC P M (Sound P) (drawW2 P M (Sound P)) a σ h (fun e σ' h' => e = .normal ∧ R σ' h')) (k : ∀ σ' h', R σ' h' → K .normal σ' h') : wpC P M (Sound P) (drawW2 P M (Sound P)) a σ h K :=
  wpC_mono Sound.le drawW_le a σ h _ _ (fun e σ' h' hr => by obtain ⟨rfl, hr⟩ := hr; exact k _ _ hr) w
theorem clearA_at {P : Program} {t : TypeId} {n : Nm} {v off len s : Nat} {h : Hp} {pre mid post : List (List AV)} {z : List AV} (h0 : ((telem P t).bind fun e => (tsz P e).bind fun s => (tzero P e).bind fun z => some (s, z, decide (z.length = s ∧ 0 < s ∧ ones z = true))) = some (s, z, true))
    (hr : h.rows n = some ⟨v, s, pre ++ (mid ++ post)⟩) (hp : pre.length = off) (hm : mid.length = len) (ht : n.1 < h.tick) : clearA P t (.sl n v off len) h = some (h.put n ⟨v, s, pre ++ (List.replicate len z ++ post)⟩) := by
  simp only [Option.bind_eq_some_iff] at h0
  obtain ⟨e, he, s', hs, z', hz, hd⟩ := h0
  simp only [Option.some.injEq, Prod.mk.injEq, decide_eq_true_eq] at hd
  obtain ⟨rfl, rfl, hd⟩ := hd
  unfold clearA
  simp only [he, lenOfA, hs, hz]
  subst hp hm
  by_cases h0 : mid.length = 0
  · rw [if_pos h0]
    have : mid = [] := List.eq_nil_of_length_eq_zero h0
    subst this
    congr 1
    exact (hp_put_same (by simpa using hr)).symm
  · rw [if_neg h0, if_pos hd]
    have e1 : (pre ++ (mid ++ post)).take pre.length = pre := by simp
    have e2 : (pre ++ (mid ++ post)).drop (pre.length + mid.length) = post := by rw [← List.append_assoc]; exact List.drop_left' (by simp)
    simp only [overA, hr]
    rw [if_pos ⟨trivial, trivial, by simp, by simp, ht⟩]
    simp only [e1, List.length_replicate, e2, List.append_assoc]
end Go.Proofs.YtmcmgeedhbgglaaDoor.AM

namespace Go.Proofs.YtmcmgeedhbgglaaDoor.AM
open Go.RowKit

private def ME12 : FuncId → Mode := fun f => if f = 37 then .heap else .tree

theorem und_err : ∃ ms, Tryd.prog.underlying 66 = some (.interface ms) := ⟨_, Tryd.underlying66⟩
theorem implReadNum (s : List UInt8) (hl : s.length ≤ 2 ^ 40) : Pure Tryd.prog 13 [.str (bs s)] (.tup [.int .i64 (readR s).1, .bool (readR s).2]) := by
  intro T
  obtain ⟨ms, hms⟩ := und_err
  refine enter mixed ME12 Tryd.func13 rfl (by kernel_rfl) rfl ?_
  repeat' (first | (with_reducible first | refine stp ?_ | refine k_blk_o rfl ?_ | refine k_seq_n ?_) | ((try (conv => arg 1; simp [bs_mk])); with_reducible refine evp ?_) | fail)
  refine st_heap rfl (atoiP s hl _) ?_
  rintro v h1 ⟨rfl, rfl⟩
  cases ha : Go.Lib.atoiAll s with
  | ok v =>
    have K := itoaB v (Go.Lib.atoiAll_bounds ha)
    have hv : atoiV s = .tup [.int .i64 v, .nilif] := by unfold atoiV; rw [ha]
    by_cases he : dg v = s
    · have hr : readR s = (v, true) := by unfold readR; rw [ha]; simp [he]
      repeat' (first | (with_reducible first | refine stp ?_ | refine k_blk_o rfl ?_ | refine k_seq_n ?_) | ((try (conv => arg 1; simp [hv, hms, isCst, he, bs_toList])); with_reducible refine evp ?_) | ((with_reducible refine tcl ?_); first | ((apply tg (K)); (case e => rfl); (case d => (refine dq ?_); (repeat' (first | ((refine Da.mk ?_); first | assumption) | constructor))))) | fail)
      rw [hr]
      exact dr_tup2 (.int _ _) (.bool _)
    · have hr : readR s = (0, false) := by unfold readR; rw [ha]; simp [he]
      have he := beq_false_of_ne he
      repeat' (first | (with_reducible first | refine stp ?_ | refine k_blk_o rfl ?_ | refine k_seq_n ?_) | ((try (conv => arg 1; simp [hv, hms, isCst, he, bs_toList])); with_reducible refine evp ?_) | ((with_reducible refine tcl ?_); first | ((apply tg (K)); (case e => rfl); (case d => (refine dq ?_); (repeat' (first | ((refine Da.mk ?_); first | assumption) | constructor))))) | fail)
      rw [hr]
      exact dr_tup2 (.int _ _) (.bool _)
  | range =>
    have hv : atoiV s = .tup [.int .i64 (Go.Lib.atoiSat s), .errv] := by unfold atoiV; rw [ha]
    have hr : readR s = (0, false) := by unfold readR; rw [ha]
    repeat' (first | (with_reducible first | refine stp ?_ | refine k_blk_o rfl ?_ | refine k_seq_n ?_) | ((try (conv => arg 1; simp [hv, hms, isCst])); with_reducible refine evp ?_) | fail)
    rw [hr]
    exact dr_tup2 (.int _ _) (.bool _)
  | _ =>
    have hv : atoiV s = .tup [.int .i64 0, .errv] := by unfold atoiV; rw [ha]
    have hr : readR s = (0, false) := by unfold readR; rw [ha]
    repeat' (first | (with_reducible first | refine stp ?_ | refine k_blk_o rfl ?_ | refine k_seq_n ?_) | ((try (conv => arg 1; simp [hv, hms, isCst])); with_reducible refine evp ?_) | fail)
    rw [hr]
    exact dr_tup2 (.int _ _) (.bool _)

theorem l01Digit (b : UInt8) : Pure Tryd.prog 36 [.int .u8 b.toNat] (.bool (isD b)) := by
  intro T
  have hb : b.toNat < 256 := b.toNat_lt
  have hw : IntKind.i64.wrap (b.toNat : Int) = b.toNat := wrap_id (by omega) (by omega)
  have K := l01In b.toNat 48 57
  refine enter mixed ME12 Tryd.func36 rfl (by kernel_rfl) rfl ?_
  repeat' (first | (with_reducible first | refine stp ?_ | refine k_blk_o rfl ?_ | refine k_seq_n ?_) | ((try (conv => arg 1; simp [convA, hw])); with_reducible refine evp ?_) | ((with_reducible refine tcl ?_); first | ((apply tg (K)); (case e => rfl); (case d => (refine dq ?_); (repeat' (first | ((refine Da.mk ?_); first | assumption) | constructor))))) | fail)
  refine dr_bool ?_
  simp [inB, isD]
  rw [Bool.eq_iff_iff]
  simp
  omega

theorem nv_take {t : List UInt8} {i : Nat} (h : i < t.length) : nv (t.take (i + 1)) = nvS (nv (t.take i)) t[i] := by
  rw [List.take_add_one, List.getElem?_eq_getElem h]
  exact nv_snoc _ _

set_option maxHeartbeats 4000000 in
theorem specReadNum (s : List UInt8) (hl : s.length ≤ 2 ^ 40) : Pure Tryd.prog 12 [.str (bs s)] (.tup [.int .i64 (specR s).1, .bool (specR s).2]) := by
  intro T
  obtain ⟨t, ht⟩ : ∃ t, t = tl s := ⟨_, rfl⟩
  have htl : t.length ≤ 2 ^ 40 := by
    subst ht
    unfold tl
    split
    · simp at hl; omega
    · exact hl
  have hlen := bs_size t
  have hlens := bs_size s
  obtain ⟨q, hq⟩ : ∃ q : Bool, q = decide (tl s ≠ s) := ⟨_, rfl⟩
  refine enter mixed ME12 Tryd.func12 rfl (by kernel_rfl) rfl ?_
  have hs : (∃ r, s = 45 :: r) ∨ s = [] ∨ ∃ c r, s = c :: r ∧ ¬ c = 45 := by
    cases s with
    | nil => exact .inr (.inl rfl)
    | cons c r =>
      by_cases h : c = 45
      · subst h; exact .inl ⟨r, rfl⟩
      · exact .inr (.inr ⟨c, r, rfl, h⟩)
  have hneq : ∀ r : List UInt8, ¬ r = 45 :: r := fun r h => by have := congrArg List.length h; simp at this
  have K0 : ∀ b : UInt8, Pure Tryd.prog 36 [.int .u8 b.toNat] (.bool (isD b)) := l01Digit
  have KD := specDecText (spn s) (spn_in s)
  have fin : ∀ (h : Hp) (T' : Nat), True := fun _ _ => trivial
  repeat' (first | (with_reducible first | refine stp ?_ | refine k_blk_o rfl ?_) | ((try (conv => arg 1; simp [bs_mk])); with_reducible refine evp ?_) | fail)
  refine k_seq_n ?_
  repeat' (first | (with_reducible first | refine stp ?_ | refine k_blk_o rfl ?_) | ((try (conv => arg 1; simp [bs_mk])); with_reducible refine evp ?_) | fail)
  refine k_seq_n ?_
  refine st_seq ?_
  refine st_cut (fun σ h => σ 0 = .str (bs s) ∧ σ 4 = .str (bs t)) ?cw ?ck
  case cw =>
    rcases hs with ⟨r, rfl⟩ | rfl | ⟨c, r, rfl, hc⟩
    · have htr : t = r := ht
      subst htr
      have esl : ∀ rows, sliceA Tryd.prog rows 9 (.str (bs (45 :: t))) (some (.int .i64 1)) none false = some (.str (bs t)) := fun rows => slice_fr und_9 (by omega) (by simp; omega)
      repeat' (first | (with_reducible first | refine stp ?_ | refine k_blk_o rfl ?_ | refine k_seq_n ?_) | ((try (conv => arg 1; simp [bs_mk, hlens, bs_getE, esl])); with_reducible refine evp ?_) | fail)
      exact ⟨rfl, by simp, by simp⟩
    · have htr : t = [] := ht
      subst htr
      repeat' (first | (with_reducible first | refine stp ?_ | refine k_blk_o rfl ?_ | refine k_seq_n ?_) | ((try (conv => arg 1; simp [bs_mk, hlens])); with_reducible refine evp ?_) | fail)
      exact ⟨rfl, by simp, by simp⟩
    · have htr : t = c :: r := by
        rw [ht]
        unfold tl
        split
        · rename_i r' hr
          exact absurd (List.cons.inj hr).1 hc
        · rfl
      subst htr
      have hc2 : ¬ (c.toNat : Int) = 45 := fun e => hc (UInt8.toNat_inj.1 (by show c.toNat = 45; omega))
      repeat' (first | (with_reducible first | refine stp ?_ | refine k_blk_o rfl ?_ | refine k_seq_n ?_) | ((try (conv => arg 1; simp [bs_mk, hlens, bs_getE, hc2])); with_reducible refine evp ?_) | fail)
      exact ⟨rfl, by simp, by simp⟩
  case ck =>
    rintro σ h ⟨s0, s4⟩
    repeat' (first | (with_reducible first | refine stp ?_ | refine k_blk_o rfl ?_ | refine k_seq_n ?_) | ((try (conv => arg 1; simp [s0, s4])); with_reducible refine evp ?_) | fail)
    refine st_loop (fun (i : Nat) σ h => i ≤ t.length ∧ (∀ b ∈ t.take i, isD b = true) ∧ (0 < i → t.length ≤ 19) ∧ σ 0 = .str (bs s) ∧ σ 4 = .str (bs t) ∧ σ 5 = .int .i64 (nv (t.take i)) ∧ σ 6 = .int .i64 i) (fun i => t.length - i) 0 ?init ?step
    case init =>
      exact ⟨Nat.zero_le _, by simp, by omega, by simp [s0], by simp [s4], by simp [nv], by simp⟩
    case step =>
      rintro i σ h ⟨hi, hd, h19, s0, s4, s5, s6⟩
      by_cases hlt : i < t.length
      · have hlt2 : (i : Int) < t.length := by omega
        have hw : IntKind.i64.wrap (i + 1) = i + 1 := wrap_id (by omega) (by omega)
        have hwb : IntKind.i64.wrap (t[i].toNat : Int) = t[i].toNat := wrap_id (by omega) (by have := t[i].toNat_lt; omega)
        have K := K0 t[i]
        have hm : t[i] ∈ t := List.getElem_mem hlt
        cases hD : isD t[i] with
        | false =>
          have hR : specR s = (0, false) := by
            unfold specR
            rw [if_pos]
            rw [← ht]
            simp only [Bool.or_eq_true, List.any_eq_true]
            exact .inl ⟨t[i], hm, by simp [hD]⟩
          rw [hR]
          rw [hD] at K
          repeat' (first | (with_reducible first | refine stp ?_ | refine k_blk_o rfl ?_ | refine k_seq_n ?_) | ((try (conv => arg 1; simp [s0, s4, s5, s6, hlt, hlt2, hlen, bs_getE])); with_reducible refine evp ?_) | ((with_reducible refine tcl ?_); first | ((apply tg (K)); (case e => rfl); (case d => (refine dq ?_); (repeat' (first | ((refine Da.mk ?_); first | assumption) | constructor))))) | fail)
          exact dr_tup2 (.int _ _) (.bool _)
        | true =>
          rw [hD] at K
          by_cases hl19 : t.length ≤ 19
          · have hl19' : ¬ 19 < (t.length : Int) := by omega
            repeat' (first | (with_reducible first | refine stp ?_ | refine k_blk_o rfl ?_ | refine k_seq_n ?_) | ((try (conv => arg 1; simp [s0, s4, s5, s6, hlt, hlt2, hl19', hlen, hw, hwb, convA, bs_getE])); with_reducible refine evp ?_) | ((with_reducible refine tcl ?_); first | ((apply tg (K)); (case e => rfl); (case d => (refine dq ?_); (repeat' (first | ((refine Da.mk ?_); first | assumption) | constructor))))) | fail)
            refine k_lp_n (i + 1) (by omega) ⟨by omega, fun b hb => ?_, fun _ => hl19, by simp [s0], by simp [s4], by simp [nv_take hlt, nvS, wr], by simp⟩
            rw [List.take_add_one, List.getElem?_eq_getElem hlt] at hb
            simp only [Option.toList_some, List.mem_append, List.mem_singleton] at hb
            rcases hb with hb | rfl
            · exact hd b hb
            · exact hD
          · have hl19' : 19 < (t.length : Int) := by omega
            have hR : specR s = (0, false) := by
              unfold specR
              rw [if_pos]
              rw [← ht]
              simp only [Bool.or_eq_true, Bool.and_eq_true, decide_eq_true_eq]
              exact .inr ⟨fun e => by rw [e] at hlt; simp at hlt, by omega⟩
            rw [hR]
            repeat' (first | (with_reducible first | refine stp ?_ | refine k_blk_o rfl ?_ | refine k_seq_n ?_) | ((try (conv => arg 1; simp [s0, s4, s5, s6, hlt, hlt2, hl19', hlen, bs_getE])); with_reducible refine evp ?_) | ((with_reducible refine tcl ?_); first | ((apply tg (K)); (case e => rfl); (case d => (refine dq ?_); (repeat' (first | ((refine Da.mk ?_); first | assumption) | constructor))))) | fail)
            exact dr_tup2 (.int _ _) (.bool _)
      · have hge : i = t.length := by omega
        subst hge
        rw [List.take_length] at hd s5
        have h1 : ¬ ((tl s).any (fun b => !isD b) || (decide (tl s ≠ []) && decide (19 < (tl s).length))) = true := by
          rw [← ht]
          simp only [Bool.or_eq_true, Bool.and_eq_true, decide_eq_true_eq, List.any_eq_true, not_or, not_exists, not_and]
          refine ⟨fun b hb => by simp [hd b hb], fun hne => ?_⟩
          have : 0 < t.length := List.length_pos_iff.2 hne
          have := h19 this
          omega
        have hsp : ∀ q : Bool, (t == s) = q → spn s = if q = true then nv t else wr (-(nv t)) := fun q hq => by
          unfold spn
          rw [← ht]
          cases q
          · rw [if_pos (by simpa using hq)]; rfl
          · rw [if_neg (by simpa using hq)]; rfl
        have fin : ∀ (σ' : Nat → AV) (h' : Hp), σ' 0 = .str (bs s) → σ' 4 = .str (bs t) → σ' 5 = .int .i64 (spn s) → True := fun _ _ _ _ _ => trivial
        cases hq : t == s with
        | true =>
          have hS := hsp true hq
          rw [if_pos rfl] at hS
          rw [← hS] at s5
          by_cases h0 : t = []
          · have hR : specR s = (0, false) := by unfold specR; rw [if_neg h1, if_pos (.inl (by rw [← ht]; exact h0))]
            rw [hR]
            subst h0
            repeat' (first | (with_reducible first | refine stp ?_ | refine k_blk_o rfl ?_ | refine k_seq_n ?_) | ((try (conv => arg 1; simp [s0, s4, s5, s6, hlen, hq, bs_mk, bs_toList])); with_reducible refine evp ?_) | fail)
            exact dr_tup2 (.int _ _) (.bool _)
          · have hb0 : (t == []) = false := by simp [h0]
            by_cases he : dg (spn s) = s
            · have hR : specR s = (spn s, true) := by unfold specR; rw [if_neg h1, if_neg (by rw [← ht]; simp [h0, he])]
              rw [hR]
              repeat' (first | (with_reducible first | refine stp ?_ | refine k_blk_o rfl ?_ | refine k_seq_n ?_) | ((try (conv => arg 1; simp [s0, s4, s5, s6, hlen, hq, hb0, he, bs_mk, bs_toList])); with_reducible refine evp ?_) | ((with_reducible refine tcl ?_); first | ((apply tg (KD)); (case e => rfl); (case d => (refine dq ?_); (repeat' (first | ((refine Da.mk ?_); first | assumption) | constructor))))) | fail)
              exact dr_tup2 (.int _ _) (.bool _)
            · have hR : specR s = (0, false) := by unfold specR; rw [if_neg h1, if_pos (.inr he)]
              have he := beq_false_of_ne he
              rw [hR]
              repeat' (first | (with_reducible first | refine stp ?_ | refine k_blk_o rfl ?_ | refine k_seq_n ?_) | ((try (conv => arg 1; simp [s0, s4, s5, s6, hlen, hq, hb0, he, bs_mk, bs_toList])); with_reducible refine evp ?_) | ((with_reducible refine tcl ?_); first | ((apply tg (KD)); (case e => rfl); (case d => (refine dq ?_); (repeat' (first | ((refine Da.mk ?_); first | assumption) | constructor))))) | fail)
              exact dr_tup2 (.int _ _) (.bool _)
        | false =>
          have hS := hsp false hq
          rw [if_neg (by decide)] at hS
          have hwn : IntKind.i64.wrap (-(nv t)) = spn s := hS.symm
          by_cases h0 : t = []
          · have hR : specR s = (0, false) := by unfold specR; rw [if_neg h1, if_pos (.inl (by rw [← ht]; exact h0))]
            rw [hR]
            subst h0
            repeat' (first | (with_reducible first | refine stp ?_ | refine k_blk_o rfl ?_ | refine k_seq_n ?_) | ((try (conv => arg 1; simp [s0, s4, s5, s6, hlen, hq, bs_mk, bs_toList])); with_reducible refine evp ?_) | fail)
            exact dr_tup2 (.int _ _) (.bool _)
          · have hb0 : (t == []) = false := by simp [h0]
            by_cases he : dg (spn s) = s
            · have hR : specR s = (spn s, true) := by unfold specR; rw [if_neg h1, if_neg (by rw [← ht]; simp [h0, he])]
              rw [hR]
              repeat' (first | (with_reducible first | refine stp ?_ | refine k_blk_o rfl ?_ | refine k_seq_n ?_) | ((try (conv => arg 1; simp [s0, s4, s5, s6, hlen, hq, hb0, hwn, he, bs_mk, bs_toList])); with_reducible refine evp ?_) | ((with_reducible refine tcl ?_); first | ((apply tg (KD)); (case e => rfl); (case d => (refine dq ?_); (repeat' (first | ((refine Da.mk ?_); first | assumption) | constructor))))) | fail)
              exact dr_tup2 (.int _ _) (.bool _)
            · have hR : specR s = (0, false) := by unfold specR; rw [if_neg h1, if_pos (.inr he)]
              have he := beq_false_of_ne he
              rw [hR]
              repeat' (first | (with_reducible first | refine stp ?_ | refine k_blk_o rfl ?_ | refine k_seq_n ?_) | ((try (conv => arg 1; simp [s0, s4, s5, s6, hlen, hq, hb0, hwn, he, bs_mk, bs_toList])); with_reducible refine evp ?_) | ((with_reducible refine tcl ?_); first | ((apply tg (KD)); (case e => rfl); (case d => (refine dq ?_); (repeat' (first | ((refine Da.mk ?_); first | assumption) | constructor))))) | fail)
              exact dr_tup2 (.int _ _) (.bool _)
theorem specReadNum' (s : List UInt8) (hl : s.length ≤ 2 ^ 40) : Pure Tryd.prog 12 [.str (bs s)] (.tup [.int .i64 (readR s).1, .bool (readR s).2]) := by
  rw [← specR_eq]
  exact specReadNum s hl
end Go.Proofs.YtmcmgeedhbgglaaDoor.AM

namespace Go.Proofs.YtmcmgeedhbgglaaDoor.AM
open Go.RowKit

private def MLReadNum : FuncId → Mode := fun f => .tree

theorem lawReadNum (s : ByteArray) (hs : s.size ≤ maxLen) : Sound Tryd.prog 4 [.str s] (.mt 0) fun v _ => v = .bool true := by
  obtain ⟨l, rfl⟩ := bs_of s
  have hz := bs_size l
  refine enter mixed MLReadNum Tryd.func4 rfl (by kernel_rfl) rfl ?_
  by_cases hl : l.length ≤ 1048576
  · have hl2 : ¬ 1048576 < (l.length : Int) := by omega
    have S := specReadNum' l (by omega)
    have I := implReadNum l (by omega)
    repeat' (first | (with_reducible first | refine stp ?_ | refine k_blk_o rfl ?_ | refine k_seq_n ?_) | ((try (conv => arg 1; simp [hz, hl2])); with_reducible refine evp ?_) | ((with_reducible refine tcl ?_); first | ((apply tg (S)); (case e => rfl); (case d => (refine dq ?_); (repeat' (first | ((refine Da.mk ?_); first | assumption) | constructor)))) | ((apply tg (I)); (case e => rfl); (case d => (refine dq ?_); (repeat' (first | ((refine Da.mk ?_); first | assumption) | constructor))))) | fail)
    rfl
  · have hl2 : 1048576 < (l.length : Int) := by omega
    repeat' (first | (with_reducible first | refine stp ?_ | refine k_blk_o rfl ?_ | refine k_seq_n ?_) | ((try (conv => arg 1; simp [hz, hl2])); with_reducible refine evp ?_) | fail)
    rfl
end Go.Proofs.YtmcmgeedhbgglaaDoor.AM

namespace Go.Proofs.YtmcmgeedhbgglaaDoor.AM
open Go Go.RowKit

theorem handed_laid {H : Type} {enc : TypeId × Value → H} {a : Assume} {C : Checked} {os : Os} {f : FuncId} {fn : Func} {s : ChangeSpec} {conds : List PathCond} {apart fresh handsOn again : Bool} {X : World → Array Value → Prop}
    (hX : ∀ (w w' : World) (args : Array Value), w.heap = w'.heap → X w args → X w' args)
    (own : ownKnob C.prog.godebug = none) (started : os.Started) (noInit : C.prog.inits.idxOf? f = none) (hfn : C.prog.funcs[f]? = some fn)
    (witness : ∃ (w : World) (tape : Tape) (i : Input), w.os = os ∧ (w.forCall tape i).Shaped C.prog ∧ i.vars = [] ∧ Input.okWide C.prog (w.forCall tape i) .any w.heap.size f i ∧
      ((s.pre enc C.prog fn conds apart (w.forCall tape i).memory i.args ∧ X (w.forCall tape i).memory i.args) ∧ sizedMet enc C.prog fn (OpenSpec.ofChange s) apart (w.forCall tape i).memory i.args) ∧ a.holds C.prog (lone (Frame.enter C.prog f i.args .normal) [] (w.forCall tape i)))
    (contract : ∀ (W : World) (base : Nat) (args : Array Value) (ds gs : List (DataW H)) (before : List MemPlace),
      (∀ (j : Nat) t v, fn.params[j]? = some t → args[j]? = some v → Value.okWide C.prog W .any base t v) →
      DataW.Whole enc C.prog fn.params.toList s.vars apart W args.toList ds gs before → X W args → W.ShapedOpen C.prog →
      Calls C.prog f args W fun e W' => ∃ v, e = .returned v ∧ s.post enc C.prog fn apart fresh handsOn again W args v W') :
    ReturnsInHanded a C os f .any (fun w args => (s.pre enc C.prog fn conds apart w args ∧ X w args) ∧ sizedMet enc C.prog fn (OpenSpec.ofChange s) apart w args) (s.post enc C.prog fn apart fresh handsOn again) := by
  refine returnsInHanded_of_calls own started noInit witness ?_
  intro w tape i _ hsh _ hok hpre hholds
  obtain ⟨_, _, _, fn', hfn', _, _, _, _, hval⟩ := hok
  have e : fn' = fn := Option.some.inj (hfn'.symm.trans hfn)
  subst e
  obtain ⟨⟨⟨ds, gs, before, hw, hc⟩, hx⟩, hz⟩ := hpre
  have hw' := DataW.Whole.of_heap (w' := w.forCall tape i) (by rfl) hw
  refine (contract (w.forCall tape i) w.heap.size i.args ds gs before hval hw' (hX _ _ _ (by rfl) hx) hsh).mono fun e W' ⟨v, he, hp⟩ => ?_
  subst he
  exact ChangeSpec.post_blind hp

theorem var_cells {P : Program} {w : World} {name : String} {g : Nat} {cs : Array Value} (hg : P.globalNamed name = some g) (h : w.var? P name = some cs) : g < w.heap.size ∧ ∃ ty fr, w.heap[g]? = some (.cells cs ty fr) := by
  unfold World.var? at h
  rw [hg] at h
  simp only [Option.bind_some] at h
  split at h
  · rename_i cs' ty fr hb
    cases h
    exact ⟨(Array.getElem?_eq_some_iff.1 hb).1, ty, fr, hb⟩
  · cases h
theorem int_block {P : Program} {w : World} {g : Nat} {t : TypeId} {zero : Array Value} {k : IntKind}
    (h : w.ShapedOpen P) (hg : g < P.globals.size)
    (h0 : ((begin P (fun _ _ => 0) default).world.heap[g]?).bind Obj.row? = some (zero, t)) (hz : zero.size = 1)
    (hb : P.buildable t = true) (hc : P.cellTypes P.depth t = some [t]) (hu : P.underlying t = some (.int k)) : g < w.heap.size ∧ ∃ m ty fr, w.heap[g]? = some (.cells #[.int k m] ty fr) := by
  obtain ⟨m, hm⟩ := cell_of_shapedOpen_int h hg h0 hz hb hc hu
  obtain ⟨cs, hh, hs, _⟩ := h.1 g zero t hg h0
  refine ⟨(Array.getElem?_eq_some_iff.1 hh).1, m, t, (0, 0), ?_⟩
  rw [hh]
  have h1 : cs.size = 1 := by omega
  have : cs = #[.int k m] := by
    apply Array.ext
    · simp [h1]
    · intro i h2 h3
      have hi : i = 0 := by simpa using h3
      subst hi
      simp only [World.cell?, hh] at hm
      simpa [h2] using hm
  rw [this]

theorem av_3 (c : AV) : avOf Tryd.prog 3 [c] = c := av_oneX und_3 rfl c
theorem av_9 (c : AV) : avOf Tryd.prog 9 [c] = c := av_oneX und_9 rfl c
/-- The tables that the rows list, and bytealg.MaxLen. -/
theorem tab_pow10 {W : World} (h : Go.Lib.TabIs Tryd.prog W "internal/strconv.uint64pow10" .u64 Go.Lib.pow10Tab) : 2 < W.heap.size ∧ ∃ arr ty fr, W.heap[2]? = some (.cells arr ty fr) ∧ arr = (Go.Lib.pow10Tab.map fun z => Value.int .u64 z).toArray := by
  obtain ⟨h1, ty, fr, h2⟩ := var_cells (by kernel_rfl) h
  exact ⟨h1, _, ty, fr, h2, rfl⟩
theorem tab_maxlen {W : World} (h : W.ShapedOpen Tryd.prog) : 3 < W.heap.size ∧ ∃ arr ty fr, W.heap[3]? = some (.cells arr ty fr) ∧ ∃ m, arr = #[Value.int .i64 m] := by
  obtain ⟨h1, m, ty, fr, h2⟩ := int_block (g := 3) (t := 3) (zero := #[.int .i64 0]) (k := .i64) h (of_decide_eq_true (by kernel_rfl)) (by kernel_rfl) rfl (by kernel_rfl) (by kernel_rfl) (by kernel_rfl)
  exact ⟨h1, _, ty, fr, h2, m, rfl⟩
theorem pow_of_laid {W : World} {rest : List (String × DataW Unit)} (h : laidMet Tryd.prog (("internal/strconv.uint64pow10", Rows.laid_internal_strconv_uint64pow10) :: rest) W) : Go.Lib.TabIs Tryd.prog W "internal/strconv.uint64pow10" .u64 Go.Lib.pow10Tab :=
  Go.Lib.tabIs_of_head (n := 20) (g := 2) (t := 147) (e := 118) (by kernel_rfl) (by kernel_rfl) (by kernel_rfl) (by kernel_rfl) (by kernel_rfl) (by kernel_rfl) (rest := rest) h
end Go.Proofs.YtmcmgeedhbgglaaDoor.AM

namespace Go.Proofs.YtmcmgeedhbgglaaDoor.AM
open Go Go.RowKit

theorem err_star : "*" ++ "errors.errorString" = "*errors.errorString" := by decide
theorem err_row (u : TypeId) (h : Tryd.prog.typeName? 3 u = some "*errors.errorString") : u = 152 :=
  typeName_ptr_named (nm := "errors.errorString") (by rw [err_star]; kernel_rfl) (by kernel_rfl) (by decide) u (by rw [err_star]; exact h)
theorem err_var {W : World} {n : String} {text : List UInt8} {rest : List (String × DataW Unit)} {g : Nat} (h : laidMet Tryd.prog ((n, .iface "*errors.errorString" (.ptr (.agg [.lit (.string text)]))) :: rest) W)
    (hg : Tryd.prog.globalNamed n = some g) (ht : (Tryd.prog.globals[g]?).map (·.type) = some 66) : g < W.heap.size ∧ ∃ arr ty fr, W.heap[g]? = some (.cells arr ty fr) ∧ ∃ t p, arr = #[Value.iface t p] := by
  obtain ⟨a, s, hv, _⟩ := laid_sentinel (ti := 66) (tp := 152) (te := 154) (ts := 9) h hg ht Tryd.underlying66 err_row Tryd.underlying152 Tryd.underlying154 rfl rfl Tryd.underlying9 (by kernel_rfl) (by kernel_rfl)
  obtain ⟨h1, ty, fr, h2⟩ := var_cells hg hv
  exact ⟨h1, _, ty, fr, h2, _, _, rfl⟩
theorem tab_allE {W : World} (h1 : Go.Lib.TabIs Tryd.prog W "internal/strconv.uint64pow10" .u64 Go.Lib.pow10Tab) (h2 : W.ShapedOpen Tryd.prog) {rs rr : List (String × DataW Unit)}
    (h3 : laidMet Tryd.prog (("strconv.ErrSyntax", Rows.laid_strconv_ErrSyntax) :: rs) W) (h4 : laidMet Tryd.prog (("strconv.ErrRange", Rows.laid_strconv_ErrRange) :: rr) W) : Tab (prLent (fun _ _ => False) W.heap.size) W.heap := by
  intro b q hm
  simp only [tabs, List.mem_cons, List.mem_nil_iff, or_false, Prod.mk.injEq] at hm
  rcases hm with ⟨rfl, rfl⟩ | ⟨rfl, rfl⟩ | ⟨rfl, rfl⟩ | ⟨rfl, rfl⟩
  · exact tab_pow10 h1
  · exact tab_maxlen h2
  · exact err_var h3 (by kernel_rfl) (by kernel_rfl)
  · exact err_var h4 (by kernel_rfl) (by kernel_rfl)
end Go.Proofs.YtmcmgeedhbgglaaDoor.AM


namespace Go.Proofs.YtmcmgeedhbgglaaDoor.fnExactReadNum
open Go Go.ChangeShapes Go.WideShapes Go.ChangeAt Go.RowKit
theorem own : ownKnob Tryd.prog.godebug = none := by kernel_rfl

theorem sound (l : List AM.AV) (h : AM.ShpAll Tryd.prog [9] l) : AM.Sound Tryd.prog 4 l (.mt 0) fun v _ => v = .bool true := by
  obtain ⟨cells0, l0, g0, e0, k0⟩ := AM.shpAll_cons h
  have e' := AM.shpAll_nil k0
  subst e' e0
  obtain ⟨a0, rfl, d0⟩ := g0.str_inv AM.und_9
  rw [AM.av_9]
  exact AM.lawReadNum a0 d0

set_option maxRecDepth 100000 in
theorem met (os : Os) (args : Array Value) : laidMetH Tryd.prog Rows.fnExactReadNumRow.laid ((World.doorLaid Tryd.prog 72 os).forCall (fun _ _ => 0) ⟨#[], args, []⟩).memory := laidMetH_of_parts3 (fuel := 8) (laidMet_of_run' 8 (by kernel_rfl) (by kernel_rfl)) (by kernel_rfl) (by kernel_rfl)

theorem tabs {W : World} (h : laidMetH Tryd.prog Rows.fnExactReadNumRow.laid W) (hsh : W.ShapedOpen Tryd.prog) : AM.Tab (AM.prLent (fun _ _ => False) W.heap.size) W.heap := by
  rw [MakeChecks.laidMetH_plain _ _ _ (by kernel_rfl)] at h
  exact AM.tab_allE (AM.pow_of_laid h.tail.tail) hsh h.tail.tail.tail.tail h.tail.tail.tail

set_option maxRecDepth 100000 in
theorem lifted (os : Os) (started : os.Started) (H : Type) (enc : TypeId × Value → H) :
    ReturnsInHanded {} Tryd.checked os 4 .any (fun w args => (Rows.fnExactReadNumSpec.pre enc Tryd.prog Tryd.f4 [] false w args ∧ laidMetH Tryd.prog Rows.fnExactReadNumRow.laid w) ∧ sizedMet enc Tryd.prog Tryd.f4 (OpenSpec.ofChange Rows.fnExactReadNumSpec) false w args) (Rows.fnExactReadNumSpec.post enc Tryd.prog Tryd.f4 false true false false) := by
  refine AM.handed_laid (C := Tryd.checked) (X := fun w _ => laidMetH Tryd.prog Rows.fnExactReadNumRow.laid w) (fun _ _ _ hh h => h.of_heap hh) own started (by kernel_rfl) Tryd.func4
    (ChangeSpec.witness_shaped (enc := enc) (C := Tryd.checked) (os := os) (X := fun w _ => laidMetH Tryd.prog Rows.fnExactReadNumRow.laid w) false (World.doorLaid Tryd.prog 72 os) #[.string ⟨#[]⟩] 8 rfl (World.shaped_of_RefB (by kernel_rfl) (by kernel_rfl)) (by kernel_rfl) (by kernel_rfl) (by kernel_rfl) (met os _)) ?_
  intro W base args ds gs before hval0 hW hL hsh
  have hval : ∀ (j : Nat) t v, Tryd.f4.params[j]? = some t → args[j]? = some v → Value.okWide Tryd.prog W .any base t v := hval0
  have hW' := hW
  obtain ⟨p, q, hA0, hV, rfl, hfz, hnd⟩ := hW
  have hA : DataW.TrodAll enc Tryd.prog W 0 (fun _ => true) true Tryd.f4.params.toList args.toList ds p := hA0
  rw [Tryd.params4] at hA hval
  obtain ⟨v0, vs0, d0, ds0, p0, q0, hargs, rfl, rfl, h0, r0⟩ := trodAll_cons hA
  obtain ⟨rfl, rfl, rfl⟩ := trodAll_nil r0
  obtain rfl : args = #[v0] := by cases args; simp_all
  obtain ⟨rfl, rfl⟩ := trodVars_none hV
  clear hA0 hval0
  refine (AM.law_calls (params := [9]) (ts := [9]) sound (by kernel_rfl) (by simp) (args := #[v0]) (fun j t v a b => hval j t v (by simpa using a) b) hA (tabs hL hsh)).mono fun e W' ⟨he, bel⟩ => ?_
  subst he
  exact ⟨_, rfl, _, _, _, [], _, [], hW', trodAll_mk1 (shut_bool Tryd.underlying4 _), AM.back_all AM.laid bel _ _ _ _ (by kernel_rfl) hA, rfl, bel.frame _, fun h => by cases h⟩
theorem over : Rows.fnExactReadNumRow.holds Tryd.pinned (OpenSpec.ofChange Rows.fnExactReadNumSpec) :=
  OpenClaim.holds_of_wide 4 Tryd.f4 rfl rfl rfl rfl rfl rfl rfl ⟨rfl, rfl, rfl, rfl, rfl⟩ rfl rfl rfl rfl rfl (by kernel_rfl) Tryd.func4 (by kernel_rfl)
    (of_decide_eq_true (by kernel_rfl)) (by unfold Func.isWrapper; first | (rw [if_pos (by decide +kernel)]; kernel_rfl) | (rw [if_neg (by decide +kernel)]; exact ⟨rfl, rfl⟩))
    (fun os started H enc _ => lifted os started H enc)
theorem card : Rows.FnExactReadNumCardSaid :=
  Claim7.holds_tied_plain_at .later [] [.data, .data, .data, .sentinel, .sentinel] true (Rows.fnExactReadNumCard.stood.harness) true
    over (fun _ h => by cases h) (by kernel_rfl) (fun _ h => by cases h) fnExactReadNum_row_tie rfl ⟨rfl, rfl⟩ (by kernel_rfl) rfl
    (fun f fn hf hfn => by
      obtain rfl : f = 4 := Option.some.inj ((show Tryd.prog.funcNamed "loop.example/g00385/laws.FnExactReadNum" = some 4 by kernel_rfl).symm.trans hf) |>.symm
      obtain rfl : fn = Tryd.f4 := (Option.some.inj (Tryd.func4.symm.trans hfn)).symm
      exact ⟨by kernel_rfl, fun j t ht => by
        rw [Tryd.params4] at ht
        have hm : t ∈ [9] := by simpa using Array.mem_of_getElem? ht
        have hall : ([9].all fun u => !Tryd.prog.wantsStandIn u) = true := by kernel_rfl
        exact (show Tryd.prog.wantsStandIn t = false by simpa using List.all_eq_true.1 hall t hm)⟩)
    (by kernel_rfl)
end Go.Proofs.YtmcmgeedhbgglaaDoor.fnExactReadNum
namespace Go.Proofs.YtmcmgeedhbgglaaDoor
theorem fnExactReadNum_holds : Rows.FnExactReadNumCardSaid := fnExactReadNum.card
end Go.Proofs.YtmcmgeedhbgglaaDoor
