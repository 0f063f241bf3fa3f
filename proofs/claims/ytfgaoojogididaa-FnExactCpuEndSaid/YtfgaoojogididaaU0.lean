/-
  The seat's types: how many cells, the fields, the zero values. (Printed by a program out of the translation.)
-/
import Derived.Test.YtfgaoojogididaaA25
import Derived.Test.YtfgaoojogididaaRows
namespace Go.Proofs.Ytfgaoojogididaa.AM
open Go.RowKit
@[simp] theorem tk_2 : tk Try.prog 2 = some (1, false) := by kernel_rfl
@[simp] theorem tsz_2 : tsz Try.prog 2 = some 1 := by kernel_rfl
@[simp] theorem tzero_2 : tzero Try.prog 2 = some [.int .i64 0] := by kernel_rfl
@[simp] theorem tby_2 : tby Try.prog 2 = some 8 := by kernel_rfl
@[simp] theorem und_2 : Try.prog.underlying 2 = some (.int .i64) := by kernel_rfl
@[simp] theorem tk_3 : tk Try.prog 3 = some (1, false) := by kernel_rfl
@[simp] theorem tsz_3 : tsz Try.prog 3 = some 1 := by kernel_rfl
@[simp] theorem tzero_3 : tzero Try.prog 3 = some [.int .i64 0] := by kernel_rfl
@[simp] theorem tby_3 : tby Try.prog 3 = some 8 := by kernel_rfl
@[simp] theorem und_3 : Try.prog.underlying 3 = some (.int .i64) := by kernel_rfl
@[simp] theorem tk_4 : tk Try.prog 4 = some (1, false) := by kernel_rfl
@[simp] theorem tsz_4 : tsz Try.prog 4 = some 1 := by kernel_rfl
@[simp] theorem tzero_4 : tzero Try.prog 4 = some [.bool false] := by kernel_rfl
@[simp] theorem tby_4 : tby Try.prog 4 = some 1 := by kernel_rfl
@[simp] theorem und_4 : Try.prog.underlying 4 = some .bool := by kernel_rfl
@[simp] theorem tk_5 : tk Try.prog 5 = some (1, false) := by kernel_rfl
@[simp] theorem tsz_5 : tsz Try.prog 5 = some 1 := by kernel_rfl
@[simp] theorem tzero_5 : tzero Try.prog 5 = some [.int .u8 0] := by kernel_rfl
@[simp] theorem tby_5 : tby Try.prog 5 = some 1 := by kernel_rfl
@[simp] theorem und_5 : Try.prog.underlying 5 = some (.int .u8) := by kernel_rfl
@[simp] theorem tk_6 : tk Try.prog 6 = some (1, false) := by kernel_rfl
@[simp] theorem tsz_6 : tsz Try.prog 6 = some 1 := by kernel_rfl
@[simp] theorem tzero_6 : tzero Try.prog 6 = some [.int .u8 0] := by kernel_rfl
@[simp] theorem tby_6 : tby Try.prog 6 = some 1 := by kernel_rfl
@[simp] theorem und_6 : Try.prog.underlying 6 = some (.int .u8) := by kernel_rfl
@[simp] theorem tk_7 : tk Try.prog 7 = some (4, true) := by kernel_rfl
@[simp] theorem tsz_7 : tsz Try.prog 7 = some 4 := by kernel_rfl
@[simp] theorem tzero_7 : tzero Try.prog 7 = some [.int .i64 0, .int .i64 0, .bool false, .int .u8 0] := by kernel_rfl
@[simp] theorem tby_7 : tby Try.prog 7 = some 24 := by kernel_rfl
@[simp] theorem tfld_7_0 : tfld Try.prog 7 0 = some (0, 1, 2) := by kernel_rfl
@[simp] theorem tfld_7_1 : tfld Try.prog 7 1 = some (1, 1, 3) := by kernel_rfl
@[simp] theorem tfld_7_2 : tfld Try.prog 7 2 = some (2, 1, 4) := by kernel_rfl
@[simp] theorem tfld_7_3 : tfld Try.prog 7 3 = some (3, 1, 6) := by kernel_rfl
@[simp] theorem tbuild_7 : tbuild Try.prog 7 = some ([.int .i64 0, .int .i64 0, .bool false, .int .u8 0], [(0, 1), (1, 1), (2, 1), (3, 1)]) := by kernel_rfl
@[simp] theorem tkinds_7 : tkinds Try.prog 7 = some [.i, .i, .b, .i] := by kernel_rfl
@[simp] theorem tk_8 : tk Try.prog 8 = some (4, true) := by kernel_rfl
@[simp] theorem tsz_8 : tsz Try.prog 8 = some 4 := by kernel_rfl
@[simp] theorem tzero_8 : tzero Try.prog 8 = some [.int .i64 0, .int .i64 0, .bool false, .int .u8 0] := by kernel_rfl
@[simp] theorem tby_8 : tby Try.prog 8 = some 24 := by kernel_rfl
@[simp] theorem tfld_8_0 : tfld Try.prog 8 0 = some (0, 1, 2) := by kernel_rfl
@[simp] theorem tfld_8_1 : tfld Try.prog 8 1 = some (1, 1, 3) := by kernel_rfl
@[simp] theorem tfld_8_2 : tfld Try.prog 8 2 = some (2, 1, 4) := by kernel_rfl
@[simp] theorem tfld_8_3 : tfld Try.prog 8 3 = some (3, 1, 6) := by kernel_rfl
@[simp] theorem tbuild_8 : tbuild Try.prog 8 = some ([.int .i64 0, .int .i64 0, .bool false, .int .u8 0], [(0, 1), (1, 1), (2, 1), (3, 1)]) := by kernel_rfl
@[simp] theorem tkinds_8 : tkinds Try.prog 8 = some [.i, .i, .b, .i] := by kernel_rfl
@[simp] theorem tk_9 : tk Try.prog 9 = some (1, false) := by kernel_rfl
@[simp] theorem tsz_9 : tsz Try.prog 9 = some 1 := by kernel_rfl
@[simp] theorem tzero_9 : tzero Try.prog 9 = some [.str ByteArray.empty] := by kernel_rfl
@[simp] theorem tby_9 : tby Try.prog 9 = some 16 := by kernel_rfl
@[simp] theorem und_9 : Try.prog.underlying 9 = some .string := by kernel_rfl
@[simp] theorem tk_10 : tk Try.prog 10 = some (1, false) := by kernel_rfl
@[simp] theorem tsz_10 : tsz Try.prog 10 = some 1 := by kernel_rfl
@[simp] theorem tzero_10 : tzero Try.prog 10 = some [.str ByteArray.empty] := by kernel_rfl
@[simp] theorem tby_10 : tby Try.prog 10 = some 16 := by kernel_rfl
@[simp] theorem und_10 : Try.prog.underlying 10 = some .string := by kernel_rfl
@[simp] theorem tk_11 : tk Try.prog 11 = some (1, false) := by kernel_rfl
@[simp] theorem tsz_11 : tsz Try.prog 11 = some 1 := by kernel_rfl
@[simp] theorem tzero_11 : tzero Try.prog 11 = some [.str ByteArray.empty] := by kernel_rfl
@[simp] theorem tby_11 : tby Try.prog 11 = some 16 := by kernel_rfl
@[simp] theorem und_11 : Try.prog.underlying 11 = some .string := by kernel_rfl
@[simp] theorem tk_12 : tk Try.prog 12 = some (1, false) := by kernel_rfl
@[simp] theorem tsz_12 : tsz Try.prog 12 = some 1 := by kernel_rfl
@[simp] theorem tzero_12 : tzero Try.prog 12 = some [.int .u64 0] := by kernel_rfl
@[simp] theorem tby_12 : tby Try.prog 12 = some 8 := by kernel_rfl
@[simp] theorem und_12 : Try.prog.underlying 12 = some (.int .u64) := by kernel_rfl
@[simp] theorem tk_13 : tk Try.prog 13 = some (2, true) := by kernel_rfl
@[simp] theorem tsz_13 : tsz Try.prog 13 = some 2 := by kernel_rfl
@[simp] theorem tzero_13 : tzero Try.prog 13 = some [.str ByteArray.empty, .int .u64 0] := by kernel_rfl
@[simp] theorem tby_13 : tby Try.prog 13 = some 24 := by kernel_rfl
@[simp] theorem tfld_13_0 : tfld Try.prog 13 0 = some (0, 1, 9) := by kernel_rfl
@[simp] theorem tfld_13_1 : tfld Try.prog 13 1 = some (1, 1, 12) := by kernel_rfl
@[simp] theorem tbuild_13 : tbuild Try.prog 13 = some ([.str ByteArray.empty, .int .u64 0], [(0, 1), (1, 1)]) := by kernel_rfl
@[simp] theorem tk_14 : tk Try.prog 14 = some (2, true) := by kernel_rfl
@[simp] theorem tsz_14 : tsz Try.prog 14 = some 2 := by kernel_rfl
@[simp] theorem tzero_14 : tzero Try.prog 14 = some [.str ByteArray.empty, .int .u64 0] := by kernel_rfl
@[simp] theorem tby_14 : tby Try.prog 14 = some 24 := by kernel_rfl
@[simp] theorem tfld_14_0 : tfld Try.prog 14 0 = some (0, 1, 9) := by kernel_rfl
@[simp] theorem tfld_14_1 : tfld Try.prog 14 1 = some (1, 1, 12) := by kernel_rfl
@[simp] theorem tbuild_14 : tbuild Try.prog 14 = some ([.str ByteArray.empty, .int .u64 0], [(0, 1), (1, 1)]) := by kernel_rfl
@[simp] theorem tk_15 : tk Try.prog 15 = some (1, false) := by kernel_rfl
@[simp] theorem tsz_15 : tsz Try.prog 15 = some 1 := by kernel_rfl
@[simp] theorem tzero_15 : tzero Try.prog 15 = some [.nilp] := by kernel_rfl
@[simp] theorem tby_15 : tby Try.prog 15 = some 8 := by kernel_rfl
@[simp] theorem tk_16 : tk Try.prog 16 = some (1, false) := by kernel_rfl
@[simp] theorem tsz_16 : tsz Try.prog 16 = some 1 := by kernel_rfl
@[simp] theorem tzero_16 : tzero Try.prog 16 = some [.nilp] := by kernel_rfl
@[simp] theorem tby_16 : tby Try.prog 16 = some 8 := by kernel_rfl
@[simp] theorem tk_17 : tk Try.prog 17 = some (1, false) := by kernel_rfl
@[simp] theorem tsz_17 : tsz Try.prog 17 = some 1 := by kernel_rfl
@[simp] theorem tzero_17 : tzero Try.prog 17 = some [.nilp] := by kernel_rfl
@[simp] theorem tby_17 : tby Try.prog 17 = some 8 := by kernel_rfl
@[simp] theorem tk_18 : tk Try.prog 18 = some (1, true) := by kernel_rfl
@[simp] theorem tsz_18 : tsz Try.prog 18 = some 1 := by kernel_rfl
@[simp] theorem tzero_18 : tzero Try.prog 18 = some [.nilp] := by kernel_rfl
@[simp] theorem tby_18 : tby Try.prog 18 = some 8 := by kernel_rfl
@[simp] theorem tfld_18_0 : tfld Try.prog 18 0 = some (0, 1, 17) := by kernel_rfl
@[simp] theorem tbuild_18 : tbuild Try.prog 18 = some ([.nilp], [(0, 1)]) := by kernel_rfl
@[simp] theorem tk_19 : tk Try.prog 19 = some (1, true) := by kernel_rfl
@[simp] theorem tsz_19 : tsz Try.prog 19 = some 1 := by kernel_rfl
@[simp] theorem tzero_19 : tzero Try.prog 19 = some [.nilp] := by kernel_rfl
@[simp] theorem tby_19 : tby Try.prog 19 = some 8 := by kernel_rfl
@[simp] theorem tfld_19_0 : tfld Try.prog 19 0 = some (0, 1, 17) := by kernel_rfl
@[simp] theorem tbuild_19 : tbuild Try.prog 19 = some ([.nilp], [(0, 1)]) := by kernel_rfl
@[simp] theorem tk_20 : tk Try.prog 20 = some (1, false) := by kernel_rfl
@[simp] theorem tsz_20 : tsz Try.prog 20 = some 1 := by kernel_rfl
@[simp] theorem tzero_20 : tzero Try.prog 20 = some [.nilif] := by kernel_rfl
@[simp] theorem tby_20 : tby Try.prog 20 = some 16 := by kernel_rfl
@[simp] theorem tk_21 : tk Try.prog 21 = some (1, false) := by kernel_rfl
@[simp] theorem tsz_21 : tsz Try.prog 21 = some 1 := by kernel_rfl
@[simp] theorem tzero_21 : tzero Try.prog 21 = some [.int .i32 0] := by kernel_rfl
@[simp] theorem tby_21 : tby Try.prog 21 = some 4 := by kernel_rfl
@[simp] theorem und_21 : Try.prog.underlying 21 = some (.int .i32) := by kernel_rfl
@[simp] theorem tk_22 : tk Try.prog 22 = some (1, false) := by kernel_rfl
@[simp] theorem tsz_22 : tsz Try.prog 22 = some 1 := by kernel_rfl
@[simp] theorem tzero_22 : tzero Try.prog 22 = some [.nilsl] := by kernel_rfl
@[simp] theorem tby_22 : tby Try.prog 22 = some 24 := by kernel_rfl
@[simp] theorem telem_22 : telem Try.prog 22 = some 3 := by kernel_rfl
@[simp] theorem und_22 : Try.prog.underlying 22 = some (.slice 3) := by kernel_rfl
@[simp] theorem tk_23 : tk Try.prog 23 = some (1, false) := by kernel_rfl
@[simp] theorem tsz_23 : tsz Try.prog 23 = some 1 := by kernel_rfl
@[simp] theorem tzero_23 : tzero Try.prog 23 = some [.nilsl] := by kernel_rfl
@[simp] theorem tby_23 : tby Try.prog 23 = some 24 := by kernel_rfl
@[simp] theorem telem_23 : telem Try.prog 23 = some 22 := by kernel_rfl
@[simp] theorem und_23 : Try.prog.underlying 23 = some (.slice 22) := by kernel_rfl
@[simp] theorem tk_24 : tk Try.prog 24 = some (9, true) := by kernel_rfl
@[simp] theorem tsz_24 : tsz Try.prog 24 = some 9 := by kernel_rfl
@[simp] theorem tzero_24 : tzero Try.prog 24 = some [.int .i64 0, .nilsl, .nilsl, .nilsl, .nilsl, .nilsl, .int .i64 0, .bool false, .int .i64 0] := by kernel_rfl
@[simp] theorem tby_24 : tby Try.prog 24 = some 152 := by kernel_rfl
@[simp] theorem tfld_24_0 : tfld Try.prog 24 0 = some (0, 1, 3) := by kernel_rfl
@[simp] theorem tfld_24_1 : tfld Try.prog 24 1 = some (1, 1, 22) := by kernel_rfl
@[simp] theorem tfld_24_2 : tfld Try.prog 24 2 = some (2, 1, 22) := by kernel_rfl
@[simp] theorem tfld_24_3 : tfld Try.prog 24 3 = some (3, 1, 23) := by kernel_rfl
@[simp] theorem tfld_24_4 : tfld Try.prog 24 4 = some (4, 1, 22) := by kernel_rfl
@[simp] theorem tfld_24_5 : tfld Try.prog 24 5 = some (5, 1, 22) := by kernel_rfl
@[simp] theorem tfld_24_6 : tfld Try.prog 24 6 = some (6, 1, 3) := by kernel_rfl
@[simp] theorem tfld_24_7 : tfld Try.prog 24 7 = some (7, 1, 4) := by kernel_rfl
@[simp] theorem tfld_24_8 : tfld Try.prog 24 8 = some (8, 1, 3) := by kernel_rfl
@[simp] theorem tbuild_24 : tbuild Try.prog 24 = some ([.int .i64 0, .nilsl, .nilsl, .nilsl, .nilsl, .nilsl, .int .i64 0, .bool false, .int .i64 0], [(0, 1), (1, 1), (2, 1), (3, 1), (4, 1), (5, 1), (6, 1), (7, 1), (8, 1)]) := by kernel_rfl
@[simp] theorem tk_25 : tk Try.prog 25 = some (9, true) := by kernel_rfl
@[simp] theorem tsz_25 : tsz Try.prog 25 = some 9 := by kernel_rfl
@[simp] theorem tzero_25 : tzero Try.prog 25 = some [.int .i64 0, .nilsl, .nilsl, .nilsl, .nilsl, .nilsl, .int .i64 0, .bool false, .int .i64 0] := by kernel_rfl
@[simp] theorem tby_25 : tby Try.prog 25 = some 152 := by kernel_rfl
@[simp] theorem tfld_25_0 : tfld Try.prog 25 0 = some (0, 1, 3) := by kernel_rfl
@[simp] theorem tfld_25_1 : tfld Try.prog 25 1 = some (1, 1, 22) := by kernel_rfl
@[simp] theorem tfld_25_2 : tfld Try.prog 25 2 = some (2, 1, 22) := by kernel_rfl
@[simp] theorem tfld_25_3 : tfld Try.prog 25 3 = some (3, 1, 23) := by kernel_rfl
@[simp] theorem tfld_25_4 : tfld Try.prog 25 4 = some (4, 1, 22) := by kernel_rfl
@[simp] theorem tfld_25_5 : tfld Try.prog 25 5 = some (5, 1, 22) := by kernel_rfl
@[simp] theorem tfld_25_6 : tfld Try.prog 25 6 = some (6, 1, 3) := by kernel_rfl
@[simp] theorem tfld_25_7 : tfld Try.prog 25 7 = some (7, 1, 4) := by kernel_rfl
@[simp] theorem tfld_25_8 : tfld Try.prog 25 8 = some (8, 1, 3) := by kernel_rfl
@[simp] theorem tbuild_25 : tbuild Try.prog 25 = some ([.int .i64 0, .nilsl, .nilsl, .nilsl, .nilsl, .nilsl, .int .i64 0, .bool false, .int .i64 0], [(0, 1), (1, 1), (2, 1), (3, 1), (4, 1), (5, 1), (6, 1), (7, 1), (8, 1)]) := by kernel_rfl
@[simp] theorem tk_27 : tk Try.prog 27 = some (3, true) := by kernel_rfl
@[simp] theorem tsz_27 : tsz Try.prog 27 = some 3 := by kernel_rfl
@[simp] theorem tzero_27 : tzero Try.prog 27 = some [.int .i64 0, .int .i64 0, .nilsl] := by kernel_rfl
@[simp] theorem tby_27 : tby Try.prog 27 = some 40 := by kernel_rfl
@[simp] theorem tfld_27_0 : tfld Try.prog 27 0 = some (0, 1, 3) := by kernel_rfl
@[simp] theorem tfld_27_1 : tfld Try.prog 27 1 = some (1, 1, 3) := by kernel_rfl
@[simp] theorem tfld_27_2 : tfld Try.prog 27 2 = some (2, 1, 22) := by kernel_rfl
@[simp] theorem tbuild_27 : tbuild Try.prog 27 = some ([.int .i64 0, .int .i64 0, .nilsl], [(0, 1), (1, 1), (2, 1)]) := by kernel_rfl
@[simp] theorem tk_28 : tk Try.prog 28 = some (3, true) := by kernel_rfl
@[simp] theorem tsz_28 : tsz Try.prog 28 = some 3 := by kernel_rfl
@[simp] theorem tzero_28 : tzero Try.prog 28 = some [.int .i64 0, .int .i64 0, .nilsl] := by kernel_rfl
@[simp] theorem tby_28 : tby Try.prog 28 = some 40 := by kernel_rfl
@[simp] theorem tfld_28_0 : tfld Try.prog 28 0 = some (0, 1, 3) := by kernel_rfl
@[simp] theorem tfld_28_1 : tfld Try.prog 28 1 = some (1, 1, 3) := by kernel_rfl
@[simp] theorem tfld_28_2 : tfld Try.prog 28 2 = some (2, 1, 22) := by kernel_rfl
@[simp] theorem tbuild_28 : tbuild Try.prog 28 = some ([.int .i64 0, .int .i64 0, .nilsl], [(0, 1), (1, 1), (2, 1)]) := by kernel_rfl
@[simp] theorem tk_30 : tk Try.prog 30 = some (9, true) := by kernel_rfl
@[simp] theorem tsz_30 : tsz Try.prog 30 = some 9 := by kernel_rfl
@[simp] theorem tzero_30 : tzero Try.prog 30 = some [.int .i64 0, .nilsl, .nilsl, .nilsl, .nilsl, .nilsl, .int .i64 0, .bool false, .int .i64 0] := by kernel_rfl
@[simp] theorem tby_30 : tby Try.prog 30 = some 152 := by kernel_rfl
@[simp] theorem tfld_30_0 : tfld Try.prog 30 0 = some (0, 1, 3) := by kernel_rfl
@[simp] theorem tfld_30_1 : tfld Try.prog 30 1 = some (1, 1, 22) := by kernel_rfl
@[simp] theorem tfld_30_2 : tfld Try.prog 30 2 = some (2, 1, 22) := by kernel_rfl
@[simp] theorem tfld_30_3 : tfld Try.prog 30 3 = some (3, 1, 23) := by kernel_rfl
@[simp] theorem tfld_30_4 : tfld Try.prog 30 4 = some (4, 1, 22) := by kernel_rfl
@[simp] theorem tfld_30_5 : tfld Try.prog 30 5 = some (5, 1, 22) := by kernel_rfl
@[simp] theorem tfld_30_6 : tfld Try.prog 30 6 = some (6, 1, 3) := by kernel_rfl
@[simp] theorem tfld_30_7 : tfld Try.prog 30 7 = some (7, 1, 4) := by kernel_rfl
@[simp] theorem tfld_30_8 : tfld Try.prog 30 8 = some (8, 1, 3) := by kernel_rfl
@[simp] theorem tbuild_30 : tbuild Try.prog 30 = some ([.int .i64 0, .nilsl, .nilsl, .nilsl, .nilsl, .nilsl, .int .i64 0, .bool false, .int .i64 0], [(0, 1), (1, 1), (2, 1), (3, 1), (4, 1), (5, 1), (6, 1), (7, 1), (8, 1)]) := by kernel_rfl
@[simp] theorem tk_37 : tk Try.prog 37 = some (1, false) := by kernel_rfl
@[simp] theorem tsz_37 : tsz Try.prog 37 = some 1 := by kernel_rfl
@[simp] theorem tzero_37 : tzero Try.prog 37 = some [.nilsl] := by kernel_rfl
@[simp] theorem tby_37 : tby Try.prog 37 = some 24 := by kernel_rfl
@[simp] theorem telem_37 : telem Try.prog 37 = some 94 := by kernel_rfl
@[simp] theorem und_37 : Try.prog.underlying 37 = some (.slice 94) := by kernel_rfl
@[simp] theorem tk_38 : tk Try.prog 38 = some (4, true) := by kernel_rfl
@[simp] theorem tsz_38 : tsz Try.prog 38 = some 4 := by kernel_rfl
@[simp] theorem tzero_38 : tzero Try.prog 38 = some [.nilsl, .int .i64 0, .int .i64 0, .nilsl] := by kernel_rfl
@[simp] theorem tby_38 : tby Try.prog 38 = some 64 := by kernel_rfl
@[simp] theorem tfld_38_0 : tfld Try.prog 38 0 = some (0, 1, 22) := by kernel_rfl
@[simp] theorem tfld_38_1 : tfld Try.prog 38 1 = some (1, 1, 3) := by kernel_rfl
@[simp] theorem tfld_38_2 : tfld Try.prog 38 2 = some (2, 1, 3) := by kernel_rfl
@[simp] theorem tfld_38_3 : tfld Try.prog 38 3 = some (3, 1, 37) := by kernel_rfl
@[simp] theorem tbuild_38 : tbuild Try.prog 38 = some ([.nilsl, .int .i64 0, .int .i64 0, .nilsl], [(0, 1), (1, 1), (2, 1), (3, 1)]) := by kernel_rfl
@[simp] theorem tk_39 : tk Try.prog 39 = some (4, true) := by kernel_rfl
@[simp] theorem tsz_39 : tsz Try.prog 39 = some 4 := by kernel_rfl
@[simp] theorem tzero_39 : tzero Try.prog 39 = some [.nilsl, .int .i64 0, .int .i64 0, .nilsl] := by kernel_rfl
@[simp] theorem tby_39 : tby Try.prog 39 = some 64 := by kernel_rfl
@[simp] theorem tfld_39_0 : tfld Try.prog 39 0 = some (0, 1, 22) := by kernel_rfl
@[simp] theorem tfld_39_1 : tfld Try.prog 39 1 = some (1, 1, 3) := by kernel_rfl
@[simp] theorem tfld_39_2 : tfld Try.prog 39 2 = some (2, 1, 3) := by kernel_rfl
@[simp] theorem tfld_39_3 : tfld Try.prog 39 3 = some (3, 1, 37) := by kernel_rfl
@[simp] theorem tbuild_39 : tbuild Try.prog 39 = some ([.nilsl, .int .i64 0, .int .i64 0, .nilsl], [(0, 1), (1, 1), (2, 1), (3, 1)]) := by kernel_rfl
@[simp] theorem tk_42 : tk Try.prog 42 = some (1, false) := by kernel_rfl
@[simp] theorem tsz_42 : tsz Try.prog 42 = some 1 := by kernel_rfl
@[simp] theorem tzero_42 : tzero Try.prog 42 = some [.nilsl] := by kernel_rfl
@[simp] theorem tby_42 : tby Try.prog 42 = some 24 := by kernel_rfl
@[simp] theorem telem_42 : telem Try.prog 42 = some 92 := by kernel_rfl
@[simp] theorem und_42 : Try.prog.underlying 42 = some (.slice 92) := by kernel_rfl
@[simp] theorem tk_43 : tk Try.prog 43 = some (4, true) := by kernel_rfl
@[simp] theorem tsz_43 : tsz Try.prog 43 = some 4 := by kernel_rfl
@[simp] theorem tzero_43 : tzero Try.prog 43 = some [.nilsl, .int .i64 0, .int .i64 0, .nilsl] := by kernel_rfl
@[simp] theorem tby_43 : tby Try.prog 43 = some 64 := by kernel_rfl
@[simp] theorem tfld_43_0 : tfld Try.prog 43 0 = some (0, 1, 22) := by kernel_rfl
@[simp] theorem tfld_43_1 : tfld Try.prog 43 1 = some (1, 1, 3) := by kernel_rfl
@[simp] theorem tfld_43_2 : tfld Try.prog 43 2 = some (2, 1, 3) := by kernel_rfl
@[simp] theorem tfld_43_3 : tfld Try.prog 43 3 = some (3, 1, 42) := by kernel_rfl
@[simp] theorem tbuild_43 : tbuild Try.prog 43 = some ([.nilsl, .int .i64 0, .int .i64 0, .nilsl], [(0, 1), (1, 1), (2, 1), (3, 1)]) := by kernel_rfl
@[simp] theorem tk_44 : tk Try.prog 44 = some (4, true) := by kernel_rfl
@[simp] theorem tsz_44 : tsz Try.prog 44 = some 4 := by kernel_rfl
@[simp] theorem tzero_44 : tzero Try.prog 44 = some [.nilsl, .int .i64 0, .int .i64 0, .nilsl] := by kernel_rfl
@[simp] theorem tby_44 : tby Try.prog 44 = some 64 := by kernel_rfl
@[simp] theorem tfld_44_0 : tfld Try.prog 44 0 = some (0, 1, 22) := by kernel_rfl
@[simp] theorem tfld_44_1 : tfld Try.prog 44 1 = some (1, 1, 3) := by kernel_rfl
@[simp] theorem tfld_44_2 : tfld Try.prog 44 2 = some (2, 1, 3) := by kernel_rfl
@[simp] theorem tfld_44_3 : tfld Try.prog 44 3 = some (3, 1, 42) := by kernel_rfl
@[simp] theorem tbuild_44 : tbuild Try.prog 44 = some ([.nilsl, .int .i64 0, .int .i64 0, .nilsl], [(0, 1), (1, 1), (2, 1), (3, 1)]) := by kernel_rfl
@[simp] theorem tk_76 : tk Try.prog 76 = some (1, false) := by kernel_rfl
@[simp] theorem tsz_76 : tsz Try.prog 76 = some 1 := by kernel_rfl
@[simp] theorem tzero_76 : tzero Try.prog 76 = some [.nilp] := by kernel_rfl
@[simp] theorem tby_76 : tby Try.prog 76 = some 8 := by kernel_rfl
@[simp] theorem tk_78 : tk Try.prog 78 = some (11, true) := by kernel_rfl
@[simp] theorem tsz_78 : tsz Try.prog 78 = some 11 := by kernel_rfl
@[simp] theorem tzero_78 : tzero Try.prog 78 = some [.int .i64 0, .nilsl, .nilsl, .nilsl, .nilsl, .nilsl, .int .i64 0, .bool false, .int .i64 0, .int .i64 0, .bool false] := by kernel_rfl
@[simp] theorem tby_78 : tby Try.prog 78 = some 168 := by kernel_rfl
@[simp] theorem tfld_78_0 : tfld Try.prog 78 0 = some (0, 9, 30) := by kernel_rfl
@[simp] theorem tfld_78_1 : tfld Try.prog 78 1 = some (9, 1, 3) := by kernel_rfl
@[simp] theorem tfld_78_2 : tfld Try.prog 78 2 = some (10, 1, 4) := by kernel_rfl
@[simp] theorem tbuild_78 : tbuild Try.prog 78 = some ([.int .i64 0, .nilsl, .nilsl, .nilsl, .nilsl, .nilsl, .int .i64 0, .bool false, .int .i64 0, .int .i64 0, .bool false], [(0, 9), (9, 1), (10, 1)]) := by kernel_rfl
@[simp] theorem tk_79 : tk Try.prog 79 = some (11, true) := by kernel_rfl
@[simp] theorem tsz_79 : tsz Try.prog 79 = some 11 := by kernel_rfl
@[simp] theorem tzero_79 : tzero Try.prog 79 = some [.int .i64 0, .nilsl, .nilsl, .nilsl, .nilsl, .nilsl, .int .i64 0, .bool false, .int .i64 0, .int .i64 0, .bool false] := by kernel_rfl
@[simp] theorem tby_79 : tby Try.prog 79 = some 168 := by kernel_rfl
@[simp] theorem tfld_79_0 : tfld Try.prog 79 0 = some (0, 9, 30) := by kernel_rfl
@[simp] theorem tfld_79_1 : tfld Try.prog 79 1 = some (9, 1, 3) := by kernel_rfl
@[simp] theorem tfld_79_2 : tfld Try.prog 79 2 = some (10, 1, 4) := by kernel_rfl
@[simp] theorem tbuild_79 : tbuild Try.prog 79 = some ([.int .i64 0, .nilsl, .nilsl, .nilsl, .nilsl, .nilsl, .int .i64 0, .bool false, .int .i64 0, .int .i64 0, .bool false], [(0, 9), (9, 1), (10, 1)]) := by kernel_rfl
@[simp] theorem tk_80 : tk Try.prog 80 = some (1, false) := by kernel_rfl
@[simp] theorem tsz_80 : tsz Try.prog 80 = some 1 := by kernel_rfl
@[simp] theorem tzero_80 : tzero Try.prog 80 = some [.nilp] := by kernel_rfl
@[simp] theorem tby_80 : tby Try.prog 80 = some 8 := by kernel_rfl
@[simp] theorem tk_83 : tk Try.prog 83 = some (8, true) := by kernel_rfl
@[simp] theorem tsz_83 : tsz Try.prog 83 = some 8 := by kernel_rfl
@[simp] theorem tzero_83 : tzero Try.prog 83 = some [.nilsl, .nilsl, .nilsl, .int .i64 0, .int .i64 0, .bool false, .int .i64 0, .nilsl] := by kernel_rfl
@[simp] theorem tby_83 : tby Try.prog 83 = some 128 := by kernel_rfl
@[simp] theorem tfld_83_0 : tfld Try.prog 83 0 = some (0, 1, 23) := by kernel_rfl
@[simp] theorem tfld_83_1 : tfld Try.prog 83 1 = some (1, 1, 22) := by kernel_rfl
@[simp] theorem tfld_83_2 : tfld Try.prog 83 2 = some (2, 1, 22) := by kernel_rfl
@[simp] theorem tfld_83_3 : tfld Try.prog 83 3 = some (3, 1, 3) := by kernel_rfl
@[simp] theorem tfld_83_4 : tfld Try.prog 83 4 = some (4, 1, 3) := by kernel_rfl
@[simp] theorem tfld_83_5 : tfld Try.prog 83 5 = some (5, 1, 4) := by kernel_rfl
@[simp] theorem tfld_83_6 : tfld Try.prog 83 6 = some (6, 1, 3) := by kernel_rfl
@[simp] theorem tfld_83_7 : tfld Try.prog 83 7 = some (7, 1, 22) := by kernel_rfl
@[simp] theorem tbuild_83 : tbuild Try.prog 83 = some ([.nilsl, .nilsl, .nilsl, .int .i64 0, .int .i64 0, .bool false, .int .i64 0, .nilsl], [(0, 1), (1, 1), (2, 1), (3, 1), (4, 1), (5, 1), (6, 1), (7, 1)]) := by kernel_rfl
@[simp] theorem tk_84 : tk Try.prog 84 = some (8, true) := by kernel_rfl
@[simp] theorem tsz_84 : tsz Try.prog 84 = some 8 := by kernel_rfl
@[simp] theorem tzero_84 : tzero Try.prog 84 = some [.nilsl, .nilsl, .nilsl, .int .i64 0, .int .i64 0, .bool false, .int .i64 0, .nilsl] := by kernel_rfl
@[simp] theorem tby_84 : tby Try.prog 84 = some 128 := by kernel_rfl
@[simp] theorem tfld_84_0 : tfld Try.prog 84 0 = some (0, 1, 23) := by kernel_rfl
@[simp] theorem tfld_84_1 : tfld Try.prog 84 1 = some (1, 1, 22) := by kernel_rfl
@[simp] theorem tfld_84_2 : tfld Try.prog 84 2 = some (2, 1, 22) := by kernel_rfl
@[simp] theorem tfld_84_3 : tfld Try.prog 84 3 = some (3, 1, 3) := by kernel_rfl
@[simp] theorem tfld_84_4 : tfld Try.prog 84 4 = some (4, 1, 3) := by kernel_rfl
@[simp] theorem tfld_84_5 : tfld Try.prog 84 5 = some (5, 1, 4) := by kernel_rfl
@[simp] theorem tfld_84_6 : tfld Try.prog 84 6 = some (6, 1, 3) := by kernel_rfl
@[simp] theorem tfld_84_7 : tfld Try.prog 84 7 = some (7, 1, 22) := by kernel_rfl
@[simp] theorem tbuild_84 : tbuild Try.prog 84 = some ([.nilsl, .nilsl, .nilsl, .int .i64 0, .int .i64 0, .bool false, .int .i64 0, .nilsl], [(0, 1), (1, 1), (2, 1), (3, 1), (4, 1), (5, 1), (6, 1), (7, 1)]) := by kernel_rfl
@[simp] theorem tk_89 : tk Try.prog 89 = some (1, false) := by kernel_rfl
@[simp] theorem tsz_89 : tsz Try.prog 89 = some 1 := by kernel_rfl
@[simp] theorem tzero_89 : tzero Try.prog 89 = some [.nilp] := by kernel_rfl
@[simp] theorem tby_89 : tby Try.prog 89 = some 8 := by kernel_rfl
@[simp] theorem tk_91 : tk Try.prog 91 = some (5, true) := by kernel_rfl
@[simp] theorem tsz_91 : tsz Try.prog 91 = some 5 := by kernel_rfl
@[simp] theorem tzero_91 : tzero Try.prog 91 = some [.int .i64 0, .int .i64 0, .int .i64 0, .int .i64 0, .int .i64 0] := by kernel_rfl
@[simp] theorem tby_91 : tby Try.prog 91 = some 40 := by kernel_rfl
@[simp] theorem tfld_91_0 : tfld Try.prog 91 0 = some (0, 1, 3) := by kernel_rfl
@[simp] theorem tfld_91_1 : tfld Try.prog 91 1 = some (1, 1, 3) := by kernel_rfl
@[simp] theorem tfld_91_2 : tfld Try.prog 91 2 = some (2, 1, 3) := by kernel_rfl
@[simp] theorem tfld_91_3 : tfld Try.prog 91 3 = some (3, 1, 3) := by kernel_rfl
@[simp] theorem tfld_91_4 : tfld Try.prog 91 4 = some (4, 1, 3) := by kernel_rfl
@[simp] theorem tbuild_91 : tbuild Try.prog 91 = some ([.int .i64 0, .int .i64 0, .int .i64 0, .int .i64 0, .int .i64 0], [(0, 1), (1, 1), (2, 1), (3, 1), (4, 1)]) := by kernel_rfl
@[simp] theorem tkinds_91 : tkinds Try.prog 91 = some [.i, .i, .i, .i, .i] := by kernel_rfl
@[simp] theorem tk_92 : tk Try.prog 92 = some (5, true) := by kernel_rfl
@[simp] theorem tsz_92 : tsz Try.prog 92 = some 5 := by kernel_rfl
@[simp] theorem tzero_92 : tzero Try.prog 92 = some [.int .i64 0, .int .i64 0, .int .i64 0, .int .i64 0, .int .i64 0] := by kernel_rfl
@[simp] theorem tby_92 : tby Try.prog 92 = some 40 := by kernel_rfl
@[simp] theorem tfld_92_0 : tfld Try.prog 92 0 = some (0, 1, 3) := by kernel_rfl
@[simp] theorem tfld_92_1 : tfld Try.prog 92 1 = some (1, 1, 3) := by kernel_rfl
@[simp] theorem tfld_92_2 : tfld Try.prog 92 2 = some (2, 1, 3) := by kernel_rfl
@[simp] theorem tfld_92_3 : tfld Try.prog 92 3 = some (3, 1, 3) := by kernel_rfl
@[simp] theorem tfld_92_4 : tfld Try.prog 92 4 = some (4, 1, 3) := by kernel_rfl
@[simp] theorem tbuild_92 : tbuild Try.prog 92 = some ([.int .i64 0, .int .i64 0, .int .i64 0, .int .i64 0, .int .i64 0], [(0, 1), (1, 1), (2, 1), (3, 1), (4, 1)]) := by kernel_rfl
@[simp] theorem tkinds_92 : tkinds Try.prog 92 = some [.i, .i, .i, .i, .i] := by kernel_rfl
@[simp] theorem tk_94 : tk Try.prog 94 = some (5, true) := by kernel_rfl
@[simp] theorem tsz_94 : tsz Try.prog 94 = some 5 := by kernel_rfl
@[simp] theorem tzero_94 : tzero Try.prog 94 = some [.int .i64 0, .int .i64 0, .int .i64 0, .int .i64 0, .int .i64 0] := by kernel_rfl
@[simp] theorem tby_94 : tby Try.prog 94 = some 40 := by kernel_rfl
@[simp] theorem tfld_94_0 : tfld Try.prog 94 0 = some (0, 1, 3) := by kernel_rfl
@[simp] theorem tfld_94_1 : tfld Try.prog 94 1 = some (1, 1, 3) := by kernel_rfl
@[simp] theorem tfld_94_2 : tfld Try.prog 94 2 = some (2, 1, 3) := by kernel_rfl
@[simp] theorem tfld_94_3 : tfld Try.prog 94 3 = some (3, 1, 3) := by kernel_rfl
@[simp] theorem tfld_94_4 : tfld Try.prog 94 4 = some (4, 1, 3) := by kernel_rfl
@[simp] theorem tbuild_94 : tbuild Try.prog 94 = some ([.int .i64 0, .int .i64 0, .int .i64 0, .int .i64 0, .int .i64 0], [(0, 1), (1, 1), (2, 1), (3, 1), (4, 1)]) := by kernel_rfl
@[simp] theorem tkinds_94 : tkinds Try.prog 94 = some [.i, .i, .i, .i, .i] := by kernel_rfl
@[simp] theorem tk_101 : tk Try.prog 101 = some (1, false) := by kernel_rfl
@[simp] theorem tsz_101 : tsz Try.prog 101 = some 1 := by kernel_rfl
@[simp] theorem tzero_101 : tzero Try.prog 101 = some [.nilsl] := by kernel_rfl
@[simp] theorem tby_101 : tby Try.prog 101 = some 24 := by kernel_rfl
@[simp] theorem telem_101 : telem Try.prog 101 = some 9 := by kernel_rfl
@[simp] theorem und_101 : Try.prog.underlying 101 = some (.slice 9) := by kernel_rfl
@[simp] theorem tk_104 : tk Try.prog 104 = some (1, false) := by kernel_rfl
@[simp] theorem tsz_104 : tsz Try.prog 104 = some 1 := by kernel_rfl
@[simp] theorem tzero_104 : tzero Try.prog 104 = some [.nilsl] := by kernel_rfl
@[simp] theorem tby_104 : tby Try.prog 104 = some 24 := by kernel_rfl
@[simp] theorem telem_104 : telem Try.prog 104 = some 119 := by kernel_rfl
@[simp] theorem und_104 : Try.prog.underlying 104 = some (.slice 119) := by kernel_rfl
@[simp] theorem tk_105 : tk Try.prog 105 = some (4, true) := by kernel_rfl
@[simp] theorem tsz_105 : tsz Try.prog 105 = some 4 := by kernel_rfl
@[simp] theorem tzero_105 : tzero Try.prog 105 = some [.nilsl, .int .i64 0, .int .i64 0, .nilsl] := by kernel_rfl
@[simp] theorem tby_105 : tby Try.prog 105 = some 64 := by kernel_rfl
@[simp] theorem tfld_105_0 : tfld Try.prog 105 0 = some (0, 1, 22) := by kernel_rfl
@[simp] theorem tfld_105_1 : tfld Try.prog 105 1 = some (1, 1, 3) := by kernel_rfl
@[simp] theorem tfld_105_2 : tfld Try.prog 105 2 = some (2, 1, 3) := by kernel_rfl
@[simp] theorem tfld_105_3 : tfld Try.prog 105 3 = some (3, 1, 104) := by kernel_rfl
@[simp] theorem tbuild_105 : tbuild Try.prog 105 = some ([.nilsl, .int .i64 0, .int .i64 0, .nilsl], [(0, 1), (1, 1), (2, 1), (3, 1)]) := by kernel_rfl
@[simp] theorem tk_106 : tk Try.prog 106 = some (4, true) := by kernel_rfl
@[simp] theorem tsz_106 : tsz Try.prog 106 = some 4 := by kernel_rfl
@[simp] theorem tzero_106 : tzero Try.prog 106 = some [.nilsl, .int .i64 0, .int .i64 0, .nilsl] := by kernel_rfl
@[simp] theorem tby_106 : tby Try.prog 106 = some 64 := by kernel_rfl
@[simp] theorem tfld_106_0 : tfld Try.prog 106 0 = some (0, 1, 22) := by kernel_rfl
@[simp] theorem tfld_106_1 : tfld Try.prog 106 1 = some (1, 1, 3) := by kernel_rfl
@[simp] theorem tfld_106_2 : tfld Try.prog 106 2 = some (2, 1, 3) := by kernel_rfl
@[simp] theorem tfld_106_3 : tfld Try.prog 106 3 = some (3, 1, 104) := by kernel_rfl
@[simp] theorem tbuild_106 : tbuild Try.prog 106 = some ([.nilsl, .int .i64 0, .int .i64 0, .nilsl], [(0, 1), (1, 1), (2, 1), (3, 1)]) := by kernel_rfl
@[simp] theorem tk_117 : tk Try.prog 117 = some (1, false) := by kernel_rfl
@[simp] theorem tsz_117 : tsz Try.prog 117 = some 1 := by kernel_rfl
@[simp] theorem tzero_117 : tzero Try.prog 117 = some [.nilsl] := by kernel_rfl
@[simp] theorem tby_117 : tby Try.prog 117 = some 24 := by kernel_rfl
@[simp] theorem telem_117 : telem Try.prog 117 = some 123 := by kernel_rfl
@[simp] theorem und_117 : Try.prog.underlying 117 = some (.slice 123) := by kernel_rfl
@[simp] theorem tk_118 : tk Try.prog 118 = some (6, true) := by kernel_rfl
@[simp] theorem tsz_118 : tsz Try.prog 118 = some 6 := by kernel_rfl
@[simp] theorem tzero_118 : tzero Try.prog 118 = some [.int .i64 0, .int .i64 0, .int .i64 0, .nilsl, .nilsl, .nilsl] := by kernel_rfl
@[simp] theorem tby_118 : tby Try.prog 118 = some 96 := by kernel_rfl
@[simp] theorem tfld_118_0 : tfld Try.prog 118 0 = some (0, 1, 3) := by kernel_rfl
@[simp] theorem tfld_118_1 : tfld Try.prog 118 1 = some (1, 1, 3) := by kernel_rfl
@[simp] theorem tfld_118_2 : tfld Try.prog 118 2 = some (2, 1, 3) := by kernel_rfl
@[simp] theorem tfld_118_3 : tfld Try.prog 118 3 = some (3, 1, 117) := by kernel_rfl
@[simp] theorem tfld_118_4 : tfld Try.prog 118 4 = some (4, 1, 104) := by kernel_rfl
@[simp] theorem tfld_118_5 : tfld Try.prog 118 5 = some (5, 1, 104) := by kernel_rfl
@[simp] theorem tbuild_118 : tbuild Try.prog 118 = some ([.int .i64 0, .int .i64 0, .int .i64 0, .nilsl, .nilsl, .nilsl], [(0, 1), (1, 1), (2, 1), (3, 1), (4, 1), (5, 1)]) := by kernel_rfl
@[simp] theorem tk_119 : tk Try.prog 119 = some (6, true) := by kernel_rfl
@[simp] theorem tsz_119 : tsz Try.prog 119 = some 6 := by kernel_rfl
@[simp] theorem tzero_119 : tzero Try.prog 119 = some [.int .i64 0, .int .i64 0, .int .i64 0, .nilsl, .nilsl, .nilsl] := by kernel_rfl
@[simp] theorem tby_119 : tby Try.prog 119 = some 96 := by kernel_rfl
@[simp] theorem tfld_119_0 : tfld Try.prog 119 0 = some (0, 1, 3) := by kernel_rfl
@[simp] theorem tfld_119_1 : tfld Try.prog 119 1 = some (1, 1, 3) := by kernel_rfl
@[simp] theorem tfld_119_2 : tfld Try.prog 119 2 = some (2, 1, 3) := by kernel_rfl
@[simp] theorem tfld_119_3 : tfld Try.prog 119 3 = some (3, 1, 117) := by kernel_rfl
@[simp] theorem tfld_119_4 : tfld Try.prog 119 4 = some (4, 1, 104) := by kernel_rfl
@[simp] theorem tfld_119_5 : tfld Try.prog 119 5 = some (5, 1, 104) := by kernel_rfl
@[simp] theorem tbuild_119 : tbuild Try.prog 119 = some ([.int .i64 0, .int .i64 0, .int .i64 0, .nilsl, .nilsl, .nilsl], [(0, 1), (1, 1), (2, 1), (3, 1), (4, 1), (5, 1)]) := by kernel_rfl
@[simp] theorem tk_122 : tk Try.prog 122 = some (5, true) := by kernel_rfl
@[simp] theorem tsz_122 : tsz Try.prog 122 = some 5 := by kernel_rfl
@[simp] theorem tzero_122 : tzero Try.prog 122 = some [.int .i64 0, .int .i64 0, .int .i64 0, .str ByteArray.empty, .nilsl] := by kernel_rfl
@[simp] theorem tby_122 : tby Try.prog 122 = some 64 := by kernel_rfl
@[simp] theorem tfld_122_0 : tfld Try.prog 122 0 = some (0, 1, 3) := by kernel_rfl
@[simp] theorem tfld_122_1 : tfld Try.prog 122 1 = some (1, 1, 3) := by kernel_rfl
@[simp] theorem tfld_122_2 : tfld Try.prog 122 2 = some (2, 1, 3) := by kernel_rfl
@[simp] theorem tfld_122_3 : tfld Try.prog 122 3 = some (3, 1, 9) := by kernel_rfl
@[simp] theorem tfld_122_4 : tfld Try.prog 122 4 = some (4, 1, 117) := by kernel_rfl
@[simp] theorem tbuild_122 : tbuild Try.prog 122 = some ([.int .i64 0, .int .i64 0, .int .i64 0, .str ByteArray.empty, .nilsl], [(0, 1), (1, 1), (2, 1), (3, 1), (4, 1)]) := by kernel_rfl
@[simp] theorem tk_123 : tk Try.prog 123 = some (5, true) := by kernel_rfl
@[simp] theorem tsz_123 : tsz Try.prog 123 = some 5 := by kernel_rfl
@[simp] theorem tzero_123 : tzero Try.prog 123 = some [.int .i64 0, .int .i64 0, .int .i64 0, .str ByteArray.empty, .nilsl] := by kernel_rfl
@[simp] theorem tby_123 : tby Try.prog 123 = some 64 := by kernel_rfl
@[simp] theorem tfld_123_0 : tfld Try.prog 123 0 = some (0, 1, 3) := by kernel_rfl
@[simp] theorem tfld_123_1 : tfld Try.prog 123 1 = some (1, 1, 3) := by kernel_rfl
@[simp] theorem tfld_123_2 : tfld Try.prog 123 2 = some (2, 1, 3) := by kernel_rfl
@[simp] theorem tfld_123_3 : tfld Try.prog 123 3 = some (3, 1, 9) := by kernel_rfl
@[simp] theorem tfld_123_4 : tfld Try.prog 123 4 = some (4, 1, 117) := by kernel_rfl
@[simp] theorem tbuild_123 : tbuild Try.prog 123 = some ([.int .i64 0, .int .i64 0, .int .i64 0, .str ByteArray.empty, .nilsl], [(0, 1), (1, 1), (2, 1), (3, 1), (4, 1)]) := by kernel_rfl
@[simp] theorem tk_131 : tk Try.prog 131 = some (4, true) := by kernel_rfl
@[simp] theorem tsz_131 : tsz Try.prog 131 = some 4 := by kernel_rfl
@[simp] theorem tzero_131 : tzero Try.prog 131 = some [.nilp, .nilp, .nilp, .str ByteArray.empty] := by kernel_rfl
@[simp] theorem tby_131 : tby Try.prog 131 = some 40 := by kernel_rfl
@[simp] theorem tfld_131_0 : tfld Try.prog 131 0 = some (0, 1, 17) := by kernel_rfl
@[simp] theorem tfld_131_1 : tfld Try.prog 131 1 = some (1, 1, 17) := by kernel_rfl
@[simp] theorem tfld_131_2 : tfld Try.prog 131 2 = some (2, 1, 17) := by kernel_rfl
@[simp] theorem tfld_131_3 : tfld Try.prog 131 3 = some (3, 1, 9) := by kernel_rfl
@[simp] theorem tbuild_131 : tbuild Try.prog 131 = some ([.nilp, .nilp, .nilp, .str ByteArray.empty], [(0, 1), (1, 1), (2, 1), (3, 1)]) := by kernel_rfl
@[simp] theorem tk_132 : tk Try.prog 132 = some (4, true) := by kernel_rfl
@[simp] theorem tsz_132 : tsz Try.prog 132 = some 4 := by kernel_rfl
@[simp] theorem tzero_132 : tzero Try.prog 132 = some [.nilp, .nilp, .nilp, .str ByteArray.empty] := by kernel_rfl
@[simp] theorem tby_132 : tby Try.prog 132 = some 40 := by kernel_rfl
@[simp] theorem tfld_132_0 : tfld Try.prog 132 0 = some (0, 1, 17) := by kernel_rfl
@[simp] theorem tfld_132_1 : tfld Try.prog 132 1 = some (1, 1, 17) := by kernel_rfl
@[simp] theorem tfld_132_2 : tfld Try.prog 132 2 = some (2, 1, 17) := by kernel_rfl
@[simp] theorem tfld_132_3 : tfld Try.prog 132 3 = some (3, 1, 9) := by kernel_rfl
@[simp] theorem tbuild_132 : tbuild Try.prog 132 = some ([.nilp, .nilp, .nilp, .str ByteArray.empty], [(0, 1), (1, 1), (2, 1), (3, 1)]) := by kernel_rfl
@[simp] theorem tk_133 : tk Try.prog 133 = some (0, true) := by kernel_rfl
@[simp] theorem tsz_133 : tsz Try.prog 133 = some 0 := by kernel_rfl
@[simp] theorem tzero_133 : tzero Try.prog 133 = some [] := by kernel_rfl
@[simp] theorem tby_133 : tby Try.prog 133 = some 0 := by kernel_rfl
@[simp] theorem tk_134 : tk Try.prog 134 = some (0, true) := by kernel_rfl
@[simp] theorem tsz_134 : tsz Try.prog 134 = some 0 := by kernel_rfl
@[simp] theorem tzero_134 : tzero Try.prog 134 = some [] := by kernel_rfl
@[simp] theorem tby_134 : tby Try.prog 134 = some 0 := by kernel_rfl
@[simp] theorem tfld_134_0 : tfld Try.prog 134 0 = some (0, 0, 133) := by kernel_rfl
@[simp] theorem tbuild_134 : tbuild Try.prog 134 = some ([], [(0, 0)]) := by kernel_rfl
@[simp] theorem tk_135 : tk Try.prog 135 = some (0, true) := by kernel_rfl
@[simp] theorem tsz_135 : tsz Try.prog 135 = some 0 := by kernel_rfl
@[simp] theorem tzero_135 : tzero Try.prog 135 = some [] := by kernel_rfl
@[simp] theorem tby_135 : tby Try.prog 135 = some 0 := by kernel_rfl
@[simp] theorem tfld_135_0 : tfld Try.prog 135 0 = some (0, 0, 133) := by kernel_rfl
@[simp] theorem tbuild_135 : tbuild Try.prog 135 = some ([], [(0, 0)]) := by kernel_rfl
@[simp] theorem tk_137 : tk Try.prog 137 = some (1, false) := by kernel_rfl
@[simp] theorem tsz_137 : tsz Try.prog 137 = some 1 := by kernel_rfl
@[simp] theorem tzero_137 : tzero Try.prog 137 = some [.int .u32 0] := by kernel_rfl
@[simp] theorem tby_137 : tby Try.prog 137 = some 4 := by kernel_rfl
@[simp] theorem und_137 : Try.prog.underlying 137 = some (.int .u32) := by kernel_rfl
@[simp] theorem tk_138 : tk Try.prog 138 = some (1, false) := by kernel_rfl
@[simp] theorem tsz_138 : tsz Try.prog 138 = some 1 := by kernel_rfl
@[simp] theorem tzero_138 : tzero Try.prog 138 = some [.int .u8 0] := by kernel_rfl
@[simp] theorem tby_138 : tby Try.prog 138 = some 1 := by kernel_rfl
@[simp] theorem und_138 : Try.prog.underlying 138 = some (.int .u8) := by kernel_rfl
@[simp] theorem tk_139 : tk Try.prog 139 = some (1, false) := by kernel_rfl
@[simp] theorem tsz_139 : tsz Try.prog 139 = some 1 := by kernel_rfl
@[simp] theorem tzero_139 : tzero Try.prog 139 = some [.int .u8 0] := by kernel_rfl
@[simp] theorem tby_139 : tby Try.prog 139 = some 1 := by kernel_rfl
@[simp] theorem und_139 : Try.prog.underlying 139 = some (.int .u8) := by kernel_rfl
@[simp] theorem tk_141 : tk Try.prog 141 = some (1, false) := by kernel_rfl
@[simp] theorem tsz_141 : tsz Try.prog 141 = some 1 := by kernel_rfl
@[simp] theorem tzero_141 : tzero Try.prog 141 = some [.nilp] := by kernel_rfl
@[simp] theorem tby_141 : tby Try.prog 141 = some 8 := by kernel_rfl
@[simp] theorem tk_142 : tk Try.prog 142 = some (1, false) := by kernel_rfl
@[simp] theorem tsz_142 : tsz Try.prog 142 = some 1 := by kernel_rfl
@[simp] theorem tzero_142 : tzero Try.prog 142 = some [.int .i32 0] := by kernel_rfl
@[simp] theorem tby_142 : tby Try.prog 142 = some 4 := by kernel_rfl
@[simp] theorem und_142 : Try.prog.underlying 142 = some (.int .i32) := by kernel_rfl
@[simp] theorem tk_143 : tk Try.prog 143 = some (1, false) := by kernel_rfl
@[simp] theorem tsz_143 : tsz Try.prog 143 = some 1 := by kernel_rfl
@[simp] theorem tzero_143 : tzero Try.prog 143 = some [.int .i32 0] := by kernel_rfl
@[simp] theorem tby_143 : tby Try.prog 143 = some 4 := by kernel_rfl
@[simp] theorem und_143 : Try.prog.underlying 143 = some (.int .i32) := by kernel_rfl
@[simp] theorem tk_146 : tk Try.prog 146 = some (1, false) := by kernel_rfl
@[simp] theorem tsz_146 : tsz Try.prog 146 = some 1 := by kernel_rfl
@[simp] theorem tzero_146 : tzero Try.prog 146 = some [.nilp] := by kernel_rfl
@[simp] theorem tby_146 : tby Try.prog 146 = some 8 := by kernel_rfl
theorem mixed : Try.prog.follows .mixedOrders = true := by kernel_rfl
theorem laid : laidOutB Try.prog = true := by kernel_rfl
end Go.Proofs.Ytfgaoojogididaa.AM
