/- Lemmas: an abstract machine over named rows, and what single functions compute (parts U0, U1, U2, U3, U4, U5, U6, U7, U8, U9, U10, U11, U12, W0, W1, W2, W3, W4, W5, W6, W7, W8). -/
import Derived.Test.YtfgaoojogididaaKk1
import Derived.Test.YtfgaoojogididaaRows
/-
  The seat's types: how many cells, the fields, the zero values. (Printed by a program out of the translation.)
-/
namespace Go.Proofs.Ytfgaoojogididaa.AM
open Go.RowKit
@[simp] theorem tk_2 : tk Try.prog 2 = some (1, false) := by kernel_rfl
@[simp] theorem tsz_2 : tsz Try.prog 2 = some 1 := by kernel_rfl
@[simp] theorem tzero_2 : tzero Try.prog 2 = some [.int .i64 0] := by kernel_rfl
@[simp] theorem tby_2 : tby Try.prog 2 = some 8 := by kernel_rfl
@[simp] theorem und_2 : Try.prog.underlying 2 = some (.int .i64) := by kernel_rfl
@[simp] theorem tk_3 : tk Try.prog 3 = some (1, false) := by kernel_rfl
@[simp] theorem tsz_3 : tsz Try.prog 3 = some 1 := by kernel_rfl
@[simp] theorem tzero_3 : tzero Try.prog 3 = some [.int .i64 0] := by kernel_rfl
@[simp] theorem tby_3 : tby Try.prog 3 = some 8 := by kernel_rfl
@[simp] theorem und_3 : Try.prog.underlying 3 = some (.int .i64) := by kernel_rfl
@[simp] theorem tk_4 : tk Try.prog 4 = some (1, false) := by kernel_rfl
@[simp] theorem tsz_4 : tsz Try.prog 4 = some 1 := by kernel_rfl
@[simp] theorem tzero_4 : tzero Try.prog 4 = some [.bool false] := by kernel_rfl
@[simp] theorem tby_4 : tby Try.prog 4 = some 1 := by kernel_rfl
@[simp] theorem und_4 : Try.prog.underlying 4 = some .bool := by kernel_rfl
@[simp] theorem tk_5 : tk Try.prog 5 = some (1, false) := by kernel_rfl
@[simp] theorem tsz_5 : tsz Try.prog 5 = some 1 := by kernel_rfl
@[simp] theorem tzero_5 : tzero Try.prog 5 = some [.int .u8 0] := by kernel_rfl
@[simp] theorem tby_5 : tby Try.prog 5 = some 1 := by kernel_rfl
@[simp] theorem und_5 : Try.prog.underlying 5 = some (.int .u8) := by kernel_rfl
@[simp] theorem tk_6 : tk Try.prog 6 = some (1, false) := by kernel_rfl
@[simp] theorem tsz_6 : tsz Try.prog 6 = some 1 := by kernel_rfl
@[simp] theorem tzero_6 : tzero Try.prog 6 = some [.int .u8 0] := by kernel_rfl
@[simp] theorem tby_6 : tby Try.prog 6 = some 1 := by kernel_rfl
@[simp] theorem und_6 : Try.prog.underlying 6 = some (.int .u8) := by kernel_rfl
@[simp] theorem tk_7 : tk Try.prog 7 = some (4, true) := by kernel_rfl
@[simp] theorem tsz_7 : tsz Try.prog 7 = some 4 := by kernel_rfl
@[simp] theorem tzero_7 : tzero Try.prog 7 = some [.int .i64 0, .int .i64 0, .bool false, .int .u8 0] := by kernel_rfl
@[simp] theorem tby_7 : tby Try.prog 7 = some 24 := by kernel_rfl
@[simp] theorem tfld_7_0 : tfld Try.prog 7 0 = some (0, 1, 2) := by kernel_rfl
@[simp] theorem tfld_7_1 : tfld Try.prog 7 1 = some (1, 1, 3) := by kernel_rfl
@[simp] theorem tfld_7_2 : tfld Try.prog 7 2 = some (2, 1, 4) := by kernel_rfl
@[simp] theorem tfld_7_3 : tfld Try.prog 7 3 = some (3, 1, 6) := by kernel_rfl
@[simp] theorem tbuild_7 : tbuild Try.prog 7 = some ([.int .i64 0, .int .i64 0, .bool false, .int .u8 0], [(0, 1), (1, 1), (2, 1), (3, 1)]) := by kernel_rfl
@[simp] theorem tkinds_7 : tkinds Try.prog 7 = some [.i, .i, .b, .i] := by kernel_rfl
@[simp] theorem tk_8 : tk Try.prog 8 = some (4, true) := by kernel_rfl
@[simp] theorem tsz_8 : tsz Try.prog 8 = some 4 := by kernel_rfl
@[simp] theorem tzero_8 : tzero Try.prog 8 = some [.int .i64 0, .int .i64 0, .bool false, .int .u8 0] := by kernel_rfl
@[simp] theorem tby_8 : tby Try.prog 8 = some 24 := by kernel_rfl
@[simp] theorem tfld_8_0 : tfld Try.prog 8 0 = some (0, 1, 2) := by kernel_rfl
@[simp] theorem tfld_8_1 : tfld Try.prog 8 1 = some (1, 1, 3) := by kernel_rfl
@[simp] theorem tfld_8_2 : tfld Try.prog 8 2 = some (2, 1, 4) := by kernel_rfl
@[simp] theorem tfld_8_3 : tfld Try.prog 8 3 = some (3, 1, 6) := by kernel_rfl
@[simp] theorem tbuild_8 : tbuild Try.prog 8 = some ([.int .i64 0, .int .i64 0, .bool false, .int .u8 0], [(0, 1), (1, 1), (2, 1), (3, 1)]) := by kernel_rfl
@[simp] theorem tkinds_8 : tkinds Try.prog 8 = some [.i, .i, .b, .i] := by kernel_rfl
@[simp] theorem tk_9 : tk Try.prog 9 = some (1, false) := by kernel_rfl
@[simp] theorem tsz_9 : tsz Try.prog 9 = some 1 := by kernel_rfl
@[simp] theorem tzero_9 : tzero Try.prog 9 = some [.str ByteArray.empty] := by kernel_rfl
@[simp] theorem tby_9 : tby Try.prog 9 = some 16 := by kernel_rfl
@[simp] theorem und_9 : Try.prog.underlying 9 = some .string := by kernel_rfl
@[simp] theorem tk_10 : tk Try.prog 10 = some (1, false) := by kernel_rfl
@[simp] theorem tsz_10 : tsz Try.prog 10 = some 1 := by kernel_rfl
@[simp] theorem tzero_10 : tzero Try.prog 10 = some [.str ByteArray.empty] := by kernel_rfl
@[simp] theorem tby_10 : tby Try.prog 10 = some 16 := by kernel_rfl
@[simp] theorem und_10 : Try.prog.underlying 10 = some .string := by kernel_rfl
@[simp] theorem tk_11 : tk Try.prog 11 = some (1, false) := by kernel_rfl
@[simp] theorem tsz_11 : tsz Try.prog 11 = some 1 := by kernel_rfl
@[simp] theorem tzero_11 : tzero Try.prog 11 = some [.str ByteArray.empty] := by kernel_rfl
@[simp] theorem tby_11 : tby Try.prog 11 = some 16 := by kernel_rfl
@[simp] theorem und_11 : Try.prog.underlying 11 = some .string := by kernel_rfl
@[simp] theorem tk_12 : tk Try.prog 12 = some (1, false) := by kernel_rfl
@[simp] theorem tsz_12 : tsz Try.prog 12 = some 1 := by kernel_rfl
@[simp] theorem tzero_12 : tzero Try.prog 12 = some [.int .u64 0] := by kernel_rfl
@[simp] theorem tby_12 : tby Try.prog 12 = some 8 := by kernel_rfl
@[simp] theorem und_12 : Try.prog.underlying 12 = some (.int .u64) := by kernel_rfl
@[simp] theorem tk_13 : tk Try.prog 13 = some (2, true) := by kernel_rfl
@[simp] theorem tsz_13 : tsz Try.prog 13 = some 2 := by kernel_rfl
@[simp] theorem tzero_13 : tzero Try.prog 13 = some [.str ByteArray.empty, .int .u64 0] := by kernel_rfl
@[simp] theorem tby_13 : tby Try.prog 13 = some 24 := by kernel_rfl
@[simp] theorem tfld_13_0 : tfld Try.prog 13 0 = some (0, 1, 9) := by kernel_rfl
@[simp] theorem tfld_13_1 : tfld Try.prog 13 1 = some (1, 1, 12) := by kernel_rfl
@[simp] theorem tbuild_13 : tbuild Try.prog 13 = some ([.str ByteArray.empty, .int .u64 0], [(0, 1), (1, 1)]) := by kernel_rfl
@[simp] theorem tk_14 : tk Try.prog 14 = some (2, true) := by kernel_rfl
@[simp] theorem tsz_14 : tsz Try.prog 14 = some 2 := by kernel_rfl
@[simp] theorem tzero_14 : tzero Try.prog 14 = some [.str ByteArray.empty, .int .u64 0] := by kernel_rfl
@[simp] theorem tby_14 : tby Try.prog 14 = some 24 := by kernel_rfl
@[simp] theorem tfld_14_0 : tfld Try.prog 14 0 = some (0, 1, 9) := by kernel_rfl
@[simp] theorem tfld_14_1 : tfld Try.prog 14 1 = some (1, 1, 12) := by kernel_rfl
@[simp] theorem tbuild_14 : tbuild Try.prog 14 = some ([.str ByteArray.empty, .int .u64 0], [(0, 1), (1, 1)]) := by kernel_rfl
@[simp] theorem tk_15 : tk Try.prog 15 = some (1, false) := by kernel_rfl
@[simp] theorem tsz_15 : tsz Try.prog 15 = some 1 := by kernel_rfl
@[simp] theorem tzero_15 : tzero Try.prog 15 = some [.nilp] := by kernel_rfl
@[simp] theorem tby_15 : tby Try.prog 15 = some 8 := by kernel_rfl
@[simp] theorem tk_16 : tk Try.prog 16 = some (1, false) := by kernel_rfl
@[simp] theorem tsz_16 : tsz Try.prog 16 = some 1 := by kernel_rfl
@[simp] theorem tzero_16 : tzero Try.prog 16 = some [.nilp] := by kernel_rfl
@[simp] theorem tby_16 : tby Try.prog 16 = some 8 := by kernel_rfl
@[simp] theorem tk_17 : tk Try.prog 17 = some (1, false) := by kernel_rfl
@[simp] theorem tsz_17 : tsz Try.prog 17 = some 1 := by kernel_rfl
@[simp] theorem tzero_17 : tzero Try.prog 17 = some [.nilp] := by kernel_rfl
@[simp] theorem tby_17 : tby Try.prog 17 = some 8 := by kernel_rfl
@[simp] theorem tk_18 : tk Try.prog 18 = some (1, true) := by kernel_rfl
@[simp] theorem tsz_18 : tsz Try.prog 18 = some 1 := by kernel_rfl
@[simp] theorem tzero_18 : tzero Try.prog 18 = some [.nilp] := by kernel_rfl
@[simp] theorem tby_18 : tby Try.prog 18 = some 8 := by kernel_rfl
@[simp] theorem tfld_18_0 : tfld Try.prog 18 0 = some (0, 1, 17) := by kernel_rfl
@[simp] theorem tbuild_18 : tbuild Try.prog 18 = some ([.nilp], [(0, 1)]) := by kernel_rfl
@[simp] theorem tk_19 : tk Try.prog 19 = some (1, true) := by kernel_rfl
@[simp] theorem tsz_19 : tsz Try.prog 19 = some 1 := by kernel_rfl
@[simp] theorem tzero_19 : tzero Try.prog 19 = some [.nilp] := by kernel_rfl
@[simp] theorem tby_19 : tby Try.prog 19 = some 8 := by kernel_rfl
@[simp] theorem tfld_19_0 : tfld Try.prog 19 0 = some (0, 1, 17) := by kernel_rfl
@[simp] theorem tbuild_19 : tbuild Try.prog 19 = some ([.nilp], [(0, 1)]) := by kernel_rfl
@[simp] theorem tk_20 : tk Try.prog 20 = some (1, false) := by kernel_rfl
@[simp] theorem tsz_20 : tsz Try.prog 20 = some 1 := by kernel_rfl
@[simp] theorem tzero_20 : tzero Try.prog 20 = some [.nilif] := by kernel_rfl
@[simp] theorem tby_20 : tby Try.prog 20 = some 16 := by kernel_rfl
@[simp] theorem tk_21 : tk Try.prog 21 = some (1, false) := by kernel_rfl
@[simp] theorem tsz_21 : tsz Try.prog 21 = some 1 := by kernel_rfl
@[simp] theorem tzero_21 : tzero Try.prog 21 = some [.int .i32 0] := by kernel_rfl
@[simp] theorem tby_21 : tby Try.prog 21 = some 4 := by kernel_rfl
@[simp] theorem und_21 : Try.prog.underlying 21 = some (.int .i32) := by kernel_rfl
@[simp] theorem tk_22 : tk Try.prog 22 = some (1, false) := by kernel_rfl
@[simp] theorem tsz_22 : tsz Try.prog 22 = some 1 := by kernel_rfl
@[simp] theorem tzero_22 : tzero Try.prog 22 = some [.nilsl] := by kernel_rfl
@[simp] theorem tby_22 : tby Try.prog 22 = some 24 := by kernel_rfl
@[simp] theorem telem_22 : telem Try.prog 22 = some 3 := by kernel_rfl
@[simp] theorem und_22 : Try.prog.underlying 22 = some (.slice 3) := by kernel_rfl
@[simp] theorem tk_23 : tk Try.prog 23 = some (1, false) := by kernel_rfl
@[simp] theorem tsz_23 : tsz Try.prog 23 = some 1 := by kernel_rfl
@[simp] theorem tzero_23 : tzero Try.prog 23 = some [.nilsl] := by kernel_rfl
@[simp] theorem tby_23 : tby Try.prog 23 = some 24 := by kernel_rfl
@[simp] theorem telem_23 : telem Try.prog 23 = some 22 := by kernel_rfl
@[simp] theorem und_23 : Try.prog.underlying 23 = some (.slice 22) := by kernel_rfl
@[simp] theorem tk_24 : tk Try.prog 24 = some (9, true) := by kernel_rfl
@[simp] theorem tsz_24 : tsz Try.prog 24 = some 9 := by kernel_rfl
@[simp] theorem tzero_24 : tzero Try.prog 24 = some [.int .i64 0, .nilsl, .nilsl, .nilsl, .nilsl, .nilsl, .int .i64 0, .bool false, .int .i64 0] := by kernel_rfl
@[simp] theorem tby_24 : tby Try.prog 24 = some 152 := by kernel_rfl
@[simp] theorem tfld_24_0 : tfld Try.prog 24 0 = some (0, 1, 3) := by kernel_rfl
@[simp] theorem tfld_24_1 : tfld Try.prog 24 1 = some (1, 1, 22) := by kernel_rfl
@[simp] theorem tfld_24_2 : tfld Try.prog 24 2 = some (2, 1, 22) := by kernel_rfl
@[simp] theorem tfld_24_3 : tfld Try.prog 24 3 = some (3, 1, 23) := by kernel_rfl
@[simp] theorem tfld_24_4 : tfld Try.prog 24 4 = some (4, 1, 22) := by kernel_rfl
@[simp] theorem tfld_24_5 : tfld Try.prog 24 5 = some (5, 1, 22) := by kernel_rfl
@[simp] theorem tfld_24_6 : tfld Try.prog 24 6 = some (6, 1, 3) := by kernel_rfl
@[simp] theorem tfld_24_7 : tfld Try.prog 24 7 = some (7, 1, 4) := by kernel_rfl
@[simp] theorem tfld_24_8 : tfld Try.prog 24 8 = some (8, 1, 3) := by kernel_rfl
@[simp] theorem tbuild_24 : tbuild Try.prog 24 = some ([.int .i64 0, .nilsl, .nilsl, .nilsl, .nilsl, .nilsl, .int .i64 0, .bool false, .int .i64 0], [(0, 1), (1, 1), (2, 1), (3, 1), (4, 1), (5, 1), (6, 1), (7, 1), (8, 1)]) := by kernel_rfl
@[simp] theorem tk_25 : tk Try.prog 25 = some (9, true) := by kernel_rfl
@[simp] theorem tsz_25 : tsz Try.prog 25 = some 9 := by kernel_rfl
@[simp] theorem tzero_25 : tzero Try.prog 25 = some [.int .i64 0, .nilsl, .nilsl, .nilsl, .nilsl, .nilsl, .int .i64 0, .bool false, .int .i64 0] := by kernel_rfl
@[simp] theorem tby_25 : tby Try.prog 25 = some 152 := by kernel_rfl
@[simp] theorem tfld_25_0 : tfld Try.prog 25 0 = some (0, 1, 3) := by kernel_rfl
@[simp] theorem tfld_25_1 : tfld Try.prog 25 1 = some (1, 1, 22) := by kernel_rfl
@[simp] theorem tfld_25_2 : tfld Try.prog 25 2 = some (2, 1, 22) := by kernel_rfl
@[simp] theorem tfld_25_3 : tfld Try.prog 25 3 = some (3, 1, 23) := by kernel_rfl
@[simp] theorem tfld_25_4 : tfld Try.prog 25 4 = some (4, 1, 22) := by kernel_rfl
@[simp] theorem tfld_25_5 : tfld Try.prog 25 5 = some (5, 1, 22) := by kernel_rfl
@[simp] theorem tfld_25_6 : tfld Try.prog 25 6 = some (6, 1, 3) := by kernel_rfl
@[simp] theorem tfld_25_7 : tfld Try.prog 25 7 = some (7, 1, 4) := by kernel_rfl
@[simp] theorem tfld_25_8 : tfld Try.prog 25 8 = some (8, 1, 3) := by kernel_rfl
@[simp] theorem tbuild_25 : tbuild Try.prog 25 = some ([.int .i64 0, .nilsl, .nilsl, .nilsl, .nilsl, .nilsl, .int .i64 0, .bool false, .int .i64 0], [(0, 1), (1, 1), (2, 1), (3, 1), (4, 1), (5, 1), (6, 1), (7, 1), (8, 1)]) := by kernel_rfl
@[simp] theorem tk_27 : tk Try.prog 27 = some (3, true) := by kernel_rfl
@[simp] theorem tsz_27 : tsz Try.prog 27 = some 3 := by kernel_rfl
@[simp] theorem tzero_27 : tzero Try.prog 27 = some [.int .i64 0, .int .i64 0, .nilsl] := by kernel_rfl
@[simp] theorem tby_27 : tby Try.prog 27 = some 40 := by kernel_rfl
@[simp] theorem tfld_27_0 : tfld Try.prog 27 0 = some (0, 1, 3) := by kernel_rfl
@[simp] theorem tfld_27_1 : tfld Try.prog 27 1 = some (1, 1, 3) := by kernel_rfl
@[simp] theorem tfld_27_2 : tfld Try.prog 27 2 = some (2, 1, 22) := by kernel_rfl
@[simp] theorem tbuild_27 : tbuild Try.prog 27 = some ([.int .i64 0, .int .i64 0, .nilsl], [(0, 1), (1, 1), (2, 1)]) := by kernel_rfl
@[simp] theorem tk_28 : tk Try.prog 28 = some (3, true) := by kernel_rfl
@[simp] theorem tsz_28 : tsz Try.prog 28 = some 3 := by kernel_rfl
@[simp] theorem tzero_28 : tzero Try.prog 28 = some [.int .i64 0, .int .i64 0, .nilsl] := by kernel_rfl
@[simp] theorem tby_28 : tby Try.prog 28 = some 40 := by kernel_rfl
@[simp] theorem tfld_28_0 : tfld Try.prog 28 0 = some (0, 1, 3) := by kernel_rfl
@[simp] theorem tfld_28_1 : tfld Try.prog 28 1 = some (1, 1, 3) := by kernel_rfl
@[simp] theorem tfld_28_2 : tfld Try.prog 28 2 = some (2, 1, 22) := by kernel_rfl
@[simp] theorem tbuild_28 : tbuild Try.prog 28 = some ([.int .i64 0, .int .i64 0, .nilsl], [(0, 1), (1, 1), (2, 1)]) := by kernel_rfl
@[simp] theorem tk_30 : tk Try.prog 30 = some (9, true) := by kernel_rfl
@[simp] theorem tsz_30 : tsz Try.prog 30 = some 9 := by kernel_rfl
@[simp] theorem tzero_30 : tzero Try.prog 30 = some [.int .i64 0, .nilsl, .nilsl, .nilsl, .nilsl, .nilsl, .int .i64 0, .bool false, .int .i64 0] := by kernel_rfl
@[simp] theorem tby_30 : tby Try.prog 30 = some 152 := by kernel_rfl
@[simp] theorem tfld_30_0 : tfld Try.prog 30 0 = some (0, 1, 3) := by kernel_rfl
@[simp] theorem tfld_30_1 : tfld Try.prog 30 1 = some (1, 1, 22) := by kernel_rfl
@[simp] theorem tfld_30_2 : tfld Try.prog 30 2 = some (2, 1, 22) := by kernel_rfl
@[simp] theorem tfld_30_3 : tfld Try.prog 30 3 = some (3, 1, 23) := by kernel_rfl
@[simp] theorem tfld_30_4 : tfld Try.prog 30 4 = some (4, 1, 22) := by kernel_rfl
@[simp] theorem tfld_30_5 : tfld Try.prog 30 5 = some (5, 1, 22) := by kernel_rfl
@[simp] theorem tfld_30_6 : tfld Try.prog 30 6 = some (6, 1, 3) := by kernel_rfl
@[simp] theorem tfld_30_7 : tfld Try.prog 30 7 = some (7, 1, 4) := by kernel_rfl
@[simp] theorem tfld_30_8 : tfld Try.prog 30 8 = some (8, 1, 3) := by kernel_rfl
@[simp] theorem tbuild_30 : tbuild Try.prog 30 = some ([.int .i64 0, .nilsl, .nilsl, .nilsl, .nilsl, .nilsl, .int .i64 0, .bool false, .int .i64 0], [(0, 1), (1, 1), (2, 1), (3, 1), (4, 1), (5, 1), (6, 1), (7, 1), (8, 1)]) := by kernel_rfl
@[simp] theorem tk_37 : tk Try.prog 37 = some (1, false) := by kernel_rfl
@[simp] theorem tsz_37 : tsz Try.prog 37 = some 1 := by kernel_rfl
@[simp] theorem tzero_37 : tzero Try.prog 37 = some [.nilsl] := by kernel_rfl
@[simp] theorem tby_37 : tby Try.prog 37 = some 24 := by kernel_rfl
@[simp] theorem telem_37 : telem Try.prog 37 = some 94 := by kernel_rfl
@[simp] theorem und_37 : Try.prog.underlying 37 = some (.slice 94) := by kernel_rfl
@[simp] theorem tk_38 : tk Try.prog 38 = some (4, true) := by kernel_rfl
@[simp] theorem tsz_38 : tsz Try.prog 38 = some 4 := by kernel_rfl
@[simp] theorem tzero_38 : tzero Try.prog 38 = some [.nilsl, .int .i64 0, .int .i64 0, .nilsl] := by kernel_rfl
@[simp] theorem tby_38 : tby Try.prog 38 = some 64 := by kernel_rfl
@[simp] theorem tfld_38_0 : tfld Try.prog 38 0 = some (0, 1, 22) := by kernel_rfl
@[simp] theorem tfld_38_1 : tfld Try.prog 38 1 = some (1, 1, 3) := by kernel_rfl
@[simp] theorem tfld_38_2 : tfld Try.prog 38 2 = some (2, 1, 3) := by kernel_rfl
@[simp] theorem tfld_38_3 : tfld Try.prog 38 3 = some (3, 1, 37) := by kernel_rfl
@[simp] theorem tbuild_38 : tbuild Try.prog 38 = some ([.nilsl, .int .i64 0, .int .i64 0, .nilsl], [(0, 1), (1, 1), (2, 1), (3, 1)]) := by kernel_rfl
@[simp] theorem tk_39 : tk Try.prog 39 = some (4, true) := by kernel_rfl
@[simp] theorem tsz_39 : tsz Try.prog 39 = some 4 := by kernel_rfl
@[simp] theorem tzero_39 : tzero Try.prog 39 = some [.nilsl, .int .i64 0, .int .i64 0, .nilsl] := by kernel_rfl
@[simp] theorem tby_39 : tby Try.prog 39 = some 64 := by kernel_rfl
@[simp] theorem tfld_39_0 : tfld Try.prog 39 0 = some (0, 1, 22) := by kernel_rfl
@[simp] theorem tfld_39_1 : tfld Try.prog 39 1 = some (1, 1, 3) := by kernel_rfl
@[simp] theorem tfld_39_2 : tfld Try.prog 39 2 = some (2, 1, 3) := by kernel_rfl
@[simp] theorem tfld_39_3 : tfld Try.prog 39 3 = some (3, 1, 37) := by kernel_rfl
@[simp] theorem tbuild_39 : tbuild Try.prog 39 = some ([.nilsl, .int .i64 0, .int .i64 0, .nilsl], [(0, 1), (1, 1), (2, 1), (3, 1)]) := by kernel_rfl
@[simp] theorem tk_42 : tk Try.prog 42 = some (1, false) := by kernel_rfl
@[simp] theorem tsz_42 : tsz Try.prog 42 = some 1 := by kernel_rfl
@[simp] theorem tzero_42 : tzero Try.prog 42 = some [.nilsl] := by kernel_rfl
@[simp] theorem tby_42 : tby Try.prog 42 = some 24 := by kernel_rfl
@[simp] theorem telem_42 : telem Try.prog 42 = some 92 := by kernel_rfl
@[simp] theorem und_42 : Try.prog.underlying 42 = some (.slice 92) := by kernel_rfl
@[simp] theorem tk_43 : tk Try.prog 43 = some (4, true) := by kernel_rfl
@[simp] theorem tsz_43 : tsz Try.prog 43 = some 4 := by kernel_rfl
@[simp] theorem tzero_43 : tzero Try.prog 43 = some [.nilsl, .int .i64 0, .int .i64 0, .nilsl] := by kernel_rfl
@[simp] theorem tby_43 : tby Try.prog 43 = some 64 := by kernel_rfl
@[simp] theorem tfld_43_0 : tfld Try.prog 43 0 = some (0, 1, 22) := by kernel_rfl
@[simp] theorem tfld_43_1 : tfld Try.prog 43 1 = some (1, 1, 3) := by kernel_rfl
@[simp] theorem tfld_43_2 : tfld Try.prog 43 2 = some (2, 1, 3) := by kernel_rfl
@[simp] theorem tfld_43_3 : tfld Try.prog 43 3 = some (3, 1, 42) := by kernel_rfl
@[simp] theorem tbuild_43 : tbuild Try.prog 43 = some ([.nilsl, .int .i64 0, .int .i64 0, .nilsl], [(0, 1), (1, 1), (2, 1), (3, 1)]) := by kernel_rfl
@[simp] theorem tk_44 : tk Try.prog 44 = some (4, true) := by kernel_rfl
@[simp] theorem tsz_44 : tsz Try.prog 44 = some 4 := by kernel_rfl
@[simp] theorem tzero_44 : tzero Try.prog 44 = some [.nilsl, .int .i64 0, .int .i64 0, .nilsl] := by kernel_rfl
@[simp] theorem tby_44 : tby Try.prog 44 = some 64 := by kernel_rfl
@[simp] theorem tfld_44_0 : tfld Try.prog 44 0 = some (0, 1, 22) := by kernel_rfl
@[simp] theorem tfld_44_1 : tfld Try.prog 44 1 = some (1, 1, 3) := by kernel_rfl
@[simp] theorem tfld_44_2 : tfld Try.prog 44 2 = some (2, 1, 3) := by kernel_rfl
@[simp] theorem tfld_44_3 : tfld Try.prog 44 3 = some (3, 1, 42) := by kernel_rfl
@[simp] theorem tbuild_44 : tbuild Try.prog 44 = some ([.nilsl, .int .i64 0, .int .i64 0, .nilsl], [(0, 1), (1, 1), (2, 1), (3, 1)]) := by kernel_rfl
@[simp] theorem tk_76 : tk Try.prog 76 = some (1, false) := by kernel_rfl
@[simp] theorem tsz_76 : tsz Try.prog 76 = some 1 := by kernel_rfl
@[simp] theorem tzero_76 : tzero Try.prog 76 = some [.nilp] := by kernel_rfl
@[simp] theorem tby_76 : tby Try.prog 76 = some 8 := by kernel_rfl
@[simp] theorem tk_78 : tk Try.prog 78 = some (11, true) := by kernel_rfl
@[simp] theorem tsz_78 : tsz Try.prog 78 = some 11 := by kernel_rfl
@[simp] theorem tzero_78 : tzero Try.prog 78 = some [.int .i64 0, .nilsl, .nilsl, .nilsl, .nilsl, .nilsl, .int .i64 0, .bool false, .int .i64 0, .int .i64 0, .bool false] := by kernel_rfl
@[simp] theorem tby_78 : tby Try.prog 78 = some 168 := by kernel_rfl
@[simp] theorem tfld_78_0 : tfld Try.prog 78 0 = some (0, 9, 30) := by kernel_rfl
@[simp] theorem tfld_78_1 : tfld Try.prog 78 1 = some (9, 1, 3) := by kernel_rfl
@[simp] theorem tfld_78_2 : tfld Try.prog 78 2 = some (10, 1, 4) := by kernel_rfl
@[simp] theorem tbuild_78 : tbuild Try.prog 78 = some ([.int .i64 0, .nilsl, .nilsl, .nilsl, .nilsl, .nilsl, .int .i64 0, .bool false, .int .i64 0, .int .i64 0, .bool false], [(0, 9), (9, 1), (10, 1)]) := by kernel_rfl
@[simp] theorem tk_79 : tk Try.prog 79 = some (11, true) := by kernel_rfl
@[simp] theorem tsz_79 : tsz Try.prog 79 = some 11 := by kernel_rfl
@[simp] theorem tzero_79 : tzero Try.prog 79 = some [.int .i64 0, .nilsl, .nilsl, .nilsl, .nilsl, .nilsl, .int .i64 0, .bool false, .int .i64 0, .int .i64 0, .bool false] := by kernel_rfl
@[simp] theorem tby_79 : tby Try.prog 79 = some 168 := by kernel_rfl
@[simp] theorem tfld_79_0 : tfld Try.prog 79 0 = some (0, 9, 30) := by kernel_rfl
@[simp] theorem tfld_79_1 : tfld Try.prog 79 1 = some (9, 1, 3) := by kernel_rfl
@[simp] theorem tfld_79_2 : tfld Try.prog 79 2 = some (10, 1, 4) := by kernel_rfl
@[simp] theorem tbuild_79 : tbuild Try.prog 79 = some ([.int .i64 0, .nilsl, .nilsl, .nilsl, .nilsl, .nilsl, .int .i64 0, .bool false, .int .i64 0, .int .i64 0, .bool false], [(0, 9), (9, 1), (10, 1)]) := by kernel_rfl
@[simp] theorem tk_80 : tk Try.prog 80 = some (1, false) := by kernel_rfl
@[simp] theorem tsz_80 : tsz Try.prog 80 = some 1 := by kernel_rfl
@[simp] theorem tzero_80 : tzero Try.prog 80 = some [.nilp] := by kernel_rfl
@[simp] theorem tby_80 : tby Try.prog 80 = some 8 := by kernel_rfl
@[simp] theorem tk_83 : tk Try.prog 83 = some (8, true) := by kernel_rfl
@[simp] theorem tsz_83 : tsz Try.prog 83 = some 8 := by kernel_rfl
@[simp] theorem tzero_83 : tzero Try.prog 83 = some [.nilsl, .nilsl, .nilsl, .int .i64 0, .int .i64 0, .bool false, .int .i64 0, .nilsl] := by kernel_rfl
@[simp] theorem tby_83 : tby Try.prog 83 = some 128 := by kernel_rfl
@[simp] theorem tfld_83_0 : tfld Try.prog 83 0 = some (0, 1, 23) := by kernel_rfl
@[simp] theorem tfld_83_1 : tfld Try.prog 83 1 = some (1, 1, 22) := by kernel_rfl
@[simp] theorem tfld_83_2 : tfld Try.prog 83 2 = some (2, 1, 22) := by kernel_rfl
@[simp] theorem tfld_83_3 : tfld Try.prog 83 3 = some (3, 1, 3) := by kernel_rfl
@[simp] theorem tfld_83_4 : tfld Try.prog 83 4 = some (4, 1, 3) := by kernel_rfl
@[simp] theorem tfld_83_5 : tfld Try.prog 83 5 = some (5, 1, 4) := by kernel_rfl
@[simp] theorem tfld_83_6 : tfld Try.prog 83 6 = some (6, 1, 3) := by kernel_rfl
@[simp] theorem tfld_83_7 : tfld Try.prog 83 7 = some (7, 1, 22) := by kernel_rfl
@[simp] theorem tbuild_83 : tbuild Try.prog 83 = some ([.nilsl, .nilsl, .nilsl, .int .i64 0, .int .i64 0, .bool false, .int .i64 0, .nilsl], [(0, 1), (1, 1), (2, 1), (3, 1), (4, 1), (5, 1), (6, 1), (7, 1)]) := by kernel_rfl
@[simp] theorem tk_84 : tk Try.prog 84 = some (8, true) := by kernel_rfl
@[simp] theorem tsz_84 : tsz Try.prog 84 = some 8 := by kernel_rfl
@[simp] theorem tzero_84 : tzero Try.prog 84 = some [.nilsl, .nilsl, .nilsl, .int .i64 0, .int .i64 0, .bool false, .int .i64 0, .nilsl] := by kernel_rfl
@[simp] theorem tby_84 : tby Try.prog 84 = some 128 := by kernel_rfl
@[simp] theorem tfld_84_0 : tfld Try.prog 84 0 = some (0, 1, 23) := by kernel_rfl
@[simp] theorem tfld_84_1 : tfld Try.prog 84 1 = some (1, 1, 22) := by kernel_rfl
@[simp] theorem tfld_84_2 : tfld Try.prog 84 2 = some (2, 1, 22) := by kernel_rfl
@[simp] theorem tfld_84_3 : tfld Try.prog 84 3 = some (3, 1, 3) := by kernel_rfl
@[simp] theorem tfld_84_4 : tfld Try.prog 84 4 = some (4, 1, 3) := by kernel_rfl
@[simp] theorem tfld_84_5 : tfld Try.prog 84 5 = some (5, 1, 4) := by kernel_rfl
@[simp] theorem tfld_84_6 : tfld Try.prog 84 6 = some (6, 1, 3) := by kernel_rfl
@[simp] theorem tfld_84_7 : tfld Try.prog 84 7 = some (7, 1, 22) := by kernel_rfl
@[simp] theorem tbuild_84 : tbuild Try.prog 84 = some ([.nilsl, .nilsl, .nilsl, .int .i64 0, .int .i64 0, .bool false, .int .i64 0, .nilsl], [(0, 1), (1, 1), (2, 1), (3, 1), (4, 1), (5, 1), (6, 1), (7, 1)]) := by kernel_rfl
@[simp] theorem tk_89 : tk Try.prog 89 = some (1, false) := by kernel_rfl
@[simp] theorem tsz_89 : tsz Try.prog 89 = some 1 := by kernel_rfl
@[simp] theorem tzero_89 : tzero Try.prog 89 = some [.nilp] := by kernel_rfl
@[simp] theorem tby_89 : tby Try.prog 89 = some 8 := by kernel_rfl
@[simp] theorem tk_91 : tk Try.prog 91 = some (5, true) := by kernel_rfl
@[simp] theorem tsz_91 : tsz Try.prog 91 = some 5 := by kernel_rfl
@[simp] theorem tzero_91 : tzero Try.prog 91 = some [.int .i64 0, .int .i64 0, .int .i64 0, .int .i64 0, .int .i64 0] := by kernel_rfl
@[simp] theorem tby_91 : tby Try.prog 91 = some 40 := by kernel_rfl
@[simp] theorem tfld_91_0 : tfld Try.prog 91 0 = some (0, 1, 3) := by kernel_rfl
@[simp] theorem tfld_91_1 : tfld Try.prog 91 1 = some (1, 1, 3) := by kernel_rfl
@[simp] theorem tfld_91_2 : tfld Try.prog 91 2 = some (2, 1, 3) := by kernel_rfl
@[simp] theorem tfld_91_3 : tfld Try.prog 91 3 = some (3, 1, 3) := by kernel_rfl
@[simp] theorem tfld_91_4 : tfld Try.prog 91 4 = some (4, 1, 3) := by kernel_rfl
@[simp] theorem tbuild_91 : tbuild Try.prog 91 = some ([.int .i64 0, .int .i64 0, .int .i64 0, .int .i64 0, .int .i64 0], [(0, 1), (1, 1), (2, 1), (3, 1), (4, 1)]) := by kernel_rfl
@[simp] theorem tkinds_91 : tkinds Try.prog 91 = some [.i, .i, .i, .i, .i] := by kernel_rfl
@[simp] theorem tk_92 : tk Try.prog 92 = some (5, true) := by kernel_rfl
@[simp] theorem tsz_92 : tsz Try.prog 92 = some 5 := by kernel_rfl
@[simp] theorem tzero_92 : tzero Try.prog 92 = some [.int .i64 0, .int .i64 0, .int .i64 0, .int .i64 0, .int .i64 0] := by kernel_rfl
@[simp] theorem tby_92 : tby Try.prog 92 = some 40 := by kernel_rfl
@[simp] theorem tfld_92_0 : tfld Try.prog 92 0 = some (0, 1, 3) := by kernel_rfl
@[simp] theorem tfld_92_1 : tfld Try.prog 92 1 = some (1, 1, 3) := by kernel_rfl
@[simp] theorem tfld_92_2 : tfld Try.prog 92 2 = some (2, 1, 3) := by kernel_rfl
@[simp] theorem tfld_92_3 : tfld Try.prog 92 3 = some (3, 1, 3) := by kernel_rfl
@[simp] theorem tfld_92_4 : tfld Try.prog 92 4 = some (4, 1, 3) := by kernel_rfl
@[simp] theorem tbuild_92 : tbuild Try.prog 92 = some ([.int .i64 0, .int .i64 0, .int .i64 0, .int .i64 0, .int .i64 0], [(0, 1), (1, 1), (2, 1), (3, 1), (4, 1)]) := by kernel_rfl
@[simp] theorem tkinds_92 : tkinds Try.prog 92 = some [.i, .i, .i, .i, .i] := by kernel_rfl
@[simp] theorem tk_94 : tk Try.prog 94 = some (5, true) := by kernel_rfl
@[simp] theorem tsz_94 : tsz Try.prog 94 = some 5 := by kernel_rfl
@[simp] theorem tzero_94 : tzero Try.prog 94 = some [.int .i64 0, .int .i64 0, .int .i64 0, .int .i64 0, .int .i64 0] := by kernel_rfl
@[simp] theorem tby_94 : tby Try.prog 94 = some 40 := by kernel_rfl
@[simp] theorem tfld_94_0 : tfld Try.prog 94 0 = some (0, 1, 3) := by kernel_rfl
@[simp] theorem tfld_94_1 : tfld Try.prog 94 1 = some (1, 1, 3) := by kernel_rfl
@[simp] theorem tfld_94_2 : tfld Try.prog 94 2 = some (2, 1, 3) := by kernel_rfl
@[simp] theorem tfld_94_3 : tfld Try.prog 94 3 = some (3, 1, 3) := by kernel_rfl
@[simp] theorem tfld_94_4 : tfld Try.prog 94 4 = some (4, 1, 3) := by kernel_rfl
@[simp] theorem tbuild_94 : tbuild Try.prog 94 = some ([.int .i64 0, .int .i64 0, .int .i64 0, .int .i64 0, .int .i64 0], [(0, 1), (1, 1), (2, 1), (3, 1), (4, 1)]) := by kernel_rfl
@[simp] theorem tkinds_94 : tkinds Try.prog 94 = some [.i, .i, .i, .i, .i] := by kernel_rfl
@[simp] theorem tk_101 : tk Try.prog 101 = some (1, false) := by kernel_rfl
@[simp] theorem tsz_101 : tsz Try.prog 101 = some 1 := by kernel_rfl
@[simp] theorem tzero_101 : tzero Try.prog 101 = some [.nilsl] := by kernel_rfl
@[simp] theorem tby_101 : tby Try.prog 101 = some 24 := by kernel_rfl
@[simp] theorem telem_101 : telem Try.prog 101 = some 9 := by kernel_rfl
@[simp] theorem und_101 : Try.prog.underlying 101 = some (.slice 9) := by kernel_rfl
@[simp] theorem tk_104 : tk Try.prog 104 = some (1, false) := by kernel_rfl
@[simp] theorem tsz_104 : tsz Try.prog 104 = some 1 := by kernel_rfl
@[simp] theorem tzero_104 : tzero Try.prog 104 = some [.nilsl] := by kernel_rfl
@[simp] theorem tby_104 : tby Try.prog 104 = some 24 := by kernel_rfl
@[simp] theorem telem_104 : telem Try.prog 104 = some 119 := by kernel_rfl
@[simp] theorem und_104 : Try.prog.underlying 104 = some (.slice 119) := by kernel_rfl
@[simp] theorem tk_105 : tk Try.prog 105 = some (4, true) := by kernel_rfl
@[simp] theorem tsz_105 : tsz Try.prog 105 = some 4 := by kernel_rfl
@[simp] theorem tzero_105 : tzero Try.prog 105 = some [.nilsl, .int .i64 0, .int .i64 0, .nilsl] := by kernel_rfl
@[simp] theorem tby_105 : tby Try.prog 105 = some 64 := by kernel_rfl
@[simp] theorem tfld_105_0 : tfld Try.prog 105 0 = some (0, 1, 22) := by kernel_rfl
@[simp] theorem tfld_105_1 : tfld Try.prog 105 1 = some (1, 1, 3) := by kernel_rfl
@[simp] theorem tfld_105_2 : tfld Try.prog 105 2 = some (2, 1, 3) := by kernel_rfl
@[simp] theorem tfld_105_3 : tfld Try.prog 105 3 = some (3, 1, 104) := by kernel_rfl
@[simp] theorem tbuild_105 : tbuild Try.prog 105 = some ([.nilsl, .int .i64 0, .int .i64 0, .nilsl], [(0, 1), (1, 1), (2, 1), (3, 1)]) := by kernel_rfl
@[simp] theorem tk_106 : tk Try.prog 106 = some (4, true) := by kernel_rfl
@[simp] theorem tsz_106 : tsz Try.prog 106 = some 4 := by kernel_rfl
@[simp] theorem tzero_106 : tzero Try.prog 106 = some [.nilsl, .int .i64 0, .int .i64 0, .nilsl] := by kernel_rfl
@[simp] theorem tby_106 : tby Try.prog 106 = some 64 := by kernel_rfl
@[simp] theorem tfld_106_0 : tfld Try.prog 106 0 = some (0, 1, 22) := by kernel_rfl
@[simp] theorem tfld_106_1 : tfld Try.prog 106 1 = some (1, 1, 3) := by kernel_rfl
@[simp] theorem tfld_106_2 : tfld Try.prog 106 2 = some (2, 1, 3) := by kernel_rfl
@[simp] theorem tfld_106_3 : tfld Try.prog 106 3 = some (3, 1, 104) := by kernel_rfl
@[simp] theorem tbuild_106 : tbuild Try.prog 106 = some ([.nilsl, .int .i64 0, .int .i64 0, .nilsl], [(0, 1), (1, 1), (2, 1), (3, 1)]) := by kernel_rfl
@[simp] theorem tk_117 : tk Try.prog 117 = some (1, false) := by kernel_rfl
@[simp] theorem tsz_117 : tsz Try.prog 117 = some 1 := by kernel_rfl
@[simp] theorem tzero_117 : tzero Try.prog 117 = some [.nilsl] := by kernel_rfl
@[simp] theorem tby_117 : tby Try.prog 117 = some 24 := by kernel_rfl
@[simp] theorem telem_117 : telem Try.prog 117 = some 123 := by kernel_rfl
@[simp] theorem und_117 : Try.prog.underlying 117 = some (.slice 123) := by kernel_rfl
@[simp] theorem tk_118 : tk Try.prog 118 = some (6, true) := by kernel_rfl
@[simp] theorem tsz_118 : tsz Try.prog 118 = some 6 := by kernel_rfl
@[simp] theorem tzero_118 : tzero Try.prog 118 = some [.int .i64 0, .int .i64 0, .int .i64 0, .nilsl, .nilsl, .nilsl] := by kernel_rfl
@[simp] theorem tby_118 : tby Try.prog 118 = some 96 := by kernel_rfl
@[simp] theorem tfld_118_0 : tfld Try.prog 118 0 = some (0, 1, 3) := by kernel_rfl
@[simp] theorem tfld_118_1 : tfld Try.prog 118 1 = some (1, 1, 3) := by kernel_rfl
@[simp] theorem tfld_118_2 : tfld Try.prog 118 2 = some (2, 1, 3) := by kernel_rfl
@[simp] theorem tfld_118_3 : tfld Try.prog 118 3 = some (3, 1, 117) := by kernel_rfl
@[simp] theorem tfld_118_4 : tfld Try.prog 118 4 = some (4, 1, 104) := by kernel_rfl
@[simp] theorem tfld_118_5 : tfld Try.prog 118 5 = some (5, 1, 104) := by kernel_rfl
@[simp] theorem tbuild_118 : tbuild Try.prog 118 = some ([.int .i64 0, .int .i64 0, .int .i64 0, .nilsl, .nilsl, .nilsl], [(0, 1), (1, 1), (2, 1), (3, 1), (4, 1), (5, 1)]) := by kernel_rfl
@[simp] theorem tk_119 : tk Try.prog 119 = some (6, true) := by kernel_rfl
@[simp] theorem tsz_119 : tsz Try.prog 119 = some 6 := by kernel_rfl
@[simp] theorem tzero_119 : tzero Try.prog 119 = some [.int .i64 0, .int .i64 0, .int .i64 0, .nilsl, .nilsl, .nilsl] := by kernel_rfl
@[simp] theorem tby_119 : tby Try.prog 119 = some 96 := by kernel_rfl
@[simp] theorem tfld_119_0 : tfld Try.prog 119 0 = some (0, 1, 3) := by kernel_rfl
@[simp] theorem tfld_119_1 : tfld Try.prog 119 1 = some (1, 1, 3) := by kernel_rfl
@[simp] theorem tfld_119_2 : tfld Try.prog 119 2 = some (2, 1, 3) := by kernel_rfl
@[simp] theorem tfld_119_3 : tfld Try.prog 119 3 = some (3, 1, 117) := by kernel_rfl
@[simp] theorem tfld_119_4 : tfld Try.prog 119 4 = some (4, 1, 104) := by kernel_rfl
@[simp] theorem tfld_119_5 : tfld Try.prog 119 5 = some (5, 1, 104) := by kernel_rfl
@[simp] theorem tbuild_119 : tbuild Try.prog 119 = some ([.int .i64 0, .int .i64 0, .int .i64 0, .nilsl, .nilsl, .nilsl], [(0, 1), (1, 1), (2, 1), (3, 1), (4, 1), (5, 1)]) := by kernel_rfl
@[simp] theorem tk_122 : tk Try.prog 122 = some (5, true) := by kernel_rfl
@[simp] theorem tsz_122 : tsz Try.prog 122 = some 5 := by kernel_rfl
@[simp] theorem tzero_122 : tzero Try.prog 122 = some [.int .i64 0, .int .i64 0, .int .i64 0, .str ByteArray.empty, .nilsl] := by kernel_rfl
@[simp] theorem tby_122 : tby Try.prog 122 = some 64 := by kernel_rfl
@[simp] theorem tfld_122_0 : tfld Try.prog 122 0 = some (0, 1, 3) := by kernel_rfl
@[simp] theorem tfld_122_1 : tfld Try.prog 122 1 = some (1, 1, 3) := by kernel_rfl
@[simp] theorem tfld_122_2 : tfld Try.prog 122 2 = some (2, 1, 3) := by kernel_rfl
@[simp] theorem tfld_122_3 : tfld Try.prog 122 3 = some (3, 1, 9) := by kernel_rfl
@[simp] theorem tfld_122_4 : tfld Try.prog 122 4 = some (4, 1, 117) := by kernel_rfl
@[simp] theorem tbuild_122 : tbuild Try.prog 122 = some ([.int .i64 0, .int .i64 0, .int .i64 0, .str ByteArray.empty, .nilsl], [(0, 1), (1, 1), (2, 1), (3, 1), (4, 1)]) := by kernel_rfl
@[simp] theorem tk_123 : tk Try.prog 123 = some (5, true) := by kernel_rfl
@[simp] theorem tsz_123 : tsz Try.prog 123 = some 5 := by kernel_rfl
@[simp] theorem tzero_123 : tzero Try.prog 123 = some [.int .i64 0, .int .i64 0, .int .i64 0, .str ByteArray.empty, .nilsl] := by kernel_rfl
@[simp] theorem tby_123 : tby Try.prog 123 = some 64 := by kernel_rfl
@[simp] theorem tfld_123_0 : tfld Try.prog 123 0 = some (0, 1, 3) := by kernel_rfl
@[simp] theorem tfld_123_1 : tfld Try.prog 123 1 = some (1, 1, 3) := by kernel_rfl
@[simp] theorem tfld_123_2 : tfld Try.prog 123 2 = some (2, 1, 3) := by kernel_rfl
@[simp] theorem tfld_123_3 : tfld Try.prog 123 3 = some (3, 1, 9) := by kernel_rfl
@[simp] theorem tfld_123_4 : tfld Try.prog 123 4 = some (4, 1, 117) := by kernel_rfl
@[simp] theorem tbuild_123 : tbuild Try.prog 123 = some ([.int .i64 0, .int .i64 0, .int .i64 0, .str ByteArray.empty, .nilsl], [(0, 1), (1, 1), (2, 1), (3, 1), (4, 1)]) := by kernel_rfl
@[simp] theorem tk_131 : tk Try.prog 131 = some (4, true) := by kernel_rfl
@[simp] theorem tsz_131 : tsz Try.prog 131 = some 4 := by kernel_rfl
@[simp] theorem tzero_131 : tzero Try.prog 131 = some [.nilp, .nilp, .nilp, .str ByteArray.empty] := by kernel_rfl
@[simp] theorem tby_131 : tby Try.prog 131 = some 40 := by kernel_rfl
@[simp] theorem tfld_131_0 : tfld Try.prog 131 0 = some (0, 1, 17) := by kernel_rfl
@[simp] theorem tfld_131_1 : tfld Try.prog 131 1 = some (1, 1, 17) := by kernel_rfl
@[simp] theorem tfld_131_2 : tfld Try.prog 131 2 = some (2, 1, 17) := by kernel_rfl
@[simp] theorem tfld_131_3 : tfld Try.prog 131 3 = some (3, 1, 9) := by kernel_rfl
@[simp] theorem tbuild_131 : tbuild Try.prog 131 = some ([.nilp, .nilp, .nilp, .str ByteArray.empty], [(0, 1), (1, 1), (2, 1), (3, 1)]) := by kernel_rfl
@[simp] theorem tk_132 : tk Try.prog 132 = some (4, true) := by kernel_rfl
@[simp] theorem tsz_132 : tsz Try.prog 132 = some 4 := by kernel_rfl
@[simp] theorem tzero_132 : tzero Try.prog 132 = some [.nilp, .nilp, .nilp, .str ByteArray.empty] := by kernel_rfl
@[simp] theorem tby_132 : tby Try.prog 132 = some 40 := by kernel_rfl
@[simp] theorem tfld_132_0 : tfld Try.prog 132 0 = some (0, 1, 17) := by kernel_rfl
@[simp] theorem tfld_132_1 : tfld Try.prog 132 1 = some (1, 1, 17) := by kernel_rfl
@[simp] theorem tfld_132_2 : tfld Try.prog 132 2 = some (2, 1, 17) := by kernel_rfl
@[simp] theorem tfld_132_3 : tfld Try.prog 132 3 = some (3, 1, 9) := by kernel_rfl
@[simp] theorem tbuild_132 : tbuild Try.prog 132 = some ([.nilp, .nilp, .nilp, .str ByteArray.empty], [(0, 1), (1, 1), (2, 1), (3, 1)]) := by kernel_rfl
@[simp] theorem tk_133 : tk Try.prog 133 = some (0, true) := by kernel_rfl
@[simp] theorem tsz_133 : tsz Try.prog 133 = some 0 := by kernel_rfl
@[simp] theorem tzero_133 : tzero Try.prog 133 = some [] := by kernel_rfl
@[simp] theorem tby_133 : tby Try.prog 133 = some 0 := by kernel_rfl
@[simp] theorem tk_134 : tk Try.prog 134 = some (0, true) := by kernel_rfl
@[simp] theorem tsz_134 : tsz Try.prog 134 = some 0 := by kernel_rfl
@[simp] theorem tzero_134 : tzero Try.prog 134 = some [] := by kernel_rfl
@[simp] theorem tby_134 : tby Try.prog 134 = some 0 := by kernel_rfl
@[simp] theorem tfld_134_0 : tfld Try.prog 134 0 = some (0, 0, 133) := by kernel_rfl
@[simp] theorem tbuild_134 : tbuild Try.prog 134 = some ([], [(0, 0)]) := by kernel_rfl
@[simp] theorem tk_135 : tk Try.prog 135 = some (0, true) := by kernel_rfl
@[simp] theorem tsz_135 : tsz Try.prog 135 = some 0 := by kernel_rfl
@[simp] theorem tzero_135 : tzero Try.prog 135 = some [] := by kernel_rfl
@[simp] theorem tby_135 : tby Try.prog 135 = some 0 := by kernel_rfl
@[simp] theorem tfld_135_0 : tfld Try.prog 135 0 = some (0, 0, 133) := by kernel_rfl
@[simp] theorem tbuild_135 : tbuild Try.prog 135 = some ([], [(0, 0)]) := by kernel_rfl
@[simp] theorem tk_137 : tk Try.prog 137 = some (1, false) := by kernel_rfl
@[simp] theorem tsz_137 : tsz Try.prog 137 = some 1 := by kernel_rfl
@[simp] theorem tzero_137 : tzero Try.prog 137 = some [.int .u32 0] := by kernel_rfl
@[simp] theorem tby_137 : tby Try.prog 137 = some 4 := by kernel_rfl
@[simp] theorem und_137 : Try.prog.underlying 137 = some (.int .u32) := by kernel_rfl
@[simp] theorem tk_138 : tk Try.prog 138 = some (1, false) := by kernel_rfl
@[simp] theorem tsz_138 : tsz Try.prog 138 = some 1 := by kernel_rfl
@[simp] theorem tzero_138 : tzero Try.prog 138 = some [.int .u8 0] := by kernel_rfl
@[simp] theorem tby_138 : tby Try.prog 138 = some 1 := by kernel_rfl
@[simp] theorem und_138 : Try.prog.underlying 138 = some (.int .u8) := by kernel_rfl
@[simp] theorem tk_139 : tk Try.prog 139 = some (1, false) := by kernel_rfl
@[simp] theorem tsz_139 : tsz Try.prog 139 = some 1 := by kernel_rfl
@[simp] theorem tzero_139 : tzero Try.prog 139 = some [.int .u8 0] := by kernel_rfl
@[simp] theorem tby_139 : tby Try.prog 139 = some 1 := by kernel_rfl
@[simp] theorem und_139 : Try.prog.underlying 139 = some (.int .u8) := by kernel_rfl
@[simp] theorem tk_141 : tk Try.prog 141 = some (1, false) := by kernel_rfl
@[simp] theorem tsz_141 : tsz Try.prog 141 = some 1 := by kernel_rfl
@[simp] theorem tzero_141 : tzero Try.prog 141 = some [.nilp] := by kernel_rfl
@[simp] theorem tby_141 : tby Try.prog 141 = some 8 := by kernel_rfl
@[simp] theorem tk_142 : tk Try.prog 142 = some (1, false) := by kernel_rfl
@[simp] theorem tsz_142 : tsz Try.prog 142 = some 1 := by kernel_rfl
@[simp] theorem tzero_142 : tzero Try.prog 142 = some [.int .i32 0] := by kernel_rfl
@[simp] theorem tby_142 : tby Try.prog 142 = some 4 := by kernel_rfl
@[simp] theorem und_142 : Try.prog.underlying 142 = some (.int .i32) := by kernel_rfl
@[simp] theorem tk_143 : tk Try.prog 143 = some (1, false) := by kernel_rfl
@[simp] theorem tsz_143 : tsz Try.prog 143 = some 1 := by kernel_rfl
@[simp] theorem tzero_143 : tzero Try.prog 143 = some [.int .i32 0] := by kernel_rfl
@[simp] theorem tby_143 : tby Try.prog 143 = some 4 := by kernel_rfl
@[simp] theorem und_143 : Try.prog.underlying 143 = some (.int .i32) := by kernel_rfl
@[simp] theorem tk_146 : tk Try.prog 146 = some (1, false) := by kernel_rfl
@[simp] theorem tsz_146 : tsz Try.prog 146 = some 1 := by kernel_rfl
@[simp] theorem tzero_146 : tzero Try.prog 146 = some [.nilp] := by kernel_rfl
@[simp] theorem tby_146 : tby Try.prog 146 = some 8 := by kernel_rfl
theorem mixed : Try.prog.follows .mixedOrders = true := by kernel_rfl
theorem laid : laidOutB Try.prog = true := by kernel_rfl
end Go.Proofs.Ytfgaoojogididaa.AM

/-
  Whole numbers in slices, and slices of such: their sizes, copies, marks.
-/
set_option linter.unusedVariables false
set_option linter.unusedSimpArgs false
set_option maxRecDepth 4000
namespace Go.Proofs.Ytfgaoojogididaa.AM
open Go.RowKit

private def MU1 : FuncId → Mode := fun f => if f = 27 then .fresh else if f = 33 then .heap else .tree

theorem wrap_id {n : Int} (h1 : -9223372036854775808 ≤ n) (h2 : n ≤ 9223372036854775807) : IntKind.i64.wrap n = n := by
  simp [IntKind.wrap, IntKind.bits, IntKind.signed]
  omega
def marks (k : Int) (n : Nat) : List Int := (List.range n).map fun (i : Nat) => k + (i : Int)
theorem marks_length (k : Int) (n : Nat) : (marks k n).length = n := by simp [marks]
theorem marks_get {k : Int} {n i : Nat} (h : i < n) : (marks k n)[i]? = some (k + i) := by simp [marks, h]

theorem szIntS (xs : List Int) (left : Int) (h1 : 0 ≤ left) (h2 : left ≤ 2 ^ 20) (hm : xs.length ≤ maxLen) : Pure Try.prog 46 [ints true xs, .int .i64 left] (.int .i64 (if left < xs.length then -1 else left - xs.length)) := by
  intro T
  have hw : IntKind.i64.wrap (left - xs.length) = left - xs.length := wrap_id (by simp [maxLen] at hm; omega) (by omega)
  refine enter mixed MU1 Try.func46 rfl (by kernel_rfl) rfl ?_
  repeat' (first
   | with_reducible refine stp ?_
   | with_reducible refine k_blk_o rfl ?_
   | with_reducible refine k_seq_n ?_
   | ((try (conv => arg 1; simp [ints, hw])); with_reducible refine evp ?_)
   | ((with_reducible first | refine gd_b (fun hb => ?_) (fun hb => ?_) | refine br_b (fun hb => ?_) (fun hb => ?_)) <;> ((try simp only [Bool.not_eq_eq_eq_not, Bool.not_true, Bool.not_false] at hb); (try simp only [hb]); (try simp at hb)))
   | ((with_reducible refine apn ?na ?_); (case na => simp [appNames, ints, intss] <;> first | kernel_rfl | (refine ⟨?_, ?_⟩ <;> kernel_rfl)))
   | fail)
  · have : left < xs.length := by omega
    rw [if_pos this]; exact .int _ _
  · have : ¬ left < xs.length := by omega
    rw [if_neg this]; exact .int _ _

theorem toIntS (xs : List Int) (hl : xs.length ≤ 2 ^ 20) : Fresh Try.prog 27 [ints true xs] (fun c => ints c xs) := by
  intro T
  have hl2 : (xs.length : Int) ≤ 4294967296 := by omega
  refine enter mixed MU1 Try.func27 rfl (by kernel_rfl) rfl ?_
  repeat' (first
   | with_reducible refine stp ?_
   | with_reducible refine k_blk_o rfl ?_
   | with_reducible refine k_seq_n ?_
   | ((try (conv => arg 1; simp [ints, hl2])); with_reducible refine evp ?_)
   | ((with_reducible refine apn ?na ?_); (case na => simp [appNames, ints, intss] <;> first | kernel_rfl | (refine ⟨?_, ?_⟩ <;> kernel_rfl)))
   | fail)
  refine st_loop (fun (i : Nat) σ h => i ≤ xs.length ∧ σ 0 = ints true xs ∧ σ 3 = .sl (T + 1, 2, 0) 0 0 xs.length ∧ σ 4 = .int .i64 i ∧ T + 1 < h.tick ∧ ∃ ys : List Int, ys.length = xs.length ∧ ys.take i = xs.take i ∧ h.rows (T + 1, 2, 0) = some ⟨0, 1, ys.map fun n => [.int .i64 n]⟩) (fun i => xs.length - i) 0 ?init ?step
  case init =>
    simp [putA_get, envOf_0, hp_next_tick, hp_next_rows, hp_put_tick, hp_mt_tick, hp_rows_put]
    exact ⟨List.replicate xs.length 0, by simp, by simp⟩
  case step =>
    rintro i σ h ⟨hi, h0, h3, h4, ht, ys, hy, hyi, hr⟩
    repeat' (first
     | with_reducible refine stp ?_
     | with_reducible refine k_blk_o rfl ?_
     | with_reducible refine k_seq_n ?_
     | ((try (conv => arg 1; simp [ints, h0, h3, h4, hr])); with_reducible refine evp ?_)
     | ((with_reducible refine apn ?na ?_); (case na => simp [appNames, ints, intss] <;> first | kernel_rfl | (refine ⟨?_, ?_⟩ <;> kernel_rfl)))
     | fail)
    (try with_reducible refine st_if ?_)
    (try (conv => arg 1; simp [h0]))
    (try with_reducible refine at_mk ?_)
    refine ⟨fun hb => ?_, fun hb => ?_⟩
    · have hlt : i < xs.length := by simpa using hb
      have hx : xs[i]? = some (xs[i]) := by simp
      have hy2 : ys[i]? = some (ys[i]'(by omega)) := by simp
      have ht2 : T + 1 < h.tick + 1 + 1 := by omega
      have hw : IntKind.i64.wrap (i + 1) = i + 1 := wrap_id (by omega) (by omega)
      repeat' (first
       | with_reducible refine stp ?_
       | with_reducible refine k_blk_o rfl ?_
       | with_reducible refine k_seq_n ?_
       | ((try (conv => arg 1; simp [ints, h0, h3, h4, hr, hlt, hx, hy2, ht2, hw])); with_reducible refine evp ?_)
       | ((with_reducible refine apn ?na ?_); (case na => simp [appNames, ints, intss] <;> first | kernel_rfl | (refine ⟨?_, ?_⟩ <;> kernel_rfl)))
       | fail)
      refine k_lp_n (i + 1) (by omega) ⟨by omega, by simp [putA_get, putA_none, h0], by simp [putA_get, putA_none, h3], by simp [putA_get, putA_none, h4], by simp [hp_next_tick, hp_put_tick, hp_mt_tick]; omega, ys.set i xs[i], by simp [hy], ?_, ?_⟩
      · rw [List.take_add_one, List.take_add_one]
        simp [hyi, hy, hlt, List.take_set_of_le]
      · simp [hp_next_rows, hp_rows_put]
    · have hge : i = xs.length := by simp at hb; omega
      repeat' (first
       | with_reducible refine stp ?_
       | with_reducible refine k_blk_o rfl ?_
       | with_reducible refine k_seq_n ?_
       | ((try (conv => arg 1; simp [h0, h3, h4, hr])); with_reducible refine evp ?_)
       | ((with_reducible refine apn ?na ?_); (case na => simp [appNames, ints, intss] <;> first | kernel_rfl | (refine ⟨?_, ?_⟩ <;> kernel_rfl)))
       | fail)
      refine ⟨by simp [hp_next_tick]; omega, [(T + 1, 2, 0)], fun c => .one ?_, by simp, by simp [hp_next_tick]; omega⟩
      simp [resV]
      refine own_ints (by simpa [hp_next_rows] using hr) ?_ rfl
      subst hge
      rw [hyi]; simp

theorem eqIntS (xs : List Int) (hl : xs.length ≤ 2 ^ 62) : Pure Try.prog 29 [ints true xs, ints true xs] (.bool true) := by
  intro T
  refine enter mixed MU1 Try.func29 rfl (by kernel_rfl) rfl ?_
  repeat' (first
   | with_reducible refine stp ?_
   | with_reducible refine k_blk_o rfl ?_
   | with_reducible refine k_seq_n ?_
   | ((try (conv => arg 1; simp [ints])); with_reducible refine evp ?_)
   | ((with_reducible refine apn ?na ?_); (case na => simp [appNames, ints, intss] <;> first | kernel_rfl | (refine ⟨?_, ?_⟩ <;> kernel_rfl)))
   | fail)
  repeat' (first
   | with_reducible refine stp ?_
   | with_reducible refine k_blk_o rfl ?_
   | with_reducible refine k_seq_n ?_
   | ((try (conv => arg 1; simp [ints])); with_reducible refine evp ?_)
   | ((with_reducible refine apn ?na ?_); (case na => simp [appNames, ints, intss] <;> first | kernel_rfl | (refine ⟨?_, ?_⟩ <;> kernel_rfl)))
   | fail)
  refine st_loop (fun (i : Nat) σ h => i ≤ xs.length ∧ σ 0 = ints true xs ∧ σ 1 = ints true xs ∧ σ 5 = .int .i64 i) (fun i => xs.length - i) 0 ?init ?step
  case init =>
    simp [putA_get, envOf_0, envOf_1]
  case step =>
    rintro i σ h ⟨hi, h0, h1, h5⟩
    repeat' (first
     | with_reducible refine stp ?_
     | with_reducible refine k_blk_o rfl ?_
     | with_reducible refine k_seq_n ?_
     | ((try (conv => arg 1; simp [ints, h0, h5])); with_reducible refine evp ?_)
     | ((with_reducible refine apn ?na ?_); (case na => simp [appNames, ints, intss] <;> first | kernel_rfl | (refine ⟨?_, ?_⟩ <;> kernel_rfl)))
     | fail)
    (try with_reducible refine st_if ?_)
    (try (conv => arg 1; simp [ints]))
    (try with_reducible refine at_mk ?_)
    refine ⟨fun hb => ?_, fun hb => ?_⟩
    · have hlt : i < xs.length := by simpa using hb
      have hx : xs[i]? = some (xs[i]) := by simp
      have hw : IntKind.i64.wrap (i + 1) = i + 1 := wrap_id (by omega) (by omega)
      repeat' (first
       | with_reducible refine stp ?_
       | with_reducible refine k_blk_o rfl ?_
       | with_reducible refine k_seq_n ?_
       | ((try (conv => arg 1; simp [ints])); with_reducible refine evp ?_)
       | ((with_reducible refine apn ?na ?_); (case na => simp [appNames, ints, intss] <;> first | kernel_rfl | (refine ⟨?_, ?_⟩ <;> kernel_rfl)))
       | fail)
      repeat (with_reducible first | refine stp ?_ | refine k_seq_n ?_)
      refine st_draw 9 (fun _ => false) (by kernel_rfl) ?_
      simp only [List.take_succ_cons, List.take_zero, List.drop_succ_cons, List.drop_zero, List.take_nil, List.drop_nil]
      repeat' (first
       | with_reducible refine stp ?_
       | with_reducible refine k_blk_o rfl ?_
       | with_reducible refine k_seq_n ?_
       | ((try (conv => arg 1; simp [ints, h0, h1, h5, hx, hw])); with_reducible refine evp ?_)
       | ((with_reducible refine apn ?na ?_); (case na => simp [appNames, ints, intss] <;> first | kernel_rfl | (refine ⟨?_, ?_⟩ <;> kernel_rfl)))
       | fail)
      repeat' (first
       | with_reducible refine stp ?_
       | with_reducible refine k_blk_o rfl ?_
       | with_reducible refine k_seq_n ?_
       | ((try (conv => arg 1; simp [h5, hw])); with_reducible refine evp ?_)
       | ((with_reducible refine apn ?na ?_); (case na => simp [appNames, ints, intss] <;> first | kernel_rfl | (refine ⟨?_, ?_⟩ <;> kernel_rfl)))
       | fail)
      refine k_lp_n (i + 1) (by omega) ⟨by omega, by simp [putA_get, putA_none, h0], by simp [putA_get, putA_none, h1], by simp [putA_get, putA_none, h5]⟩
    · skip
      repeat' (first
       | with_reducible refine stp ?_
       | with_reducible refine k_blk_o rfl ?_
       | with_reducible refine k_seq_n ?_
       | ((try (conv => arg 1; simp [ints])); with_reducible refine evp ?_)
       | ((with_reducible refine apn ?na ?_); (case na => simp [appNames, ints, intss] <;> first | kernel_rfl | (refine ⟨?_, ?_⟩ <;> kernel_rfl)))
       | fail)
      exact .bool true

theorem heldIntS (n : Nat) (k : Int) (hk : 0 ≤ k) (hl : k + n ≤ 2 ^ 62) : Pure Try.prog 39 [ints true (marks k n), .int .i64 k] (.int .i64 (k + n)) := by
  intro T
  refine enter mixed MU1 Try.func39 rfl (by kernel_rfl) rfl ?_
  repeat' (first
   | with_reducible refine stp ?_
   | with_reducible refine k_blk_o rfl ?_
   | with_reducible refine k_seq_n ?_
   | ((try (conv => arg 1; simp [ints])); with_reducible refine evp ?_)
   | ((with_reducible refine apn ?na ?_); (case na => simp [appNames, ints, intss] <;> first | kernel_rfl | (refine ⟨?_, ?_⟩ <;> kernel_rfl)))
   | fail)
  refine st_loop (fun (i : Nat) σ h => i ≤ n ∧ σ 0 = ints true (marks k n) ∧ σ 1 = .int .i64 (k + i) ∧ σ 5 = .int .i64 i) (fun i => n - i) 0 ?init ?step
  case init =>
    simp [putA_get, envOf_0, envOf_1]
  case step =>
    rintro i σ h ⟨hi, h0, h1, h5⟩
    repeat' (first
     | with_reducible refine stp ?_
     | with_reducible refine k_blk_o rfl ?_
     | with_reducible refine k_seq_n ?_
     | ((try (conv => arg 1; simp [ints, h0, h5, marks_length])); with_reducible refine evp ?_)
     | ((with_reducible refine apn ?na ?_); (case na => simp [appNames, ints, intss] <;> first | kernel_rfl | (refine ⟨?_, ?_⟩ <;> kernel_rfl)))
     | fail)
    (try with_reducible refine st_if ?_)
    (try (conv => arg 1; simp [ints]))
    (try with_reducible refine at_mk ?_)
    refine ⟨fun hb => ?_, fun hb => ?_⟩
    · have hlt : i < n := by simpa using hb
      have hw : IntKind.i64.wrap (i + 1) = i + 1 := wrap_id (by omega) (by omega)
      have hw2 : IntKind.i64.wrap (k + i + 1) = k + i + 1 := wrap_id (by omega) (by omega)
      repeat' (first
       | with_reducible refine stp ?_
       | with_reducible refine k_blk_o rfl ?_
       | with_reducible refine k_seq_n ?_
       | ((try (conv => arg 1; simp [ints, h0, h1, h5, hlt, marks_get hlt, hw, hw2])); with_reducible refine evp ?_)
       | ((with_reducible refine apn ?na ?_); (case na => simp [appNames, ints, intss] <;> first | kernel_rfl | (refine ⟨?_, ?_⟩ <;> kernel_rfl)))
       | fail)
      repeat' (first
       | with_reducible refine stp ?_
       | with_reducible refine k_blk_o rfl ?_
       | with_reducible refine k_seq_n ?_
       | ((try (conv => arg 1; simp [h1, h5, hw, hw2])); with_reducible refine evp ?_)
       | ((with_reducible refine apn ?na ?_); (case na => simp [appNames, ints, intss] <;> first | kernel_rfl | (refine ⟨?_, ?_⟩ <;> kernel_rfl)))
       | fail)
      refine k_lp_n (i + 1) (by omega) ⟨by omega, by simp [putA_get, putA_none, h0], by simp [putA_get, putA_none, h1]; omega, by simp [putA_get, putA_none, h5]⟩
    · have : i = n := by simp at hb; omega
      subst this
      repeat' (first
       | with_reducible refine stp ?_
       | with_reducible refine k_blk_o rfl ?_
       | with_reducible refine k_seq_n ?_
       | ((try (conv => arg 1; simp [ints, h1])); with_reducible refine evp ?_)
       | ((with_reducible refine apn ?na ?_); (case na => simp [appNames, ints, intss] <;> first | kernel_rfl | (refine ⟨?_, ?_⟩ <;> kernel_rfl)))
       | fail)
      exact .int _ _

/-- What owns a slice of whole numbers. -/
theorem own_ints_inv {rows : Nm → Option Row} {a : AV} {xs : List Int} {ns : List Nm} (h : Own rows true [a] [ints true xs] ns) :
    (xs = [] ∧ (∀ c, Own rows c [a] [ints c []] ns) ∧ ((a = .nilsl ∧ ns = []) ∨ ∃ n ver off, a = .sl n ver off 0 ∧ ns = [n])) ∨
    (∃ n ver pre sp, a = .sl n ver pre.length xs.length ∧ ns = [n] ∧ rows n = some ⟨ver, 1, pre ++ ((xs.map fun x => [.int .i64 x]) ++ sp)⟩ ∧ (∀ e ∈ pre, e.length = 1) ∧ (∀ e ∈ sp, e.length = 1) ∧ ClRow ⟨ver, 1, pre⟩ ∧ ClRow ⟨ver, 1, sp⟩) := by
  unfold ints at h
  generalize hm : (xs.map fun n => [AV.int .i64 n]) = tm at h
  cases h with
  | nilsl h =>
    cases h
    exact .inl ⟨by simpa using hm, fun c => .nilsl .nil, .inl ⟨rfl, rfl⟩⟩
  | @sl _ _ ns1 ns2 n ver len s r _ h1 h2 h3 h4 h5 h6 h7 h8 h9 h10 =>
    cases h10
    have flat : ∀ (ys : List Int) (bs : List AV) (ns : List Nm), Own rows true bs (ys.map fun n => [AV.int .i64 n]).flatten ns → ns = [] ∧ bs = (ys.map fun n => [AV.int .i64 n]).flatten := by
      intro ys
      induction ys with
      | nil => intro bs ns h; cases h; exact ⟨rfl, rfl⟩
      | cons y ys ih =>
        intro bs ns h
        simp only [List.map_cons, List.flatten_cons, List.cons_append, List.nil_append] at h
        cases h with
        | int _ _ h => obtain ⟨e1, e2⟩ := ih _ _ h; exact ⟨e1, by simp [e2]⟩
    subst hm
    obtain ⟨e1, e2⟩ := flat xs _ _ h9
    subst e1
    have hlen : xs.length = len := by simpa using h7
    cases xs with
    | nil =>
      left
      simp at hlen
      subst hlen
      exact ⟨rfl, fun c => .sl n ver 0 s r [] h1 h2 h3 h4 h5 h6 rfl (by simp) (by simpa using Own.nil) .nil, .inr ⟨n, ver, 0, rfl, by simp⟩⟩
    | cons x xs =>
      right
      have hs : s = 1 := by
        have := h8 [.int .i64 x] (by simp)
        simpa using this.symm
      subst hs
      have key : ∀ (l : List (List AV)) (ys : List Int), (∀ e ∈ l, e.length = 1) → l.flatten = (ys.map fun n => [AV.int .i64 n]).flatten → l = ys.map fun n => [AV.int .i64 n] := by
        intro l
        induction l with
        | nil => intro ys _ he; cases ys with
          | nil => rfl
          | cons _ _ => simp at he
        | cons e l ih =>
          intro ys hl he
          have h1 := hl e (by simp)
          match e, h1 with
          | [v], _ =>
            cases ys with
            | nil => simp at he
            | cons y ys =>
              simp only [List.flatten_cons, List.map_cons, List.cons_append, List.nil_append, List.cons.injEq] at he
              rw [he.1, ih ys (fun e he => hl e (by simp [he])) he.2]
              rfl
      have e3 := key _ (x :: xs) (fun e he => h6 e (List.mem_of_mem_take he)) e2
      obtain ⟨ver', esz', elems⟩ := r
      simp only at h2 h3 e3 h6 h4 h5
      subst h2 h3
      refine ⟨n, ver', [], elems.drop len, by rw [hlen]; rfl, by simp, ?_, by simp, fun e he => h6 e (List.mem_of_mem_drop he), fun i e j x he hx => by simp at he, fun i e j x he hx => ?_⟩
      · rw [h1, List.nil_append, ← e3, List.take_append_drop]
      · refine h4 (len + i) e j x ?_ hx
        simpa [List.getElem?_drop] using he
  | slo n ver pre sp ys h1 h2 h3 h4 h5 h6 =>
    cases h6
    have hxy : ys = xs := by
      have h7 := congrArg (List.map fun l : List AV => match l with | [AV.int _ z] => z | _ => 0) hm
      simp only [List.map_map] at h7
      have e : ((fun l : List AV => match l with | [AV.int _ z] => z | _ => 0) ∘ fun n : Int => [AV.int IntKind.i64 n]) = id := funext fun z => rfl
      rw [e, List.map_id, List.map_id] at h7
      exact h7.symm
    subst hxy
    cases ys with
    | nil => exact .inl ⟨rfl, fun c => .slo n ver pre sp [] h1 h2 h3 h4 h5 .nil, .inr ⟨n, ver, _, rfl, rfl⟩⟩
    | cons y ys => exact .inr ⟨n, ver, pre, sp, rfl, rfl, h1, h4, h5, h2, h3⟩

theorem own_ints_mk {rows : Nm → Option Row} {n : Nm} {ver : Nat} {xs : List Int} {pre sp : List (List AV)} (h : rows n = some ⟨ver, 1, pre ++ ((xs.map fun x => [.int .i64 x]) ++ sp)⟩) (h0 : ∀ e ∈ pre, e.length = 1) (h1 : ∀ e ∈ sp, e.length = 1) (h3 : ClRow ⟨ver, 1, pre⟩) (h2 : ClRow ⟨ver, 1, sp⟩) {c : Bool} : Own rows c [.sl n ver pre.length xs.length] [ints c xs] [n] :=
  .slo n ver pre sp xs h h3 h2 h0 h1 .nil

theorem mid_get {α : Type} {pre l sp : List α} {i : Nat} (hi : i < l.length) : (pre ++ (l ++ sp))[pre.length + i]? = l[i]? := by
  rw [List.getElem?_append_right (by omega), Nat.add_sub_cancel_left, List.getElem?_append_left hi]
theorem mid_set {α : Type} {pre l sp : List α} {i : Nat} {e : α} (hi : i < l.length) : (pre ++ (l ++ sp)).set (pre.length + i) e = pre ++ (l.set i e ++ sp) := by
  rw [List.set_append, if_neg (by omega), Nat.add_sub_cancel_left, List.set_append, if_pos hi]

/-- Marked: the rows are the same ones, what they hold are marks. -/
theorem markIntS {h : Hp} {a : AV} {xs : List Int} {ns : List Nm} (ho : Own h.rows true [a] [ints true xs] ns) (hns : ∀ n ∈ ns, n.1 < h.tick) (k : Int) (hk : 0 ≤ k) (hl : k + xs.length ≤ 2 ^ 62) :
    Sound Try.prog 33 [a, .int .i64 k] h fun v h' => v = .int .i64 (k + xs.length) ∧ (∀ c, Own h'.rows c [a] [ints c (marks k xs.length)] ns) ∧ (∀ n, n ∉ ns → h'.rows n = h.rows n) ∧ h.tick ≤ h'.tick := by
  rcases own_ints_inv ho with ⟨rfl, hc, hx⟩ | ⟨n, ver, pre, sp, rfl, rfl, hr, hpr, hsp, hcp, hcl⟩
  · rcases hx with ⟨rfl, rfl⟩ | ⟨n, ver, off, rfl, rfl⟩
    all_goals
      refine enter mixed MU1 Try.func33 rfl (by kernel_rfl) rfl ?_
      repeat' (first
       | with_reducible refine stp ?_
       | with_reducible refine k_blk_o rfl ?_
       | with_reducible refine k_seq_n ?_
       | ((try (conv => arg 1; simp [ints])); with_reducible refine evp ?_)
       | ((with_reducible refine apn ?na ?_); (case na => simp [appNames, ints, intss] <;> first | kernel_rfl | (refine ⟨?_, ?_⟩ <;> kernel_rfl)))
       | fail)
      refine st_loop (fun (i : Nat) σ h' => (∃ a, (a = .nilsl ∨ ∃ n ver off, a = .sl n ver off 0) ∧ σ 0 = a) ∧ σ 1 = .int .i64 k ∧ σ 5 = .int .i64 0 ∧ h'.rows = h.rows ∧ h.tick ≤ h'.tick) (fun i => 0) 0 ?init ?step
      case init =>
        refine ⟨⟨_, ?_, rfl⟩, by simp [putA_get, envOf_1], by simp [putA_get, opd, avc, avc1], by simp [hp_next_rows], by simp [hp_next_tick] <;> omega⟩
        simp [putA_get, envOf_0]
      case step =>
        rintro i σ h' ⟨⟨a, ha, h0⟩, h1, h5, h6, h7⟩
        rcases ha with rfl | ⟨n, ver, off, rfl⟩
        all_goals
          repeat' (first
           | with_reducible refine stp ?_
           | with_reducible refine k_blk_o rfl ?_
           | with_reducible refine k_seq_n ?_
           | ((try (conv => arg 1; simp [h0, h1, h5])); with_reducible refine evp ?_)
           | ((with_reducible refine apn ?na ?_); (case na => simp [appNames, ints, intss] <;> first | kernel_rfl | (refine ⟨?_, ?_⟩ <;> kernel_rfl)))
           | fail)
          repeat' (first
           | with_reducible refine stp ?_
           | with_reducible refine k_blk_o rfl ?_
           | with_reducible refine k_seq_n ?_
           | ((try (conv => arg 1; simp [h0, h1, h5])); with_reducible refine evp ?_)
           | ((with_reducible refine apn ?na ?_); (case na => simp [appNames, ints, intss] <;> first | kernel_rfl | (refine ⟨?_, ?_⟩ <;> kernel_rfl)))
           | fail)
          refine ⟨by simp [resV], fun c => ?_, fun n _ => by simp [hp_next_rows, h6], by simp [hp_next_tick]; omega⟩
          exact (hc c).congr fun n _ => by simp [hp_next_rows, h6]
  · have hn : n.1 < h.tick := hns n (by simp)
    refine enter mixed MU1 Try.func33 rfl (by kernel_rfl) rfl ?_
    repeat' (first
     | with_reducible refine stp ?_
     | with_reducible refine k_blk_o rfl ?_
     | with_reducible refine k_seq_n ?_
     | ((try (conv => arg 1; simp [ints])); with_reducible refine evp ?_)
     | ((with_reducible refine apn ?na ?_); (case na => simp [appNames, ints, intss] <;> first | kernel_rfl | (refine ⟨?_, ?_⟩ <;> kernel_rfl)))
     | fail)
    refine st_loop (fun (i : Nat) σ h' => i ≤ xs.length ∧ σ 0 = .sl n ver pre.length xs.length ∧ σ 1 = .int .i64 (k + i) ∧ σ 5 = .int .i64 i ∧ h.tick ≤ h'.tick ∧ (∀ m, m ≠ n → h'.rows m = h.rows m) ∧
      ∃ ys : List Int, ys.length = xs.length ∧ ys.take i = (marks k xs.length).take i ∧ h'.rows n = some ⟨ver, 1, pre ++ ((ys.map fun x => [.int .i64 x]) ++ sp)⟩) (fun i => xs.length - i) 0 ?init ?step
    case init =>
      refine ⟨Nat.zero_le _, by simp [putA_get, envOf_0], by simp [putA_get, envOf_1], by simp [putA_get, opd, avc, avc1], by simp [hp_next_tick]; omega, fun m _ => by simp [hp_next_rows], xs, rfl, rfl, by simpa [hp_next_rows] using hr⟩
    case step =>
      rintro i σ h' ⟨hi, h0, h1, h5, ht, hoth, ys, hy, hyi, hr'⟩
      repeat' (first
       | with_reducible refine stp ?_
       | with_reducible refine k_blk_o rfl ?_
       | with_reducible refine k_seq_n ?_
       | ((try (conv => arg 1; simp [h0, h1, h5])); with_reducible refine evp ?_)
       | ((with_reducible refine apn ?na ?_); (case na => simp [appNames, ints, intss] <;> first | kernel_rfl | (refine ⟨?_, ?_⟩ <;> kernel_rfl)))
       | fail)
      (try with_reducible refine st_if ?_)
      (try (conv => arg 1; simp [h0]))
      (try with_reducible refine at_mk ?_)
      refine ⟨fun hb => ?_, fun hb => ?_⟩
      · have hlt : i < xs.length := by simpa using hb
        have hy2 : (pre ++ ((ys.map fun x => [AV.int .i64 x]) ++ sp))[pre.length + i]? = some [.int .i64 (ys[i]'(by omega))] := by
          rw [mid_get (by simp; omega)]
          simp
        generalize hes : pre ++ ((ys.map fun x => [AV.int .i64 x]) ++ sp) = es at hr' hy2
        have ht2 : n.1 < h'.tick + 1 + 1 := by omega
        have hw : IntKind.i64.wrap (i + 1) = i + 1 := wrap_id (by omega) (by omega)
        have hw2 : IntKind.i64.wrap (k + i + 1) = k + i + 1 := wrap_id (by omega) (by omega)
        repeat' (first
         | with_reducible refine stp ?_
         | with_reducible refine k_blk_o rfl ?_
         | with_reducible refine k_seq_n ?_
         | ((try (conv => arg 1; simp [h0, h1, h5, hr', hlt, hy2, ht2, hw, hw2])); with_reducible refine evp ?_)
         | ((with_reducible refine apn ?na ?_); (case na => simp [appNames, ints, intss] <;> first | kernel_rfl | (refine ⟨?_, ?_⟩ <;> kernel_rfl)))
         | fail)
        refine k_lp_n (i + 1) (by omega) ⟨by omega, by simp [putA_get, putA_none, h0], by simp [putA_get, putA_none, h1]; omega, by simp [putA_get, putA_none, h5], by simp [hp_next_tick, hp_put_tick, hp_mt_tick]; omega, fun m hm => by simp [hp_next_rows, hp_rows_put, hm, hoth m hm], ys.set i (k + i), by simp [hy], ?_, ?_⟩
        · rw [List.take_add_one, List.take_add_one, marks_get hlt]
          simp [hyi, hy, hlt, List.take_set_of_le]
        · simp [hp_next_rows, hp_rows_put, ← hes, mid_set (show i < (ys.map fun x => [AV.int .i64 x]).length by simp; omega), List.map_set]
      · have hge : i = xs.length := by simp at hb; omega
        repeat' (first
         | with_reducible refine stp ?_
         | with_reducible refine k_blk_o rfl ?_
         | with_reducible refine k_seq_n ?_
         | ((try (conv => arg 1; simp [h0, h1, h5])); with_reducible refine evp ?_)
         | ((with_reducible refine apn ?na ?_); (case na => simp [appNames, ints, intss] <;> first | kernel_rfl | (refine ⟨?_, ?_⟩ <;> kernel_rfl)))
         | fail)
        have e1 : ys = marks k xs.length := by
          subst hge
          rw [List.take_of_length_le (by omega), List.take_of_length_le (by simp [marks_length])] at hyi
          exact hyi
        refine ⟨by simp [resV, hge], fun c => ?_, fun m hm => by simpa [hp_next_rows] using hoth m (by simpa using hm), by simp [hp_next_tick]; omega⟩
        have := own_ints_mk (rows := h'.rows) (n := n) (ver := ver) (xs := marks k xs.length) (pre := pre) (sp := sp) (by rw [← e1]; exact hr') hpr hsp hcp hcl (c := c)
        rw [marks_length] at this
        exact this.congr fun m _ => by simp [hp_next_rows]
end Go.Proofs.Ytfgaoojogididaa.AM

/-
  Slices of slices of whole numbers: their sizes, copies, marks.
-/
set_option linter.unusedVariables false
set_option linter.unusedSimpArgs false
set_option maxRecDepth 4000
namespace Go.Proofs.Ytfgaoojogididaa.AM
open Go.RowKit

private def MU2 : FuncId → Mode := fun f => if f = 27 then .fresh else if f = 33 then .heap else .tree

def psum (xs : List (List Int)) (i : Nat) : Nat := ((List.take i xs).map List.length).sum
def wtSS (l : List (List Int)) : Nat := l.length + psum l l.length
theorem psum_zero (xs : List (List Int)) : psum xs 0 = 0 := by simp [psum]
theorem psum_succ (l : List (List Int)) (i : Nat) (h : i < l.length) : psum l (i + 1) = psum l i + l[i].length := by
  unfold psum
  rw [List.take_add_one, List.map_append, List.sum_append]
  simp [h]
theorem psum_le (l : List (List Int)) (i : Nat) : psum l i ≤ psum l l.length := by
  unfold psum
  rw [List.take_length, ← List.take_append_drop i (l.map List.length), List.sum_append, List.map_take]
  omega

theorem szIntSS (xs : List (List Int)) (left : Int) (h1 : 0 ≤ left) (h2 : left ≤ 2 ^ 20) (hm : xs.length ≤ maxLen) (hm2 : ∀ x ∈ xs, x.length ≤ maxLen) : Pure Try.prog 47 [intss true xs, .int .i64 left] (.int .i64 (if left < wtSS xs then -1 else left - wtSS xs)) := by
  intro T
  have hw : IntKind.i64.wrap (left - xs.length) = left - xs.length := wrap_id (by simp [maxLen] at hm; omega) (by omega)
  refine enter mixed MU2 Try.func47 rfl (by kernel_rfl) rfl ?_
  repeat' (first
   | with_reducible refine stp ?_
   | with_reducible refine k_blk_o rfl ?_
   | with_reducible refine k_seq_n ?_
   | ((try (conv => arg 1; simp [intss, hw])); with_reducible refine evp ?_)
   | ((with_reducible refine apn ?na ?_); (case na => simp [appNames, ints, intss] <;> first | kernel_rfl | (refine ⟨?_, ?_⟩ <;> kernel_rfl)))
   | fail)
  (try with_reducible refine st_if ?_)
  (try (conv => arg 1; simp [intss]))
  (try with_reducible refine at_mk ?_)
  refine ⟨fun hb => ?_, fun hb => ?_⟩
  · have : left < wtSS xs := by simp at hb; simp [wtSS]; omega
    repeat' (first
     | with_reducible refine stp ?_
     | with_reducible refine k_blk_o rfl ?_
     | with_reducible refine k_seq_n ?_
     | ((try (conv => arg 1; simp [intss])); with_reducible refine evp ?_)
     | ((with_reducible refine apn ?na ?_); (case na => simp [appNames, ints, intss] <;> first | kernel_rfl | (refine ⟨?_, ?_⟩ <;> kernel_rfl)))
     | fail)
    rw [if_pos this]; exact .int _ _
  have hle : (xs.length : Int) ≤ left := by simp at hb; omega
  repeat' (first
   | with_reducible refine stp ?_
   | with_reducible refine k_blk_o rfl ?_
   | with_reducible refine k_seq_n ?_
   | ((try (conv => arg 1; simp [intss])); with_reducible refine evp ?_)
   | ((with_reducible refine apn ?na ?_); (case na => simp [appNames, ints, intss] <;> first | kernel_rfl | (refine ⟨?_, ?_⟩ <;> kernel_rfl)))
   | fail)
  refine st_loop (fun (i : Nat) σ h => i ≤ xs.length ∧ σ 0 = intss true xs ∧ σ 1 = .int .i64 (left - xs.length - psum xs i) ∧ σ 5 = .int .i64 i ∧ xs.length + psum xs i ≤ left) (fun i => xs.length - i) 0 ?init ?step
  case init =>
    simp [putA_get, envOf_0, opd, avc, avc1, psum_zero]
    exact hle
  case step =>
    rintro i σ h ⟨hi, h0, h1', h5, hs⟩
    repeat' (first
     | with_reducible refine stp ?_
     | with_reducible refine k_blk_o rfl ?_
     | with_reducible refine k_seq_n ?_
     | ((try (conv => arg 1; simp [intss, h0, h5])); with_reducible refine evp ?_)
     | ((with_reducible refine apn ?na ?_); (case na => simp [appNames, ints, intss] <;> first | kernel_rfl | (refine ⟨?_, ?_⟩ <;> kernel_rfl)))
     | fail)
    (try with_reducible refine st_if ?_)
    (try (conv => arg 1; simp [intss]))
    (try with_reducible refine at_mk ?_)
    refine ⟨fun hb => ?_, fun hb => ?_⟩
    · have hlt : i < xs.length := by simpa using hb
      have hx : xs[i]? = some (xs[i]) := by simp
      have hw2 : IntKind.i64.wrap (i + 1) = i + 1 := wrap_id (by omega) (by simp [maxLen] at hm; omega)
      repeat' (first
       | with_reducible refine stp ?_
       | with_reducible refine k_blk_o rfl ?_
       | with_reducible refine k_seq_n ?_
       | ((try (conv => arg 1; simp [intss, h0, h1', h5, hx])); with_reducible refine evp ?_)
       | ((with_reducible refine apn ?na ?_); (case na => simp [appNames, ints, intss] <;> first | kernel_rfl | (refine ⟨?_, ?_⟩ <;> kernel_rfl)))
       | fail)
      refine st_tree rfl (szIntS xs[i] _ (by omega) (by omega) (hm2 _ (List.getElem_mem hlt))) (.cons (dr_ints (by simp) _) (.cons (.int _ _) .nil)) ?_
      repeat' (first
       | with_reducible refine stp ?_
       | with_reducible refine k_blk_o rfl ?_
       | with_reducible refine k_seq_n ?_
       | ((try (conv => arg 1; simp [h0])); with_reducible refine evp ?_)
       | ((with_reducible refine apn ?na ?_); (case na => simp [appNames, ints, intss] <;> first | kernel_rfl | (refine ⟨?_, ?_⟩ <;> kernel_rfl)))
       | fail)
      (try with_reducible refine st_if ?_)
      (try (conv => arg 1; simp [h0]))
      (try with_reducible refine at_mk ?_)
      refine ⟨fun hb => ?_, fun hb => ?_⟩
      · have hlt2 : left < wtSS xs := by
          have a1 := psum_succ xs i hlt
          have a2 := psum_le xs (i + 1)
          simp only [wtSS]
          simp at hb
          split at hb <;> omega
        repeat' (first
         | with_reducible refine stp ?_
         | with_reducible refine k_blk_o rfl ?_
         | with_reducible refine k_seq_n ?_
         | ((try (conv => arg 1; simp [h0])); with_reducible refine evp ?_)
         | ((with_reducible refine apn ?na ?_); (case na => simp [appNames, ints, intss] <;> first | kernel_rfl | (refine ⟨?_, ?_⟩ <;> kernel_rfl)))
         | fail)
        rw [if_pos hlt2]; exact .int _ _
      · have hge : ¬ (left - xs.length - psum xs i < xs[i].length) := by
          intro hh
          rw [if_pos hh] at hb
          simp at hb
        repeat' (first
         | with_reducible refine stp ?_
         | with_reducible refine k_blk_o rfl ?_
         | with_reducible refine k_seq_n ?_
         | ((try (conv => arg 1; simp [h0, h5, hw2])); with_reducible refine evp ?_)
         | ((with_reducible refine apn ?na ?_); (case na => simp [appNames, ints, intss] <;> first | kernel_rfl | (refine ⟨?_, ?_⟩ <;> kernel_rfl)))
         | fail)
        refine k_lp_n (i + 1) (by omega) ⟨by omega, by simp [putA_get, putA_none, h0], ?_, by simp [putA_get, putA_none, h5], ?_⟩
        · rw [psum_succ xs i hlt]
          simp [putA_get, if_neg hge]
          omega
        · rw [psum_succ xs i hlt]
          omega
    · have hge : i = xs.length := by simp at hb; omega
      subst hge
      have : ¬ left < wtSS xs := by simp only [wtSS]; omega
      repeat' (first
       | with_reducible refine stp ?_
       | with_reducible refine k_blk_o rfl ?_
       | with_reducible refine k_seq_n ?_
       | ((try (conv => arg 1; simp [h0, h1'])); with_reducible refine evp ?_)
       | ((with_reducible refine apn ?na ?_); (case na => simp [appNames, ints, intss] <;> first | kernel_rfl | (refine ⟨?_, ?_⟩ <;> kernel_rfl)))
       | fail)
      rw [if_neg this]
      have e : left - xs.length - (psum xs xs.length : Nat) = left - (wtSS xs : Nat) := by simp only [wtSS]; omega
      simp only [resV]
      rw [e]
      exact .int _ _

theorem eqIntSS (xs : List (List Int)) (hl : xs.length ≤ 2 ^ 62) (hl2 : ∀ x ∈ xs, x.length ≤ 2 ^ 62) : Pure Try.prog 51 [intss true xs, intss true xs] (.bool true) := by
  intro T
  refine enter mixed MU2 Try.func51 rfl (by kernel_rfl) rfl ?_
  repeat' (first
   | with_reducible refine stp ?_
   | with_reducible refine k_blk_o rfl ?_
   | with_reducible refine k_seq_n ?_
   | ((try (conv => arg 1; simp [intss])); with_reducible refine evp ?_)
   | ((with_reducible refine apn ?na ?_); (case na => simp [appNames, ints, intss] <;> first | kernel_rfl | (refine ⟨?_, ?_⟩ <;> kernel_rfl)))
   | fail)
  repeat' (first
   | with_reducible refine stp ?_
   | with_reducible refine k_blk_o rfl ?_
   | with_reducible refine k_seq_n ?_
   | ((try (conv => arg 1; simp [intss])); with_reducible refine evp ?_)
   | ((with_reducible refine apn ?na ?_); (case na => simp [appNames, ints, intss] <;> first | kernel_rfl | (refine ⟨?_, ?_⟩ <;> kernel_rfl)))
   | fail)
  refine st_loop (fun (i : Nat) σ h => i ≤ xs.length ∧ σ 0 = intss true xs ∧ σ 1 = intss true xs ∧ σ 5 = .int .i64 i) (fun i => xs.length - i) 0 ?init ?step
  case init =>
    simp [putA_get, envOf_0, envOf_1]
  case step =>
    rintro i σ h ⟨hi, h0, h1, h5⟩
    repeat' (first
     | with_reducible refine stp ?_
     | with_reducible refine k_blk_o rfl ?_
     | with_reducible refine k_seq_n ?_
     | ((try (conv => arg 1; simp [intss, h0, h5])); with_reducible refine evp ?_)
     | ((with_reducible refine apn ?na ?_); (case na => simp [appNames, ints, intss] <;> first | kernel_rfl | (refine ⟨?_, ?_⟩ <;> kernel_rfl)))
     | fail)
    (try with_reducible refine st_if ?_)
    (try (conv => arg 1; simp [intss]))
    (try with_reducible refine at_mk ?_)
    refine ⟨fun hb => ?_, fun hb => ?_⟩
    · have hlt : i < xs.length := by simpa using hb
      have hx : xs[i]? = some (xs[i]) := by simp
      have hw : IntKind.i64.wrap (i + 1) = i + 1 := wrap_id (by omega) (by omega)
      repeat' (first
       | with_reducible refine stp ?_
       | with_reducible refine k_blk_o rfl ?_
       | with_reducible refine k_seq_n ?_
       | ((try (conv => arg 1; simp [intss])); with_reducible refine evp ?_)
       | ((with_reducible refine apn ?na ?_); (case na => simp [appNames, ints, intss] <;> first | kernel_rfl | (refine ⟨?_, ?_⟩ <;> kernel_rfl)))
       | fail)
      repeat (with_reducible first | refine stp ?_ | refine k_seq_n ?_)
      refine st_draw 10 (fun _ => false) (by kernel_rfl) ?_
      simp only [List.take_succ_cons, List.take_zero, List.drop_succ_cons, List.drop_zero, List.take_nil, List.drop_nil]
      repeat' (first
       | with_reducible refine stp ?_
       | with_reducible refine k_blk_o rfl ?_
       | with_reducible refine k_seq_n ?_
       | ((try (conv => arg 1; simp [intss, h0, h1, h5, hx])); with_reducible refine evp ?_)
       | ((with_reducible refine apn ?na ?_); (case na => simp [appNames, ints, intss] <;> first | kernel_rfl | (refine ⟨?_, ?_⟩ <;> kernel_rfl)))
       | fail)
      refine treeW_pure (eqIntS xs[i] (hl2 _ (List.getElem_mem hlt))) (.cons (dr_ints (by simp) _) (.cons (dr_ints (by simp) _) .nil)) ?_
      repeat' (first
       | with_reducible refine stp ?_
       | with_reducible refine k_blk_o rfl ?_
       | with_reducible refine k_seq_n ?_
       | ((try (conv => arg 1; simp [h0])); with_reducible refine evp ?_)
       | ((with_reducible refine apn ?na ?_); (case na => simp [appNames, ints, intss] <;> first | kernel_rfl | (refine ⟨?_, ?_⟩ <;> kernel_rfl)))
       | fail)
      repeat' (first
       | with_reducible refine stp ?_
       | with_reducible refine k_blk_o rfl ?_
       | with_reducible refine k_seq_n ?_
       | ((try (conv => arg 1; simp [h5, hw])); with_reducible refine evp ?_)
       | ((with_reducible refine apn ?na ?_); (case na => simp [appNames, ints, intss] <;> first | kernel_rfl | (refine ⟨?_, ?_⟩ <;> kernel_rfl)))
       | fail)
      refine k_lp_n (i + 1) (by omega) ⟨by omega, by simp [putA_get, putA_none, h0], by simp [putA_get, putA_none, h1], by simp [putA_get, putA_none, h5]⟩
    · skip
      repeat' (first
       | with_reducible refine stp ?_
       | with_reducible refine k_blk_o rfl ?_
       | with_reducible refine k_seq_n ?_
       | ((try (conv => arg 1; simp [ints])); with_reducible refine evp ?_)
       | ((with_reducible refine apn ?na ?_); (case na => simp [appNames, ints, intss] <;> first | kernel_rfl | (refine ⟨?_, ?_⟩ <;> kernel_rfl)))
       | fail)
      exact .bool true

theorem own_one {rows : Nm → Option Row} {c : Bool} {v t : AV} {ns : List Nm} (h : Own rows c [v] [t] ns) : v.one = true ∧ v.stored = true ∧ v.cells = [v] := by
  cases h <;> exact ⟨rfl, rfl, rfl⟩
theorem ownV_ints {rows : Nm → Option Row} {c : Bool} {v : AV} {xs : List Int} {ns : List Nm} (h : OwnV rows c v (ints c xs) ns) : Own rows c [v] [ints c xs] ns := by
  cases h with
  | one h => exact h
theorem ownV_intss {rows : Nm → Option Row} {c : Bool} {v : AV} {xs : List (List Int)} {ns : List Nm} (h : OwnV rows c v (intss c xs) ns) : Own rows c [v] [intss c xs] ns := by
  cases h with
  | one h => exact h

theorem flat1 {α : Type} : ∀ l : List α, (l.map fun v => [v]).flatten = l
  | [] => rfl
  | a :: l => by simp [flat1 l]

/-- Rows of slices, the first 'i' of them there already. -/
theorem toIntSS (xs : List (List Int)) (hl : xs.length ≤ 2 ^ 20) (hl2 : ∀ x ∈ xs, x.length ≤ 2 ^ 20) : Fresh Try.prog 49 [intss true xs] (fun c => intss c xs) := by
  intro T
  have hln : (xs.length : Int) ≤ 4294967296 := by omega
  refine enter mixed MU2 Try.func49 rfl (by kernel_rfl) rfl ?_
  repeat' (first
   | with_reducible refine stp ?_
   | with_reducible refine k_blk_o rfl ?_
   | with_reducible refine k_seq_n ?_
   | ((try (conv => arg 1; simp [intss, hln])); with_reducible refine evp ?_)
   | ((with_reducible refine apn ?na ?_); (case na => simp [appNames, ints, intss] <;> first | kernel_rfl | (refine ⟨?_, ?_⟩ <;> kernel_rfl)))
   | fail)
  refine st_loop (fun (i : Nat) σ h => i ≤ xs.length ∧ σ 0 = intss true xs ∧ σ 3 = .sl (T + 1, 2, 0) 0 0 xs.length ∧ σ 4 = .int .i64 i ∧ T + 1 < h.tick ∧ ∃ (vs : List AV) (ns : List Nm), vs.length = i ∧ h.rows (T + 1, 2, 0) = some ⟨0, 1, vs.map (fun v => [v]) ++ List.replicate (xs.length - i) [.nilsl]⟩ ∧
    (∀ c, Own h.rows c vs ((xs.take i).map (ints c)) ns) ∧ ns.Nodup ∧ ∀ n ∈ ns, T + 1 < n.1 ∧ n.1 < h.tick) (fun i => xs.length - i) 0 ?init ?step
  case init =>
    exact ⟨Nat.zero_le _, by simp [putA_get, envOf_0], by simp [putA_get, opd], by simp [putA_get, opd, avc, avc1], by simp [hp_next_tick, hp_put_tick, hp_mt_tick], [], [], rfl, by simp [hp_next_rows, hp_rows_put], fun c => .nil, by simp, by simp⟩
  case step =>
    rintro i σ h ⟨hi, h0, h3, h4, ht, vs, ns, hv, hr, ho, hnd, hns⟩
    repeat' (first
     | with_reducible refine stp ?_
     | with_reducible refine k_blk_o rfl ?_
     | with_reducible refine k_seq_n ?_
     | ((try (conv => arg 1; simp [intss, h0, h3, h4, hr])); with_reducible refine evp ?_)
     | ((with_reducible refine apn ?na ?_); (case na => simp [appNames, ints, intss] <;> first | kernel_rfl | (refine ⟨?_, ?_⟩ <;> kernel_rfl)))
     | fail)
    (try with_reducible refine st_if ?_)
    (try (conv => arg 1; simp [h0]))
    (try with_reducible refine at_mk ?_)
    refine ⟨fun hb => ?_, fun hb => ?_⟩
    · have hlt : i < xs.length := by simpa using hb
      have hx : xs[i]? = some (xs[i]) := by simp
      have hw : IntKind.i64.wrap (i + 1) = i + 1 := wrap_id (by omega) (by omega)
      repeat' (first
       | with_reducible refine stp ?_
       | with_reducible refine k_blk_o rfl ?_
       | with_reducible refine k_seq_n ?_
       | ((try (conv => arg 1; simp [intss, h0, h3, h4, hr, hlt, hx])); with_reducible refine evp ?_)
       | ((with_reducible refine apn ?na ?_); (case na => simp [appNames, ints, intss] <;> first | kernel_rfl | (refine ⟨?_, ?_⟩ <;> kernel_rfl)))
       | fail)
      refine st_fresh rfl (toIntS xs[i] (hl2 _ (List.getElem_mem hlt))) (.cons (dr_ints (by simp) _) .nil) ?_
      intro v h' ns' o1 d1 f1 p1 t1
      have q := own_one (ownV_ints (o1 true))
      have t2 : h.tick + 1 + 1 ≤ h'.tick := t1
      have hr' : h'.rows (T + 1, 2, 0) = some ⟨0, 1, vs.map (fun v => [v]) ++ List.replicate (xs.length - i) [.nilsl]⟩ := by
        rw [p1 _ (show T + 1 < h.tick + 1 + 1 by omega)]
        exact hr
      have hel : (vs.map (fun v => [v]) ++ List.replicate (xs.length - i) [AV.nilsl])[i]? = some [.nilsl] := by
        rw [List.getElem?_append_right (by simp [hv]), show xs.length - i = (xs.length - i - 1) + 1 by omega, List.replicate_succ]
        simp [hv]
      have ht2 : T + 1 < h'.tick := by omega
      repeat' (first
       | with_reducible refine stp ?_
       | with_reducible refine k_blk_o rfl ?_
       | with_reducible refine k_seq_n ?_
       | ((try (conv => arg 1; simp [h3, h4, hr', hlt, hel, ht2, q.2.1, q.2.2, hw])); with_reducible refine evp ?_)
       | ((with_reducible refine apn ?na ?_); (case na => simp [appNames, ints, intss] <;> first | kernel_rfl | (refine ⟨?_, ?_⟩ <;> kernel_rfl)))
       | fail)
      refine k_lp_n (i + 1) (by omega) ⟨by omega, by simp [putA_get, putA_none, h0], by simp [putA_get, putA_none, h3], by simp [putA_get, putA_none, h4], by simp [hp_next_tick, hp_put_tick, hp_mt_tick]; omega, vs ++ [v], ns ++ ns', by simp [hv], ?_, fun c => ?_, ?_, ?_⟩
      · simp only [hp_next_rows, hp_rows_put, if_true, List.map_append, List.map_cons, List.map_nil, List.append_assoc]
        congr 2
        rw [List.set_append_right _ _ (by simp [hv])]
        simp only [List.length_map, hv, Nat.sub_self]
        congr 1
        rw [show xs.length - i = (xs.length - (i + 1)) + 1 by omega, List.replicate_succ]
        rfl
      · rw [List.take_add_one, hx]
        simp only [Option.toList_some, List.map_append, List.map_cons, List.map_nil]
        refine Own.append ((ho c).congr fun n hn => ?_) ((ownV_ints (o1 c)).congr fun n hn => ?_)
        · have a := hns n hn
          have hne : n ≠ (T + 1, 2, 0) := fun e => by rw [e] at a; exact absurd a.1 (Nat.lt_irrefl _)
          simp only [hp_next_rows, hp_rows_put, if_neg hne]
          exact p1 n (show n.1 < h.tick + 1 + 1 by omega)
        · have a : h.tick + 1 + 1 ≤ n.1 := (f1 n hn).1
          have hne : n ≠ (T + 1, 2, 0) := fun e => by rw [e] at a; simp at a; omega
          simp only [hp_next_rows, hp_rows_put, if_neg hne]
      · refine List.nodup_append.2 ⟨hnd, d1, fun a ha b hb e => ?_⟩
        subst e
        have a1 := hns a ha
        have a2 : h.tick + 1 + 1 ≤ a.1 := (f1 a hb).1
        omega
      · intro n hn
        simp only [hp_next_tick, hp_put_tick, hp_mt_tick]
        rcases List.mem_append.1 hn with h1 | h1
        · have := hns n h1; omega
        · have a2 : h.tick + 1 + 1 ≤ n.1 := (f1 n h1).1
          have := (f1 n h1).2
          omega
    · have hge : i = xs.length := by simp at hb; omega
      repeat' (first
       | with_reducible refine stp ?_
       | with_reducible refine k_blk_o rfl ?_
       | with_reducible refine k_seq_n ?_
       | ((try (conv => arg 1; simp [h0, h3, h4, hr])); with_reducible refine evp ?_)
       | ((with_reducible refine apn ?na ?_); (case na => simp [appNames, ints, intss] <;> first | kernel_rfl | (refine ⟨?_, ?_⟩ <;> kernel_rfl)))
       | fail)
      subst hge
      refine ⟨by simp [hp_next_tick]; omega, (T + 1, 2, 0) :: (ns ++ []), fun c => .one ?_, ?_, ?_⟩
      · simp only [resV, intss]
        refine .sl (T + 1, 2, 0) 0 xs.length 1 _ _ (by simpa [hp_next_rows] using hr) rfl rfl (fun i e j x he hx => ?_) (by simp [hv]) (fun e he => ?_) (by simp) (fun e he => ?_) ?_ .nil
        · simp at he
          obtain ⟨a, h1, rfl⟩ := he
          match j, hx with
          | 0, hx => simp at hx; subst hx; exact (ho true).cl i a h1
        · simp at he; obtain ⟨a, _, rfl⟩ := he; rfl
        · simp at he; obtain ⟨a, _, rfl⟩ := he; rfl
        · have e1 : (List.take xs.length (vs.map (fun v => [v]) ++ List.replicate (xs.length - xs.length) [AV.nilsl])).flatten = vs := by
            simp [List.take_of_length_le (Nat.le_of_eq (show (vs.map fun v => [v]).length = xs.length by simp [hv]))]
            exact flat1 vs
          have e2 : (xs.map fun x => [ints c x]).flatten = (xs.take xs.length).map (ints c) := by
            rw [List.take_of_length_le (Nat.le_refl _), ← flat1 (xs.map (ints c)), List.map_map]
            rfl
          rw [e2]
          have e3 := (ho c).congr (rows' := h.next.next.rows) fun n _ => by simp [hp_next_rows]
          rw [← e1] at e3
          simpa using e3
      · simp only [List.append_nil]
        refine List.nodup_cons.2 ⟨fun hm => ?_, hnd⟩
        have a := (hns _ hm).1
        exact absurd a (Nat.lt_irrefl _)
      · intro n hn
        simp only [List.append_nil, List.mem_cons] at hn
        simp only [hp_next_tick]
        rcases hn with rfl | hn
        · simp; omega
        · have := hns n hn; omega
end Go.Proofs.Ytfgaoojogididaa.AM

/-
  Slices of slices of whole numbers: marks.
-/
set_option linter.unusedVariables false
set_option linter.unusedSimpArgs false
set_option maxRecDepth 4000
namespace Go.Proofs.Ytfgaoojogididaa.AM
open Go.RowKit

private def MU3 : FuncId → Mode := fun f => if f = 33 then .heap else .tree

def marksSS : Int → List (List Int) → List (List Int)
  | _, [] => []
  | k, x :: xs => marks k x.length :: marksSS (k + x.length) xs
theorem marksSS_length : ∀ (k : Int) (xs : List (List Int)), (marksSS k xs).length = xs.length
  | _, [] => rfl
  | k, x :: xs => by simp [marksSS, marksSS_length]
theorem psum_cons (x : List Int) (xs : List (List Int)) (i : Nat) : psum (x :: xs) (i + 1) = x.length + psum xs i := by simp [psum]
theorem marksSS_get : ∀ (k : Int) (xs : List (List Int)) (i : Nat) (h : i < xs.length), (marksSS k xs)[i]? = some (marks (k + psum xs i) xs[i].length)
  | k, x :: xs, 0, h => by simp [marksSS, psum_zero]
  | k, x :: xs, i + 1, h => by
    simp only [marksSS, List.getElem?_cons_succ, List.getElem_cons_succ]
    rw [marksSS_get _ xs i (by simpa using h), psum_cons]
    congr 2
    simp
    omega

theorem own_intss_inv {rows : Nm → Option Row} {a : AV} {xs : List (List Int)} {ns : List Nm} (h : Own rows true [a] [intss true xs] ns) :
    (xs = [] ∧ (∀ c, Own rows c [a] [intss c []] ns) ∧ ((a = .nilsl ∧ ns = []) ∨ ∃ n ver off, a = .sl n ver off 0 ∧ ns = [n])) ∨
    (∃ n ver vs sp ns1, a = .sl n ver 0 xs.length ∧ ns = n :: ns1 ∧ rows n = some ⟨ver, 1, vs.map (fun v => [v]) ++ sp⟩ ∧ vs.length = xs.length ∧ (∀ e ∈ sp, e.length = 1) ∧ ClRow ⟨ver, 1, sp⟩ ∧ Own rows true vs (xs.map (ints true)) ns1) := by
  unfold intss at h
  generalize hm : (xs.map fun x => [ints true x]) = tm at h
  cases h with
  | nilsl h =>
    cases h
    exact .inl ⟨by simpa using hm, fun c => .nilsl .nil, .inl ⟨rfl, rfl⟩⟩
  | @sl _ _ ns1 ns2 n ver len s r _ h1 h2 h3 h4 h5 h6 h7 h8 h9 h10 =>
    cases h10
    subst hm
    have hlen : xs.length = len := by simpa using h7
    cases xs with
    | nil =>
      left
      simp at hlen
      subst hlen
      have h9' : Own rows true [] [] ns1 := by simpa using h9
      cases h9'
      exact ⟨rfl, fun c => .sl n ver 0 s r [] h1 h2 h3 h4 h5 h6 rfl (by simp) (by simpa using Own.nil) .nil, .inr ⟨n, ver, 0, rfl, by simp⟩⟩
    | cons x xs =>
      right
      have hs : s = 1 := by
        have := h8 [ints true x] (by simp)
        simpa using this.symm
      subst hs
      have key : ∀ (l : List (List AV)), (∀ e ∈ l, e.length = 1) → l = l.flatten.map fun v => [v] := by
        intro l
        induction l with
        | nil => intro _; rfl
        | cons e l ih =>
          intro hl
          have h1 := hl e (by simp)
          match e, h1 with
          | [v], _ =>
            simp only [List.flatten_cons, List.cons_append, List.nil_append, List.map_cons]
            rw [← ih fun e he => hl e (by simp [he])]
      obtain ⟨ver', esz', elems⟩ := r
      simp only at h2 h3 h6 h4 h5 h9
      subst h2 h3
      have e3 := key (elems.take len) (fun e he => h6 e (List.mem_of_mem_take he))
      have h9' : Own rows true (elems.take len).flatten ((x :: xs).map (ints true)) ns1 := by
        rw [← flat1 ((x :: xs).map (ints true)), List.map_map]
        exact h9
      refine ⟨n, ver', (elems.take len).flatten, elems.drop len, ns1, by rw [hlen], by simp, ?_, ?_, fun e he => h6 e (List.mem_of_mem_drop he), fun i e j x he hx => ?_, h9'⟩
      · rw [← e3, List.take_append_drop]
        exact h1
      · have := h9'.length
        simpa using this.symm
      · refine h4 (len + i) e j x ?_ hx
        simpa [List.getElem?_drop] using he
  | slo n ver pre sp ys h1 h2 h3 h4 h5 h6 =>
    cases h6
    cases xs with
    | nil =>
      obtain rfl : ys = [] := by simpa using hm
      exact .inl ⟨rfl, fun c => .slo n ver pre sp [] h1 h2 h3 h4 h5 .nil, .inr ⟨n, ver, _, rfl, rfl⟩⟩
    | cons x xs =>
      exfalso
      cases ys with
      | nil => simp at hm
      | cons y ys => simp [ints] at hm

theorem own_intss_mk {rows : Nm → Option Row} {n : Nm} {ver : Nat} {xs : List (List Int)} {vs : List AV} {sp : List (List AV)} {ns : List Nm} {c : Bool} (h : rows n = some ⟨ver, 1, vs.map (fun v => [v]) ++ sp⟩) (h1 : ∀ e ∈ sp, e.length = 1) (h2 : ClRow ⟨ver, 1, sp⟩)
    (ho : Own rows c vs (xs.map (ints c)) ns) : Own rows c [.sl n ver 0 xs.length] [intss c xs] (n :: ns) := by
  have hl : vs.length = xs.length := by have := ho.length; simpa using this.symm
  have := @Own.sl rows c [] [] ns [] n ver xs.length 1 _ (xs.map fun x => [ints c x]) h rfl rfl (fun i e j x he hx => by
      simp only at he
      by_cases hi : i < vs.length
      · rw [List.getElem?_append_left (by simpa using hi)] at he
        simp at he
        obtain ⟨y, h3, rfl⟩ := he
        match j, hx with
        | 0, hx => simp at hx; subst hx; exact ho.cl i y h3
      · rw [List.getElem?_append_right (by simpa using hi)] at he
        exact h2 _ e j x he hx) (by simp [hl]) (fun e he => by
      simp only [List.mem_append] at he
      rcases he with he | he
      · simp at he; obtain ⟨a, _, rfl⟩ := he; rfl
      · exact h1 e he) (by simp) (fun e he => by simp at he; obtain ⟨a, _, rfl⟩ := he; rfl)
    (by
      rw [List.take_append_of_le_length (by simp [hl]), List.take_of_length_le (by simp [hl]), flat1, show (xs.map fun x => [ints c x]) = (xs.map (ints c)).map fun v => [v] by simp, flat1]
      exact ho) .nil
  simpa [intss] using this

theorem markIntSS {h : Hp} {a : AV} {xs : List (List Int)} {ns : List Nm} (ho : Own h.rows true [a] [intss true xs] ns) (hnd : ns.Nodup) (hns : ∀ n ∈ ns, n.1 < h.tick) (k : Int) (hk : 0 ≤ k) (hl : k + wtSS xs ≤ 2 ^ 62) :
    Sound Try.prog 52 [a, .int .i64 k] h fun v h' => v = .int .i64 (k + psum xs xs.length) ∧ (∀ c, Own h'.rows c [a] [intss c (marksSS k xs)] ns) ∧ (∀ n, n ∉ ns → h'.rows n = h.rows n) ∧ h.tick ≤ h'.tick := by
  rcases own_intss_inv ho with ⟨rfl, hc, hx⟩ | ⟨n, ver, vs, sp, ns1, rfl, rfl, hr, hvl, hsp, hcl, hov⟩
  · rcases hx with ⟨rfl, rfl⟩ | ⟨n, ver, off, rfl, rfl⟩
    all_goals
      refine enter mixed MU3 Try.func52 rfl (by kernel_rfl) rfl ?_
      repeat' (first
       | with_reducible refine stp ?_
       | with_reducible refine k_blk_o rfl ?_
       | with_reducible refine k_seq_n ?_
       | ((try (conv => arg 1; simp [intss])); with_reducible refine evp ?_)
       | ((with_reducible refine apn ?na ?_); (case na => simp [appNames, ints, intss] <;> first | kernel_rfl | (refine ⟨?_, ?_⟩ <;> kernel_rfl)))
       | fail)
      refine st_loop (fun (i : Nat) σ h' => (∃ a, (a = .nilsl ∨ ∃ n ver off, a = .sl n ver off 0) ∧ σ 0 = a) ∧ σ 1 = .int .i64 k ∧ σ 5 = .int .i64 0 ∧ h'.rows = h.rows ∧ h.tick ≤ h'.tick) (fun i => 0) 0 ?init ?step
      case init =>
        refine ⟨⟨_, ?_, rfl⟩, by simp [putA_get, envOf_1], by simp [putA_get, opd, avc, avc1], by simp [hp_next_rows], by simp [hp_next_tick] <;> omega⟩
        simp [putA_get, envOf_0]
      case step =>
        rintro i σ h' ⟨⟨a, ha, h0⟩, h1, h5, h6, h7⟩
        rcases ha with rfl | ⟨n, ver, off, rfl⟩
        all_goals
          repeat' (first
           | with_reducible refine stp ?_
           | with_reducible refine k_blk_o rfl ?_
           | with_reducible refine k_seq_n ?_
           | ((try (conv => arg 1; simp [h0, h1, h5])); with_reducible refine evp ?_)
           | ((with_reducible refine apn ?na ?_); (case na => simp [appNames, ints, intss] <;> first | kernel_rfl | (refine ⟨?_, ?_⟩ <;> kernel_rfl)))
           | fail)
          repeat' (first
           | with_reducible refine stp ?_
           | with_reducible refine k_blk_o rfl ?_
           | with_reducible refine k_seq_n ?_
           | ((try (conv => arg 1; simp [h0, h1, h5])); with_reducible refine evp ?_)
           | ((with_reducible refine apn ?na ?_); (case na => simp [appNames, ints, intss] <;> first | kernel_rfl | (refine ⟨?_, ?_⟩ <;> kernel_rfl)))
           | fail)
          refine ⟨by simp [resV, psum], fun c => ?_, fun n _ => by simp [hp_next_rows, h6], by simp [hp_next_tick]; omega⟩
          exact (hc c).congr fun n _ => by simp [hp_next_rows, h6]
  · have hn : n.1 < h.tick := hns n (by simp)
    have hn1 : n ∉ ns1 := (List.nodup_cons.1 hnd).1
    refine enter mixed MU3 Try.func52 rfl (by kernel_rfl) rfl ?_
    repeat' (first
     | with_reducible refine stp ?_
     | with_reducible refine k_blk_o rfl ?_
     | with_reducible refine k_seq_n ?_
     | ((try (conv => arg 1; simp [intss])); with_reducible refine evp ?_)
     | ((with_reducible refine apn ?na ?_); (case na => simp [appNames, ints, intss] <;> first | kernel_rfl | (refine ⟨?_, ?_⟩ <;> kernel_rfl)))
     | fail)
    refine st_loop (fun (i : Nat) σ h' => i ≤ xs.length ∧ σ 0 = .sl n ver 0 xs.length ∧ σ 1 = .int .i64 (k + psum xs i) ∧ σ 5 = .int .i64 i ∧ h.tick ≤ h'.tick ∧ (∀ m, m ∉ ns1 → h'.rows m = h.rows m) ∧
      ∃ (m1 m2 : List Nm), ns1 = m1 ++ m2 ∧ (∀ c, Own h'.rows c (vs.take i) (((marksSS k xs).take i).map (ints c)) m1) ∧ Own h'.rows true (vs.drop i) ((xs.drop i).map (ints true)) m2) (fun i => xs.length - i) 0 ?init ?step
    case init =>
      exact ⟨Nat.zero_le _, by simp [putA_get, envOf_0], by simp [putA_get, envOf_1, psum_zero], by simp [putA_get, opd, avc, avc1], by simp [hp_next_tick]; omega, fun m _ => by simp [hp_next_rows], [], ns1, rfl, fun c => .nil, hov.congr fun m _ => by simp [hp_next_rows]⟩
    case step =>
      rintro i σ h' ⟨hi, h0, h1, h5, ht, hoth, m1, m2, e12, o1, o2⟩
      repeat' (first
       | with_reducible refine stp ?_
       | with_reducible refine k_blk_o rfl ?_
       | with_reducible refine k_seq_n ?_
       | ((try (conv => arg 1; simp [h0, h1, h5])); with_reducible refine evp ?_)
       | ((with_reducible refine apn ?na ?_); (case na => simp [appNames, ints, intss] <;> first | kernel_rfl | (refine ⟨?_, ?_⟩ <;> kernel_rfl)))
       | fail)
      (try with_reducible refine st_if ?_)
      (try (conv => arg 1; simp [h0]))
      (try with_reducible refine at_mk ?_)
      refine ⟨fun hb => ?_, fun hb => ?_⟩
      · have hlt : i < xs.length := by simpa using hb
        have hvi : vs.drop i = vs[i]'(by omega) :: vs.drop (i + 1) := List.drop_eq_getElem_cons (by omega)
        have hxi : xs.drop i = xs[i] :: xs.drop (i + 1) := List.drop_eq_getElem_cons hlt
        rw [hvi, hxi, List.map_cons] at o2
        obtain ⟨m3, m4, e34, o3, o4⟩ := Own.split (as1 := [vs[i]'(by omega)]) (ts1 := [ints true xs[i]]) o2 rfl
        subst e12
        subst e34
        have hr' : h'.rows n = some ⟨ver, 1, vs.map (fun v => [v]) ++ sp⟩ := by rw [hoth n hn1]; exact hr
        have hel : (vs.map (fun v => [v]) ++ sp)[i]? = some [vs[i]'(by omega)] := by
          rw [List.getElem?_append_left (by simp; omega)]
          simp
        have hnd1 := (List.nodup_cons.1 hnd).2
        have hps : psum xs i + xs[i].length ≤ psum xs xs.length := by rw [← psum_succ xs i hlt]; exact psum_le xs (i + 1)
        have hw : IntKind.i64.wrap (i + 1) = i + 1 := wrap_id (by omega) (by simp only [wtSS] at hl; omega)
        repeat' (first
         | with_reducible refine stp ?_
         | with_reducible refine k_blk_o rfl ?_
         | with_reducible refine k_seq_n ?_
         | ((try (conv => arg 1; simp [h0, h1, h5, hr', hlt, hel])); with_reducible refine evp ?_)
         | ((with_reducible refine apn ?na ?_); (case na => simp [appNames, ints, intss] <;> first | kernel_rfl | (refine ⟨?_, ?_⟩ <;> kernel_rfl)))
         | fail)
        refine st_heap rfl (markIntS (h := h'.next.next) o3 (fun m hm => by
          have := hns m (by simp [hm])
          simp [hp_next_tick]; omega) (k + psum xs i) (by omega) (by simp only [wtSS] at hl; omega)) ?_
        rintro v h2 ⟨rfl, p1, p2, p3⟩
        simp only [hp_next_tick, hp_next_rows] at p2 p3
        repeat' (first
         | with_reducible refine stp ?_
         | with_reducible refine k_blk_o rfl ?_
         | with_reducible refine k_seq_n ?_
         | ((try (conv => arg 1; simp [h0, h1, h5, hw])); with_reducible refine evp ?_)
         | ((with_reducible refine apn ?na ?_); (case na => simp [appNames, ints, intss] <;> first | kernel_rfl | (refine ⟨?_, ?_⟩ <;> kernel_rfl)))
         | fail)
        refine k_lp_n (i + 1) (by omega) ⟨by omega, by simp [putA_get, putA_none, h0], by simp [putA_get, putA_none, psum_succ xs i hlt]; omega, by simp [putA_get, putA_none], by simp [hp_next_tick]; omega, fun m hm => ?_, m1 ++ m3, m4, by simp, fun c => ?_, ?_⟩
        · simp only [hp_next_rows]
          rw [p2 m (fun hm3 => hm (by simp [hm3])), hoth m hm]
        · rw [List.take_add_one, List.take_add_one, marksSS_get k xs i hlt, List.getElem?_eq_getElem (show i < vs.length by omega)]
          simp only [Option.toList_some, List.map_append, List.map_cons, List.map_nil]
          refine Own.append ((o1 c).congr fun m hm => ?_) ((p1 c).congr fun m _ => by simp [hp_next_rows])
          simp only [hp_next_rows]
          refine p2 m fun hm3 => ?_
          have := (List.nodup_append.1 hnd1).2.2 m hm m (by simp [hm3])
          exact this rfl
        · refine o4.congr fun m hm => ?_
          simp only [hp_next_rows]
          refine p2 m fun hm3 => ?_
          have := (List.nodup_append.1 ((List.nodup_append.1 hnd1).2.1)).2.2 m hm3 m hm
          exact this rfl
      · have hge : i = xs.length := by simp at hb; omega
        repeat' (first
         | with_reducible refine stp ?_
         | with_reducible refine k_blk_o rfl ?_
         | with_reducible refine k_seq_n ?_
         | ((try (conv => arg 1; simp [h0, h1, h5])); with_reducible refine evp ?_)
         | ((with_reducible refine apn ?na ?_); (case na => simp [appNames, ints, intss] <;> first | kernel_rfl | (refine ⟨?_, ?_⟩ <;> kernel_rfl)))
         | fail)
        subst hge
        have hm2 : m2 = [] := by
          rw [List.drop_eq_nil_of_le (by omega), List.drop_eq_nil_of_le (by omega)] at o2
          cases o2
          rfl
        subst hm2
        refine ⟨by simp [resV], fun c => ?_, fun m hm => by
          simp only [hp_next_rows]
          exact hoth m (fun h => hm (by simp [h])), by simp [hp_next_tick]; omega⟩
        have q := o1 c
        rw [List.take_of_length_le (by omega), List.take_of_length_le (by simp [marksSS_length])] at q
        have := own_intss_mk (rows := h'.rows) (n := n) (ver := ver) (xs := marksSS k xs) (vs := vs) (sp := sp) (c := c) (by rw [hoth n hn1]; exact hr) hsp hcl q
        rw [marksSS_length] at this
        rw [e12, List.append_nil]
        exact this.congr fun m _ => by simp [hp_next_rows]
end Go.Proofs.Ytfgaoojogididaa.AM

/-
  A stepper's state, and how a run ended.
-/
set_option linter.unusedVariables false
set_option linter.unusedSimpArgs false
set_option maxRecDepth 4000
namespace Go.Proofs.Ytfgaoojogididaa.AM
open Go.RowKit

private def MU4 : FuncId → Mode := fun f => if f = 27 ∨ f = 49 ∨ f = 50 then .fresh else if f = 33 ∨ f = 52 then .heap else .tree

structure Cpu where
  At : Int
  Regs : List Int
  Slots : List Int
  Mem : List (List Int)
  Input : List Int
  Out : List Int
  Code : Int
  Over : Bool
  Val : Int
def Cpu.cells (b : Bool) (c : Cpu) : List AV := [.int .i64 c.At, ints b c.Regs, ints b c.Slots, intss b c.Mem, ints b c.Input, ints b c.Out, .int .i64 c.Code, .bool c.Over, .int .i64 c.Val]
structure EndV where
  Code : Int
  Val : Int
  Out : List Int
def EndV.cells (b : Bool) (c : EndV) : List AV := [.int .i64 c.Code, .int .i64 c.Val, ints b c.Out]
def endOf (c : Cpu) : EndV := { Code := if c.Code = 0 ∧ c.Over = false then 2 else c.Code, Val := if c.Over = true ∧ c.Code = 0 then c.Val else 0, Out := c.Out }

theorem dr_agg {c : Bool} {rows : Nm → Option Row} {as' ts : List AV} (h : DRs c rows as' ts) : DR c rows (.agg as') (.agg ts) := .agg _ _ h.1 h.2
theorem dr_ptr0 {c : Bool} {rows : Nm → Option Row} {n : Nm} {ver : Nat} {r : Row} {cs ts : List AV} (h1 : rows n = some r) (h2 : r.ver = ver) (h3 : r.elems[0]? = some cs) (h : DRs c rows cs ts) : DR c rows (.ptr n ver 0 0) (.tptr c ts) :=
  .ptr n ver 0 0 r cs ts h1 h2 h3 (by simpa using h.1) (fun j x y hx hy => h.2 j x y (by simpa using hx) hy)
theorem drs_cpu (c : Cpu) {b b' : Bool} (hb : b = true → b' = true) {rows : Nm → Option Row} : DRs b' rows (c.cells b) (c.cells b') :=
  .cons (.int _ _) (.cons (dr_ints hb _) (.cons (dr_ints hb _) (.cons (dr_intss hb _) (.cons (dr_ints hb _) (.cons (dr_ints hb _) (.cons (.int _ _) (.cons (.bool _) (.cons (.int _ _) .nil))))))))
theorem drs_end (c : EndV) {b b' : Bool} (hb : b = true → b' = true) {rows : Nm → Option Row} : DRs b' rows (c.cells b) (c.cells b') :=
  .cons (.int _ _) (.cons (.int _ _) (.cons (dr_ints hb _) .nil))

theorem l15Runs (c : Cpu) : Pure Try.prog 48 [.agg (c.cells true)] (.bool (decide (c.Code = 0) && !c.Over)) := by
  intro T
  refine enter mixed MU4 Try.func48 rfl (by kernel_rfl) rfl ?_
  by_cases hz : c.Code = 0
  · skip
    repeat' (first
     | with_reducible refine stp ?_
     | with_reducible refine k_blk_o rfl ?_
     | with_reducible refine k_seq_n ?_
     | ((try (conv => arg 1; simp [Cpu.cells, hz])); with_reducible refine evp ?_)
     | ((with_reducible refine apn ?na ?_); (case na => simp [appNames, ints, intss] <;> first | kernel_rfl | (refine ⟨?_, ?_⟩ <;> kernel_rfl)))
     | fail)
    simp [resV, hz]; exact .bool _
  · skip
    repeat' (first
     | with_reducible refine stp ?_
     | with_reducible refine k_blk_o rfl ?_
     | with_reducible refine k_seq_n ?_
     | ((try (conv => arg 1; simp [Cpu.cells, hz])); with_reducible refine evp ?_)
     | ((with_reducible refine apn ?na ?_); (case na => simp [appNames, ints, intss] <;> first | kernel_rfl | (refine ⟨?_, ?_⟩ <;> kernel_rfl)))
     | fail)
    simp [resV, hz]; exact .bool _

theorem runs (c : Cpu) : Pure Try.prog 71 [.tptr true (c.cells true)] (.bool (decide (c.Code = 0) && !c.Over)) := by
  intro T
  refine enter mixed MU4 Try.func71 rfl (by kernel_rfl) rfl ?_
  by_cases hz : c.Code = 0
  · skip
    repeat' (first
     | with_reducible refine stp ?_
     | with_reducible refine k_blk_o rfl ?_
     | with_reducible refine k_seq_n ?_
     | ((try (conv => arg 1; simp [Cpu.cells, hz])); with_reducible refine evp ?_)
     | ((with_reducible refine apn ?na ?_); (case na => simp [appNames, ints, intss] <;> first | kernel_rfl | (refine ⟨?_, ?_⟩ <;> kernel_rfl)))
     | fail)
    simp [resV, hz]; exact .bool _
  · skip
    repeat' (first
     | with_reducible refine stp ?_
     | with_reducible refine k_blk_o rfl ?_
     | with_reducible refine k_seq_n ?_
     | ((try (conv => arg 1; simp [Cpu.cells, hz])); with_reducible refine evp ?_)
     | ((with_reducible refine apn ?na ?_); (case na => simp [appNames, ints, intss] <;> first | kernel_rfl | (refine ⟨?_, ?_⟩ <;> kernel_rfl)))
     | fail)
    simp [resV, hz]; exact .bool _

theorem specCpuEnd (c : Cpu) (hl : c.Out.length ≤ 2 ^ 20) : Pure Try.prog 13 [.agg (c.cells true)] (.agg ((endOf c).cells false)) := by
  obtain ⟨At, Regs, Slots, Mem, Input, Out, Code, Over, Val⟩ := c
  simp only at hl
  intro T
  have hl2 : Out.length ≤ 4294967296 := by omega
  refine enter mixed MU4 Try.func13 rfl (by kernel_rfl) rfl ?_
  by_cases hz : Code = 0
  all_goals try subst hz
  all_goals cases Over
  all_goals
    repeat' (first
     | with_reducible refine stp ?_
     | with_reducible refine k_blk_o rfl ?_
     | with_reducible refine k_seq_n ?_
     | ((try (conv => arg 1; simp [Cpu.cells, *])); with_reducible refine evp ?_)
     | ((with_reducible refine apn ?na ?_); (case na => simp [appNames, ints, intss] <;> first | kernel_rfl | (refine ⟨?_, ?_⟩ <;> kernel_rfl)))
     | fail)
    refine st_tree rfl (l15Runs ⟨At, Regs, Slots, Mem, Input, Out, _, _, Val⟩) (.cons (dr_agg (drs_cpu _ (fun _ => rfl))) .nil) ?_
    repeat' (first
     | with_reducible refine stp ?_
     | with_reducible refine k_blk_o rfl ?_
     | with_reducible refine k_seq_n ?_
     | ((try (conv => arg 1; simp [Cpu.cells, *])); with_reducible refine evp ?_)
     | ((with_reducible refine apn ?na ?_); (case na => simp [appNames, ints, intss] <;> first | kernel_rfl | (refine ⟨?_, ?_⟩ <;> kernel_rfl)))
     | fail)
    conv => arg 4; simp [endOf, EndV.cells, *]
    refine dr_agg (.cons (.int _ _) (.cons (.int _ _) (.cons ?_ .nil)))
    refine (own_ints (ys := Out) ?_ List.take_length rfl).dr 0 _ _ rfl rfl
    simp [hp_next_rows, hp_rows_put]
end Go.Proofs.Ytfgaoojogididaa.AM

/-
  How a run ended: the implementation's own.
-/
set_option linter.unusedVariables false
set_option linter.unusedSimpArgs false
set_option maxRecDepth 4000
namespace Go.Proofs.Ytfgaoojogididaa.AM
open Go.RowKit

private def MU5 : FuncId → Mode := fun f => if f = 50 then .fresh else .tree

theorem dr_tptr {rows : Nm → Option Row} {cs ts : List AV} (h : DRs true rows cs ts) : DR true rows (.tptr true cs) (.tptr true ts) := .tptr true cs ts (fun h => h) h.1 h.2

theorem cpuEnd (c : Cpu) (hl : c.Out.length ≤ 2 ^ 20) : Fresh Try.prog 50 [.tptr true (c.cells true)] (fun b => .agg ((endOf c).cells b)) := by
  obtain ⟨At, Regs, Slots, Mem, Input, Out, Code, Over, Val⟩ := c
  simp only at hl
  intro T
  have hl2 : Out.length ≤ 4294967296 := by omega
  refine enter mixed MU5 Try.func50 rfl (by kernel_rfl) rfl ?_
  by_cases hz : Code = 0
  all_goals try subst hz
  all_goals cases Over
  all_goals
    repeat' (first
     | with_reducible refine stp ?_
     | with_reducible refine k_blk_o rfl ?_
     | with_reducible refine k_seq_n ?_
     | ((try (conv => arg 1; simp [Cpu.cells, *])); with_reducible refine evp ?_)
     | ((with_reducible refine apn ?na ?_); (case na => simp [appNames, ints, intss] <;> first | kernel_rfl | (refine ⟨?_, ?_⟩ <;> kernel_rfl)))
     | fail)
    repeat (with_reducible first | refine stp ?_ | refine k_seq_n ?_)
    refine st_draw 12 (fun _ => false) (by kernel_rfl) ?_
    simp only [List.take_succ_cons, List.take_zero, List.drop_succ_cons, List.drop_zero, List.take_nil, List.drop_nil]
    repeat' (first
     | with_reducible refine stp ?_
     | with_reducible refine k_blk_o rfl ?_
     | with_reducible refine k_seq_n ?_
     | ((try (conv => arg 1; simp [Cpu.cells, *])); with_reducible refine evp ?_)
     | ((with_reducible refine apn ?na ?_); (case na => simp [appNames, ints, intss] <;> first | kernel_rfl | (refine ⟨?_, ?_⟩ <;> kernel_rfl)))
     | fail)
    refine st_tree rfl (runs ⟨At, Regs, Slots, Mem, Input, Out, _, _, Val⟩) (.cons (dr_tptr (drs_cpu _ (fun _ => rfl))) .nil) ?_
    repeat' (first
     | with_reducible refine stp ?_
     | with_reducible refine k_blk_o rfl ?_
     | with_reducible refine k_seq_n ?_
     | ((try (conv => arg 1; simp [Cpu.cells, *])); with_reducible refine evp ?_)
     | ((with_reducible refine apn ?na ?_); (case na => simp [appNames, ints, intss] <;> first | kernel_rfl | (refine ⟨?_, ?_⟩ <;> kernel_rfl)))
     | fail)
    refine ⟨by simp [hp_next_tick, hp_put_tick, hp_mt_tick] <;> omega, [(T + 1, 4, 0)], fun b => ?_, by simp, by simp [hp_next_tick, hp_put_tick, hp_mt_tick] <;> omega⟩
    simp only [resV]
    conv => arg 4; simp [endOf, EndV.cells, *]
    refine .agg (.int _ _ (.int _ _ ?_))
    refine own_ints (ys := Out) ?_ List.take_length rfl
    simp [hp_next_rows, hp_rows_put]
end Go.Proofs.Ytfgaoojogididaa.AM

/-
  How a run ended: equal, marked, held.
-/
set_option linter.unusedVariables false
set_option linter.unusedSimpArgs false
set_option maxRecDepth 4000
namespace Go.Proofs.Ytfgaoojogididaa.AM
open Go.RowKit

private def MU6 : FuncId → Mode := fun f => if f = 50 then .fresh else if f = 33 then .heap else .tree

theorem ownV_end {rows : Nm → Option Row} {b : Bool} {v : AV} {e : EndV} {ns : List Nm} (h : OwnV rows b v (.agg (e.cells b)) ns) : ∃ w, v = .agg [.int .i64 e.Code, .int .i64 e.Val, w] ∧ Own rows b [w] [ints b e.Out] ns := by
  generalize ht : AV.agg (e.cells b) = t at h
  cases h with
  | one h => subst ht; unfold EndV.cells at h; cases h
  | @agg l _ _ h =>
    cases ht
    unfold EndV.cells at h
    have hl := h.length
    match l, hl, h with
    | [a1, a2, w], _, h =>
      cases h with
      | int _ _ h => cases h with
        | int _ _ h => exact ⟨w, rfl, h⟩
  | tup2 => cases ht

theorem implCpuEnd (c : Cpu) (hl : c.Out.length ≤ 2 ^ 20) : Fresh Try.prog 15 [.agg (c.cells true)] (fun b => .agg ((endOf c).cells b)) := by
  obtain ⟨At, Regs, Slots, Mem, Input, Out, Code, Over, Val⟩ := c
  intro T
  refine enter mixed MU6 Try.func15 rfl (by kernel_rfl) rfl ?_
  repeat' (first
   | with_reducible refine stp ?_
   | with_reducible refine k_blk_o rfl ?_
   | with_reducible refine k_seq_n ?_
   | ((try (conv => arg 1; simp [Cpu.cells])); with_reducible refine evp ?_)
   | ((with_reducible refine apn ?na ?_); (case na => simp [appNames, ints, intss] <;> first | kernel_rfl | (refine ⟨?_, ?_⟩ <;> kernel_rfl)))
   | fail)
  refine st_fresh rfl (cpuEnd ⟨At, Regs, Slots, Mem, Input, Out, Code, Over, Val⟩ hl) (.cons (dr_ptr0 (r := ⟨0, 9, [Cpu.cells true ⟨At, Regs, Slots, Mem, Input, Out, Code, Over, Val⟩]⟩) (by simp [hp_next_rows, hp_rows_put, Cpu.cells]) rfl rfl (drs_cpu _ (fun _ => rfl))) .nil) ?_
  intro v h' ns o1 d1 f1 p1 t1
  obtain ⟨w, rfl, ow⟩ := ownV_end (o1 true)
  have q := own_one ow
  have hr : h'.rows (T, 1, 0) = some ⟨0, 3, [[.int .i64 0, .int .i64 0, .nilsl]]⟩ := by
    rw [p1 _ (by simp [hp_next_tick, hp_put_tick, hp_mt_tick] <;> omega)]
    simp [hp_next_rows, hp_rows_put]
  simp only [hp_next_tick, hp_put_tick, hp_mt_tick] at f1 t1
  have ht : T < h'.tick := by omega
  repeat' (first
   | with_reducible refine stp ?_
   | with_reducible refine k_blk_o rfl ?_
   | with_reducible refine k_seq_n ?_
   | ((try (conv => arg 1; simp [hr, ht, q.1])); with_reducible refine evp ?_)
   | ((with_reducible refine apn ?na ?_); (case na => simp [appNames, ints, intss] <;> first | kernel_rfl | (refine ⟨?_, ?_⟩ <;> kernel_rfl)))
   | fail)
  refine ⟨by simp [hp_next_tick, hp_put_tick] <;> omega, ns, fun b => ?_, d1, fun n hn => by have := f1 n hn; simp [hp_next_tick, hp_put_tick]; omega⟩
  simp only [resV]
  refine (o1 b).congr fun n hn => ?_
  have := f1 n hn
  have hne : n ≠ (T, 1, 0) := fun e => by rw [e] at this; simp at this; omega
  simp [hp_rows_put, hne]
end Go.Proofs.Ytfgaoojogididaa.AM

/-
  How a run ended: equal, marked, held.
-/
set_option linter.unusedVariables false
set_option linter.unusedSimpArgs false
set_option maxRecDepth 4000
namespace Go.Proofs.Ytfgaoojogididaa.AM
open Go.RowKit

private def MU7 : FuncId → Mode := fun f => if f = 33 then .heap else .tree

theorem eqEnd (e : EndV) (hl : e.Out.length ≤ 2 ^ 62) : Pure Try.prog 16 [.agg (e.cells true), .agg (e.cells true)] (.bool true) := by
  intro T
  refine enter mixed MU7 Try.func16 rfl (by kernel_rfl) rfl ?_
  repeat' (first
   | with_reducible refine stp ?_
   | with_reducible refine k_blk_o rfl ?_
   | with_reducible refine k_seq_n ?_
   | ((try (conv => arg 1; simp [EndV.cells])); with_reducible refine evp ?_)
   | ((with_reducible refine apn ?na ?_); (case na => simp [appNames, ints, intss] <;> first | kernel_rfl | (refine ⟨?_, ?_⟩ <;> kernel_rfl)))
   | fail)
  refine st_tree rfl (eqIntS e.Out hl) (.cons (dr_ints (fun h => h) _) (.cons (dr_ints (fun h => h) _) .nil)) ?_
  repeat' (first
   | with_reducible refine stp ?_
   | with_reducible refine k_blk_o rfl ?_
   | with_reducible refine k_seq_n ?_
   | ((try (conv => arg 1; simp [EndV.cells])); with_reducible refine evp ?_)
   | ((with_reducible refine apn ?na ?_); (case na => simp [appNames, ints, intss] <;> first | kernel_rfl | (refine ⟨?_, ?_⟩ <;> kernel_rfl)))
   | fail)
  exact .bool true

theorem heldEnd (e : EndV) (n : Nat) (k : Int) (hk : 0 ≤ k) (hl : k + n ≤ 2 ^ 62) (he : e.Out = marks k n) : Pure Try.prog 20 [.agg (e.cells true), .int .i64 k] (.int .i64 (k + n)) := by
  intro T
  have hneg : ¬ k + (n : Int) < 0 := by omega
  refine enter mixed MU7 Try.func20 rfl (by kernel_rfl) rfl ?_
  repeat' (first
   | with_reducible refine stp ?_
   | with_reducible refine k_blk_o rfl ?_
   | with_reducible refine k_seq_n ?_
   | ((try (conv => arg 1; simp [EndV.cells, he])); with_reducible refine evp ?_)
   | ((with_reducible refine apn ?na ?_); (case na => simp [appNames, ints, intss] <;> first | kernel_rfl | (refine ⟨?_, ?_⟩ <;> kernel_rfl)))
   | fail)
  refine st_tree rfl (heldIntS n k hk hl) (.cons (dr_ints (fun h => h) _) (.cons (.int _ _) .nil)) ?_
  repeat' (first
   | with_reducible refine stp ?_
   | with_reducible refine k_blk_o rfl ?_
   | with_reducible refine k_seq_n ?_
   | ((try (conv => arg 1; simp [EndV.cells, hneg])); with_reducible refine evp ?_)
   | ((with_reducible refine apn ?na ?_); (case na => simp [appNames, ints, intss] <;> first | kernel_rfl | (refine ⟨?_, ?_⟩ <;> kernel_rfl)))
   | fail)
  exact .int _ _

theorem markEnd {h : Hp} {v : AV} {e : EndV} {ns : List Nm} (ho : ∀ b, OwnV h.rows b v (.agg (e.cells b)) ns) (hns : ∀ n ∈ ns, n.1 < h.tick) (k : Int) (hk : 0 ≤ k) (hl : k + e.Out.length ≤ 2 ^ 62) :
    Sound Try.prog 19 [v, .int .i64 k] h fun r h' => r = .int .i64 (k + e.Out.length) ∧ (∀ b, OwnV h'.rows b v (.agg (EndV.cells b ⟨e.Code, e.Val, marks k e.Out.length⟩)) ns) ∧ (∀ n, n ∉ ns → n.1 < h.tick → h'.rows n = h.rows n) ∧ h.tick ≤ h'.tick := by
  obtain ⟨w, rfl, ow⟩ := ownV_end (ho true)
  have q := own_one ow
  refine enter mixed MU7 Try.func19 rfl (by kernel_rfl) rfl ?_
  repeat' (first
   | with_reducible refine stp ?_
   | with_reducible refine k_blk_o rfl ?_
   | with_reducible refine k_seq_n ?_
   | ((try (conv => arg 1; simp [q.1])); with_reducible refine evp ?_)
   | ((with_reducible refine apn ?na ?_); (case na => simp [appNames, ints, intss] <;> first | kernel_rfl | (refine ⟨?_, ?_⟩ <;> kernel_rfl)))
   | fail)
  refine st_heap rfl (markIntS (ow.congr fun n hn => ?_) (fun n hn => ?_) k hk hl) ?_
  · have := hns n hn
    have hne : n ≠ (h.tick, 0, 0) := fun e => by rw [e] at this; simp at this
    simp [hp_next_rows, hp_rows_put, hne]
  · have := hns n hn
    simp [hp_next_tick, hp_put_tick]; omega
  rintro r h' ⟨rfl, o1, p1, t1⟩
  simp only [hp_next_tick, hp_put_tick] at t1
  repeat' (first
   | with_reducible refine stp ?_
   | with_reducible refine k_blk_o rfl ?_
   | with_reducible refine k_seq_n ?_
   | ((try (conv => arg 1; simp [q.1])); with_reducible refine evp ?_)
   | ((with_reducible refine apn ?na ?_); (case na => simp [appNames, ints, intss] <;> first | kernel_rfl | (refine ⟨?_, ?_⟩ <;> kernel_rfl)))
   | fail)
  refine ⟨rfl, fun b => .agg (.int _ _ (.int _ _ ((o1 b).congr fun n hn => by simp [hp_next_rows]))), fun n hn hlt => ?_, by simp [hp_next_tick]; omega⟩
  have hne : n ≠ (h.tick, 0, 0) := fun e => by rw [e] at hlt; simp at hlt
  simp only [hp_next_rows]
  rw [p1 n hn]
  simp [hp_next_rows, hp_rows_put, hne]
end Go.Proofs.Ytfgaoojogididaa.AM

/-
  A stepper's state: its size, equal.
-/
set_option linter.unusedVariables false
set_option linter.unusedSimpArgs false
set_option maxRecDepth 4000
namespace Go.Proofs.Ytfgaoojogididaa.AM
open Go.RowKit

private def MU8 : FuncId → Mode := fun f => if f = 27 ∨ f = 49 then .fresh else if f = 33 ∨ f = 52 then .heap else .tree

structure Cpu.Small (c : Cpu) : Prop where
  regs : c.Regs.length ≤ 2 ^ 20
  slots : c.Slots.length ≤ 2 ^ 20
  mem : wtSS c.Mem ≤ 2 ^ 20
  input : c.Input.length ≤ 2 ^ 20
  out : c.Out.length ≤ 2 ^ 20

theorem mem_small {xs : List (List Int)} {n : Nat} (h : wtSS xs ≤ n) : xs.length ≤ n ∧ ∀ x ∈ xs, x.length ≤ n := by
  simp only [wtSS] at h
  refine ⟨by omega, fun x hx => ?_⟩
  obtain ⟨i, hi, rfl⟩ := List.getElem_of_mem hx
  have a1 := psum_succ xs i hi
  have a2 := psum_le xs (i + 1)
  omega

theorem eqCpu (c : Cpu) (hs : c.Small) : Pure Try.prog 17 [.agg (c.cells true), .agg (c.cells true)] (.bool true) := by
  intro T
  have k1 := eqIntS c.Regs (by have := hs.regs; omega)
  have k2 := eqIntS c.Slots (by have := hs.slots; omega)
  have k3 := eqIntSS c.Mem (by have := (mem_small hs.mem).1; omega) (fun x hx => by have := (mem_small hs.mem).2 x hx; omega)
  have k4 := eqIntS c.Input (by have := hs.input; omega)
  have k5 := eqIntS c.Out (by have := hs.out; omega)
  refine enter mixed MU8 Try.func17 rfl (by kernel_rfl) rfl ?_
  repeat' (first
   | with_reducible refine stp ?_
   | with_reducible refine k_blk_o rfl ?_
   | with_reducible refine k_seq_n ?_
   | ((try (conv => arg 1; simp [Cpu.cells])); with_reducible refine evp ?_)
   | ((with_reducible refine apn ?na ?_); (case na => simp [appNames, ints, intss] <;> first | kernel_rfl | (refine ⟨?_, ?_⟩ <;> kernel_rfl)))
   | fail)
  refine st_tree rfl k1 (.cons (dr_ints (fun h => h) _) (.cons (dr_ints (fun h => h) _) .nil)) ?_
  repeat' (first
   | with_reducible refine stp ?_
   | with_reducible refine k_blk_o rfl ?_
   | with_reducible refine k_seq_n ?_
   | ((try (conv => arg 1; simp [Cpu.cells])); with_reducible refine evp ?_)
   | ((with_reducible refine apn ?na ?_); (case na => simp [appNames, ints, intss] <;> first | kernel_rfl | (refine ⟨?_, ?_⟩ <;> kernel_rfl)))
   | fail)
  refine st_tree rfl k2 (.cons (dr_ints (fun h => h) _) (.cons (dr_ints (fun h => h) _) .nil)) ?_
  repeat' (first
   | with_reducible refine stp ?_
   | with_reducible refine k_blk_o rfl ?_
   | with_reducible refine k_seq_n ?_
   | ((try (conv => arg 1; simp [Cpu.cells])); with_reducible refine evp ?_)
   | ((with_reducible refine apn ?na ?_); (case na => simp [appNames, ints, intss] <;> first | kernel_rfl | (refine ⟨?_, ?_⟩ <;> kernel_rfl)))
   | fail)
  refine st_tree rfl k3 (.cons (dr_intss (fun h => h) _) (.cons (dr_intss (fun h => h) _) .nil)) ?_
  repeat' (first
   | with_reducible refine stp ?_
   | with_reducible refine k_blk_o rfl ?_
   | with_reducible refine k_seq_n ?_
   | ((try (conv => arg 1; simp [Cpu.cells])); with_reducible refine evp ?_)
   | ((with_reducible refine apn ?na ?_); (case na => simp [appNames, ints, intss] <;> first | kernel_rfl | (refine ⟨?_, ?_⟩ <;> kernel_rfl)))
   | fail)
  refine st_tree rfl k4 (.cons (dr_ints (fun h => h) _) (.cons (dr_ints (fun h => h) _) .nil)) ?_
  repeat' (first
   | with_reducible refine stp ?_
   | with_reducible refine k_blk_o rfl ?_
   | with_reducible refine k_seq_n ?_
   | ((try (conv => arg 1; simp [Cpu.cells])); with_reducible refine evp ?_)
   | ((with_reducible refine apn ?na ?_); (case na => simp [appNames, ints, intss] <;> first | kernel_rfl | (refine ⟨?_, ?_⟩ <;> kernel_rfl)))
   | fail)
  refine st_tree rfl k5 (.cons (dr_ints (fun h => h) _) (.cons (dr_ints (fun h => h) _) .nil)) ?_
  by_cases ho : c.Over = true
  all_goals
    repeat' (first
     | with_reducible refine stp ?_
     | with_reducible refine k_blk_o rfl ?_
     | with_reducible refine k_seq_n ?_
     | ((try (conv => arg 1; simp [Cpu.cells, ho])); with_reducible refine evp ?_)
     | ((with_reducible refine apn ?na ?_); (case na => simp [appNames, ints, intss] <;> first | kernel_rfl | (refine ⟨?_, ?_⟩ <;> kernel_rfl)))
     | fail)
    exact .bool true
end Go.Proofs.Ytfgaoojogididaa.AM

/-
  A stepper's state: its size.
-/
set_option linter.unusedVariables false
set_option linter.unusedSimpArgs false
set_option maxRecDepth 4000
namespace Go.Proofs.Ytfgaoojogididaa.AM
open Go.RowKit

private def MU9 : FuncId → Mode := fun f => if f = 27 ∨ f = 49 then .fresh else if f = 33 ∨ f = 52 then .heap else .tree

theorem szCpu (c : Cpu) (left : Int) (l0 : 0 ≤ left) (l1 : left ≤ 2 ^ 20) (m1 : c.Regs.length ≤ maxLen) (m2 : c.Slots.length ≤ maxLen) (m3 : c.Mem.length ≤ maxLen) (m3' : ∀ x ∈ c.Mem, x.length ≤ maxLen) (m4 : c.Input.length ≤ maxLen) (m5 : c.Out.length ≤ maxLen) :
    ∃ r : Int, Pure Try.prog 12 [.agg (c.cells true), .int .i64 left] (.int .i64 r) ∧ (r < 0 ∨ c.Small) := by
  by_cases h1 : left < (c.Regs.length : Int)
  · refine ⟨-1, ?_, .inl (by omega)⟩
    intro T
    refine enter mixed MU9 Try.func12 rfl (by kernel_rfl) rfl ?_
    repeat' (first
     | with_reducible refine stp ?_
     | with_reducible refine k_blk_o rfl ?_
     | with_reducible refine k_seq_n ?_
     | ((try (conv => arg 1; simp [Cpu.cells])); with_reducible refine evp ?_)
     | ((with_reducible refine apn ?na ?_); (case na => simp [appNames, ints, intss] <;> first | kernel_rfl | (refine ⟨?_, ?_⟩ <;> kernel_rfl)))
     | fail)
    refine st_tree rfl (szIntS c.Regs (left) (by omega) (by omega) m1) (.cons (dr_ints (fun h => h) _) (.cons (.int _ _) .nil)) ?_
    rw [if_pos h1]
    repeat' (first
     | with_reducible refine stp ?_
     | with_reducible refine k_blk_o rfl ?_
     | with_reducible refine k_seq_n ?_
     | ((try (conv => arg 1; simp [Cpu.cells])); with_reducible refine evp ?_)
     | ((with_reducible refine apn ?na ?_); (case na => simp [appNames, ints, intss] <;> first | kernel_rfl | (refine ⟨?_, ?_⟩ <;> kernel_rfl)))
     | fail)
    exact .int _ _
  by_cases h2 : left - (c.Regs.length : Int) < (c.Slots.length : Int)
  · refine ⟨-1, ?_, .inl (by omega)⟩
    intro T
    refine enter mixed MU9 Try.func12 rfl (by kernel_rfl) rfl ?_
    repeat' (first
     | with_reducible refine stp ?_
     | with_reducible refine k_blk_o rfl ?_
     | with_reducible refine k_seq_n ?_
     | ((try (conv => arg 1; simp [Cpu.cells])); with_reducible refine evp ?_)
     | ((with_reducible refine apn ?na ?_); (case na => simp [appNames, ints, intss] <;> first | kernel_rfl | (refine ⟨?_, ?_⟩ <;> kernel_rfl)))
     | fail)
    refine st_tree rfl (szIntS c.Regs (left) (by omega) (by omega) m1) (.cons (dr_ints (fun h => h) _) (.cons (.int _ _) .nil)) ?_
    rw [if_neg h1]
    have e1 : ¬ left - (c.Regs.length : Int) < 0 := by omega
    repeat' (first
     | with_reducible refine stp ?_
     | with_reducible refine k_blk_o rfl ?_
     | with_reducible refine k_seq_n ?_
     | ((try (conv => arg 1; simp [Cpu.cells, e1])); with_reducible refine evp ?_)
     | ((with_reducible refine apn ?na ?_); (case na => simp [appNames, ints, intss] <;> first | kernel_rfl | (refine ⟨?_, ?_⟩ <;> kernel_rfl)))
     | fail)
    refine st_tree rfl (szIntS c.Slots (left - (c.Regs.length : Int)) (by omega) (by omega) m2) (.cons (dr_ints (fun h => h) _) (.cons (.int _ _) .nil)) ?_
    rw [if_pos h2]
    repeat' (first
     | with_reducible refine stp ?_
     | with_reducible refine k_blk_o rfl ?_
     | with_reducible refine k_seq_n ?_
     | ((try (conv => arg 1; simp [Cpu.cells])); with_reducible refine evp ?_)
     | ((with_reducible refine apn ?na ?_); (case na => simp [appNames, ints, intss] <;> first | kernel_rfl | (refine ⟨?_, ?_⟩ <;> kernel_rfl)))
     | fail)
    exact .int _ _
  by_cases h3 : left - (c.Regs.length : Int) - (c.Slots.length : Int) < (wtSS c.Mem : Int)
  · refine ⟨-1, ?_, .inl (by omega)⟩
    intro T
    refine enter mixed MU9 Try.func12 rfl (by kernel_rfl) rfl ?_
    repeat' (first
     | with_reducible refine stp ?_
     | with_reducible refine k_blk_o rfl ?_
     | with_reducible refine k_seq_n ?_
     | ((try (conv => arg 1; simp [Cpu.cells])); with_reducible refine evp ?_)
     | ((with_reducible refine apn ?na ?_); (case na => simp [appNames, ints, intss] <;> first | kernel_rfl | (refine ⟨?_, ?_⟩ <;> kernel_rfl)))
     | fail)
    refine st_tree rfl (szIntS c.Regs (left) (by omega) (by omega) m1) (.cons (dr_ints (fun h => h) _) (.cons (.int _ _) .nil)) ?_
    rw [if_neg h1]
    have e1 : ¬ left - (c.Regs.length : Int) < 0 := by omega
    repeat' (first
     | with_reducible refine stp ?_
     | with_reducible refine k_blk_o rfl ?_
     | with_reducible refine k_seq_n ?_
     | ((try (conv => arg 1; simp [Cpu.cells, e1])); with_reducible refine evp ?_)
     | ((with_reducible refine apn ?na ?_); (case na => simp [appNames, ints, intss] <;> first | kernel_rfl | (refine ⟨?_, ?_⟩ <;> kernel_rfl)))
     | fail)
    refine st_tree rfl (szIntS c.Slots (left - (c.Regs.length : Int)) (by omega) (by omega) m2) (.cons (dr_ints (fun h => h) _) (.cons (.int _ _) .nil)) ?_
    rw [if_neg h2]
    have e2 : ¬ left - (c.Regs.length : Int) - (c.Slots.length : Int) < 0 := by omega
    repeat' (first
     | with_reducible refine stp ?_
     | with_reducible refine k_blk_o rfl ?_
     | with_reducible refine k_seq_n ?_
     | ((try (conv => arg 1; simp [Cpu.cells, e2])); with_reducible refine evp ?_)
     | ((with_reducible refine apn ?na ?_); (case na => simp [appNames, ints, intss] <;> first | kernel_rfl | (refine ⟨?_, ?_⟩ <;> kernel_rfl)))
     | fail)
    refine st_tree rfl (szIntSS c.Mem (left - (c.Regs.length : Int) - (c.Slots.length : Int)) (by omega) (by omega) m3 m3') (.cons (dr_intss (fun h => h) _) (.cons (.int _ _) .nil)) ?_
    rw [if_pos h3]
    repeat' (first
     | with_reducible refine stp ?_
     | with_reducible refine k_blk_o rfl ?_
     | with_reducible refine k_seq_n ?_
     | ((try (conv => arg 1; simp [Cpu.cells])); with_reducible refine evp ?_)
     | ((with_reducible refine apn ?na ?_); (case na => simp [appNames, ints, intss] <;> first | kernel_rfl | (refine ⟨?_, ?_⟩ <;> kernel_rfl)))
     | fail)
    exact .int _ _
  by_cases h4 : left - (c.Regs.length : Int) - (c.Slots.length : Int) - (wtSS c.Mem : Int) < (c.Input.length : Int)
  · refine ⟨-1, ?_, .inl (by omega)⟩
    intro T
    refine enter mixed MU9 Try.func12 rfl (by kernel_rfl) rfl ?_
    repeat' (first
     | with_reducible refine stp ?_
     | with_reducible refine k_blk_o rfl ?_
     | with_reducible refine k_seq_n ?_
     | ((try (conv => arg 1; simp [Cpu.cells])); with_reducible refine evp ?_)
     | ((with_reducible refine apn ?na ?_); (case na => simp [appNames, ints, intss] <;> first | kernel_rfl | (refine ⟨?_, ?_⟩ <;> kernel_rfl)))
     | fail)
    refine st_tree rfl (szIntS c.Regs (left) (by omega) (by omega) m1) (.cons (dr_ints (fun h => h) _) (.cons (.int _ _) .nil)) ?_
    rw [if_neg h1]
    have e1 : ¬ left - (c.Regs.length : Int) < 0 := by omega
    repeat' (first
     | with_reducible refine stp ?_
     | with_reducible refine k_blk_o rfl ?_
     | with_reducible refine k_seq_n ?_
     | ((try (conv => arg 1; simp [Cpu.cells, e1])); with_reducible refine evp ?_)
     | ((with_reducible refine apn ?na ?_); (case na => simp [appNames, ints, intss] <;> first | kernel_rfl | (refine ⟨?_, ?_⟩ <;> kernel_rfl)))
     | fail)
    refine st_tree rfl (szIntS c.Slots (left - (c.Regs.length : Int)) (by omega) (by omega) m2) (.cons (dr_ints (fun h => h) _) (.cons (.int _ _) .nil)) ?_
    rw [if_neg h2]
    have e2 : ¬ left - (c.Regs.length : Int) - (c.Slots.length : Int) < 0 := by omega
    repeat' (first
     | with_reducible refine stp ?_
     | with_reducible refine k_blk_o rfl ?_
     | with_reducible refine k_seq_n ?_
     | ((try (conv => arg 1; simp [Cpu.cells, e2])); with_reducible refine evp ?_)
     | ((with_reducible refine apn ?na ?_); (case na => simp [appNames, ints, intss] <;> first | kernel_rfl | (refine ⟨?_, ?_⟩ <;> kernel_rfl)))
     | fail)
    refine st_tree rfl (szIntSS c.Mem (left - (c.Regs.length : Int) - (c.Slots.length : Int)) (by omega) (by omega) m3 m3') (.cons (dr_intss (fun h => h) _) (.cons (.int _ _) .nil)) ?_
    rw [if_neg h3]
    have e3 : ¬ left - (c.Regs.length : Int) - (c.Slots.length : Int) - (wtSS c.Mem : Int) < 0 := by omega
    repeat' (first
     | with_reducible refine stp ?_
     | with_reducible refine k_blk_o rfl ?_
     | with_reducible refine k_seq_n ?_
     | ((try (conv => arg 1; simp [Cpu.cells, e3])); with_reducible refine evp ?_)
     | ((with_reducible refine apn ?na ?_); (case na => simp [appNames, ints, intss] <;> first | kernel_rfl | (refine ⟨?_, ?_⟩ <;> kernel_rfl)))
     | fail)
    refine st_tree rfl (szIntS c.Input (left - (c.Regs.length : Int) - (c.Slots.length : Int) - (wtSS c.Mem : Int)) (by omega) (by omega) m4) (.cons (dr_ints (fun h => h) _) (.cons (.int _ _) .nil)) ?_
    rw [if_pos h4]
    repeat' (first
     | with_reducible refine stp ?_
     | with_reducible refine k_blk_o rfl ?_
     | with_reducible refine k_seq_n ?_
     | ((try (conv => arg 1; simp [Cpu.cells])); with_reducible refine evp ?_)
     | ((with_reducible refine apn ?na ?_); (case na => simp [appNames, ints, intss] <;> first | kernel_rfl | (refine ⟨?_, ?_⟩ <;> kernel_rfl)))
     | fail)
    exact .int _ _
  by_cases h5 : left - (c.Regs.length : Int) - (c.Slots.length : Int) - (wtSS c.Mem : Int) - (c.Input.length : Int) < (c.Out.length : Int)
  · refine ⟨-1, ?_, .inl (by omega)⟩
    intro T
    refine enter mixed MU9 Try.func12 rfl (by kernel_rfl) rfl ?_
    repeat' (first
     | with_reducible refine stp ?_
     | with_reducible refine k_blk_o rfl ?_
     | with_reducible refine k_seq_n ?_
     | ((try (conv => arg 1; simp [Cpu.cells])); with_reducible refine evp ?_)
     | ((with_reducible refine apn ?na ?_); (case na => simp [appNames, ints, intss] <;> first | kernel_rfl | (refine ⟨?_, ?_⟩ <;> kernel_rfl)))
     | fail)
    refine st_tree rfl (szIntS c.Regs (left) (by omega) (by omega) m1) (.cons (dr_ints (fun h => h) _) (.cons (.int _ _) .nil)) ?_
    rw [if_neg h1]
    have e1 : ¬ left - (c.Regs.length : Int) < 0 := by omega
    repeat' (first
     | with_reducible refine stp ?_
     | with_reducible refine k_blk_o rfl ?_
     | with_reducible refine k_seq_n ?_
     | ((try (conv => arg 1; simp [Cpu.cells, e1])); with_reducible refine evp ?_)
     | ((with_reducible refine apn ?na ?_); (case na => simp [appNames, ints, intss] <;> first | kernel_rfl | (refine ⟨?_, ?_⟩ <;> kernel_rfl)))
     | fail)
    refine st_tree rfl (szIntS c.Slots (left - (c.Regs.length : Int)) (by omega) (by omega) m2) (.cons (dr_ints (fun h => h) _) (.cons (.int _ _) .nil)) ?_
    rw [if_neg h2]
    have e2 : ¬ left - (c.Regs.length : Int) - (c.Slots.length : Int) < 0 := by omega
    repeat' (first
     | with_reducible refine stp ?_
     | with_reducible refine k_blk_o rfl ?_
     | with_reducible refine k_seq_n ?_
     | ((try (conv => arg 1; simp [Cpu.cells, e2])); with_reducible refine evp ?_)
     | ((with_reducible refine apn ?na ?_); (case na => simp [appNames, ints, intss] <;> first | kernel_rfl | (refine ⟨?_, ?_⟩ <;> kernel_rfl)))
     | fail)
    refine st_tree rfl (szIntSS c.Mem (left - (c.Regs.length : Int) - (c.Slots.length : Int)) (by omega) (by omega) m3 m3') (.cons (dr_intss (fun h => h) _) (.cons (.int _ _) .nil)) ?_
    rw [if_neg h3]
    have e3 : ¬ left - (c.Regs.length : Int) - (c.Slots.length : Int) - (wtSS c.Mem : Int) < 0 := by omega
    repeat' (first
     | with_reducible refine stp ?_
     | with_reducible refine k_blk_o rfl ?_
     | with_reducible refine k_seq_n ?_
     | ((try (conv => arg 1; simp [Cpu.cells, e3])); with_reducible refine evp ?_)
     | ((with_reducible refine apn ?na ?_); (case na => simp [appNames, ints, intss] <;> first | kernel_rfl | (refine ⟨?_, ?_⟩ <;> kernel_rfl)))
     | fail)
    refine st_tree rfl (szIntS c.Input (left - (c.Regs.length : Int) - (c.Slots.length : Int) - (wtSS c.Mem : Int)) (by omega) (by omega) m4) (.cons (dr_ints (fun h => h) _) (.cons (.int _ _) .nil)) ?_
    rw [if_neg h4]
    have e4 : ¬ left - (c.Regs.length : Int) - (c.Slots.length : Int) - (wtSS c.Mem : Int) - (c.Input.length : Int) < 0 := by omega
    repeat' (first
     | with_reducible refine stp ?_
     | with_reducible refine k_blk_o rfl ?_
     | with_reducible refine k_seq_n ?_
     | ((try (conv => arg 1; simp [Cpu.cells, e4])); with_reducible refine evp ?_)
     | ((with_reducible refine apn ?na ?_); (case na => simp [appNames, ints, intss] <;> first | kernel_rfl | (refine ⟨?_, ?_⟩ <;> kernel_rfl)))
     | fail)
    refine st_tree rfl (szIntS c.Out (left - (c.Regs.length : Int) - (c.Slots.length : Int) - (wtSS c.Mem : Int) - (c.Input.length : Int)) (by omega) (by omega) m5) (.cons (dr_ints (fun h => h) _) (.cons (.int _ _) .nil)) ?_
    rw [if_pos h5]
    repeat' (first
     | with_reducible refine stp ?_
     | with_reducible refine k_blk_o rfl ?_
     | with_reducible refine k_seq_n ?_
     | ((try (conv => arg 1; simp [Cpu.cells])); with_reducible refine evp ?_)
     | ((with_reducible refine apn ?na ?_); (case na => simp [appNames, ints, intss] <;> first | kernel_rfl | (refine ⟨?_, ?_⟩ <;> kernel_rfl)))
     | fail)
    exact .int _ _
  refine ⟨left - (c.Regs.length : Int) - (c.Slots.length : Int) - (wtSS c.Mem : Int) - (c.Input.length : Int) - (c.Out.length : Int), ?_, .inr ⟨by omega, by omega, by omega, by omega, by omega⟩⟩
  intro T
  refine enter mixed MU9 Try.func12 rfl (by kernel_rfl) rfl ?_
  repeat' (first
   | with_reducible refine stp ?_
   | with_reducible refine k_blk_o rfl ?_
   | with_reducible refine k_seq_n ?_
   | ((try (conv => arg 1; simp [Cpu.cells])); with_reducible refine evp ?_)
   | ((with_reducible refine apn ?na ?_); (case na => simp [appNames, ints, intss] <;> first | kernel_rfl | (refine ⟨?_, ?_⟩ <;> kernel_rfl)))
   | fail)
  refine st_tree rfl (szIntS c.Regs (left) (by omega) (by omega) m1) (.cons (dr_ints (fun h => h) _) (.cons (.int _ _) .nil)) ?_
  rw [if_neg h1]
  have e1 : ¬ left - (c.Regs.length : Int) < 0 := by omega
  repeat' (first
   | with_reducible refine stp ?_
   | with_reducible refine k_blk_o rfl ?_
   | with_reducible refine k_seq_n ?_
   | ((try (conv => arg 1; simp [Cpu.cells, e1])); with_reducible refine evp ?_)
   | ((with_reducible refine apn ?na ?_); (case na => simp [appNames, ints, intss] <;> first | kernel_rfl | (refine ⟨?_, ?_⟩ <;> kernel_rfl)))
   | fail)
  refine st_tree rfl (szIntS c.Slots (left - (c.Regs.length : Int)) (by omega) (by omega) m2) (.cons (dr_ints (fun h => h) _) (.cons (.int _ _) .nil)) ?_
  rw [if_neg h2]
  have e2 : ¬ left - (c.Regs.length : Int) - (c.Slots.length : Int) < 0 := by omega
  repeat' (first
   | with_reducible refine stp ?_
   | with_reducible refine k_blk_o rfl ?_
   | with_reducible refine k_seq_n ?_
   | ((try (conv => arg 1; simp [Cpu.cells, e2])); with_reducible refine evp ?_)
   | ((with_reducible refine apn ?na ?_); (case na => simp [appNames, ints, intss] <;> first | kernel_rfl | (refine ⟨?_, ?_⟩ <;> kernel_rfl)))
   | fail)
  refine st_tree rfl (szIntSS c.Mem (left - (c.Regs.length : Int) - (c.Slots.length : Int)) (by omega) (by omega) m3 m3') (.cons (dr_intss (fun h => h) _) (.cons (.int _ _) .nil)) ?_
  rw [if_neg h3]
  have e3 : ¬ left - (c.Regs.length : Int) - (c.Slots.length : Int) - (wtSS c.Mem : Int) < 0 := by omega
  repeat' (first
   | with_reducible refine stp ?_
   | with_reducible refine k_blk_o rfl ?_
   | with_reducible refine k_seq_n ?_
   | ((try (conv => arg 1; simp [Cpu.cells, e3])); with_reducible refine evp ?_)
   | ((with_reducible refine apn ?na ?_); (case na => simp [appNames, ints, intss] <;> first | kernel_rfl | (refine ⟨?_, ?_⟩ <;> kernel_rfl)))
   | fail)
  refine st_tree rfl (szIntS c.Input (left - (c.Regs.length : Int) - (c.Slots.length : Int) - (wtSS c.Mem : Int)) (by omega) (by omega) m4) (.cons (dr_ints (fun h => h) _) (.cons (.int _ _) .nil)) ?_
  rw [if_neg h4]
  have e4 : ¬ left - (c.Regs.length : Int) - (c.Slots.length : Int) - (wtSS c.Mem : Int) - (c.Input.length : Int) < 0 := by omega
  repeat' (first
   | with_reducible refine stp ?_
   | with_reducible refine k_blk_o rfl ?_
   | with_reducible refine k_seq_n ?_
   | ((try (conv => arg 1; simp [Cpu.cells, e4])); with_reducible refine evp ?_)
   | ((with_reducible refine apn ?na ?_); (case na => simp [appNames, ints, intss] <;> first | kernel_rfl | (refine ⟨?_, ?_⟩ <;> kernel_rfl)))
   | fail)
  refine st_tree rfl (szIntS c.Out (left - (c.Regs.length : Int) - (c.Slots.length : Int) - (wtSS c.Mem : Int) - (c.Input.length : Int)) (by omega) (by omega) m5) (.cons (dr_ints (fun h => h) _) (.cons (.int _ _) .nil)) ?_
  rw [if_neg h5]
  have e5 : ¬ left - (c.Regs.length : Int) - (c.Slots.length : Int) - (wtSS c.Mem : Int) - (c.Input.length : Int) - (c.Out.length : Int) < 0 := by omega
  repeat' (first
   | with_reducible refine stp ?_
   | with_reducible refine k_blk_o rfl ?_
   | with_reducible refine k_seq_n ?_
   | ((try (conv => arg 1; simp [Cpu.cells, e5])); with_reducible refine evp ?_)
   | ((with_reducible refine apn ?na ?_); (case na => simp [appNames, ints, intss] <;> first | kernel_rfl | (refine ⟨?_, ?_⟩ <;> kernel_rfl)))
   | fail)
  exact .int _ _
end Go.Proofs.Ytfgaoojogididaa.AM

/-
  A stepper's state: a copy.
-/
set_option linter.unusedVariables false
set_option linter.unusedSimpArgs false
set_option maxRecDepth 4000
namespace Go.Proofs.Ytfgaoojogididaa.AM
open Go.RowKit

private def MU10 : FuncId → Mode := fun f => if f = 27 ∨ f = 49 then .fresh else .tree

theorem toCpu (c : Cpu) (hs : c.Small) : Fresh Try.prog 14 [.agg (c.cells true)] (fun b => .agg (c.cells b)) := by
  intro T
  refine enter mixed MU10 Try.func14 rfl (by kernel_rfl) rfl ?_
  repeat' (first
   | with_reducible refine stp ?_
   | with_reducible refine k_blk_o rfl ?_
   | with_reducible refine k_seq_n ?_
   | ((try (conv => arg 1; simp [Cpu.cells])); with_reducible refine evp ?_)
   | ((with_reducible refine apn ?na ?_); (case na => simp [appNames, ints, intss] <;> first | kernel_rfl | (refine ⟨?_, ?_⟩ <;> kernel_rfl)))
   | fail)
  refine st_fresh rfl (toIntS c.Regs hs.regs) (.cons (dr_ints (fun h => h) _) .nil) ?_
  intro v1 h1 ns1 o1 d1 f1 p1 t1
  have q1 := own_one (ownV_ints (o1 true))
  simp only [hp_next_tick, hp_put_tick, hp_mt_tick] at f1 p1 t1
  have ra1 : h1.rows (T, 0, 0) = some ⟨0, 9, [c.cells true]⟩ := by
    rw [p1 (T, 0, 0) (by simp <;> omega)]
    simp [hp_next_rows, hp_rows_put, Cpu.cells]
  have rb1 : h1.rows (T, 1, 0) = some ⟨0, 9, [[.int .i64 0, .nilsl, .nilsl, .nilsl, .nilsl, .nilsl, .int .i64 0, .bool false, .int .i64 0]]⟩ := by
    rw [p1 (T, 1, 0) (by simp <;> omega)]
    simp [hp_next_rows, hp_rows_put]
  have rc1 : h1.rows (T + 1, 0, 0) = some ⟨0, 9, [[.int .i64 c.At, .nilsl, .nilsl, .nilsl, .nilsl, .nilsl, .int .i64 0, .bool false, .int .i64 0]]⟩ := by
    rw [p1 (T + 1, 0, 0) (by simp <;> omega)]
    simp [hp_next_rows, hp_rows_put]
  have tt1 : T + 1 < h1.tick := by omega
  have tu1 : T < h1.tick := by omega
  repeat' (first
   | with_reducible refine stp ?_
   | with_reducible refine k_blk_o rfl ?_
   | with_reducible refine k_seq_n ?_
   | ((try (conv => arg 1; simp [Cpu.cells, ra1, rb1, rc1, tt1, tu1, q1.1, q1.2.1, q1.2.2, q1.1])); with_reducible refine evp ?_)
   | ((with_reducible refine apn ?na ?_); (case na => simp [appNames, ints, intss] <;> first | kernel_rfl | (refine ⟨?_, ?_⟩ <;> kernel_rfl)))
   | fail)
  refine st_fresh rfl (toIntS c.Slots hs.slots) (.cons (dr_ints (fun h => h) _) .nil) ?_
  intro v2 h2 ns2 o2 d2 f2 p2 t2
  have q2 := own_one (ownV_ints (o2 true))
  simp only [hp_next_tick, hp_put_tick, hp_mt_tick] at f2 p2 t2
  have ra2 : h2.rows (T, 0, 0) = some ⟨0, 9, [c.cells true]⟩ := by
    rw [p2 (T, 0, 0) (by simp <;> omega)]
    simp [hp_next_rows, hp_rows_put, ra1, rb1, rc1, Cpu.cells]
  have rb2 : h2.rows (T, 1, 0) = some ⟨0, 9, [[.int .i64 0, .nilsl, .nilsl, .nilsl, .nilsl, .nilsl, .int .i64 0, .bool false, .int .i64 0]]⟩ := by
    rw [p2 (T, 1, 0) (by simp <;> omega)]
    simp [hp_next_rows, hp_rows_put, ra1, rb1, rc1]
  have rc2 : h2.rows (T + 1, 0, 0) = some ⟨0, 9, [[.int .i64 c.At, v1, .nilsl, .nilsl, .nilsl, .nilsl, .int .i64 0, .bool false, .int .i64 0]]⟩ := by
    rw [p2 (T + 1, 0, 0) (by simp <;> omega)]
    simp [hp_next_rows, hp_rows_put, ra1, rb1, rc1]
  have tt2 : T + 1 < h2.tick := by omega
  have tu2 : T < h2.tick := by omega
  have c1_2 : ∀ n ∈ ns1, h2.rows n = h1.rows n := fun n hn => by
    have b1 := f1 n hn
    have hne : n ≠ (T + 1, 0, 0) := fun e => by rw [e] at b1; simp at b1; omega
    rw [p2 n (by omega)]
    simp [hp_next_rows, hp_rows_put, hne]
  repeat' (first
   | with_reducible refine stp ?_
   | with_reducible refine k_blk_o rfl ?_
   | with_reducible refine k_seq_n ?_
   | ((try (conv => arg 1; simp [Cpu.cells, ra2, rb2, rc2, tt2, tu2, q2.1, q2.2.1, q2.2.2, q1.1, q2.1])); with_reducible refine evp ?_)
   | ((with_reducible refine apn ?na ?_); (case na => simp [appNames, ints, intss] <;> first | kernel_rfl | (refine ⟨?_, ?_⟩ <;> kernel_rfl)))
   | fail)
  refine st_fresh rfl (toIntSS c.Mem (mem_small hs.mem).1 (mem_small hs.mem).2) (.cons (dr_intss (fun h => h) _) .nil) ?_
  intro v3 h3 ns3 o3 d3 f3 p3 t3
  have q3 := own_one (ownV_intss (o3 true))
  simp only [hp_next_tick, hp_put_tick, hp_mt_tick] at f3 p3 t3
  have ra3 : h3.rows (T, 0, 0) = some ⟨0, 9, [c.cells true]⟩ := by
    rw [p3 (T, 0, 0) (by simp <;> omega)]
    simp [hp_next_rows, hp_rows_put, ra2, rb2, rc2, Cpu.cells]
  have rb3 : h3.rows (T, 1, 0) = some ⟨0, 9, [[.int .i64 0, .nilsl, .nilsl, .nilsl, .nilsl, .nilsl, .int .i64 0, .bool false, .int .i64 0]]⟩ := by
    rw [p3 (T, 1, 0) (by simp <;> omega)]
    simp [hp_next_rows, hp_rows_put, ra2, rb2, rc2]
  have rc3 : h3.rows (T + 1, 0, 0) = some ⟨0, 9, [[.int .i64 c.At, v1, v2, .nilsl, .nilsl, .nilsl, .int .i64 0, .bool false, .int .i64 0]]⟩ := by
    rw [p3 (T + 1, 0, 0) (by simp <;> omega)]
    simp [hp_next_rows, hp_rows_put, ra2, rb2, rc2]
  have tt3 : T + 1 < h3.tick := by omega
  have tu3 : T < h3.tick := by omega
  have c1_3 : ∀ n ∈ ns1, h3.rows n = h2.rows n := fun n hn => by
    have b1 := f1 n hn
    have hne : n ≠ (T + 1, 0, 0) := fun e => by rw [e] at b1; simp at b1; omega
    rw [p3 n (by omega)]
    simp [hp_next_rows, hp_rows_put, hne]
  have c2_3 : ∀ n ∈ ns2, h3.rows n = h2.rows n := fun n hn => by
    have b1 := f2 n hn
    have hne : n ≠ (T + 1, 0, 0) := fun e => by rw [e] at b1; simp at b1; omega
    rw [p3 n (by omega)]
    simp [hp_next_rows, hp_rows_put, hne]
  repeat' (first
   | with_reducible refine stp ?_
   | with_reducible refine k_blk_o rfl ?_
   | with_reducible refine k_seq_n ?_
   | ((try (conv => arg 1; simp [Cpu.cells, ra3, rb3, rc3, tt3, tu3, q3.1, q3.2.1, q3.2.2, q1.1, q2.1, q3.1])); with_reducible refine evp ?_)
   | ((with_reducible refine apn ?na ?_); (case na => simp [appNames, ints, intss] <;> first | kernel_rfl | (refine ⟨?_, ?_⟩ <;> kernel_rfl)))
   | fail)
  refine st_fresh rfl (toIntS c.Input hs.input) (.cons (dr_ints (fun h => h) _) .nil) ?_
  intro v4 h4 ns4 o4 d4 f4 p4 t4
  have q4 := own_one (ownV_ints (o4 true))
  simp only [hp_next_tick, hp_put_tick, hp_mt_tick] at f4 p4 t4
  have ra4 : h4.rows (T, 0, 0) = some ⟨0, 9, [c.cells true]⟩ := by
    rw [p4 (T, 0, 0) (by simp <;> omega)]
    simp [hp_next_rows, hp_rows_put, ra3, rb3, rc3, Cpu.cells]
  have rb4 : h4.rows (T, 1, 0) = some ⟨0, 9, [[.int .i64 0, .nilsl, .nilsl, .nilsl, .nilsl, .nilsl, .int .i64 0, .bool false, .int .i64 0]]⟩ := by
    rw [p4 (T, 1, 0) (by simp <;> omega)]
    simp [hp_next_rows, hp_rows_put, ra3, rb3, rc3]
  have rc4 : h4.rows (T + 1, 0, 0) = some ⟨0, 9, [[.int .i64 c.At, v1, v2, v3, .nilsl, .nilsl, .int .i64 0, .bool false, .int .i64 0]]⟩ := by
    rw [p4 (T + 1, 0, 0) (by simp <;> omega)]
    simp [hp_next_rows, hp_rows_put, ra3, rb3, rc3]
  have tt4 : T + 1 < h4.tick := by omega
  have tu4 : T < h4.tick := by omega
  have c1_4 : ∀ n ∈ ns1, h4.rows n = h3.rows n := fun n hn => by
    have b1 := f1 n hn
    have hne : n ≠ (T + 1, 0, 0) := fun e => by rw [e] at b1; simp at b1; omega
    rw [p4 n (by omega)]
    simp [hp_next_rows, hp_rows_put, hne]
  have c2_4 : ∀ n ∈ ns2, h4.rows n = h3.rows n := fun n hn => by
    have b1 := f2 n hn
    have hne : n ≠ (T + 1, 0, 0) := fun e => by rw [e] at b1; simp at b1; omega
    rw [p4 n (by omega)]
    simp [hp_next_rows, hp_rows_put, hne]
  have c3_4 : ∀ n ∈ ns3, h4.rows n = h3.rows n := fun n hn => by
    have b1 := f3 n hn
    have hne : n ≠ (T + 1, 0, 0) := fun e => by rw [e] at b1; simp at b1; omega
    rw [p4 n (by omega)]
    simp [hp_next_rows, hp_rows_put, hne]
  repeat' (first
   | with_reducible refine stp ?_
   | with_reducible refine k_blk_o rfl ?_
   | with_reducible refine k_seq_n ?_
   | ((try (conv => arg 1; simp [Cpu.cells, ra4, rb4, rc4, tt4, tu4, q4.1, q4.2.1, q4.2.2, q1.1, q2.1, q3.1, q4.1])); with_reducible refine evp ?_)
   | ((with_reducible refine apn ?na ?_); (case na => simp [appNames, ints, intss] <;> first | kernel_rfl | (refine ⟨?_, ?_⟩ <;> kernel_rfl)))
   | fail)
  refine st_fresh rfl (toIntS c.Out hs.out) (.cons (dr_ints (fun h => h) _) .nil) ?_
  intro v5 h5 ns5 o5 d5 f5 p5 t5
  have q5 := own_one (ownV_ints (o5 true))
  simp only [hp_next_tick, hp_put_tick, hp_mt_tick] at f5 p5 t5
  have ra5 : h5.rows (T, 0, 0) = some ⟨0, 9, [c.cells true]⟩ := by
    rw [p5 (T, 0, 0) (by simp <;> omega)]
    simp [hp_next_rows, hp_rows_put, ra4, rb4, rc4, Cpu.cells]
  have rb5 : h5.rows (T, 1, 0) = some ⟨0, 9, [[.int .i64 0, .nilsl, .nilsl, .nilsl, .nilsl, .nilsl, .int .i64 0, .bool false, .int .i64 0]]⟩ := by
    rw [p5 (T, 1, 0) (by simp <;> omega)]
    simp [hp_next_rows, hp_rows_put, ra4, rb4, rc4]
  have rc5 : h5.rows (T + 1, 0, 0) = some ⟨0, 9, [[.int .i64 c.At, v1, v2, v3, v4, .nilsl, .int .i64 0, .bool false, .int .i64 0]]⟩ := by
    rw [p5 (T + 1, 0, 0) (by simp <;> omega)]
    simp [hp_next_rows, hp_rows_put, ra4, rb4, rc4]
  have tt5 : T + 1 < h5.tick := by omega
  have tu5 : T < h5.tick := by omega
  have c1_5 : ∀ n ∈ ns1, h5.rows n = h4.rows n := fun n hn => by
    have b1 := f1 n hn
    have hne : n ≠ (T + 1, 0, 0) := fun e => by rw [e] at b1; simp at b1; omega
    rw [p5 n (by omega)]
    simp [hp_next_rows, hp_rows_put, hne]
  have c2_5 : ∀ n ∈ ns2, h5.rows n = h4.rows n := fun n hn => by
    have b1 := f2 n hn
    have hne : n ≠ (T + 1, 0, 0) := fun e => by rw [e] at b1; simp at b1; omega
    rw [p5 n (by omega)]
    simp [hp_next_rows, hp_rows_put, hne]
  have c3_5 : ∀ n ∈ ns3, h5.rows n = h4.rows n := fun n hn => by
    have b1 := f3 n hn
    have hne : n ≠ (T + 1, 0, 0) := fun e => by rw [e] at b1; simp at b1; omega
    rw [p5 n (by omega)]
    simp [hp_next_rows, hp_rows_put, hne]
  have c4_5 : ∀ n ∈ ns4, h5.rows n = h4.rows n := fun n hn => by
    have b1 := f4 n hn
    have hne : n ≠ (T + 1, 0, 0) := fun e => by rw [e] at b1; simp at b1; omega
    rw [p5 n (by omega)]
    simp [hp_next_rows, hp_rows_put, hne]
  repeat' (first
   | with_reducible refine stp ?_
   | with_reducible refine k_blk_o rfl ?_
   | with_reducible refine k_seq_n ?_
   | ((try (conv => arg 1; simp [Cpu.cells, ra5, rb5, rc5, tt5, tu5, q5.1, q5.2.1, q5.2.2, q1.1, q2.1, q3.1, q4.1, q5.1])); with_reducible refine evp ?_)
   | ((with_reducible refine apn ?na ?_); (case na => simp [appNames, ints, intss] <;> first | kernel_rfl | (refine ⟨?_, ?_⟩ <;> kernel_rfl)))
   | fail)
  refine ⟨by simp [hp_next_tick, hp_put_tick, hp_mt_tick] <;> omega, ns1 ++ (ns2 ++ (ns3 ++ (ns4 ++ (ns5 ++ [])))), fun b => ?_, ?_, ?_⟩
  · simp only [resV]
    refine .agg (.int _ _ ?_)
    refine @Own.append _ b [v1] [ints b c.Regs] _ _ _ _ ((ownV_ints (o1 b)).congr fun n hn => ?_) ?_
    · have b1 := f1 n hn
      have hne : n ≠ (T + 1, 0, 0) := fun e => by rw [e] at b1; simp at b1; omega
      have hne2 : n ≠ (T, 1, 0) := fun e => by rw [e] at b1; simp at b1; omega
      simp only [hp_next_rows, hp_rows_put, if_neg hne, if_neg hne2]
      rw [c1_5 n hn, c1_4 n hn, c1_3 n hn, c1_2 n hn]
    refine @Own.append _ b [v2] [ints b c.Slots] _ _ _ _ ((ownV_ints (o2 b)).congr fun n hn => ?_) ?_
    · have b1 := f2 n hn
      have hne : n ≠ (T + 1, 0, 0) := fun e => by rw [e] at b1; simp at b1; omega
      have hne2 : n ≠ (T, 1, 0) := fun e => by rw [e] at b1; simp at b1; omega
      simp only [hp_next_rows, hp_rows_put, if_neg hne, if_neg hne2]
      rw [c2_5 n hn, c2_4 n hn, c2_3 n hn]
    refine @Own.append _ b [v3] [intss b c.Mem] _ _ _ _ ((ownV_intss (o3 b)).congr fun n hn => ?_) ?_
    · have b1 := f3 n hn
      have hne : n ≠ (T + 1, 0, 0) := fun e => by rw [e] at b1; simp at b1; omega
      have hne2 : n ≠ (T, 1, 0) := fun e => by rw [e] at b1; simp at b1; omega
      simp only [hp_next_rows, hp_rows_put, if_neg hne, if_neg hne2]
      rw [c3_5 n hn, c3_4 n hn]
    refine @Own.append _ b [v4] [ints b c.Input] _ _ _ _ ((ownV_ints (o4 b)).congr fun n hn => ?_) ?_
    · have b1 := f4 n hn
      have hne : n ≠ (T + 1, 0, 0) := fun e => by rw [e] at b1; simp at b1; omega
      have hne2 : n ≠ (T, 1, 0) := fun e => by rw [e] at b1; simp at b1; omega
      simp only [hp_next_rows, hp_rows_put, if_neg hne, if_neg hne2]
      rw [c4_5 n hn]
    refine @Own.append _ b [v5] [ints b c.Out] _ _ _ _ ((ownV_ints (o5 b)).congr fun n hn => ?_) ?_
    · have b1 := f5 n hn
      have hne : n ≠ (T + 1, 0, 0) := fun e => by rw [e] at b1; simp at b1; omega
      have hne2 : n ≠ (T, 1, 0) := fun e => by rw [e] at b1; simp at b1; omega
      simp only [hp_next_rows, hp_rows_put, if_neg hne, if_neg hne2]
    exact .int _ _ (.bool _ (.int _ _ .nil))
  · have D : ∀ {l m : List Nm} {B : Nat}, l.Nodup → m.Nodup → (∀ n ∈ l, n.1 < B) → (∀ n ∈ m, B ≤ n.1) → (l ++ m).Nodup := fun h1 h2 h3 h4 => List.nodup_append.2 ⟨h1, h2, fun a ha b hb e => by subst e; have := h3 a ha; have := h4 a hb; omega⟩
    refine D d1 (D d2 (D d3 (D d4 (D d5 (by simp) (B := h5.tick) (fun n hn => (f5 n hn).2) (by simp)) (B := h4.tick) (fun n hn => (f4 n hn).2) ?_) (B := h3.tick) (fun n hn => (f3 n hn).2) ?_) (B := h2.tick) (fun n hn => (f2 n hn).2) ?_) (B := h1.tick) (fun n hn => (f1 n hn).2) ?_
    all_goals
      intro n hn
      simp only [List.append_nil, List.mem_append] at hn
      have g2 := f2 n
      have g3 := f3 n
      have g4 := f4 n
      have g5 := f5 n
      iterate 4 (all_goals (try (refine Or.elim hn (fun hn => ?_) (fun hn => ?_))))
      all_goals first | (have := (g2 hn).1; omega) | (have := (g3 hn).1; omega) | (have := (g4 hn).1; omega) | (have := (g5 hn).1; omega)
  · intro n hn
    simp only [List.mem_append, List.not_mem_nil, or_false] at hn
    simp only [hp_next_tick, hp_put_tick, hp_mt_tick]
    rcases hn with hn | hn | hn | hn | hn
    all_goals first | (have := f1 n hn; omega) | (have := f2 n hn; omega) | (have := f3 n hn; omega) | (have := f4 n hn; omega) | (have := f5 n hn; omega)
end Go.Proofs.Ytfgaoojogididaa.AM

/-
  A stepper's state: marked.
-/
set_option linter.unusedVariables false
set_option linter.unusedSimpArgs false
set_option maxRecDepth 4000
namespace Go.Proofs.Ytfgaoojogididaa.AM
open Go.RowKit

private def MU11 : FuncId → Mode := fun f => if f = 33 ∨ f = 52 then .heap else .tree

theorem own_cons1 {rows : Nm → Option Row} {b : Bool} {l ts : List AV} {t : AV} {ns : List Nm} (h : Own rows b l (t :: ts) ns) : ∃ w l' n1 n2, l = w :: l' ∧ ns = n1 ++ n2 ∧ Own rows b [w] [t] n1 ∧ Own rows b l' ts n2 := by
  cases l with
  | nil => cases h
  | cons w l' =>
    obtain ⟨n1, n2, e, h1, h2⟩ := Own.split (as1 := [w]) (ts1 := [t]) h rfl
    exact ⟨w, l', n1, n2, rfl, e, h1, h2⟩

theorem ownV_cpu {rows : Nm → Option Row} {b : Bool} {v : AV} {c : Cpu} {ns : List Nm} (h : OwnV rows b v (.agg (c.cells b)) ns) : ∃ w1 w2 w3 w4 w5 n1 n2 n3 n4 n5, v = .agg [.int .i64 c.At, w1, w2, w3, w4, w5, .int .i64 c.Code, .bool c.Over, .int .i64 c.Val] ∧ ns = n1 ++ (n2 ++ (n3 ++ (n4 ++ n5))) ∧
    Own rows b [w1] [ints b c.Regs] n1 ∧ Own rows b [w2] [ints b c.Slots] n2 ∧ Own rows b [w3] [intss b c.Mem] n3 ∧ Own rows b [w4] [ints b c.Input] n4 ∧ Own rows b [w5] [ints b c.Out] n5 := by
  generalize ht : AV.agg (c.cells b) = t at h
  cases h with
  | one h => subst ht; unfold Cpu.cells at h; cases h
  | tup2 => cases ht
  | @agg l _ _ h =>
    cases ht
    unfold Cpu.cells at h
    cases h with
    | int _ _ h =>
      obtain ⟨w1, l1, n1, m1, rfl, rfl, o1, h⟩ := own_cons1 h
      obtain ⟨w2, l2, n2, m2, rfl, rfl, o2, h⟩ := own_cons1 h
      obtain ⟨w3, l3, n3, m3, rfl, rfl, o3, h⟩ := own_cons1 h
      obtain ⟨w4, l4, n4, m4, rfl, rfl, o4, h⟩ := own_cons1 h
      obtain ⟨w5, l5, n5, m5, rfl, rfl, o5, h⟩ := own_cons1 h
      cases h with
      | int _ _ h => cases h with
        | bool _ h => cases h with
          | int _ _ h => cases h with
            | nil => exact ⟨w1, w2, w3, w4, w5, n1, n2, n3, n4, n5, rfl, by simp, o1, o2, o3, o4, o5⟩
end Go.Proofs.Ytfgaoojogididaa.AM

/-
  A stepper's state: marked.
-/
set_option linter.unusedVariables false
set_option linter.unusedSimpArgs false
set_option maxRecDepth 4000
namespace Go.Proofs.Ytfgaoojogididaa.AM
open Go.RowKit

private def MU12 : FuncId → Mode := fun f => if f = 33 ∨ f = 52 then .heap else .tree

theorem markCpu {h : Hp} {v : AV} {c : Cpu} {ns : List Nm} (ho : OwnV h.rows true v (.agg (c.cells true)) ns) (hnd : ns.Nodup) (hns : ∀ n ∈ ns, n.1 < h.tick) (hs : c.Small) (k : Int) (hk : 0 ≤ k) (hk2 : k ≤ 2 ^ 40) :
    Sound Try.prog 18 [v, .int .i64 k] h fun r h' => (∃ k', r = .int .i64 k' ∧ 0 ≤ k') ∧ (∀ n, n ∉ ns → n.1 < h.tick → h'.rows n = h.rows n) ∧ h.tick ≤ h'.tick := by
  obtain ⟨w1, w2, w3, w4, w5, n1, n2, n3, n4, n5, rfl, rfl, o1, o2, o3, o4, o5⟩ := ownV_cpu ho
  have q1 := own_one o1
  have q2 := own_one o2
  have q3 := own_one o3
  have q4 := own_one o4
  have q5 := own_one o5
  have z1 := hs.regs
  have z2 := hs.slots
  have z3 := hs.mem
  have z4 := hs.input
  have z5 := hs.out
  have z6 : psum c.Mem c.Mem.length ≤ wtSS c.Mem := by simp only [wtSS]; omega
  simp only [List.nodup_append, List.mem_append] at hnd
  obtain ⟨e1, ⟨e2, ⟨e3, ⟨e4, e5, x4⟩, x3⟩, x2⟩, x1⟩ := hnd
  have b1 : ∀ n ∈ n1, n.1 < h.tick := fun n hn => hns n (by simp [hn])
  have b2 : ∀ n ∈ n2, n.1 < h.tick := fun n hn => hns n (by simp [hn])
  have b3 : ∀ n ∈ n3, n.1 < h.tick := fun n hn => hns n (by simp [hn])
  have b4 : ∀ n ∈ n4, n.1 < h.tick := fun n hn => hns n (by simp [hn])
  have b5 : ∀ n ∈ n5, n.1 < h.tick := fun n hn => hns n (by simp [hn])
  have bx : (h.tick, 0, 0) ∉ n1 ∧ (h.tick, 0, 0) ∉ n2 ∧ (h.tick, 0, 0) ∉ n3 ∧ (h.tick, 0, 0) ∉ n4 ∧ (h.tick, 0, 0) ∉ n5 := ⟨fun e => by have := b1 _ e; simp at this, fun e => by have := b2 _ e; simp at this, fun e => by have := b3 _ e; simp at this, fun e => by have := b4 _ e; simp at this, fun e => by have := b5 _ e; simp at this⟩
  refine enter mixed MU12 Try.func18 rfl (by kernel_rfl) rfl ?_
  repeat' (first
   | with_reducible refine stp ?_
   | with_reducible refine k_blk_o rfl ?_
   | with_reducible refine k_seq_n ?_
   | ((try (conv => arg 1; simp [q1.1, q2.1, q3.1, q4.1, q5.1])); with_reducible refine evp ?_)
   | ((with_reducible refine apn ?na ?_); (case na => simp [appNames, ints, intss] <;> first | kernel_rfl | (refine ⟨?_, ?_⟩ <;> kernel_rfl)))
   | fail)
  refine st_heap rfl (markIntS (o1.congr fun n hn => ?_) (fun n hn => ?_) (k) (by omega) (by omega)) ?_
  · have hb := b1 n hn
    have hne : n ≠ (h.tick, 0, 0) := fun e => by rw [e] at hb; simp at hb
    simp [hp_next_rows, hp_rows_put, hne]
  · have hb := b1 n hn
    simp only [hp_next_tick, hp_put_tick]
    omega
  rintro r h1 ⟨rfl, _, p1, t1⟩
  simp only [hp_next_tick, hp_put_tick] at t1
  have g1 : ∀ n, n.1 < h.tick → n ∉ n1 → h1.rows n = h.rows n := fun n hb y1 => by
    have hne : n ≠ (h.tick, 0, 0) := fun e => by rw [e] at hb; simp at hb
    rw [p1 n y1]
    simp [hp_next_rows, hp_rows_put, hne]
  have rb1 : h1.rows (h.tick, 0, 0) = some ⟨0, 9, [[.int .i64 c.At, w1, w2, w3, w4, w5, .int .i64 c.Code, .bool c.Over, .int .i64 c.Val]]⟩ := by
    rw [p1 _ (by simp [bx])]
    simp [hp_next_rows, hp_rows_put]
  repeat' (first
   | with_reducible refine stp ?_
   | with_reducible refine k_blk_o rfl ?_
   | with_reducible refine k_seq_n ?_
   | ((try (conv => arg 1; simp [q1.1, q2.1, q3.1, q4.1, q5.1, rb1])); with_reducible refine evp ?_)
   | ((with_reducible refine apn ?na ?_); (case na => simp [appNames, ints, intss] <;> first | kernel_rfl | (refine ⟨?_, ?_⟩ <;> kernel_rfl)))
   | fail)
  refine st_heap rfl (markIntS (o2.congr fun n hn => ?_) (fun n hn => ?_) (k + c.Regs.length) (by omega) (by omega)) ?_
  · have hb := b2 n hn
    have hne : n ≠ (h.tick, 0, 0) := fun e => by rw [e] at hb; simp at hb
    simp only [hp_next_rows]
    exact g1 n hb (fun e => absurd rfl (x1 n e n (by simp [hn])))
  · have hb := b2 n hn
    simp only [hp_next_tick, hp_put_tick]
    omega
  rintro r h2 ⟨rfl, _, p2, t2⟩
  simp only [hp_next_tick, hp_put_tick] at t2
  have g2 : ∀ n, n.1 < h.tick → n ∉ n1 → n ∉ n2 → h2.rows n = h.rows n := fun n hb y1 y2 => by
    have hne : n ≠ (h.tick, 0, 0) := fun e => by rw [e] at hb; simp at hb
    rw [p2 n y2]
    simp only [hp_next_rows]
    exact g1 n hb y1
  have rb2 : h2.rows (h.tick, 0, 0) = some ⟨0, 9, [[.int .i64 c.At, w1, w2, w3, w4, w5, .int .i64 c.Code, .bool c.Over, .int .i64 c.Val]]⟩ := by
    rw [p2 _ (by simp [bx])]
    simp [hp_next_rows, hp_rows_put, rb1]
  repeat' (first
   | with_reducible refine stp ?_
   | with_reducible refine k_blk_o rfl ?_
   | with_reducible refine k_seq_n ?_
   | ((try (conv => arg 1; simp [q1.1, q2.1, q3.1, q4.1, q5.1, rb2])); with_reducible refine evp ?_)
   | ((with_reducible refine apn ?na ?_); (case na => simp [appNames, ints, intss] <;> first | kernel_rfl | (refine ⟨?_, ?_⟩ <;> kernel_rfl)))
   | fail)
  refine st_heap rfl (markIntSS (o3.congr fun n hn => ?_) e3 (fun n hn => ?_) (k + c.Regs.length + c.Slots.length) (by omega) (by omega)) ?_
  · have hb := b3 n hn
    have hne : n ≠ (h.tick, 0, 0) := fun e => by rw [e] at hb; simp at hb
    simp only [hp_next_rows]
    exact g2 n hb (fun e => absurd rfl (x1 n e n (by simp [hn]))) (fun e => absurd rfl (x2 n e n (by simp [hn])))
  · have hb := b3 n hn
    simp only [hp_next_tick, hp_put_tick]
    omega
  rintro r h3 ⟨rfl, _, p3, t3⟩
  simp only [hp_next_tick, hp_put_tick] at t3
  have g3 : ∀ n, n.1 < h.tick → n ∉ n1 → n ∉ n2 → n ∉ n3 → h3.rows n = h.rows n := fun n hb y1 y2 y3 => by
    have hne : n ≠ (h.tick, 0, 0) := fun e => by rw [e] at hb; simp at hb
    rw [p3 n y3]
    simp only [hp_next_rows]
    exact g2 n hb y1 y2
  have rb3 : h3.rows (h.tick, 0, 0) = some ⟨0, 9, [[.int .i64 c.At, w1, w2, w3, w4, w5, .int .i64 c.Code, .bool c.Over, .int .i64 c.Val]]⟩ := by
    rw [p3 _ (by simp [bx])]
    simp [hp_next_rows, hp_rows_put, rb2]
  repeat' (first
   | with_reducible refine stp ?_
   | with_reducible refine k_blk_o rfl ?_
   | with_reducible refine k_seq_n ?_
   | ((try (conv => arg 1; simp [q1.1, q2.1, q3.1, q4.1, q5.1, rb3])); with_reducible refine evp ?_)
   | ((with_reducible refine apn ?na ?_); (case na => simp [appNames, ints, intss] <;> first | kernel_rfl | (refine ⟨?_, ?_⟩ <;> kernel_rfl)))
   | fail)
  refine st_heap rfl (markIntS (o4.congr fun n hn => ?_) (fun n hn => ?_) (k + c.Regs.length + c.Slots.length + psum c.Mem c.Mem.length) (by omega) (by omega)) ?_
  · have hb := b4 n hn
    have hne : n ≠ (h.tick, 0, 0) := fun e => by rw [e] at hb; simp at hb
    simp only [hp_next_rows]
    exact g3 n hb (fun e => absurd rfl (x1 n e n (by simp [hn]))) (fun e => absurd rfl (x2 n e n (by simp [hn]))) (fun e => absurd rfl (x3 n e n (by simp [hn])))
  · have hb := b4 n hn
    simp only [hp_next_tick, hp_put_tick]
    omega
  rintro r h4 ⟨rfl, _, p4, t4⟩
  simp only [hp_next_tick, hp_put_tick] at t4
  have g4 : ∀ n, n.1 < h.tick → n ∉ n1 → n ∉ n2 → n ∉ n3 → n ∉ n4 → h4.rows n = h.rows n := fun n hb y1 y2 y3 y4 => by
    have hne : n ≠ (h.tick, 0, 0) := fun e => by rw [e] at hb; simp at hb
    rw [p4 n y4]
    simp only [hp_next_rows]
    exact g3 n hb y1 y2 y3
  have rb4 : h4.rows (h.tick, 0, 0) = some ⟨0, 9, [[.int .i64 c.At, w1, w2, w3, w4, w5, .int .i64 c.Code, .bool c.Over, .int .i64 c.Val]]⟩ := by
    rw [p4 _ (by simp [bx])]
    simp [hp_next_rows, hp_rows_put, rb3]
  repeat' (first
   | with_reducible refine stp ?_
   | with_reducible refine k_blk_o rfl ?_
   | with_reducible refine k_seq_n ?_
   | ((try (conv => arg 1; simp [q1.1, q2.1, q3.1, q4.1, q5.1, rb4])); with_reducible refine evp ?_)
   | ((with_reducible refine apn ?na ?_); (case na => simp [appNames, ints, intss] <;> first | kernel_rfl | (refine ⟨?_, ?_⟩ <;> kernel_rfl)))
   | fail)
  refine st_heap rfl (markIntS (o5.congr fun n hn => ?_) (fun n hn => ?_) (k + c.Regs.length + c.Slots.length + psum c.Mem c.Mem.length + c.Input.length) (by omega) (by omega)) ?_
  · have hb := b5 n hn
    have hne : n ≠ (h.tick, 0, 0) := fun e => by rw [e] at hb; simp at hb
    simp only [hp_next_rows]
    exact g4 n hb (fun e => absurd rfl (x1 n e n (by simp [hn]))) (fun e => absurd rfl (x2 n e n (by simp [hn]))) (fun e => absurd rfl (x3 n e n (by simp [hn]))) (fun e => absurd rfl (x4 n e n (by simp [hn])))
  · have hb := b5 n hn
    simp only [hp_next_tick, hp_put_tick]
    omega
  rintro r h5 ⟨rfl, _, p5, t5⟩
  simp only [hp_next_tick, hp_put_tick] at t5
  have g5 : ∀ n, n.1 < h.tick → n ∉ n1 → n ∉ n2 → n ∉ n3 → n ∉ n4 → n ∉ n5 → h5.rows n = h.rows n := fun n hb y1 y2 y3 y4 y5 => by
    have hne : n ≠ (h.tick, 0, 0) := fun e => by rw [e] at hb; simp at hb
    rw [p5 n y5]
    simp only [hp_next_rows]
    exact g4 n hb y1 y2 y3 y4
  have rb5 : h5.rows (h.tick, 0, 0) = some ⟨0, 9, [[.int .i64 c.At, w1, w2, w3, w4, w5, .int .i64 c.Code, .bool c.Over, .int .i64 c.Val]]⟩ := by
    rw [p5 _ (by simp [bx])]
    simp [hp_next_rows, hp_rows_put, rb4]
  repeat' (first
   | with_reducible refine stp ?_
   | with_reducible refine k_blk_o rfl ?_
   | with_reducible refine k_seq_n ?_
   | ((try (conv => arg 1; simp [q1.1, q2.1, q3.1, q4.1, q5.1, rb5])); with_reducible refine evp ?_)
   | ((with_reducible refine apn ?na ?_); (case na => simp [appNames, ints, intss] <;> first | kernel_rfl | (refine ⟨?_, ?_⟩ <;> kernel_rfl)))
   | fail)
  refine ⟨⟨_, rfl, by omega⟩, fun n hn hlt => ?_, by simp only [hp_next_tick]; omega⟩
  simp only [List.mem_append, not_or] at hn
  simp only [hp_next_rows]
  exact g5 n hlt hn.1 hn.2.1 hn.2.2.1 hn.2.2.2.1 hn.2.2.2.2
end Go.Proofs.Ytfgaoojogididaa.AM

/-
  Words and images: what they are; a number in a range.
-/
set_option linter.unusedVariables false
set_option linter.unusedSimpArgs false
set_option maxRecDepth 4000
namespace Go.Proofs.Ytfgaoojogididaa.AM
open Go.RowKit

private def MW0 : FuncId → Mode := fun f => .tree

structure Word where
  Op : Int
  R : Int
  A : Int
  B : Int
  N : Int
def Word.cells (w : Word) : List AV := [.int .i64 w.Op, .int .i64 w.R, .int .i64 w.A, .int .i64 w.B, .int .i64 w.N]
def words (b : Bool) (ws : List Word) : AV := .tr b (ws.map Word.cells)
structure Image where
  Sizes : List Int
  Params : Int
  Slots : Int
  Code : List Word
def Image.cells (b : Bool) (m : Image) : List AV := [ints b m.Sizes, .int .i64 m.Params, .int .i64 m.Slots, words b m.Code]
@[simp] theorem one_words (b : Bool) (ws : List Word) : (words b ws).one = true := rfl
@[simp] theorem stored_words (b : Bool) (ws : List Word) : (words b ws).stored = true := rfl
@[simp] theorem cells_words (b : Bool) (ws : List Word) : (words b ws).cells = [words b ws] := rfl

def inB (n lo hi : Int) : Bool := decide (lo ≤ n) && decide (n ≤ hi)

theorem l01In (n lo hi : Int) : Pure Try.prog 55 [.int .i64 n, .int .i64 lo, .int .i64 hi] (.bool (inB n lo hi)) := by
  intro T
  refine enter mixed MW0 Try.func55 rfl (by kernel_rfl) rfl ?_
  repeat' (first
    | (with_reducible first | refine st_seq ?_ | refine st_reg ?_ | refine st_block ?_ | refine st_nil ?_ | refine st_skip ?_ | refine st_ret ?_ | refine st_exit ?_ | refine fr_nil ?_ | refine k_seq_n ?_ | refine k_seq_r ?_ | refine k_seq_e ?_ | refine k_blk_n ?_ | refine k_blk_r ?_ | refine k_blk_s ?_ | refine k_blk_o rfl ?_ | refine k_fn_r ?_ | refine k_fn_n ?_ | refine k_lp_r ?_ | refine k_lp_e ?_)
    | ((with_reducible first | refine st_move ?_ | refine st_asg ?_ | refine st_c ?_ | refine fr_c ?_); (try (conv => arg 1; simp)); (with_reducible refine at_mk ?_))
    | ((with_reducible first | refine st_g ?_ | refine fr_g ?_); (try (conv => arg 1; simp)); (with_reducible refine at_mk ?_); with_reducible first | refine gd_tt ?_ | refine gd_ff ?_ | refine gd_tf ?_ | refine gd_ft ?_ | refine gd_no ?_)
    | ((with_reducible first | refine st_gm ?_ | refine fr_gm ?_); (try (conv => arg 1; simp)); (with_reducible refine at_mk ?_); (with_reducible first | refine gm_bool ?_ | refine gm_gv ?_); refine ⟨_, (by intro hc; first | ((try simp only [Bool.and_eq_true] at hc); (try (conv => lhs; simp [hc])); first | done | exact rfl) | ((try simp [gq] at hc); (try (conv => lhs; simp [gq, hc])); first | done | exact rfl)), ?_⟩)
    | ((with_reducible refine st_m rfl ?_); (try (conv => arg 1; simp)); (with_reducible refine ev2_some ?_))
    | ((with_reducible refine fr_n rfl ?_); (try (conv => arg 1; simp)); (with_reducible refine evn_some ?_))
    | ((with_reducible first | refine st_cv ?_ | refine fr_cv ?_); (try (conv => arg 1; simp)); (with_reducible refine at_mk ?_); (with_reducible refine fn_mk ?_); (try (conv => arg 1; simp)); (with_reducible refine at_mk ?_))
    | ((with_reducible refine fr_a ?_); (try (conv => arg 1; simp)); (with_reducible refine at_mk ?_); (try (conv => arg 1; simp)); (with_reducible refine at_mk ?_); refine ⟨?names, ?_⟩; (case names => (simp [appNames, ints, intss] <;> first | kernel_rfl | (refine ⟨?_, ?_⟩ <;> kernel_rfl))); (try (conv => arg 1; simp)); (with_reducible refine ev2_some ?_))
    | ((with_reducible first | refine st_q ?_ | refine fr_q ?_ | refine st_res ?_); (try (conv => arg 1; simp)); (with_reducible refine ev_some ?_))
    | ((with_reducible refine st_if ?_); (try (conv => arg 1; simp)); (with_reducible refine at_mk ?_); with_reducible first | refine br_t ?_ | refine br_f ?_))
  exact dr_bool (by simp [inB])
theorem in_ (n lo hi : Int) : Pure Try.prog 69 [.int .i64 n, .int .i64 lo, .int .i64 hi] (.bool (inB n lo hi)) := by
  intro T
  refine enter mixed MW0 Try.func69 rfl (by kernel_rfl) rfl ?_
  repeat' (first
    | (with_reducible first | refine st_seq ?_ | refine st_reg ?_ | refine st_block ?_ | refine st_nil ?_ | refine st_skip ?_ | refine st_ret ?_ | refine st_exit ?_ | refine fr_nil ?_ | refine k_seq_n ?_ | refine k_seq_r ?_ | refine k_seq_e ?_ | refine k_blk_n ?_ | refine k_blk_r ?_ | refine k_blk_s ?_ | refine k_blk_o rfl ?_ | refine k_fn_r ?_ | refine k_fn_n ?_ | refine k_lp_r ?_ | refine k_lp_e ?_)
    | ((with_reducible first | refine st_move ?_ | refine st_asg ?_ | refine st_c ?_ | refine fr_c ?_); (try (conv => arg 1; simp)); (with_reducible refine at_mk ?_))
    | ((with_reducible first | refine st_g ?_ | refine fr_g ?_); (try (conv => arg 1; simp)); (with_reducible refine at_mk ?_); with_reducible first | refine gd_tt ?_ | refine gd_ff ?_ | refine gd_tf ?_ | refine gd_ft ?_ | refine gd_no ?_)
    | ((with_reducible first | refine st_gm ?_ | refine fr_gm ?_); (try (conv => arg 1; simp)); (with_reducible refine at_mk ?_); (with_reducible first | refine gm_bool ?_ | refine gm_gv ?_); refine ⟨_, (by intro hc; first | ((try simp only [Bool.and_eq_true] at hc); (try (conv => lhs; simp [hc])); first | done | exact rfl) | ((try simp [gq] at hc); (try (conv => lhs; simp [gq, hc])); first | done | exact rfl)), ?_⟩)
    | ((with_reducible refine st_m rfl ?_); (try (conv => arg 1; simp)); (with_reducible refine ev2_some ?_))
    | ((with_reducible refine fr_n rfl ?_); (try (conv => arg 1; simp)); (with_reducible refine evn_some ?_))
    | ((with_reducible first | refine st_cv ?_ | refine fr_cv ?_); (try (conv => arg 1; simp)); (with_reducible refine at_mk ?_); (with_reducible refine fn_mk ?_); (try (conv => arg 1; simp)); (with_reducible refine at_mk ?_))
    | ((with_reducible refine fr_a ?_); (try (conv => arg 1; simp)); (with_reducible refine at_mk ?_); (try (conv => arg 1; simp)); (with_reducible refine at_mk ?_); refine ⟨?names, ?_⟩; (case names => (simp [appNames, ints, intss] <;> first | kernel_rfl | (refine ⟨?_, ?_⟩ <;> kernel_rfl))); (try (conv => arg 1; simp)); (with_reducible refine ev2_some ?_))
    | ((with_reducible first | refine st_q ?_ | refine fr_q ?_ | refine st_res ?_); (try (conv => arg 1; simp)); (with_reducible refine ev_some ?_))
    | ((with_reducible refine st_if ?_); (try (conv => arg 1; simp)); (with_reducible refine at_mk ?_); with_reducible first | refine br_t ?_ | refine br_f ?_))
  exact dr_bool (by simp [inB])
end Go.Proofs.Ytfgaoojogididaa.AM

/-
  Words in slices: their size, copies, equal, marked.
-/
set_option linter.unusedVariables false
set_option linter.unusedSimpArgs false
set_option maxRecDepth 4000
namespace Go.Proofs.Ytfgaoojogididaa.AM
open Go.RowKit

private def MW1 : FuncId → Mode := fun f => .tree

theorem word_flat (w : Word) : w.cells.length = 5 ∧ ∀ x ∈ w.cells, flatc x = true := ⟨rfl, by simp [Word.cells, flatc]⟩
theorem words_flat (ws : List Word) : ∀ e ∈ ws.map Word.cells, e.length = 5 ∧ ∀ x ∈ e, flatc x = true := fun e he => by
  obtain ⟨w, _, rfl⟩ := List.mem_map.1 he
  exact word_flat w
theorem drs_word {c : Bool} {rows : Nm → Option Row} (w : Word) : DRs c rows w.cells w.cells := drs_flat (word_flat w).2
theorem dr_words {c b : Bool} {rows : Nm → Option Row} (hb : b = true → c = true) (ws : List Word) : DR c rows (words b ws) (words c ws) := dr_trflat hb fun e he => (words_flat ws e he).2

theorem szWordS (xs : List Word) (left : Int) (h1 : 0 ≤ left) (h2 : left ≤ 2 ^ 20) (hm : xs.length ≤ maxLen) : Pure Try.prog 53 [words true xs, .int .i64 left] (.int .i64 (if left < xs.length then -1 else left - xs.length)) := by
  intro T
  have hw : IntKind.i64.wrap (left - xs.length) = left - xs.length := wrap_id (by simp [maxLen] at hm; omega) (by omega)
  refine enter mixed MW1 Try.func53 rfl (by kernel_rfl) rfl ?_
  repeat' (first
   | with_reducible refine stp ?_
   | with_reducible refine k_blk_o rfl ?_
   | with_reducible refine k_seq_n ?_
   | ((try (conv => arg 1; simp [words, hw])); with_reducible refine evp ?_)
   | ((with_reducible first | refine gd_b (fun hb => ?_) (fun hb => ?_) | refine br_b (fun hb => ?_) (fun hb => ?_)) <;> ((try simp only [Bool.not_eq_eq_eq_not, Bool.not_true, Bool.not_false] at hb); (try simp only [hb]); (try simp at hb)))
   | ((with_reducible refine apn ?na ?_); (case na => simp [appNames, ints, intss] <;> first | kernel_rfl | (refine ⟨?_, ?_⟩ <;> kernel_rfl)))
   | fail)
  · exact dr_int (by rw [if_pos (by omega)])
  · exact dr_int (by rw [if_neg (by omega)])

theorem toWord (w : Word) : Pure Try.prog 75 [.agg w.cells] (.agg w.cells) := by
  intro T
  refine enter mixed MW1 Try.func75 rfl (by kernel_rfl) rfl ?_
  repeat' (first
   | with_reducible refine stp ?_
   | with_reducible refine k_blk_o rfl ?_
   | with_reducible refine k_seq_n ?_
   | ((try (conv => arg 1; simp [Word.cells])); with_reducible refine evp ?_)
   | ((with_reducible refine apn ?na ?_); (case na => simp [appNames, ints, intss] <;> first | kernel_rfl | (refine ⟨?_, ?_⟩ <;> kernel_rfl)))
   | fail)
  exact dr_agg (drs_word w)

theorem eqWord (w : Word) : Pure Try.prog 77 [.agg w.cells, .agg w.cells] (.bool true) := by
  intro T
  refine enter mixed MW1 Try.func77 rfl (by kernel_rfl) rfl ?_
  repeat' (first
   | with_reducible refine stp ?_
   | with_reducible refine k_blk_o rfl ?_
   | with_reducible refine k_seq_n ?_
   | ((try (conv => arg 1; simp [Word.cells])); with_reducible refine evp ?_)
   | ((with_reducible refine apn ?na ?_); (case na => simp [appNames, ints, intss] <;> first | kernel_rfl | (refine ⟨?_, ?_⟩ <;> kernel_rfl)))
   | fail)
  exact .bool _
end Go.Proofs.Ytfgaoojogididaa.AM

/-
  Words in slices: copies, equal, marked.
-/
set_option linter.unusedVariables false
set_option linter.unusedSimpArgs false
set_option maxRecDepth 4000
namespace Go.Proofs.Ytfgaoojogididaa.AM
open Go.RowKit

private def MW2 : FuncId → Mode := fun f => .tree

theorem toWordS (xs : List Word) (hl : xs.length ≤ 2 ^ 20) : Fresh Try.prog 56 [words true xs] (fun c => words c xs) := by
  intro T
  have hl2 : (xs.length : Int) ≤ 4294967296 := by omega
  refine enter mixed MW2 Try.func56 rfl (by kernel_rfl) rfl ?_
  repeat' (first
   | with_reducible refine stp ?_
   | with_reducible refine k_blk_o rfl ?_
   | with_reducible refine k_seq_n ?_
   | ((try (conv => arg 1; simp [words, hl2])); with_reducible refine evp ?_)
   | ((with_reducible refine apn ?na ?_); (case na => simp [appNames, ints, intss] <;> first | kernel_rfl | (refine ⟨?_, ?_⟩ <;> kernel_rfl)))
   | fail)
  refine st_loop (fun (i : Nat) σ h => i ≤ xs.length ∧ σ 0 = words true xs ∧ σ 3 = .sl (T + 1, 2, 0) 0 0 xs.length ∧ σ 4 = .int .i64 i ∧ T + 1 < h.tick ∧ ∃ ys : List Word, ys.length = xs.length ∧ ys.take i = xs.take i ∧ h.rows (T + 1, 2, 0) = some ⟨0, 5, ys.map Word.cells⟩) (fun i => xs.length - i) 0 ?init ?step
  case init =>
    simp
    exact ⟨List.replicate xs.length ⟨0, 0, 0, 0, 0⟩, by simp, by simp [Word.cells]⟩
  case step =>
    rintro i σ h ⟨hi, h0, h3, h4, ht, ys, hy, hyi, hr⟩
    repeat' (first
     | with_reducible refine stp ?_
     | with_reducible refine k_blk_o rfl ?_
     | with_reducible refine k_seq_n ?_
     | ((try (conv => arg 1; simp [words, h0, h3, h4, hr])); with_reducible refine evp ?_)
     | ((with_reducible refine apn ?na ?_); (case na => simp [appNames, ints, intss] <;> first | kernel_rfl | (refine ⟨?_, ?_⟩ <;> kernel_rfl)))
     | fail)
    (try with_reducible refine st_if ?_)
    (try (conv => arg 1; simp [h0]))
    (try with_reducible refine at_mk ?_)
    refine ⟨fun hb => ?_, fun hb => ?_⟩
    · have hlt : i < xs.length := by simpa using hb
      have hx : xs[i]? = some (xs[i]) := by simp
      have hy2 : ys[i]? = some (ys[i]'(by omega)) := by simp
      have hlen : (xs[i]).cells.length = 5 := rfl
      have hlen2 : (ys[i]'(by omega)).cells.length = 5 := rfl
      have ht2 : T + 1 < h.tick + 1 + 1 := by omega
      have hw : IntKind.i64.wrap (i + 1) = i + 1 := wrap_id (by omega) (by omega)
      repeat' (first
       | with_reducible refine stp ?_
       | with_reducible refine k_blk_o rfl ?_
       | with_reducible refine k_seq_n ?_
       | ((try (conv => arg 1; simp [words, h0, h3, h4, hr, hlt, hx, hy2, ht2, hw, hlen, Word.cells])); with_reducible refine evp ?_)
       | ((with_reducible refine apn ?na ?_); (case na => simp [appNames, ints, intss] <;> first | kernel_rfl | (refine ⟨?_, ?_⟩ <;> kernel_rfl)))
       | fail)
      refine st_tree rfl (toWord xs[i]) (.cons (dr_agg (drs_word _)) .nil) ?_
      repeat' (first
       | with_reducible refine stp ?_
       | with_reducible refine k_blk_o rfl ?_
       | with_reducible refine k_seq_n ?_
       | ((try (conv => arg 1; simp [h0, h3, h4, hr, hlt, hx, hy2, ht2, hw, hlen, Word.cells])); with_reducible refine evp ?_)
       | ((with_reducible refine apn ?na ?_); (case na => simp [appNames, ints, intss] <;> first | kernel_rfl | (refine ⟨?_, ?_⟩ <;> kernel_rfl)))
       | fail)
      refine k_lp_n (i + 1) (by omega) ⟨by omega, by simp [h0], by simp [h3], by simp [h4], by simp; omega, ys.set i xs[i], by simp [hy], ?_, ?_⟩
      · rw [List.take_add_one, List.take_add_one]
        simp [hyi, hy, hlt, List.take_set_of_le]
      · simp [List.map_set, Word.cells]
    · have hge : i = xs.length := by simp at hb; omega
      repeat' (first
       | with_reducible refine stp ?_
       | with_reducible refine k_blk_o rfl ?_
       | with_reducible refine k_seq_n ?_
       | ((try (conv => arg 1; simp [h0, h3, h4, hr])); with_reducible refine evp ?_)
       | ((with_reducible refine apn ?na ?_); (case na => simp [appNames, ints, intss] <;> first | kernel_rfl | (refine ⟨?_, ?_⟩ <;> kernel_rfl)))
       | fail)
      refine ⟨by simp; omega, [(T + 1, 2, 0)], fun c => .one ?_, by simp, by simp; omega⟩
      simp [resV]
      refine own_row (s := 5) (ys := ys.map Word.cells) (by simpa using hr) ?_ (by simp) (fun e he => (words_flat ys e he).1) (fun e he => (words_flat xs e he).2) (clRow_flat fun e he => (words_flat ys e he).2)
      subst hge
      rw [← List.map_take, hyi]; simp

theorem eqWordS (xs : List Word) (hl : xs.length ≤ 2 ^ 62) : Pure Try.prog 58 [words true xs, words true xs] (.bool true) := by
  intro T
  refine enter mixed MW2 Try.func58 rfl (by kernel_rfl) rfl ?_
  repeat' (first
   | with_reducible refine stp ?_
   | with_reducible refine k_blk_o rfl ?_
   | with_reducible refine k_seq_n ?_
   | ((try (conv => arg 1; simp [words])); with_reducible refine evp ?_)
   | ((with_reducible refine apn ?na ?_); (case na => simp [appNames, ints, intss] <;> first | kernel_rfl | (refine ⟨?_, ?_⟩ <;> kernel_rfl)))
   | fail)
  refine st_loop (fun (i : Nat) σ h => i ≤ xs.length ∧ σ 0 = words true xs ∧ σ 1 = words true xs ∧ σ 5 = .int .i64 i) (fun i => xs.length - i) 0 ?init ?step
  case init =>
    simp [words]
  case step =>
    rintro i σ h ⟨hi, h0, h1, h5⟩
    repeat' (first
     | with_reducible refine stp ?_
     | with_reducible refine k_blk_o rfl ?_
     | with_reducible refine k_seq_n ?_
     | ((try (conv => arg 1; simp [words, h0, h5])); with_reducible refine evp ?_)
     | ((with_reducible refine apn ?na ?_); (case na => simp [appNames, ints, intss] <;> first | kernel_rfl | (refine ⟨?_, ?_⟩ <;> kernel_rfl)))
     | fail)
    (try with_reducible refine st_if ?_)
    (try (conv => arg 1; simp [words]))
    (try with_reducible refine at_mk ?_)
    refine ⟨fun hb => ?_, fun hb => ?_⟩
    · have hlt : i < xs.length := by simpa using hb
      have hx : xs[i]? = some (xs[i]) := by simp
      have hlen : (xs[i]).cells.length = 5 := rfl
      have hw : IntKind.i64.wrap (i + 1) = i + 1 := wrap_id (by omega) (by omega)
      repeat' (first
       | with_reducible refine stp ?_
       | with_reducible refine k_blk_o rfl ?_
       | with_reducible refine k_seq_n ?_
       | ((try (conv => arg 1; simp [words])); with_reducible refine evp ?_)
       | ((with_reducible refine apn ?na ?_); (case na => simp [appNames, ints, intss] <;> first | kernel_rfl | (refine ⟨?_, ?_⟩ <;> kernel_rfl)))
       | fail)
      repeat (with_reducible first | refine stp ?_ | refine k_seq_n ?_)
      refine st_draw 10 (fun _ => false) (by kernel_rfl) ?_
      simp only [List.take_succ_cons, List.take_zero, List.drop_succ_cons, List.drop_zero, List.take_nil, List.drop_nil]
      repeat' (first
       | with_reducible refine stp ?_
       | with_reducible refine k_blk_o rfl ?_
       | with_reducible refine k_seq_n ?_
       | ((try (conv => arg 1; simp [words, h0, h1, h5, hx, hlen, Word.cells])); with_reducible refine evp ?_)
       | ((with_reducible refine apn ?na ?_); (case na => simp [appNames, ints, intss] <;> first | kernel_rfl | (refine ⟨?_, ?_⟩ <;> kernel_rfl)))
       | fail)
      refine treeW_pure (eqWord xs[i]) (.cons (dr_agg (drs_word _)) (.cons (dr_agg (drs_word _)) .nil)) ?_
      repeat' (first
       | with_reducible refine stp ?_
       | with_reducible refine k_blk_o rfl ?_
       | with_reducible refine k_seq_n ?_
       | ((try (conv => arg 1; simp [words, h0, h1, h5, hx, hw])); with_reducible refine evp ?_)
       | ((with_reducible refine apn ?na ?_); (case na => simp [appNames, ints, intss] <;> first | kernel_rfl | (refine ⟨?_, ?_⟩ <;> kernel_rfl)))
       | fail)
      refine k_lp_n (i + 1) (by omega) ⟨by omega, by simp [h0], by simp [h1], by simp [h5]⟩
    · skip
      repeat' (first
       | with_reducible refine stp ?_
       | with_reducible refine k_blk_o rfl ?_
       | with_reducible refine k_seq_n ?_
       | ((try (conv => arg 1; simp [words])); with_reducible refine evp ?_)
       | ((with_reducible refine apn ?na ?_); (case na => simp [appNames, ints, intss] <;> first | kernel_rfl | (refine ⟨?_, ?_⟩ <;> kernel_rfl)))
       | fail)
      exact .bool true

def mwords (k : Int) (n : Nat) : List Word := (List.range n).map fun (i : Nat) => ⟨k + 5 * i, k + 5 * i + 1, k + 5 * i + 1 + 1, k + 5 * i + 1 + 1 + 1, k + 5 * i + 1 + 1 + 1 + 1⟩
theorem mwords_length (k : Int) (n : Nat) : (mwords k n).length = n := by simp [mwords]
theorem mwords_get {k : Int} {n i : Nat} (h : i < n) : (mwords k n)[i]? = some ⟨k + 5 * i, k + 5 * i + 1, k + 5 * i + 1 + 1, k + 5 * i + 1 + 1 + 1, k + 5 * i + 1 + 1 + 1 + 1⟩ := by simp [mwords, h]

theorem markWordS {h : Hp} {a : AV} {xs : List Word} {ns : List Nm} (ho : Own h.rows true [a] [words true xs] ns) (hns : ∀ n ∈ ns, n.1 < h.tick) (k : Int) (hk : 0 ≤ k) (hl : k + 5 * xs.length ≤ 2 ^ 62) :
    Sound Try.prog 64 [a, .int .i64 k] h fun v h' => v = .int .i64 (k + 5 * xs.length) ∧ (∀ c, Own h'.rows c [a] [words c (mwords k xs.length)] ns) ∧ (∀ n, n ∉ ns → h'.rows n = h.rows n) ∧ h.tick ≤ h'.tick := by
  rcases own_row_inv (words_flat xs) (by omega) ho with ⟨hx0, hc, hx⟩ | ⟨n, ver, sp, rfl, rfl, hr, hsp, hcl⟩
  · have hx0 : xs = [] := by simpa using hx0
    subst hx0
    rcases hx with ⟨rfl, rfl⟩ | ⟨n, ver, off, rfl, rfl⟩
    all_goals
      refine enter mixed MW2 Try.func64 rfl (by kernel_rfl) rfl ?_
      repeat' (first
       | with_reducible refine stp ?_
       | with_reducible refine k_blk_o rfl ?_
       | with_reducible refine k_seq_n ?_
       | ((try (conv => arg 1; simp [words])); with_reducible refine evp ?_)
       | ((with_reducible refine apn ?na ?_); (case na => simp [appNames, ints, intss] <;> first | kernel_rfl | (refine ⟨?_, ?_⟩ <;> kernel_rfl)))
       | fail)
      refine st_loop (fun (i : Nat) σ h' => (∃ a, (a = .nilsl ∨ ∃ n ver off, a = .sl n ver off 0) ∧ σ 0 = a) ∧ σ 1 = .int .i64 k ∧ σ 5 = .int .i64 0 ∧ h'.rows = h.rows ∧ h.tick ≤ h'.tick) (fun i => 0) 0 ?init ?step
      case init =>
        refine ⟨⟨_, ?_, rfl⟩, by simp, by simp, by simp, by simp <;> omega⟩
        simp
      case step =>
        rintro i σ h' ⟨⟨a, ha, h0⟩, h1, h5, h6, h7⟩
        rcases ha with rfl | ⟨n, ver, off, rfl⟩
        all_goals
          repeat' (first
           | with_reducible refine stp ?_
           | with_reducible refine k_blk_o rfl ?_
           | with_reducible refine k_seq_n ?_
           | ((try (conv => arg 1; simp [h0, h1, h5])); with_reducible refine evp ?_)
           | ((with_reducible refine apn ?na ?_); (case na => simp [appNames, ints, intss] <;> first | kernel_rfl | (refine ⟨?_, ?_⟩ <;> kernel_rfl)))
           | fail)
          repeat' (first
           | with_reducible refine stp ?_
           | with_reducible refine k_blk_o rfl ?_
           | with_reducible refine k_seq_n ?_
           | ((try (conv => arg 1; simp [h0, h1, h5])); with_reducible refine evp ?_)
           | ((with_reducible refine apn ?na ?_); (case na => simp [appNames, ints, intss] <;> first | kernel_rfl | (refine ⟨?_, ?_⟩ <;> kernel_rfl)))
           | fail)
          refine ⟨by simp [resV], fun c => ?_, fun n _ => by simp [h6], by simp; omega⟩
          exact (hc c).congr fun n _ => by simp [h6]
  · have hn : n.1 < h.tick := hns n (by simp)
    rw [List.length_map]
    refine enter mixed MW2 Try.func64 rfl (by kernel_rfl) rfl ?_
    repeat' (first
     | with_reducible refine stp ?_
     | with_reducible refine k_blk_o rfl ?_
     | with_reducible refine k_seq_n ?_
     | ((try (conv => arg 1; simp [words])); with_reducible refine evp ?_)
     | ((with_reducible refine apn ?na ?_); (case na => simp [appNames, ints, intss] <;> first | kernel_rfl | (refine ⟨?_, ?_⟩ <;> kernel_rfl)))
     | fail)
    refine st_loop (fun (i : Nat) σ h' => i ≤ xs.length ∧ σ 0 = .sl n ver 0 xs.length ∧ σ 1 = .int .i64 (k + 5 * i) ∧ σ 5 = .int .i64 i ∧ h.tick ≤ h'.tick ∧ (∀ m, m ≠ n → h'.rows m = h.rows m) ∧
      ∃ ys : List Word, ys.length = xs.length ∧ ys.take i = (mwords k xs.length).take i ∧ h'.rows n = some ⟨ver, 5, (ys.map Word.cells) ++ sp⟩) (fun i => xs.length - i) 0 ?init ?step
    case init =>
      refine ⟨Nat.zero_le _, by simp, by simp, by simp, by simp; omega, fun m _ => by simp, xs, rfl, rfl, by simpa using hr⟩
    case step =>
      rintro i σ h' ⟨hi, h0, h1, h5, ht, hoth, ys, hy, hyi, hr'⟩
      repeat' (first
       | with_reducible refine stp ?_
       | with_reducible refine k_blk_o rfl ?_
       | with_reducible refine k_seq_n ?_
       | ((try (conv => arg 1; simp [h0, h1, h5])); with_reducible refine evp ?_)
       | ((with_reducible refine apn ?na ?_); (case na => simp [appNames, ints, intss] <;> first | kernel_rfl | (refine ⟨?_, ?_⟩ <;> kernel_rfl)))
       | fail)
      (try with_reducible refine st_if ?_)
      (try (conv => arg 1; simp [h0]))
      (try with_reducible refine at_mk ?_)
      refine ⟨fun hb => ?_, fun hb => ?_⟩
      · have hlt : i < xs.length := by simpa using hb
        obtain ⟨y1, y2, y3, y4, y5, hy2⟩ : ∃ y1 y2 y3 y4 y5 : Int, ((ys.map Word.cells) ++ sp)[i]? = some [.int .i64 y1, .int .i64 y2, .int .i64 y3, .int .i64 y4, .int .i64 y5] := by
          rw [List.getElem?_append_left (by simp; omega)]
          exact ⟨(ys[i]'(by omega)).Op, (ys[i]'(by omega)).R, (ys[i]'(by omega)).A, (ys[i]'(by omega)).B, (ys[i]'(by omega)).N, by simp [hlt, hy, Word.cells]⟩
        have ht2 : n.1 < h'.tick + 1 + 1 := by omega
        have hw : IntKind.i64.wrap (i + 1) = i + 1 := wrap_id (by omega) (by omega)
        have w1 : IntKind.i64.wrap (k + 5 * i + 1) = k + 5 * i + 1 := wrap_id (by omega) (by omega)
        have w2 : IntKind.i64.wrap (k + 5 * i + 1 + 1) = k + 5 * i + 1 + 1 := wrap_id (by omega) (by omega)
        have w3 : IntKind.i64.wrap (k + 5 * i + 1 + 1 + 1) = k + 5 * i + 1 + 1 + 1 := wrap_id (by omega) (by omega)
        have w4 : IntKind.i64.wrap (k + 5 * i + 1 + 1 + 1 + 1) = k + 5 * i + 1 + 1 + 1 + 1 := wrap_id (by omega) (by omega)
        have w5 : IntKind.i64.wrap (k + 5 * i + 1 + 1 + 1 + 1 + 1) = k + 5 * i + 1 + 1 + 1 + 1 + 1 := wrap_id (by omega) (by omega)
        have hl4 : i < ys.length := by omega
        generalize hes : (ys.map Word.cells) ++ sp = es at hr' hy2
        have hset : ∀ e, (es.set i e)[i]? = some e := fun e => List.getElem?_set_self (by rw [← hes]; simp; omega)
        have tk4 : n.1 < h'.tick + 1 + 1 + 1 + 1 := by omega
        have tk6 : n.1 < h'.tick + 1 + 1 + 1 + 1 + 1 + 1 := by omega
        have tk8 : n.1 < h'.tick + 1 + 1 + 1 + 1 + 1 + 1 + 1 + 1 := by omega
        have tk10 : n.1 < h'.tick + 1 + 1 + 1 + 1 + 1 + 1 + 1 + 1 + 1 + 1 := by omega
        repeat' (first
         | with_reducible refine stp ?_
         | with_reducible refine k_blk_o rfl ?_
         | with_reducible refine k_seq_n ?_
         | ((try (conv => arg 1; simp [h0, h1, h5, hr', hlt, hy2, hset, ht2, tk4, tk6, tk8, tk10, hw, w1, w2, w3, w4, w5])); with_reducible refine evp ?_)
         | ((with_reducible refine apn ?na ?_); (case na => simp [appNames, ints, intss] <;> first | kernel_rfl | (refine ⟨?_, ?_⟩ <;> kernel_rfl)))
         | fail)
        refine k_lp_n (i + 1) (by omega) ⟨by omega, by simp [h0], by simp [h1]; omega, by simp [h5], by simp; omega, fun m hm => by simp [hm, hoth m hm], ys.set i ⟨k + 5 * i, k + 5 * i + 1, k + 5 * i + 1 + 1, k + 5 * i + 1 + 1 + 1, k + 5 * i + 1 + 1 + 1 + 1⟩, by simp [hy], ?_, ?_⟩
        · rw [List.take_add_one, List.take_add_one, mwords_get hlt]
          simp [hyi, hy, hlt, List.take_set_of_le]
        · simp [← hes, List.set_append, hl4, List.map_set, Word.cells]
      · have hge : i = xs.length := by simp at hb; omega
        repeat' (first
         | with_reducible refine stp ?_
         | with_reducible refine k_blk_o rfl ?_
         | with_reducible refine k_seq_n ?_
         | ((try (conv => arg 1; simp [h0, h1, h5])); with_reducible refine evp ?_)
         | ((with_reducible refine apn ?na ?_); (case na => simp [appNames, ints, intss] <;> first | kernel_rfl | (refine ⟨?_, ?_⟩ <;> kernel_rfl)))
         | fail)
        have e1 : ys = mwords k xs.length := by
          subst hge
          rw [List.take_of_length_le (by omega), List.take_of_length_le (by simp [mwords_length])] at hyi
          exact hyi
        refine ⟨by simp [resV, hge], fun c => ?_, fun m hm => by simpa using hoth m (by simpa using hm), by simp; omega⟩
        have := own_row_mk (rows := h'.rows) (n := n) (ver := ver) (s := 5) (xs := (mwords k xs.length).map Word.cells) (sp := sp) (by rw [← e1]; exact hr') (words_flat _) hsp hcl (c := c)
        rw [List.length_map, mwords_length] at this
        exact this.congr fun m _ => by simp
end Go.Proofs.Ytfgaoojogididaa.AM

/-
  Images: their size, copies, equal, marked.
-/
set_option linter.unusedVariables false
set_option linter.unusedSimpArgs false
set_option maxRecDepth 4000
namespace Go.Proofs.Ytfgaoojogididaa.AM
open Go.RowKit

private def MW3 : FuncId → Mode := fun f => if f = 27 ∨ f = 56 then .fresh else if f = 33 ∨ f = 64 then .heap else .tree

structure Image.Small (m : Image) : Prop where
  sizes : m.Sizes.length ≤ 2 ^ 20
  code : m.Code.length ≤ 2 ^ 20

theorem drs_image (m : Image) {b b' : Bool} (hb : b = true → b' = true) {rows : Nm → Option Row} : DRs b' rows (m.cells b) (m.cells b') :=
  .cons (dr_ints hb _) (.cons (.int _ _) (.cons (.int _ _) (.cons (dr_words hb _) .nil)))

theorem szImage (m : Image) (left : Int) (l0 : 0 ≤ left) (l1 : left ≤ 2 ^ 20) (m1 : m.Sizes.length ≤ maxLen) (m2 : m.Code.length ≤ maxLen) :
    ∃ r : Int, Pure Try.prog 21 [.agg (m.cells true), .int .i64 left] (.int .i64 r) ∧ (r < 0 ∨ (m.Small ∧ 0 ≤ r ∧ r ≤ left)) := by
  by_cases h1 : left < (m.Sizes.length : Int)
  · refine ⟨-1, ?_, .inl (by omega)⟩
    intro T
    refine enter mixed MW3 Try.func21 rfl (by kernel_rfl) rfl ?_
    repeat' (first
     | with_reducible refine stp ?_
     | with_reducible refine k_blk_o rfl ?_
     | with_reducible refine k_seq_n ?_
     | ((try (conv => arg 1; simp [Image.cells, h1])); with_reducible refine evp ?_)
     | ((with_reducible refine apn ?na ?_); (case na => simp [appNames, ints, intss] <;> first | kernel_rfl | (refine ⟨?_, ?_⟩ <;> kernel_rfl)))
     | ((with_reducible refine tcl ?_); first | ((apply tg (szIntS m.Sizes left l0 l1 m1)); (case e => rfl); (case d => (refine dq ?_); (repeat' (first | ((refine Da.mk ?_); first | assumption) | constructor)))))
     | fail)
    exact .int _ _
  by_cases h2 : left - (m.Sizes.length : Int) < (m.Code.length : Int)
  · refine ⟨-1, ?_, .inl (by omega)⟩
    intro T
    have e1 : ¬ left - (m.Sizes.length : Int) < 0 := by omega
    refine enter mixed MW3 Try.func21 rfl (by kernel_rfl) rfl ?_
    repeat' (first
     | with_reducible refine stp ?_
     | with_reducible refine k_blk_o rfl ?_
     | with_reducible refine k_seq_n ?_
     | ((try (conv => arg 1; simp [Image.cells, h1, e1, h2])); with_reducible refine evp ?_)
     | ((with_reducible refine apn ?na ?_); (case na => simp [appNames, ints, intss] <;> first | kernel_rfl | (refine ⟨?_, ?_⟩ <;> kernel_rfl)))
     | ((with_reducible refine tcl ?_); first | ((apply tg (szIntS m.Sizes left l0 l1 m1)); (case e => rfl); (case d => (refine dq ?_); (repeat' (first | ((refine Da.mk ?_); first | exact dr_words (by simp) _ | assumption) | constructor)))) | ((apply tg (szWordS m.Code (left - (m.Sizes.length : Int)) (by omega) (by omega) m2)); (case e => rfl); (case d => (refine dq ?_); (repeat' (first | ((refine Da.mk ?_); first | exact dr_words (by simp) _ | assumption) | constructor)))))
     | fail)
    exact .int _ _
  refine ⟨left - (m.Sizes.length : Int) - (m.Code.length : Int), ?_, .inr ⟨⟨by omega, by omega⟩, by omega, by omega⟩⟩
  intro T
  have e1 : ¬ left - (m.Sizes.length : Int) < 0 := by omega
  have e2 : ¬ left - (m.Sizes.length : Int) - (m.Code.length : Int) < 0 := by omega
  refine enter mixed MW3 Try.func21 rfl (by kernel_rfl) rfl ?_
  repeat' (first
   | with_reducible refine stp ?_
   | with_reducible refine k_blk_o rfl ?_
   | with_reducible refine k_seq_n ?_
   | ((try (conv => arg 1; simp [Image.cells, h1, e1, h2, e2])); with_reducible refine evp ?_)
   | ((with_reducible refine apn ?na ?_); (case na => simp [appNames, ints, intss] <;> first | kernel_rfl | (refine ⟨?_, ?_⟩ <;> kernel_rfl)))
   | ((with_reducible refine tcl ?_); first | ((apply tg (szIntS m.Sizes left l0 l1 m1)); (case e => rfl); (case d => (refine dq ?_); (repeat' (first | ((refine Da.mk ?_); first | exact dr_words (by simp) _ | assumption) | constructor)))) | ((apply tg (szWordS m.Code (left - (m.Sizes.length : Int)) (by omega) (by omega) m2)); (case e => rfl); (case d => (refine dq ?_); (repeat' (first | ((refine Da.mk ?_); first | exact dr_words (by simp) _ | assumption) | constructor)))))
   | fail)
  exact .int _ _

theorem eqImage (m : Image) (hs : m.Small) : Pure Try.prog 25 [.agg (m.cells true), .agg (m.cells true)] (.bool true) := by
  intro T
  refine enter mixed MW3 Try.func25 rfl (by kernel_rfl) rfl ?_
  repeat' (first
   | with_reducible refine stp ?_
   | with_reducible refine k_blk_o rfl ?_
   | with_reducible refine k_seq_n ?_
   | ((try (conv => arg 1; simp [Image.cells])); with_reducible refine evp ?_)
   | ((with_reducible refine apn ?na ?_); (case na => simp [appNames, ints, intss] <;> first | kernel_rfl | (refine ⟨?_, ?_⟩ <;> kernel_rfl)))
   | ((with_reducible refine tcl ?_); first | ((apply tg (eqIntS m.Sizes (by have := hs.sizes; omega))); (case e => rfl); (case d => (refine dq ?_); (repeat' (first | ((refine Da.mk ?_); first | exact dr_words (by simp) _ | assumption) | constructor)))) | ((apply tg (eqWordS m.Code (by have := hs.code; omega))); (case e => rfl); (case d => (refine dq ?_); (repeat' (first | ((refine Da.mk ?_); first | exact dr_words (by simp) _ | assumption) | constructor)))))
   | fail)
  exact .bool true
end Go.Proofs.Ytfgaoojogididaa.AM

/-
  Images: a copy; marked.
-/
set_option linter.unusedVariables false
set_option linter.unusedSimpArgs false
set_option maxRecDepth 4000
namespace Go.Proofs.Ytfgaoojogididaa.AM
open Go.RowKit

private def MW4 : FuncId → Mode := fun f => if f = 27 ∨ f = 56 then .fresh else if f = 33 ∨ f = 64 then .heap else .tree

theorem toImage (m : Image) (hs : m.Small) : Fresh Try.prog 23 [.agg (m.cells true)] (fun b => .agg (m.cells b)) := by
  intro T
  refine enter mixed MW4 Try.func23 rfl (by kernel_rfl) rfl ?_
  repeat' (first
   | with_reducible refine stp ?_
   | with_reducible refine k_blk_o rfl ?_
   | ((try (conv => arg 1; simp [Image.cells])); with_reducible refine evp ?_)
   | ((with_reducible refine apn ?na ?_); (case na => simp [appNames, ints, intss] <;> first | kernel_rfl | (refine ⟨?_, ?_⟩ <;> kernel_rfl)))
   | fail)
  refine cx_k ((Cx.mt.next.box_one (T := T) (i := 0) Cx.mt.off (by simp)).box_add (n := (T, 1, 0)) (by simp [nms]) (by simp)) ?_
  intro h1 x1
  repeat' (first
   | with_reducible refine stp ?_
   | with_reducible refine k_blk_o rfl ?_
   | ((try (conv => arg 1; simp [hs])); with_reducible refine evp ?_)
   | ((with_reducible refine apn ?na ?_); (case na => simp [appNames, ints, intss] <;> first | kernel_rfl | (refine ⟨?_, ?_⟩ <;> kernel_rfl)))
   | fail)
  refine cx_k (x1.next.box_one x1.off (by simp)) ?_
  intro h2 x2
  repeat' (first
   | with_reducible refine stp ?_
   | with_reducible refine k_blk_o rfl ?_
   | ((try (conv => arg 1; simp [x2.b0, x2.b1, x2.b2])); with_reducible refine evp ?_)
   | ((with_reducible refine apn ?na ?_); (case na => simp [appNames, ints, intss] <;> first | kernel_rfl | (refine ⟨?_, ?_⟩ <;> kernel_rfl)))
   | fail)
  refine st_fresh rfl (toIntS m.Sizes hs.sizes) (.cons (dr_ints (fun h => h) _) .nil) ?_
  intro v1 h3 n1 o1 d1 f1 p1 t1
  have x3 := x2.next.fresh o1 d1 f1 p1 t1
  have q1 := own_one (ownV_ints (o1 true))
  have z3 : h1.tick < h3.tick := Nat.lt_of_lt_of_le (x2.lt (h1.tick, 0, 0) (by simp [nms])) (by simp at t1; omega)
  repeat' (first
   | with_reducible refine stp ?_
   | with_reducible refine k_blk_o rfl ?_
   | ((try (conv => arg 1; simp [x3.b0, x3.b1, x3.b2, q1.1, q1.2.1, q1.2.2, z3])); with_reducible refine evp ?_)
   | ((with_reducible refine apn ?na ?_); (case na => simp [appNames, ints, intss] <;> first | kernel_rfl | (refine ⟨?_, ?_⟩ <;> kernel_rfl)))
   | fail)
  refine cx_k x3.box_set ?_
  intro h4 x4
  have z4 : h1.tick < h4.tick := x4.lt (h1.tick, 0, 0) (by simp [nms])
  repeat' (first
   | with_reducible refine stp ?_
   | with_reducible refine k_blk_o rfl ?_
   | ((try (conv => arg 1; simp [x4.b0, x4.b1, x4.b2, z4, q1.1])); with_reducible refine evp ?_)
   | ((with_reducible refine apn ?na ?_); (case na => simp [appNames, ints, intss] <;> first | kernel_rfl | (refine ⟨?_, ?_⟩ <;> kernel_rfl)))
   | fail)
  refine cx_k x4.next.box_set ?_
  intro h5 x5
  have z5 : h1.tick < h5.tick := x5.lt (h1.tick, 0, 0) (by simp [nms])
  repeat' (first
   | with_reducible refine stp ?_
   | with_reducible refine k_blk_o rfl ?_
   | ((try (conv => arg 1; simp [x5.b0, x5.b1, x5.b2, z5, q1.1])); with_reducible refine evp ?_)
   | ((with_reducible refine apn ?na ?_); (case na => simp [appNames, ints, intss] <;> first | kernel_rfl | (refine ⟨?_, ?_⟩ <;> kernel_rfl)))
   | fail)
  refine cx_k x5.next.box_set ?_
  intro h6 x6
  repeat' (first
   | with_reducible refine stp ?_
   | with_reducible refine k_blk_o rfl ?_
   | ((try (conv => arg 1; simp [x6.b0, x6.b1, x6.b2])); with_reducible refine evp ?_)
   | ((with_reducible refine apn ?na ?_); (case na => simp [appNames, ints, intss] <;> first | kernel_rfl | (refine ⟨?_, ?_⟩ <;> kernel_rfl)))
   | fail)
  refine st_fresh rfl (toWordS m.Code hs.code) (.cons (dr_words (fun h => h) _) .nil) ?_
  intro v2 h7 n2 o2 d2 f2 p2 t2
  have x7 := x6.next.fresh o2 d2 f2 p2 t2
  have q2 := own_one' (own_of (o2 true) rfl)
  have z7 : h1.tick < h7.tick := Nat.lt_of_lt_of_le (x6.lt (h1.tick, 0, 0) (by simp [nms])) (by simp at t2; omega)
  repeat' (first
   | with_reducible refine stp ?_
   | with_reducible refine k_blk_o rfl ?_
   | ((try (conv => arg 1; simp [x7.b0, x7.b1, x7.b2, q1.1, q2.1, q2.2.1, q2.2.2, z7])); with_reducible refine evp ?_)
   | ((with_reducible refine apn ?na ?_); (case na => simp [appNames, ints, intss] <;> first | kernel_rfl | (refine ⟨?_, ?_⟩ <;> kernel_rfl)))
   | fail)
  refine cx_k x7.box_set ?_
  intro h8 x8
  have z8 : T < h8.tick := x8.lt (T, 1, 0) (by simp [nms])
  repeat' (first
   | with_reducible refine stp ?_
   | with_reducible refine k_blk_o rfl ?_
   | with_reducible refine k_seq_n ?_
   | ((try (conv => arg 1; simp [x8.b0, x8.b1, x8.b2, q1.1, q2.1, q2.2.1, q2.2.2, z8])); with_reducible refine evp ?_)
   | ((with_reducible refine apn ?na ?_); (case na => simp [appNames, ints, intss] <;> first | kernel_rfl | (refine ⟨?_, ?_⟩ <;> kernel_rfl)))
   | fail)
  have x9 := x8.next.box_set1 (r' := ⟨0, 4, [[v1, .int .i64 m.Params, .int .i64 m.Slots, v2]]⟩)
  have b2 : T < h2.tick := x2.lt (T, 1, 0) (by simp [nms])
  have b6 : T < h6.tick := x6.lt (T, 1, 0) (by simp [nms])
  refine ⟨by simp; omega, n1 ++ n2, fun b => .agg (Own.append (own_of (x9.o1 b) rfl) (.int _ _ (.int _ _ (own_of (x9.o0 b) rfl)))), (x9.rot1).nodup2, fun n hn => ⟨?_, x9.lt n ?_⟩⟩
  · simp only [hp_next_tick] at f1 f2
    rcases List.mem_append.1 hn with hn | hn
    · have := (f1 n hn).1; omega
    · have := (f2 n hn).1; omega
  · simp only [nms, List.map_cons, List.flatten_cons, List.mem_append]
    rcases List.mem_append.1 hn with hn | hn
    · exact .inr (.inr (.inl hn))
    · exact .inr (.inl hn)

theorem ownV_image {rows : Nm → Option Row} {b : Bool} {v : AV} {m : Image} {ns : List Nm} (h : OwnV rows b v (.agg (m.cells b)) ns) : ∃ w1 w2 n1 n2, v = .agg [w1, .int .i64 m.Params, .int .i64 m.Slots, w2] ∧ ns = n1 ++ n2 ∧ Own rows b [w1] [ints b m.Sizes] n1 ∧ Own rows b [w2] [words b m.Code] n2 := by
  generalize ht : AV.agg (m.cells b) = t at h
  cases h with
  | one h => subst ht; unfold Image.cells at h; cases h
  | tup2 => cases ht
  | @agg l _ _ h =>
    cases ht
    unfold Image.cells at h
    obtain ⟨w1, l1, n1, m1, rfl, rfl, o1, h⟩ := own_cons1 h
    cases h with
    | int _ _ h => cases h with
      | int _ _ h =>
        obtain ⟨w2, l2, n2, m2, rfl, rfl, o2, h⟩ := own_cons1 h
        cases h with
        | nil => exact ⟨w1, w2, n1, n2, rfl, by simp, o1, o2⟩

theorem markImage {h : Hp} {v : AV} {m : Image} {ns : List Nm} (ho : OwnV h.rows true v (.agg (m.cells true)) ns) (hnd : ns.Nodup) (hns : ∀ n ∈ ns, n.1 < h.tick) (hs : m.Small) (k : Int) (hk : 0 ≤ k) (hk2 : k ≤ 2 ^ 40) :
    Sound Try.prog 32 [v, .int .i64 k] h fun r h' => (∃ k', r = .int .i64 k' ∧ k ≤ k' ∧ k' ≤ k + 2 ^ 30) ∧ (∀ n, n ∉ ns → n.1 < h.tick → h'.rows n = h.rows n) ∧ h.tick ≤ h'.tick := by
  obtain ⟨w1, w2, n1, n2, rfl, rfl, o1, o2⟩ := ownV_image ho
  have q1 := own_one o1
  have q2 := own_one' o2
  have z1 := hs.sizes
  have z2 := hs.code
  simp only [List.nodup_append, List.mem_append] at hnd
  have b1 : ∀ n ∈ n1, n.1 < h.tick := fun n hn => hns n (by simp [hn])
  have b2 : ∀ n ∈ n2, n.1 < h.tick := fun n hn => hns n (by simp [hn])
  have a1 : (h.tick, 0, 0) ∉ n1 := fun e => by have := b1 _ e; simp at this
  have a2 : (h.tick, 0, 0) ∉ n2 := fun e => by have := b2 _ e; simp at this
  refine enter mixed MW4 Try.func32 rfl (by kernel_rfl) rfl ?_
  repeat' (first
   | with_reducible refine stp ?_
   | with_reducible refine k_blk_o rfl ?_
   | with_reducible refine k_seq_n ?_
   | ((try (conv => arg 1; simp [q1.1, q2.1])); with_reducible refine evp ?_)
   | ((with_reducible refine apn ?na ?_); (case na => simp [appNames, ints, intss] <;> first | kernel_rfl | (refine ⟨?_, ?_⟩ <;> kernel_rfl)))
   | fail)
  refine st_heap rfl (markIntS (o1.congr fun n hn => ?_) (fun n hn => ?_) k (by omega) (by omega)) ?_
  · have hne : n ≠ (h.tick, 0, 0) := fun e => a1 (e ▸ hn)
    simp [hne]
  · have := b1 n hn
    simp; omega
  rintro r h1 ⟨rfl, _, p1, t1⟩
  simp only [hp_next_tick, hp_put_tick] at t1
  have r1 : h1.rows (h.tick, 0, 0) = some ⟨0, 4, [[w1, .int .i64 m.Params, .int .i64 m.Slots, w2]]⟩ := by
    rw [p1 _ a1]; simp
  repeat' (first
   | with_reducible refine stp ?_
   | with_reducible refine k_blk_o rfl ?_
   | with_reducible refine k_seq_n ?_
   | ((try (conv => arg 1; simp [q1.1, q2.1, r1])); with_reducible refine evp ?_)
   | ((with_reducible refine apn ?na ?_); (case na => simp [appNames, ints, intss] <;> first | kernel_rfl | (refine ⟨?_, ?_⟩ <;> kernel_rfl)))
   | fail)
  refine st_heap rfl (markWordS (o2.congr fun n hn => ?_) (fun n hn => ?_) (k + m.Sizes.length) (by omega) (by omega)) ?_
  · have hne : n ≠ (h.tick, 0, 0) := fun e => a2 (e ▸ hn)
    have : n ∉ n1 := fun e => hnd.2.2 n e n hn rfl
    simp [p1 n this, hne]
  · have := b2 n hn
    simp; omega
  rintro r h2 ⟨rfl, _, p2, t2⟩
  simp only [hp_next_tick, hp_put_tick] at t2
  repeat' (first
   | with_reducible refine stp ?_
   | with_reducible refine k_blk_o rfl ?_
   | with_reducible refine k_seq_n ?_
   | ((try (conv => arg 1; simp [q1.1, q2.1])); with_reducible refine evp ?_)
   | ((with_reducible refine apn ?na ?_); (case na => simp [appNames, ints, intss] <;> first | kernel_rfl | (refine ⟨?_, ?_⟩ <;> kernel_rfl)))
   | fail)
  refine ⟨⟨_, rfl, by omega, by omega⟩, fun n hn hlt => ?_, by simp; omega⟩
  have hne : n ≠ (h.tick, 0, 0) := fun e => by rw [e] at hlt; simp at hlt
  simp only [List.mem_append, not_or] at hn
  simp [p2 n hn.2, p1 n hn.1, hne]
end Go.Proofs.Ytfgaoojogididaa.AM

/-
  A word that is right: the reference's, and the program's.
-/
set_option linter.unusedVariables false
set_option linter.unusedSimpArgs false
set_option maxRecDepth 4000
namespace Go.Proofs.Ytfgaoojogididaa.AM
open Go.RowKit

private def MW5 : FuncId → Mode := fun f => .tree

def wordOk (m : Image) (w : Word) : Bool :=
  if w.Op = 0 then inB w.R 0 15 && (decide (w.A = 0) && decide (w.B = 0))
  else if w.Op = 1 ∨ w.Op = 2 then inB w.R 0 15 && (decide (w.A = 0) && decide (w.B = 0)) && inB w.N 0 (IntKind.i64.wrap (m.Slots - 1))
  else if w.Op = 3 then inB w.R 0 15 && inB w.A 0 15 && inB w.B 0 15 && inB w.N 0 5
  else if w.Op = 4 ∨ w.Op = 5 then inB w.R 0 15 && inB w.A 0 15 && decide (w.B = 0) && inB w.N 0 (IntKind.i64.wrap (m.Sizes.length - 1))
  else if w.Op = 11 then inB w.R 0 15 && inB w.A 0 15 && decide (w.B = 0) && decide (w.N = 0)
  else if w.Op = 6 ∨ w.Op = 7 ∨ w.Op = 10 then inB w.R 0 15 && (decide (w.A = 0) && decide (w.B = 0)) && decide (w.N = 0)
  else if w.Op = 8 then decide (w.R = 0) && (decide (w.A = 0) && decide (w.B = 0)) && inB w.N 0 (IntKind.i64.wrap (m.Code.length - 1))
  else if w.Op = 9 then inB w.R 0 15 && (decide (w.A = 0) && decide (w.B = 0)) && inB w.N 0 (IntKind.i64.wrap (m.Code.length - 1))
  else false

theorem lenA_words {P : Program} {t : TypeId} (b : Bool) (ws : List Word) (h : (telem P t).isSome = true) : lenA P t (words b ws) = some (.int .i64 ws.length) := by
  unfold words
  rw [lenA_tr b _ h]
  simp
attribute [simp] lenA_words

theorem l13WordOk (m : Image) (w : Word) : Pure Try.prog 74 [.agg (m.cells true), .agg w.cells] (.bool (wordOk m w)) := by
  intro T
  obtain ⟨Op, R, A, B, N⟩ := w
  obtain ⟨Sizes, Params, Slots, Code⟩ := m
  refine enter mixed MW5 Try.func74 rfl (by kernel_rfl) rfl ?_
  repeat' (first
    | (with_reducible first | refine st_seq ?_ | refine st_reg ?_ | refine st_block ?_ | refine st_nil ?_ | refine st_skip ?_ | refine st_ret ?_ | refine st_exit ?_ | refine fr_nil ?_ | refine k_seq_n ?_ | refine k_seq_r ?_ | refine k_seq_e ?_ | refine k_blk_n ?_ | refine k_blk_r ?_ | refine k_blk_s ?_ | refine k_blk_o rfl ?_ | refine k_fn_r ?_ | refine k_fn_n ?_ | refine k_lp_r ?_ | refine k_lp_e ?_)
    | ((with_reducible first | refine st_move ?_ | refine st_asg ?_ | refine st_c ?_ | refine fr_c ?_); (try (conv => arg 1; simp [Image.cells, Word.cells])); (with_reducible refine at_mk ?_))
    | ((with_reducible first | refine st_g ?_ | refine fr_g ?_); (try (conv => arg 1; simp [Image.cells, Word.cells])); (with_reducible refine at_mk ?_); with_reducible first | refine gd_tt ?_ | refine gd_ff ?_ | refine gd_tf ?_ | refine gd_ft ?_ | refine gd_no ?_)
    | ((with_reducible first | refine st_gm ?_ | refine fr_gm ?_); (try (conv => arg 1; simp [Image.cells, Word.cells])); (with_reducible refine at_mk ?_); (with_reducible first | refine gm_bool ?_ | refine gm_gv ?_); refine ⟨_, (by intro hc; first | ((try simp only [Bool.and_eq_true] at hc); (try (conv => lhs; simp [hc, Image.cells, Word.cells])); first | done | exact rfl) | ((try simp [gq] at hc); (try (conv => lhs; simp [gq, hc, Image.cells, Word.cells])); first | done | exact rfl)), ?_⟩)
    | ((with_reducible refine st_gmc ?_); (try (conv => arg 1; simp [Image.cells, Word.cells])); (with_reducible refine at_mk ?_); (with_reducible first | refine gm_bool ?_ | refine gm_gv ?_); refine ⟨_, _, _, (by intro hc; first | ((try simp only [Bool.and_eq_true] at hc); (try (conv => lhs; simp [hc, Image.cells, Word.cells])); first | done | exact rfl) | ((try simp [gq] at hc); (try (conv => lhs; simp [gq, hc, Image.cells, Word.cells])); first | done | exact rfl)), rfl, l01In _ _ _, (by intro hc; (try simp at hc); (repeat' (first | exact DRs.nil | refine DRs.cons ?_ ?_ | exact .int _ _ | exact .bool _ | exact .str _ | exact .nilsl | exact .nilp | exact dr_ints (by simp) _ | exact dr_intss (by simp) _ | refine dr_agg ?_ | refine dr_fn ?_ | refine dr_tptr' (by simp) ?_ | assumption))), ?_⟩)
    | ((with_reducible refine fr_gmc ?_); (try (conv => arg 1; simp [Image.cells, Word.cells])); (with_reducible refine at_mk ?_); (with_reducible first | refine gm_bool ?_ | refine gm_gv ?_); refine ⟨_, _, _, (by intro hc; first | ((try simp only [Bool.and_eq_true] at hc); (try (conv => lhs; simp [hc, Image.cells, Word.cells])); first | done | exact rfl) | ((try simp [gq] at hc); (try (conv => lhs; simp [gq, hc, Image.cells, Word.cells])); first | done | exact rfl)), l01In _ _ _, (by intro hc; (try simp at hc); (repeat' (first | exact DRs.nil | refine DRs.cons ?_ ?_ | exact .int _ _ | exact .bool _ | exact .str _ | exact .nilsl | exact .nilp | exact dr_ints (by simp) _ | exact dr_intss (by simp) _ | refine dr_agg ?_ | refine dr_fn ?_ | refine dr_tptr' (by simp) ?_ | assumption))), ?_⟩)
    | ((with_reducible refine st_gmv ?_); (try (conv => arg 1; simp [Image.cells, Word.cells])); (with_reducible refine at_mk ?_); (with_reducible first | refine gm_bool ?_ | refine gm_gv ?_); refine ⟨_, _, _, _, _, (by intro hc; first | ((try simp only [Bool.and_eq_true] at hc); (try (conv => lhs; simp [hc, Image.cells, Word.cells])); first | done | exact rfl) | ((try simp [gq] at hc); (try (conv => lhs; simp [gq, hc, Image.cells, Word.cells])); first | done | exact rfl)), (by intro hc; first | ((try simp only [Bool.and_eq_true] at hc); (try (conv => lhs; simp [hc, Image.cells, Word.cells])); first | done | exact rfl) | ((try simp [gq] at hc); (try (conv => lhs; simp [gq, hc, Image.cells, Word.cells])); first | done | exact rfl)), rfl, l01In _ _ _, (by intro hc; (try simp at hc); (repeat' (first | exact DRs.nil | refine DRs.cons ?_ ?_ | exact .int _ _ | exact .bool _ | exact .str _ | exact .nilsl | exact .nilp | exact dr_ints (by simp) _ | exact dr_intss (by simp) _ | refine dr_agg ?_ | refine dr_fn ?_ | refine dr_tptr' (by simp) ?_ | assumption))), ?_⟩)
    | ((with_reducible refine st_m rfl ?_); (try (conv => arg 1; simp [Image.cells, Word.cells])); (with_reducible refine ev2_some ?_))
    | ((with_reducible refine fr_n rfl ?_); (try (conv => arg 1; simp [Image.cells, Word.cells])); (with_reducible refine evn_some ?_))
    | ((with_reducible first | refine st_cv ?_ | refine fr_cv ?_); (try (conv => arg 1; simp [Image.cells, Word.cells])); (with_reducible refine at_mk ?_); (with_reducible refine fn_mk ?_); (try (conv => arg 1; simp [Image.cells, Word.cells])); (with_reducible refine at_mk ?_))
    | ((with_reducible refine fr_a ?_); (try (conv => arg 1; simp [Image.cells, Word.cells])); (with_reducible refine at_mk ?_); (try (conv => arg 1; simp [Image.cells, Word.cells])); (with_reducible refine at_mk ?_); refine ⟨?names, ?_⟩; (case names => (simp [appNames, ints, intss] <;> first | kernel_rfl | (refine ⟨?_, ?_⟩ <;> kernel_rfl))); (try (conv => arg 1; simp [Image.cells, Word.cells])); (with_reducible refine ev2_some ?_))
    | ((with_reducible first | refine st_q ?_ | refine fr_q ?_ | refine st_res ?_); (try (conv => arg 1; simp [Image.cells, Word.cells])); (with_reducible refine ev_some ?_))
    | ((with_reducible refine st_if ?_); (try (conv => arg 1; simp [Image.cells, Word.cells])); (with_reducible refine at_mk ?_); with_reducible first | refine br_t ?_ | refine br_f ?_ | (refine br_b (fun hb => ?_) (fun hb => ?_) <;> ((try simp only [Bool.not_eq_eq_eq_not, Bool.not_true, Bool.not_false] at hb); (try simp only [hb]); (try simp at hb))))
    | ((with_reducible refine ct_id ?_); refine st_tree rfl (l01In _ _ _) (by (repeat' (first | exact DRs.nil | refine DRs.cons ?_ ?_ | exact .int _ _ | exact .bool _ | exact .str _ | exact .nilsl | exact .nilp | exact dr_ints (by simp) _ | exact dr_intss (by simp) _ | refine dr_agg ?_ | refine dr_fn ?_ | refine dr_tptr' (by simp) ?_ | assumption))) ?_)
    | ((with_reducible refine tw_id ?_); refine treeW_pure (l01In _ _ _) (by (repeat' (first | exact DRs.nil | refine DRs.cons ?_ ?_ | exact .int _ _ | exact .bool _ | exact .str _ | exact .nilsl | exact .nilp | exact dr_ints (by simp) _ | exact dr_intss (by simp) _ | refine dr_agg ?_ | refine dr_fn ?_ | refine dr_tptr' (by simp) ?_ | assumption))) ?_))
  all_goals exact dr_bool (by simp_all [wordOk])
end Go.Proofs.Ytfgaoojogididaa.AM

/-
  A word that is right: the program's.
-/
set_option linter.unusedVariables false
set_option linter.unusedSimpArgs false
set_option maxRecDepth 4000
namespace Go.Proofs.Ytfgaoojogididaa.AM
open Go.RowKit

private def MW6 : FuncId → Mode := fun f => .tree

theorem register (n : Int) (has : Bool) : Pure Try.prog 95 [.int .i64 n, .bool has] (.bool (inB n 0 15 && (has || decide (n = 0)))) := by
  intro T
  refine enter mixed MW6 Try.func95 rfl (by kernel_rfl) rfl ?_
  repeat' (first
    | (with_reducible first | refine st_seq ?_ | refine st_reg ?_ | refine st_block ?_ | refine st_nil ?_ | refine st_skip ?_ | refine st_ret ?_ | refine st_exit ?_ | refine fr_nil ?_ | refine k_seq_n ?_ | refine k_seq_r ?_ | refine k_seq_e ?_ | refine k_blk_n ?_ | refine k_blk_r ?_ | refine k_blk_s ?_ | refine k_blk_o rfl ?_ | refine k_fn_r ?_ | refine k_fn_n ?_ | refine k_lp_r ?_ | refine k_lp_e ?_)
    | ((with_reducible first | refine st_move ?_ | refine st_asg ?_ | refine st_c ?_ | refine fr_c ?_); (try (conv => arg 1; simp)); (with_reducible refine at_mk ?_))
    | ((with_reducible first | refine st_g ?_ | refine fr_g ?_); (try (conv => arg 1; simp)); (with_reducible refine at_mk ?_); with_reducible first | refine gd_tt ?_ | refine gd_ff ?_ | refine gd_tf ?_ | refine gd_ft ?_ | refine gd_no ?_)
    | ((with_reducible first | refine st_gm ?_ | refine fr_gm ?_); (try (conv => arg 1; simp)); (with_reducible refine at_mk ?_); (with_reducible first | refine gm_bool ?_ | refine gm_gv ?_); refine ⟨_, (by intro hc; first | ((try simp only [Bool.and_eq_true] at hc); (try (conv => lhs; simp [hc])); first | done | exact rfl) | ((try simp [gq] at hc); (try (conv => lhs; simp [gq, hc])); first | done | exact rfl)), ?_⟩)
    | ((with_reducible refine st_gmc ?_); (try (conv => arg 1; simp)); (with_reducible refine at_mk ?_); (with_reducible first | refine gm_bool ?_ | refine gm_gv ?_); refine ⟨_, _, _, (by intro hc; first | ((try simp only [Bool.and_eq_true] at hc); (try (conv => lhs; simp [hc])); first | done | exact rfl) | ((try simp [gq] at hc); (try (conv => lhs; simp [gq, hc])); first | done | exact rfl)), rfl, in_ _ _ _, (by intro hc; (try simp at hc); (repeat' (first | exact DRs.nil | refine DRs.cons ?_ ?_ | exact .int _ _ | exact .bool _ | exact .str _ | exact .nilsl | exact .nilp | exact dr_ints (by simp) _ | exact dr_intss (by simp) _ | refine dr_agg ?_ | refine dr_fn ?_ | refine dr_tptr' (by simp) ?_ | assumption))), ?_⟩)
    | ((with_reducible refine fr_gmc ?_); (try (conv => arg 1; simp)); (with_reducible refine at_mk ?_); (with_reducible first | refine gm_bool ?_ | refine gm_gv ?_); refine ⟨_, _, _, (by intro hc; first | ((try simp only [Bool.and_eq_true] at hc); (try (conv => lhs; simp [hc])); first | done | exact rfl) | ((try simp [gq] at hc); (try (conv => lhs; simp [gq, hc])); first | done | exact rfl)), in_ _ _ _, (by intro hc; (try simp at hc); (repeat' (first | exact DRs.nil | refine DRs.cons ?_ ?_ | exact .int _ _ | exact .bool _ | exact .str _ | exact .nilsl | exact .nilp | exact dr_ints (by simp) _ | exact dr_intss (by simp) _ | refine dr_agg ?_ | refine dr_fn ?_ | refine dr_tptr' (by simp) ?_ | assumption))), ?_⟩)
    | ((with_reducible refine st_gmv ?_); (try (conv => arg 1; simp)); (with_reducible refine at_mk ?_); (with_reducible first | refine gm_bool ?_ | refine gm_gv ?_); refine ⟨_, _, _, _, _, (by intro hc; first | ((try simp only [Bool.and_eq_true] at hc); (try (conv => lhs; simp [hc])); first | done | exact rfl) | ((try simp [gq] at hc); (try (conv => lhs; simp [gq, hc])); first | done | exact rfl)), (by intro hc; first | ((try simp only [Bool.and_eq_true] at hc); (try (conv => lhs; simp [hc])); first | done | exact rfl) | ((try simp [gq] at hc); (try (conv => lhs; simp [gq, hc])); first | done | exact rfl)), rfl, in_ _ _ _, (by intro hc; (try simp at hc); (repeat' (first | exact DRs.nil | refine DRs.cons ?_ ?_ | exact .int _ _ | exact .bool _ | exact .str _ | exact .nilsl | exact .nilp | exact dr_ints (by simp) _ | exact dr_intss (by simp) _ | refine dr_agg ?_ | refine dr_fn ?_ | refine dr_tptr' (by simp) ?_ | assumption))), ?_⟩)
    | ((with_reducible refine st_m rfl ?_); (try (conv => arg 1; simp)); (with_reducible refine ev2_some ?_))
    | ((with_reducible refine fr_n rfl ?_); (try (conv => arg 1; simp)); (with_reducible refine evn_some ?_))
    | ((with_reducible first | refine st_cv ?_ | refine fr_cv ?_); (try (conv => arg 1; simp)); (with_reducible refine at_mk ?_); (with_reducible refine fn_mk ?_); (try (conv => arg 1; simp)); (with_reducible refine at_mk ?_))
    | ((with_reducible refine fr_a ?_); (try (conv => arg 1; simp)); (with_reducible refine at_mk ?_); (try (conv => arg 1; simp)); (with_reducible refine at_mk ?_); refine ⟨?names, ?_⟩; (case names => (simp [appNames, ints, intss] <;> first | kernel_rfl | (refine ⟨?_, ?_⟩ <;> kernel_rfl))); (try (conv => arg 1; simp)); (with_reducible refine ev2_some ?_))
    | ((with_reducible first | refine st_q ?_ | refine fr_q ?_ | refine st_res ?_); (try (conv => arg 1; simp)); (with_reducible refine ev_some ?_))
    | ((with_reducible refine st_if ?_); (try (conv => arg 1; simp)); (with_reducible refine at_mk ?_); with_reducible first | refine br_t ?_ | refine br_f ?_)
    | ((with_reducible refine ct_id ?_); refine st_tree rfl (in_ _ _ _) (by (repeat' (first | exact DRs.nil | refine DRs.cons ?_ ?_ | exact .int _ _ | exact .bool _ | exact .str _ | exact .nilsl | exact .nilp | exact dr_ints (by simp) _ | exact dr_intss (by simp) _ | refine dr_agg ?_ | refine dr_fn ?_ | refine dr_tptr' (by simp) ?_ | assumption))) ?_)
    | ((with_reducible refine tw_id ?_); refine treeW_pure (in_ _ _ _) (by (repeat' (first | exact DRs.nil | refine DRs.cons ?_ ?_ | exact .int _ _ | exact .bool _ | exact .str _ | exact .nilsl | exact .nilp | exact dr_ints (by simp) _ | exact dr_intss (by simp) _ | refine dr_agg ?_ | refine dr_fn ?_ | refine dr_tptr' (by simp) ?_ | assumption))) ?_))
  exact .bool _

set_option maxHeartbeats 4000000 in
theorem isWordOf (m : Image) (w : Word) : Pure Try.prog 87 [.agg (m.cells true), .agg w.cells] (.bool (wordOk m w)) := by
  intro T
  obtain ⟨Op, R, A, B, N⟩ := w
  obtain ⟨Sizes, Params, Slots, Code⟩ := m
  refine enter mixed MW6 Try.func87 rfl (by kernel_rfl) rfl ?_
  repeat' (first
    | (with_reducible first | refine st_seq ?_ | refine st_reg ?_ | refine st_block ?_ | refine st_nil ?_ | refine st_skip ?_ | refine st_ret ?_ | refine st_exit ?_ | refine fr_nil ?_ | refine k_seq_n ?_ | refine k_seq_r ?_ | refine k_seq_e ?_ | refine k_blk_n ?_ | refine k_blk_r ?_ | refine k_blk_s ?_ | refine k_blk_o rfl ?_ | refine k_fn_r ?_ | refine k_fn_n ?_ | refine k_lp_r ?_ | refine k_lp_e ?_)
    | ((with_reducible first | refine st_move ?_ | refine st_asg ?_ | refine st_c ?_ | refine fr_c ?_); (try (conv => arg 1; simp [Image.cells, Word.cells])); (with_reducible refine at_mk ?_))
    | ((with_reducible first | refine st_g ?_ | refine fr_g ?_); (try (conv => arg 1; simp [Image.cells, Word.cells])); (with_reducible refine at_mk ?_); with_reducible first | refine gd_tt ?_ | refine gd_ff ?_ | refine gd_tf ?_ | refine gd_ft ?_ | refine gd_no ?_)
    | ((with_reducible first | refine st_gm ?_ | refine fr_gm ?_); (try (conv => arg 1; simp [Image.cells, Word.cells])); (with_reducible refine at_mk ?_); (with_reducible first | refine gm_bool ?_ | refine gm_gv ?_); refine ⟨_, (by intro hc; first | ((try simp only [Bool.and_eq_true] at hc); (try (conv => lhs; simp [hc, Image.cells, Word.cells])); first | done | exact rfl) | ((try simp [gq] at hc); (try (conv => lhs; simp [gq, hc, Image.cells, Word.cells])); first | done | exact rfl)), ?_⟩)
    | ((with_reducible refine st_gmc ?_); (try (conv => arg 1; simp [Image.cells, Word.cells])); (with_reducible refine at_mk ?_); (with_reducible first | refine gm_bool ?_ | refine gm_gv ?_); refine ⟨_, _, _, (by intro hc; first | ((try simp only [Bool.and_eq_true] at hc); (try (conv => lhs; simp [hc, Image.cells, Word.cells])); first | done | exact rfl) | ((try simp [gq] at hc); (try (conv => lhs; simp [gq, hc, Image.cells, Word.cells])); first | done | exact rfl)), rfl, in_ _ _ _, (by intro hc; (try simp at hc); (repeat' (first | exact DRs.nil | refine DRs.cons ?_ ?_ | exact .int _ _ | exact .bool _ | exact .str _ | exact .nilsl | exact .nilp | exact dr_ints (by simp) _ | exact dr_intss (by simp) _ | refine dr_agg ?_ | refine dr_fn ?_ | refine dr_tptr' (by simp) ?_ | assumption))), ?_⟩)
    | ((with_reducible refine fr_gmc ?_); (try (conv => arg 1; simp [Image.cells, Word.cells])); (with_reducible refine at_mk ?_); (with_reducible first | refine gm_bool ?_ | refine gm_gv ?_); refine ⟨_, _, _, (by intro hc; first | ((try simp only [Bool.and_eq_true] at hc); (try (conv => lhs; simp [hc, Image.cells, Word.cells])); first | done | exact rfl) | ((try simp [gq] at hc); (try (conv => lhs; simp [gq, hc, Image.cells, Word.cells])); first | done | exact rfl)), in_ _ _ _, (by intro hc; (try simp at hc); (repeat' (first | exact DRs.nil | refine DRs.cons ?_ ?_ | exact .int _ _ | exact .bool _ | exact .str _ | exact .nilsl | exact .nilp | exact dr_ints (by simp) _ | exact dr_intss (by simp) _ | refine dr_agg ?_ | refine dr_fn ?_ | refine dr_tptr' (by simp) ?_ | assumption))), ?_⟩)
    | ((with_reducible refine st_gmv ?_); (try (conv => arg 1; simp [Image.cells, Word.cells])); (with_reducible refine at_mk ?_); (with_reducible first | refine gm_bool ?_ | refine gm_gv ?_); refine ⟨_, _, _, _, _, (by intro hc; first | ((try simp only [Bool.and_eq_true] at hc); (try (conv => lhs; simp [hc, Image.cells, Word.cells])); first | done | exact rfl) | ((try simp [gq] at hc); (try (conv => lhs; simp [gq, hc, Image.cells, Word.cells])); first | done | exact rfl)), (by intro hc; first | ((try simp only [Bool.and_eq_true] at hc); (try (conv => lhs; simp [hc, Image.cells, Word.cells])); first | done | exact rfl) | ((try simp [gq] at hc); (try (conv => lhs; simp [gq, hc, Image.cells, Word.cells])); first | done | exact rfl)), rfl, in_ _ _ _, (by intro hc; (try simp at hc); (repeat' (first | exact DRs.nil | refine DRs.cons ?_ ?_ | exact .int _ _ | exact .bool _ | exact .str _ | exact .nilsl | exact .nilp | exact dr_ints (by simp) _ | exact dr_intss (by simp) _ | refine dr_agg ?_ | refine dr_fn ?_ | refine dr_tptr' (by simp) ?_ | assumption))), ?_⟩)
    | ((with_reducible refine st_gmc ?_); (try (conv => arg 1; simp [Image.cells, Word.cells])); (with_reducible refine at_mk ?_); (with_reducible first | refine gm_bool ?_ | refine gm_gv ?_); refine ⟨_, _, _, (by intro hc; first | ((try simp only [Bool.and_eq_true] at hc); (try (conv => lhs; simp [hc, Image.cells, Word.cells])); first | done | exact rfl) | ((try simp [gq] at hc); (try (conv => lhs; simp [gq, hc, Image.cells, Word.cells])); first | done | exact rfl)), rfl, register _ _, (by intro hc; (try simp at hc); (repeat' (first | exact DRs.nil | refine DRs.cons ?_ ?_ | exact .int _ _ | exact .bool _ | exact .str _ | exact .nilsl | exact .nilp | exact dr_ints (by simp) _ | exact dr_intss (by simp) _ | refine dr_agg ?_ | refine dr_fn ?_ | refine dr_tptr' (by simp) ?_ | assumption))), ?_⟩)
    | ((with_reducible refine fr_gmc ?_); (try (conv => arg 1; simp [Image.cells, Word.cells])); (with_reducible refine at_mk ?_); (with_reducible first | refine gm_bool ?_ | refine gm_gv ?_); refine ⟨_, _, _, (by intro hc; first | ((try simp only [Bool.and_eq_true] at hc); (try (conv => lhs; simp [hc, Image.cells, Word.cells])); first | done | exact rfl) | ((try simp [gq] at hc); (try (conv => lhs; simp [gq, hc, Image.cells, Word.cells])); first | done | exact rfl)), register _ _, (by intro hc; (try simp at hc); (repeat' (first | exact DRs.nil | refine DRs.cons ?_ ?_ | exact .int _ _ | exact .bool _ | exact .str _ | exact .nilsl | exact .nilp | exact dr_ints (by simp) _ | exact dr_intss (by simp) _ | refine dr_agg ?_ | refine dr_fn ?_ | refine dr_tptr' (by simp) ?_ | assumption))), ?_⟩)
    | ((with_reducible refine st_gmv ?_); (try (conv => arg 1; simp [Image.cells, Word.cells])); (with_reducible refine at_mk ?_); (with_reducible first | refine gm_bool ?_ | refine gm_gv ?_); refine ⟨_, _, _, _, _, (by intro hc; first | ((try simp only [Bool.and_eq_true] at hc); (try (conv => lhs; simp [hc, Image.cells, Word.cells])); first | done | exact rfl) | ((try simp [gq] at hc); (try (conv => lhs; simp [gq, hc, Image.cells, Word.cells])); first | done | exact rfl)), (by intro hc; first | ((try simp only [Bool.and_eq_true] at hc); (try (conv => lhs; simp [hc, Image.cells, Word.cells])); first | done | exact rfl) | ((try simp [gq] at hc); (try (conv => lhs; simp [gq, hc, Image.cells, Word.cells])); first | done | exact rfl)), rfl, register _ _, (by intro hc; (try simp at hc); (repeat' (first | exact DRs.nil | refine DRs.cons ?_ ?_ | exact .int _ _ | exact .bool _ | exact .str _ | exact .nilsl | exact .nilp | exact dr_ints (by simp) _ | exact dr_intss (by simp) _ | refine dr_agg ?_ | refine dr_fn ?_ | refine dr_tptr' (by simp) ?_ | assumption))), ?_⟩)
    | ((with_reducible refine st_m rfl ?_); (try (conv => arg 1; simp [Image.cells, Word.cells])); (with_reducible refine ev2_some ?_))
    | ((with_reducible refine fr_n rfl ?_); (try (conv => arg 1; simp [Image.cells, Word.cells])); (with_reducible refine evn_some ?_))
    | ((with_reducible first | refine st_cv ?_ | refine fr_cv ?_); (try (conv => arg 1; simp [Image.cells, Word.cells])); (with_reducible refine at_mk ?_); (with_reducible refine fn_mk ?_); (try (conv => arg 1; simp [Image.cells, Word.cells])); (with_reducible refine at_mk ?_))
    | ((with_reducible refine fr_a ?_); (try (conv => arg 1; simp [Image.cells, Word.cells])); (with_reducible refine at_mk ?_); (try (conv => arg 1; simp [Image.cells, Word.cells])); (with_reducible refine at_mk ?_); refine ⟨?names, ?_⟩; (case names => (simp [appNames, ints, intss] <;> first | kernel_rfl | (refine ⟨?_, ?_⟩ <;> kernel_rfl))); (try (conv => arg 1; simp [Image.cells, Word.cells])); (with_reducible refine ev2_some ?_))
    | ((with_reducible first | refine st_q ?_ | refine fr_q ?_ | refine st_res ?_); (try (conv => arg 1; simp [Image.cells, Word.cells])); (with_reducible refine ev_some ?_))
    | ((with_reducible refine st_if ?_); (try (conv => arg 1; simp [Image.cells, Word.cells])); (with_reducible refine at_mk ?_); with_reducible first | refine br_t ?_ | refine br_f ?_ | (refine br_b (fun hb => ?_) (fun hb => ?_) <;> ((try simp only [Bool.not_eq_eq_eq_not, Bool.not_true, Bool.not_false] at hb); (try simp only [hb]); (try simp at hb))))
    | ((with_reducible refine ct_id ?_); refine st_tree rfl (in_ _ _ _) (by (repeat' (first | exact DRs.nil | refine DRs.cons ?_ ?_ | exact .int _ _ | exact .bool _ | exact .str _ | exact .nilsl | exact .nilp | exact dr_ints (by simp) _ | exact dr_intss (by simp) _ | refine dr_agg ?_ | refine dr_fn ?_ | refine dr_tptr' (by simp) ?_ | assumption))) ?_)
    | ((with_reducible refine tw_id ?_); refine treeW_pure (in_ _ _ _) (by (repeat' (first | exact DRs.nil | refine DRs.cons ?_ ?_ | exact .int _ _ | exact .bool _ | exact .str _ | exact .nilsl | exact .nilp | exact dr_ints (by simp) _ | exact dr_intss (by simp) _ | refine dr_agg ?_ | refine dr_fn ?_ | refine dr_tptr' (by simp) ?_ | assumption))) ?_)
    | ((with_reducible refine ct_id ?_); refine st_tree rfl (register _ _) (by (repeat' (first | exact DRs.nil | refine DRs.cons ?_ ?_ | exact .int _ _ | exact .bool _ | exact .str _ | exact .nilsl | exact .nilp | exact dr_ints (by simp) _ | exact dr_intss (by simp) _ | refine dr_agg ?_ | refine dr_fn ?_ | refine dr_tptr' (by simp) ?_ | assumption))) ?_)
    | ((with_reducible refine tw_id ?_); refine treeW_pure (register _ _) (by (repeat' (first | exact DRs.nil | refine DRs.cons ?_ ?_ | exact .int _ _ | exact .bool _ | exact .str _ | exact .nilsl | exact .nilp | exact dr_ints (by simp) _ | exact dr_intss (by simp) _ | refine dr_agg ?_ | refine dr_fn ?_ | refine dr_tptr' (by simp) ?_ | assumption))) ?_))
  all_goals refine dr_bool ?_
  all_goals rw [Bool.eq_iff_iff]
  all_goals (try simp_all [wordOk, inB])
  all_goals (try omega)
end Go.Proofs.Ytfgaoojogididaa.AM

/-
  The first word, the first number, of which something holds.
-/
set_option linter.unusedVariables false
set_option linter.unusedSimpArgs false
set_option maxRecDepth 4000
namespace Go.Proofs.Ytfgaoojogididaa.AM
open Go.RowKit

private def MW7 : FuncId → Mode := fun f => .tree

def idxOf {α : Type} (p : α → Bool) (l : List α) : Int := if l.any p then l.findIdx p else -1
theorem idxOf_hit {α : Type} {p : α → Bool} {l : List α} {i : Nat} (hi : i < l.length) (h : ∀ j (hj : j < l.length), j < i → p l[j] = false) (hp : p l[i] = true) : idxOf p l = i := by
  have h1 : l.any p = true := List.any_eq_true.2 ⟨l[i], List.getElem_mem hi, hp⟩
  have h2 : l.findIdx p = i := (List.findIdx_eq hi).2 ⟨hp, fun j hj => h j (by omega) hj⟩
  simp [idxOf, h1, h2]
theorem idxOf_miss {α : Type} {p : α → Bool} {l : List α} (h : ∀ j (hj : j < l.length), p l[j] = false) : idxOf p l = -1 := by
  have h1 : l.any p = false := by
    rw [List.any_eq_false]
    intro x hx
    obtain ⟨i, hi, rfl⟩ := List.getElem_of_mem hx
    simp [h i hi]
  simp [idxOf, h1]
theorem idxOf_any {α : Type} (p : α → Bool) (l : List α) : decide (0 ≤ idxOf p l) = l.any p := by
  unfold idxOf
  split
  · rename_i h; simp [h]
  · rename_i h; simp at h; simp; exact h

theorem indexFuncW (xs : List Word) (f : FuncId) (cap : List AV) (p : Word → Bool) (hp : ∀ w ∈ xs, Pure Try.prog f (.agg w.cells :: cap) (.bool (p w))) (hc : ∀ rows, DRs true rows cap cap) (hl : xs.length ≤ 2 ^ 62) :
    Pure Try.prog 94 [words true xs, .fn f cap] (.int .i64 (idxOf p xs)) := by
  intro T
  refine enter mixed MW7 Try.func94 rfl (by kernel_rfl) rfl ?_
  repeat' (first
   | with_reducible refine stp ?_
   | with_reducible refine k_blk_o rfl ?_
   | with_reducible refine k_seq_n ?_
   | ((try (conv => arg 1; simp)); with_reducible refine evp ?_)
   | ((with_reducible refine apn ?na ?_); (case na => simp [appNames, ints, intss] <;> first | kernel_rfl | (refine ⟨?_, ?_⟩ <;> kernel_rfl)))
   | fail)
  refine st_loop (fun (i : Nat) σ h => i ≤ xs.length ∧ σ 0 = words true xs ∧ σ 1 = .fn f cap ∧ σ 7 = .int .i64 xs.length ∧ σ 8 = .int .i64 i ∧ ∀ j (hj : j < xs.length), j < i → p xs[j] = false) (fun i => xs.length - i) 0 ?init ?step
  case init =>
    simp
  case step =>
    rintro i σ h ⟨hi, h0, h1, h7, h8, hb4⟩
    repeat' (first
     | with_reducible refine stp ?_
     | with_reducible refine k_blk_o rfl ?_
     | with_reducible refine k_seq_n ?_
     | ((try (conv => arg 1; simp [h7, h8])); with_reducible refine evp ?_)
     | ((with_reducible refine apn ?na ?_); (case na => simp [appNames, ints, intss] <;> first | kernel_rfl | (refine ⟨?_, ?_⟩ <;> kernel_rfl)))
     | fail)
    (try with_reducible refine st_if ?_)
    (try (conv => arg 1; simp [h7]))
    (try with_reducible refine at_mk ?_)
    refine ⟨fun hb => ?_, fun hb => ?_⟩
    · have hlt : i < xs.length := by simpa using hb
      have hx : xs[i]? = some (xs[i]) := by simp
      have hlen : (xs[i]).cells.length = 5 := rfl
      have hw : IntKind.i64.wrap (i + 1) = i + 1 := wrap_id (by omega) (by omega)
      repeat' (first
       | with_reducible refine stp ?_
       | with_reducible refine k_blk_o rfl ?_
       | with_reducible refine k_seq_n ?_
       | ((try (conv => arg 1; simp [words, h0, h1, h7, h8, hx, hlen, Word.cells])); with_reducible refine evp ?_)
       | ((with_reducible refine apn ?na ?_); (case na => simp [appNames, ints, intss] <;> first | kernel_rfl | (refine ⟨?_, ?_⟩ <;> kernel_rfl)))
       | fail)
      refine st_tree rfl (hp xs[i] (List.getElem_mem hlt)) (.cons (dr_agg (drs_word _)) (hc _)) ?_
      repeat' (first
       | with_reducible refine stp ?_
       | with_reducible refine k_blk_o rfl ?_
       | with_reducible refine k_seq_n ?_
       | ((try (conv => arg 1; simp [h0, h1, h7, h8, hw])); with_reducible refine evp ?_)
       | ((with_reducible refine apn ?na ?_); (case na => simp [appNames, ints, intss] <;> first | kernel_rfl | (refine ⟨?_, ?_⟩ <;> kernel_rfl)))
       | fail)
      (try with_reducible refine st_if ?_)
      (try (conv => arg 1; simp [h0]))
      (try with_reducible refine at_mk ?_)
      refine ⟨fun hb => ?_, fun hb => ?_⟩
      · have hpt : p xs[i] = true := by simpa using hb
        repeat' (first
         | with_reducible refine stp ?_
         | with_reducible refine k_blk_o rfl ?_
         | with_reducible refine k_seq_n ?_
         | ((try (conv => arg 1; simp [h8])); with_reducible refine evp ?_)
         | ((with_reducible refine apn ?na ?_); (case na => simp [appNames, ints, intss] <;> first | kernel_rfl | (refine ⟨?_, ?_⟩ <;> kernel_rfl)))
         | fail)
        exact dr_int (idxOf_hit hlt hb4 hpt).symm
      · have hpf : p xs[i] = false := by simpa using hb
        repeat' (first
         | with_reducible refine stp ?_
         | with_reducible refine k_blk_o rfl ?_
         | with_reducible refine k_seq_n ?_
         | ((try (conv => arg 1; simp [h0, h1, h7, h8, hw])); with_reducible refine evp ?_)
         | ((with_reducible refine apn ?na ?_); (case na => simp [appNames, ints, intss] <;> first | kernel_rfl | (refine ⟨?_, ?_⟩ <;> kernel_rfl)))
         | fail)
        refine k_lp_n (i + 1) (by omega) ⟨by omega, by simp [h0], by simp [h1], by simp [h7], by simp [h8], fun j hj hji => ?_⟩
        by_cases e : j = i
        · subst e; exact hpf
        · exact hb4 j hj (by omega)
    · have hge : i = xs.length := by simp at hb; omega
      repeat' (first
       | with_reducible refine stp ?_
       | with_reducible refine k_blk_o rfl ?_
       | with_reducible refine k_seq_n ?_
       | ((try (conv => arg 1; simp [h0])); with_reducible refine evp ?_)
       | ((with_reducible refine apn ?na ?_); (case na => simp [appNames, ints, intss] <;> first | kernel_rfl | (refine ⟨?_, ?_⟩ <;> kernel_rfl)))
       | fail)
      exact dr_int (idxOf_miss fun j hj => hb4 j hj (by omega)).symm

theorem containsFuncW (xs : List Word) (f : FuncId) (cap : List AV) (p : Word → Bool) (hp : ∀ w ∈ xs, Pure Try.prog f (.agg w.cells :: cap) (.bool (p w))) (hc : ∀ rows, DRs true rows cap cap) (hl : xs.length ≤ 2 ^ 62) :
    Pure Try.prog 85 [words true xs, .fn f cap] (.bool (xs.any p)) := by
  intro T
  refine enter mixed MW7 Try.func85 rfl (by kernel_rfl) rfl ?_
  repeat' (first
   | with_reducible refine stp ?_
   | with_reducible refine k_blk_o rfl ?_
   | with_reducible refine k_seq_n ?_
   | ((try (conv => arg 1; simp)); with_reducible refine evp ?_)
   | ((with_reducible refine apn ?na ?_); (case na => simp [appNames, ints, intss] <;> first | kernel_rfl | (refine ⟨?_, ?_⟩ <;> kernel_rfl)))
   | ((with_reducible refine tcl ?_); first | ((apply tg (indexFuncW xs f cap p hp hc hl)); (case e => rfl); (case d => (refine dq ?_); (repeat' (first | ((refine Da.mk ?_); first | exact dr_words (by simp) _ | exact hc _ | assumption) | constructor)))))
   | fail)
  exact dr_bool (idxOf_any _ _)

theorem indexFuncI (xs : List Int) (f : FuncId) (cap : List AV) (p : Int → Bool) (hp : ∀ w ∈ xs, Pure Try.prog f (.int .i64 w :: cap) (.bool (p w))) (hc : ∀ rows, DRs true rows cap cap) (hl : xs.length ≤ 2 ^ 62) :
    Pure Try.prog 96 [ints true xs, .fn f cap] (.int .i64 (idxOf p xs)) := by
  intro T
  refine enter mixed MW7 Try.func96 rfl (by kernel_rfl) rfl ?_
  repeat' (first
   | with_reducible refine stp ?_
   | with_reducible refine k_blk_o rfl ?_
   | with_reducible refine k_seq_n ?_
   | ((try (conv => arg 1; simp)); with_reducible refine evp ?_)
   | ((with_reducible refine apn ?na ?_); (case na => simp [appNames, ints, intss] <;> first | kernel_rfl | (refine ⟨?_, ?_⟩ <;> kernel_rfl)))
   | fail)
  refine st_loop (fun (i : Nat) σ h => i ≤ xs.length ∧ σ 0 = ints true xs ∧ σ 1 = .fn f cap ∧ σ 7 = .int .i64 xs.length ∧ σ 8 = .int .i64 i ∧ ∀ j (hj : j < xs.length), j < i → p xs[j] = false) (fun i => xs.length - i) 0 ?init ?step
  case init =>
    simp
  case step =>
    rintro i σ h ⟨hi, h0, h1, h7, h8, hb4⟩
    repeat' (first
     | with_reducible refine stp ?_
     | with_reducible refine k_blk_o rfl ?_
     | with_reducible refine k_seq_n ?_
     | ((try (conv => arg 1; simp [h7, h8])); with_reducible refine evp ?_)
     | ((with_reducible refine apn ?na ?_); (case na => simp [appNames, ints, intss] <;> first | kernel_rfl | (refine ⟨?_, ?_⟩ <;> kernel_rfl)))
     | fail)
    (try with_reducible refine st_if ?_)
    (try (conv => arg 1; simp [h7]))
    (try with_reducible refine at_mk ?_)
    refine ⟨fun hb => ?_, fun hb => ?_⟩
    · have hlt : i < xs.length := by simpa using hb
      have hx : xs[i]? = some (xs[i]) := by simp
      have hw : IntKind.i64.wrap (i + 1) = i + 1 := wrap_id (by omega) (by omega)
      repeat' (first
       | with_reducible refine stp ?_
       | with_reducible refine k_blk_o rfl ?_
       | with_reducible refine k_seq_n ?_
       | ((try (conv => arg 1; simp [ints, h0, h1, h7, h8, hx])); with_reducible refine evp ?_)
       | ((with_reducible refine apn ?na ?_); (case na => simp [appNames, ints, intss] <;> first | kernel_rfl | (refine ⟨?_, ?_⟩ <;> kernel_rfl)))
       | fail)
      refine st_tree rfl (hp xs[i] (List.getElem_mem hlt)) (.cons (.int _ _) (hc _)) ?_
      repeat' (first
       | with_reducible refine stp ?_
       | with_reducible refine k_blk_o rfl ?_
       | with_reducible refine k_seq_n ?_
       | ((try (conv => arg 1; simp [h0, h1, h7, h8, hw])); with_reducible refine evp ?_)
       | ((with_reducible refine apn ?na ?_); (case na => simp [appNames, ints, intss] <;> first | kernel_rfl | (refine ⟨?_, ?_⟩ <;> kernel_rfl)))
       | fail)
      (try with_reducible refine st_if ?_)
      (try (conv => arg 1; simp [h0]))
      (try with_reducible refine at_mk ?_)
      refine ⟨fun hb => ?_, fun hb => ?_⟩
      · have hpt : p xs[i] = true := by simpa using hb
        repeat' (first
         | with_reducible refine stp ?_
         | with_reducible refine k_blk_o rfl ?_
         | with_reducible refine k_seq_n ?_
         | ((try (conv => arg 1; simp [h8])); with_reducible refine evp ?_)
         | ((with_reducible refine apn ?na ?_); (case na => simp [appNames, ints, intss] <;> first | kernel_rfl | (refine ⟨?_, ?_⟩ <;> kernel_rfl)))
         | fail)
        exact dr_int (idxOf_hit hlt hb4 hpt).symm
      · have hpf : p xs[i] = false := by simpa using hb
        repeat' (first
         | with_reducible refine stp ?_
         | with_reducible refine k_blk_o rfl ?_
         | with_reducible refine k_seq_n ?_
         | ((try (conv => arg 1; simp [h0, h1, h7, h8, hw])); with_reducible refine evp ?_)
         | ((with_reducible refine apn ?na ?_); (case na => simp [appNames, ints, intss] <;> first | kernel_rfl | (refine ⟨?_, ?_⟩ <;> kernel_rfl)))
         | fail)
        refine k_lp_n (i + 1) (by omega) ⟨by omega, by simp [h0], by simp [h1], by simp [h7], by simp [h8], fun j hj hji => ?_⟩
        by_cases e : j = i
        · subst e; exact hpf
        · exact hb4 j hj (by omega)
    · have hge : i = xs.length := by simp at hb; omega
      repeat' (first
       | with_reducible refine stp ?_
       | with_reducible refine k_blk_o rfl ?_
       | with_reducible refine k_seq_n ?_
       | ((try (conv => arg 1; simp [h0])); with_reducible refine evp ?_)
       | ((with_reducible refine apn ?na ?_); (case na => simp [appNames, ints, intss] <;> first | kernel_rfl | (refine ⟨?_, ?_⟩ <;> kernel_rfl)))
       | fail)
      exact dr_int (idxOf_miss fun j hj => hb4 j hj (by omega)).symm

theorem containsFuncI (xs : List Int) (f : FuncId) (cap : List AV) (p : Int → Bool) (hp : ∀ w ∈ xs, Pure Try.prog f (.int .i64 w :: cap) (.bool (p w))) (hc : ∀ rows, DRs true rows cap cap) (hl : xs.length ≤ 2 ^ 62) :
    Pure Try.prog 91 [ints true xs, .fn f cap] (.bool (xs.any p)) := by
  intro T
  refine enter mixed MW7 Try.func91 rfl (by kernel_rfl) rfl ?_
  repeat' (first
   | with_reducible refine stp ?_
   | with_reducible refine k_blk_o rfl ?_
   | with_reducible refine k_seq_n ?_
   | ((try (conv => arg 1; simp)); with_reducible refine evp ?_)
   | ((with_reducible refine apn ?na ?_); (case na => simp [appNames, ints, intss] <;> first | kernel_rfl | (refine ⟨?_, ?_⟩ <;> kernel_rfl)))
   | ((with_reducible refine tcl ?_); first | ((apply tg (indexFuncI xs f cap p hp hc hl)); (case e => rfl); (case d => (refine dq ?_); (repeat' (first | ((refine Da.mk ?_); first | exact hc _ | assumption) | constructor)))))
   | fail)
  exact dr_bool (idxOf_any _ _)
end Go.Proofs.Ytfgaoojogididaa.AM

/-
  An image that is right: the program's.
-/
set_option linter.unusedVariables false
set_option linter.unusedSimpArgs false
set_option maxRecDepth 4000
namespace Go.Proofs.Ytfgaoojogididaa.AM
open Go.RowKit

private def MW8 : FuncId → Mode := fun f => .tree

theorem isSize (n : Int) : Pure Try.prog 92 [.int .i64 n] (.bool (!inB n 1 16)) := by
  intro T
  refine enter mixed MW8 Try.func92 rfl (by kernel_rfl) rfl ?_
  repeat' (first
   | with_reducible refine stp ?_
   | with_reducible refine k_blk_o rfl ?_
   | with_reducible refine k_seq_n ?_
   | ((try (conv => arg 1; simp)); with_reducible refine evp ?_)
   | ((with_reducible refine apn ?na ?_); (case na => simp [appNames, ints, intss] <;> first | kernel_rfl | (refine ⟨?_, ?_⟩ <;> kernel_rfl)))
   | ((with_reducible refine tcl ?_); first | ((apply tg (in_ _ _ _)); (case e => rfl); (case d => (refine dq ?_); (repeat' (first | ((refine Da.mk ?_); first | assumption) | constructor)))))
   | fail)
  exact .bool _

theorem areStmts0 (sizes : List Int) : Pure Try.prog 93 [.agg [ints true sizes, .int .i64 0, .int .i64 0, .tr true []], .tr true [], .int .i64 0] (.bool true) := by
  intro T
  refine enter mixed MW8 Try.func93 rfl (by kernel_rfl) rfl ?_
  repeat' (first
    | (with_reducible first | refine st_seq ?_ | refine st_reg ?_ | refine st_block ?_ | refine st_nil ?_ | refine st_skip ?_ | refine st_ret ?_ | refine st_exit ?_ | refine fr_nil ?_ | refine k_seq_n ?_ | refine k_seq_r ?_ | refine k_seq_e ?_ | refine k_blk_n ?_ | refine k_blk_r ?_ | refine k_blk_s ?_ | refine k_blk_o rfl ?_ | refine k_fn_r ?_ | refine k_fn_n ?_ | refine k_lp_r ?_ | refine k_lp_e ?_)
    | ((with_reducible first | refine st_move ?_ | refine st_asg ?_ | refine st_c ?_ | refine fr_c ?_); (try (conv => arg 1; simp)); (with_reducible refine at_mk ?_))
    | ((with_reducible first | refine st_g ?_ | refine fr_g ?_); (try (conv => arg 1; simp)); (with_reducible refine at_mk ?_); with_reducible first | refine gd_tt ?_ | refine gd_ff ?_ | refine gd_tf ?_ | refine gd_ft ?_ | refine gd_no ?_)
    | ((with_reducible first | refine st_gm ?_ | refine fr_gm ?_); (try (conv => arg 1; simp)); (with_reducible refine at_mk ?_); (with_reducible first | refine gm_bool ?_ | refine gm_gv ?_); refine ⟨_, (by intro hc; first | ((try simp only [Bool.and_eq_true] at hc); (try (conv => lhs; simp [hc])); first | done | exact rfl) | ((try simp [gq] at hc); (try (conv => lhs; simp [gq, hc])); first | done | exact rfl)), ?_⟩)
    | ((with_reducible refine st_m rfl ?_); (try (conv => arg 1; simp)); (with_reducible refine ev2_some ?_))
    | ((with_reducible refine fr_n rfl ?_); (try (conv => arg 1; simp)); (with_reducible refine evn_some ?_))
    | ((with_reducible first | refine st_cv ?_ | refine fr_cv ?_); (try (conv => arg 1; simp)); (with_reducible refine at_mk ?_); (with_reducible refine fn_mk ?_); (try (conv => arg 1; simp)); (with_reducible refine at_mk ?_))
    | ((with_reducible refine fr_a ?_); (try (conv => arg 1; simp)); (with_reducible refine at_mk ?_); (try (conv => arg 1; simp)); (with_reducible refine at_mk ?_); refine ⟨?names, ?_⟩; (case names => (simp [appNames, ints, intss] <;> first | kernel_rfl | (refine ⟨?_, ?_⟩ <;> kernel_rfl))); (try (conv => arg 1; simp)); (with_reducible refine ev2_some ?_))
    | ((with_reducible first | refine st_q ?_ | refine fr_q ?_ | refine st_res ?_); (try (conv => arg 1; simp)); (with_reducible refine ev_some ?_))
    | ((with_reducible refine st_if ?_); (try (conv => arg 1; simp)); (with_reducible refine at_mk ?_); with_reducible first | refine br_t ?_ | refine br_f ?_))
  refine st_loop (fun (i : Nat) σ h => σ 24 = .int .i64 0 ∧ σ 25 = .int .i64 0) (fun i => 0) 0 ?init ?step
  case init =>
    simp
  case step =>
    rintro i σ h ⟨h0, h1⟩
    repeat' (first
     | with_reducible refine stp ?_
     | with_reducible refine k_blk_o rfl ?_
     | with_reducible refine k_seq_n ?_
     | ((try (conv => arg 1; simp [h0, h1])); with_reducible refine evp ?_)
     | ((with_reducible refine apn ?na ?_); (case na => simp [appNames, ints, intss] <;> first | kernel_rfl | (refine ⟨?_, ?_⟩ <;> kernel_rfl)))
     | fail)
    exact .bool _

theorem isProgram0 (sizes : List Int) (hl : sizes.length ≤ 2 ^ 62) : Pure Try.prog 84 [.agg [ints true sizes, .int .i64 0, .int .i64 0, .tr true []]] (.bool (inB sizes.length 1 4 && sizes.all fun n => inB n 1 16)) := by
  intro T
  have hc := containsFuncI sizes 92 [] (fun n => !inB n 1 16) (fun w _ => isSize w) (fun _ => .nil) hl
  refine enter mixed MW8 Try.func84 rfl (by kernel_rfl) rfl ?_
  repeat' (first
    | (with_reducible first | refine st_seq ?_ | refine st_reg ?_ | refine st_block ?_ | refine st_nil ?_ | refine st_skip ?_ | refine st_ret ?_ | refine st_exit ?_ | refine fr_nil ?_ | refine k_seq_n ?_ | refine k_seq_r ?_ | refine k_seq_e ?_ | refine k_blk_n ?_ | refine k_blk_r ?_ | refine k_blk_s ?_ | refine k_blk_o rfl ?_ | refine k_fn_r ?_ | refine k_fn_n ?_ | refine k_lp_r ?_ | refine k_lp_e ?_)
    | ((with_reducible first | refine st_move ?_ | refine st_asg ?_ | refine st_c ?_ | refine fr_c ?_); (try (conv => arg 1; simp)); (with_reducible refine at_mk ?_))
    | ((with_reducible first | refine st_g ?_ | refine fr_g ?_); (try (conv => arg 1; simp)); (with_reducible refine at_mk ?_); with_reducible first | refine gd_tt ?_ | refine gd_ff ?_ | refine gd_tf ?_ | refine gd_ft ?_ | refine gd_no ?_)
    | ((with_reducible first | refine st_gm ?_ | refine fr_gm ?_); (try (conv => arg 1; simp)); (with_reducible refine at_mk ?_); (with_reducible first | refine gm_bool ?_ | refine gm_gv ?_); refine ⟨_, (by intro hc; first | ((try simp only [Bool.and_eq_true] at hc); (try (conv => lhs; simp [hc])); first | done | exact rfl) | ((try simp [gq] at hc); (try (conv => lhs; simp [gq, hc])); first | done | exact rfl)), ?_⟩)
    | ((with_reducible refine st_gmc ?_); (try (conv => arg 1; simp)); (with_reducible refine at_mk ?_); (with_reducible first | refine gm_bool ?_ | refine gm_gv ?_); refine ⟨_, _, _, (by intro hc; first | ((try simp only [Bool.and_eq_true] at hc); (try (conv => lhs; simp [hc])); first | done | exact rfl) | ((try simp [gq] at hc); (try (conv => lhs; simp [gq, hc])); first | done | exact rfl)), rfl, hc, (by intro hc; (try simp at hc); (repeat' (first | exact DRs.nil | refine DRs.cons ?_ ?_ | exact .int _ _ | exact .bool _ | exact .str _ | exact .nilsl | exact .nilp | exact dr_ints (by simp) _ | exact dr_intss (by simp) _ | refine dr_agg ?_ | refine dr_fn ?_ | refine dr_tptr' (by simp) ?_ | assumption | exact .tr0 _))), ?_⟩)
    | ((with_reducible refine fr_gmc ?_); (try (conv => arg 1; simp)); (with_reducible refine at_mk ?_); (with_reducible first | refine gm_bool ?_ | refine gm_gv ?_); refine ⟨_, _, _, (by intro hc; first | ((try simp only [Bool.and_eq_true] at hc); (try (conv => lhs; simp [hc])); first | done | exact rfl) | ((try simp [gq] at hc); (try (conv => lhs; simp [gq, hc])); first | done | exact rfl)), hc, (by intro hc; (try simp at hc); (repeat' (first | exact DRs.nil | refine DRs.cons ?_ ?_ | exact .int _ _ | exact .bool _ | exact .str _ | exact .nilsl | exact .nilp | exact dr_ints (by simp) _ | exact dr_intss (by simp) _ | refine dr_agg ?_ | refine dr_fn ?_ | refine dr_tptr' (by simp) ?_ | assumption | exact .tr0 _))), ?_⟩)
    | ((with_reducible refine st_gmv ?_); (try (conv => arg 1; simp)); (with_reducible refine at_mk ?_); (with_reducible first | refine gm_bool ?_ | refine gm_gv ?_); refine ⟨_, _, _, _, _, (by intro hc; first | ((try simp only [Bool.and_eq_true] at hc); (try (conv => lhs; simp [hc])); first | done | exact rfl) | ((try simp [gq] at hc); (try (conv => lhs; simp [gq, hc])); first | done | exact rfl)), (by intro hc; first | ((try simp only [Bool.and_eq_true] at hc); (try (conv => lhs; simp [hc])); first | done | exact rfl) | ((try simp [gq] at hc); (try (conv => lhs; simp [gq, hc])); first | done | exact rfl)), rfl, hc, (by intro hc; (try simp at hc); (repeat' (first | exact DRs.nil | refine DRs.cons ?_ ?_ | exact .int _ _ | exact .bool _ | exact .str _ | exact .nilsl | exact .nilp | exact dr_ints (by simp) _ | exact dr_intss (by simp) _ | refine dr_agg ?_ | refine dr_fn ?_ | refine dr_tptr' (by simp) ?_ | assumption | exact .tr0 _))), ?_⟩)
    | ((with_reducible refine st_gmc ?_); (try (conv => arg 1; simp)); (with_reducible refine at_mk ?_); (with_reducible first | refine gm_bool ?_ | refine gm_gv ?_); refine ⟨_, _, _, (by intro hc; first | ((try simp only [Bool.and_eq_true] at hc); (try (conv => lhs; simp [hc])); first | done | exact rfl) | ((try simp [gq] at hc); (try (conv => lhs; simp [gq, hc])); first | done | exact rfl)), rfl, in_ _ _ _, (by intro hc; (try simp at hc); (repeat' (first | exact DRs.nil | refine DRs.cons ?_ ?_ | exact .int _ _ | exact .bool _ | exact .str _ | exact .nilsl | exact .nilp | exact dr_ints (by simp) _ | exact dr_intss (by simp) _ | refine dr_agg ?_ | refine dr_fn ?_ | refine dr_tptr' (by simp) ?_ | assumption | exact .tr0 _))), ?_⟩)
    | ((with_reducible refine fr_gmc ?_); (try (conv => arg 1; simp)); (with_reducible refine at_mk ?_); (with_reducible first | refine gm_bool ?_ | refine gm_gv ?_); refine ⟨_, _, _, (by intro hc; first | ((try simp only [Bool.and_eq_true] at hc); (try (conv => lhs; simp [hc])); first | done | exact rfl) | ((try simp [gq] at hc); (try (conv => lhs; simp [gq, hc])); first | done | exact rfl)), in_ _ _ _, (by intro hc; (try simp at hc); (repeat' (first | exact DRs.nil | refine DRs.cons ?_ ?_ | exact .int _ _ | exact .bool _ | exact .str _ | exact .nilsl | exact .nilp | exact dr_ints (by simp) _ | exact dr_intss (by simp) _ | refine dr_agg ?_ | refine dr_fn ?_ | refine dr_tptr' (by simp) ?_ | assumption | exact .tr0 _))), ?_⟩)
    | ((with_reducible refine st_gmv ?_); (try (conv => arg 1; simp)); (with_reducible refine at_mk ?_); (with_reducible first | refine gm_bool ?_ | refine gm_gv ?_); refine ⟨_, _, _, _, _, (by intro hc; first | ((try simp only [Bool.and_eq_true] at hc); (try (conv => lhs; simp [hc])); first | done | exact rfl) | ((try simp [gq] at hc); (try (conv => lhs; simp [gq, hc])); first | done | exact rfl)), (by intro hc; first | ((try simp only [Bool.and_eq_true] at hc); (try (conv => lhs; simp [hc])); first | done | exact rfl) | ((try simp [gq] at hc); (try (conv => lhs; simp [gq, hc])); first | done | exact rfl)), rfl, in_ _ _ _, (by intro hc; (try simp at hc); (repeat' (first | exact DRs.nil | refine DRs.cons ?_ ?_ | exact .int _ _ | exact .bool _ | exact .str _ | exact .nilsl | exact .nilp | exact dr_ints (by simp) _ | exact dr_intss (by simp) _ | refine dr_agg ?_ | refine dr_fn ?_ | refine dr_tptr' (by simp) ?_ | assumption | exact .tr0 _))), ?_⟩)
    | ((with_reducible refine st_gmc ?_); (try (conv => arg 1; simp)); (with_reducible refine at_mk ?_); (with_reducible first | refine gm_bool ?_ | refine gm_gv ?_); refine ⟨_, _, _, (by intro hc; first | ((try simp only [Bool.and_eq_true] at hc); (try (conv => lhs; simp [hc])); first | done | exact rfl) | ((try simp [gq] at hc); (try (conv => lhs; simp [gq, hc])); first | done | exact rfl)), rfl, areStmts0 sizes, (by intro hc; (try simp at hc); (repeat' (first | exact DRs.nil | refine DRs.cons ?_ ?_ | exact .int _ _ | exact .bool _ | exact .str _ | exact .nilsl | exact .nilp | exact dr_ints (by simp) _ | exact dr_intss (by simp) _ | refine dr_agg ?_ | refine dr_fn ?_ | refine dr_tptr' (by simp) ?_ | assumption | exact .tr0 _))), ?_⟩)
    | ((with_reducible refine fr_gmc ?_); (try (conv => arg 1; simp)); (with_reducible refine at_mk ?_); (with_reducible first | refine gm_bool ?_ | refine gm_gv ?_); refine ⟨_, _, _, (by intro hc; first | ((try simp only [Bool.and_eq_true] at hc); (try (conv => lhs; simp [hc])); first | done | exact rfl) | ((try simp [gq] at hc); (try (conv => lhs; simp [gq, hc])); first | done | exact rfl)), areStmts0 sizes, (by intro hc; (try simp at hc); (repeat' (first | exact DRs.nil | refine DRs.cons ?_ ?_ | exact .int _ _ | exact .bool _ | exact .str _ | exact .nilsl | exact .nilp | exact dr_ints (by simp) _ | exact dr_intss (by simp) _ | refine dr_agg ?_ | refine dr_fn ?_ | refine dr_tptr' (by simp) ?_ | assumption | exact .tr0 _))), ?_⟩)
    | ((with_reducible refine st_gmv ?_); (try (conv => arg 1; simp)); (with_reducible refine at_mk ?_); (with_reducible first | refine gm_bool ?_ | refine gm_gv ?_); refine ⟨_, _, _, _, _, (by intro hc; first | ((try simp only [Bool.and_eq_true] at hc); (try (conv => lhs; simp [hc])); first | done | exact rfl) | ((try simp [gq] at hc); (try (conv => lhs; simp [gq, hc])); first | done | exact rfl)), (by intro hc; first | ((try simp only [Bool.and_eq_true] at hc); (try (conv => lhs; simp [hc])); first | done | exact rfl) | ((try simp [gq] at hc); (try (conv => lhs; simp [gq, hc])); first | done | exact rfl)), rfl, areStmts0 sizes, (by intro hc; (try simp at hc); (repeat' (first | exact DRs.nil | refine DRs.cons ?_ ?_ | exact .int _ _ | exact .bool _ | exact .str _ | exact .nilsl | exact .nilp | exact dr_ints (by simp) _ | exact dr_intss (by simp) _ | refine dr_agg ?_ | refine dr_fn ?_ | refine dr_tptr' (by simp) ?_ | assumption | exact .tr0 _))), ?_⟩)
    | ((with_reducible refine st_m rfl ?_); (try (conv => arg 1; simp)); (with_reducible refine ev2_some ?_))
    | ((with_reducible refine fr_n rfl ?_); (try (conv => arg 1; simp)); (with_reducible refine evn_some ?_))
    | ((with_reducible first | refine st_cv ?_ | refine fr_cv ?_); (try (conv => arg 1; simp)); (with_reducible refine at_mk ?_); (with_reducible refine fn_mk ?_); (try (conv => arg 1; simp)); (with_reducible refine at_mk ?_))
    | ((with_reducible refine fr_a ?_); (try (conv => arg 1; simp)); (with_reducible refine at_mk ?_); (try (conv => arg 1; simp)); (with_reducible refine at_mk ?_); refine ⟨?names, ?_⟩; (case names => (simp [appNames, ints, intss] <;> first | kernel_rfl | (refine ⟨?_, ?_⟩ <;> kernel_rfl))); (try (conv => arg 1; simp)); (with_reducible refine ev2_some ?_))
    | ((with_reducible first | refine st_q ?_ | refine fr_q ?_ | refine st_res ?_); (try (conv => arg 1; simp)); (with_reducible refine ev_some ?_))
    | ((with_reducible refine st_if ?_); (try (conv => arg 1; simp)); (with_reducible refine at_mk ?_); with_reducible first | refine br_t ?_ | refine br_f ?_)
    | ((with_reducible refine ct_id ?_); refine st_tree rfl (hc) (by (repeat' (first | exact DRs.nil | refine DRs.cons ?_ ?_ | exact .int _ _ | exact .bool _ | exact .str _ | exact .nilsl | exact .nilp | exact dr_ints (by simp) _ | exact dr_intss (by simp) _ | refine dr_agg ?_ | refine dr_fn ?_ | refine dr_tptr' (by simp) ?_ | assumption | exact .tr0 _))) ?_)
    | ((with_reducible refine tw_id ?_); refine treeW_pure (hc) (by (repeat' (first | exact DRs.nil | refine DRs.cons ?_ ?_ | exact .int _ _ | exact .bool _ | exact .str _ | exact .nilsl | exact .nilp | exact dr_ints (by simp) _ | exact dr_intss (by simp) _ | refine dr_agg ?_ | refine dr_fn ?_ | refine dr_tptr' (by simp) ?_ | assumption | exact .tr0 _))) ?_)
    | ((with_reducible refine ct_id ?_); refine st_tree rfl (in_ _ _ _) (by (repeat' (first | exact DRs.nil | refine DRs.cons ?_ ?_ | exact .int _ _ | exact .bool _ | exact .str _ | exact .nilsl | exact .nilp | exact dr_ints (by simp) _ | exact dr_intss (by simp) _ | refine dr_agg ?_ | refine dr_fn ?_ | refine dr_tptr' (by simp) ?_ | assumption | exact .tr0 _))) ?_)
    | ((with_reducible refine tw_id ?_); refine treeW_pure (in_ _ _ _) (by (repeat' (first | exact DRs.nil | refine DRs.cons ?_ ?_ | exact .int _ _ | exact .bool _ | exact .str _ | exact .nilsl | exact .nilp | exact dr_ints (by simp) _ | exact dr_intss (by simp) _ | refine dr_agg ?_ | refine dr_fn ?_ | refine dr_tptr' (by simp) ?_ | assumption | exact .tr0 _))) ?_)
    | ((with_reducible refine ct_id ?_); refine st_tree rfl (areStmts0 sizes) (by (repeat' (first | exact DRs.nil | refine DRs.cons ?_ ?_ | exact .int _ _ | exact .bool _ | exact .str _ | exact .nilsl | exact .nilp | exact dr_ints (by simp) _ | exact dr_intss (by simp) _ | refine dr_agg ?_ | refine dr_fn ?_ | refine dr_tptr' (by simp) ?_ | assumption | exact .tr0 _))) ?_)
    | ((with_reducible refine tw_id ?_); refine treeW_pure (areStmts0 sizes) (by (repeat' (first | exact DRs.nil | refine DRs.cons ?_ ?_ | exact .int _ _ | exact .bool _ | exact .str _ | exact .nilsl | exact .nilp | exact dr_ints (by simp) _ | exact dr_intss (by simp) _ | refine dr_agg ?_ | refine dr_fn ?_ | refine dr_tptr' (by simp) ?_ | assumption | exact .tr0 _))) ?_))
  refine dr_bool ?_
  have e0 : inB 0 0 0 = true := rfl
  have e1 : (!sizes.any fun n => !inB n 1 16) = sizes.all fun n => inB n 1 16 := by rw [List.all_eq_not_any_not]
  rw [e0, e1, Bool.and_true]

def lastOk (m : Image) : Bool := match m.Code.getLast? with | some w => decide (w.Op = 10) || decide (w.Op = 8) | none => false
def imageOk (m : Image) : Bool := (inB m.Sizes.length 1 4 && m.Sizes.all fun n => inB n 1 16) && inB m.Params 0 6 && inB m.Slots m.Params 1000 && inB m.Code.length 1 6000 && lastOk m && m.Code.all (wordOk m)

theorem notWord (m : Image) (w : Word) : Pure Try.prog 86 [.agg w.cells, .tptr true (m.cells true)] (.bool (!wordOk m w)) := by
  intro T
  refine enter mixed MW8 Try.func86 rfl (by kernel_rfl) rfl ?_
  repeat' (first
   | with_reducible refine stp ?_
   | with_reducible refine k_blk_o rfl ?_
   | with_reducible refine k_seq_n ?_
   | ((try (conv => arg 1; simp [Word.cells, Image.cells])); with_reducible refine evp ?_)
   | ((with_reducible refine apn ?na ?_); (case na => simp [appNames, ints, intss] <;> first | kernel_rfl | (refine ⟨?_, ?_⟩ <;> kernel_rfl)))
   | ((with_reducible refine tcl ?_); first | ((apply tg (isWordOf m w)); (case e => rfl); (case d => (refine dq ?_); (repeat' (first | ((refine Da.mk ?_); first | exact dr_words (by simp) _ | assumption) | constructor)))))
   | fail)
  exact .bool _

theorem isImage (m : Image) (hs : m.Sizes.length ≤ 2 ^ 62) (hcd : m.Code.length ≤ 2 ^ 62) : Pure Try.prog 76 [.agg (m.cells true)] (.bool (imageOk m)) := by
  intro T
  have h1 := isProgram0 m.Sizes hs
  have h2 := containsFuncW m.Code 86 [.tptr true (m.cells true)] (fun w => !wordOk m w) (fun w _ => notWord m w) (fun _ => .cons (dr_tptr' (fun h => h) (drs_image m (fun h => h))) .nil) hcd
  refine enter mixed MW8 Try.func76 rfl (by kernel_rfl) rfl ?_
  repeat' (first
    | (with_reducible first | refine st_seq ?_ | refine st_reg ?_ | refine st_block ?_ | refine st_nil ?_ | refine st_skip ?_ | refine st_ret ?_ | refine st_exit ?_ | refine fr_nil ?_ | refine k_seq_n ?_ | refine k_seq_r ?_ | refine k_seq_e ?_ | refine k_blk_n ?_ | refine k_blk_r ?_ | refine k_blk_s ?_ | refine k_blk_o rfl ?_ | refine k_fn_r ?_ | refine k_fn_n ?_ | refine k_lp_r ?_ | refine k_lp_e ?_)
    | ((with_reducible first | refine st_move ?_ | refine st_asg ?_ | refine st_c ?_ | refine fr_c ?_); (try (conv => arg 1; simp [Image.cells])); (with_reducible refine at_mk ?_))
    | ((with_reducible first | refine st_g ?_ | refine fr_g ?_); (try (conv => arg 1; simp [Image.cells])); (with_reducible refine at_mk ?_); with_reducible first | refine gd_tt ?_ | refine gd_ff ?_ | refine gd_tf ?_ | refine gd_ft ?_ | refine gd_no ?_)
    | ((with_reducible first | refine st_gm ?_ | refine fr_gm ?_); (try (conv => arg 1; simp [Image.cells])); (with_reducible refine at_mk ?_); (with_reducible first | refine gm_bool ?_ | refine gm_gv ?_); refine ⟨_, (by intro hc; first | ((try simp only [Bool.and_eq_true] at hc); (try (conv => lhs; simp [hc, Image.cells])); first | done | exact rfl) | ((try simp [gq] at hc); (try (conv => lhs; simp [gq, hc, Image.cells])); first | done | exact rfl)), ?_⟩)
    | ((with_reducible refine st_gmc ?_); (try (conv => arg 1; simp [Image.cells])); (with_reducible refine at_mk ?_); (with_reducible first | refine gm_bool ?_ | refine gm_gv ?_); refine ⟨_, _, _, (by intro hc; first | ((try simp only [Bool.and_eq_true] at hc); (try (conv => lhs; simp [hc, Image.cells])); first | done | exact rfl) | ((try simp [gq] at hc); (try (conv => lhs; simp [gq, hc, Image.cells])); first | done | exact rfl)), rfl, h1, (by intro hc; (try simp at hc); (repeat' (first | exact DRs.nil | refine DRs.cons ?_ ?_ | exact .int _ _ | exact .bool _ | exact .str _ | exact .nilsl | exact .nilp | exact dr_ints (by simp) _ | exact dr_intss (by simp) _ | refine dr_agg ?_ | refine dr_fn ?_ | refine dr_tptr' (by simp) ?_ | assumption | exact .nilsl))), ?_⟩)
    | ((with_reducible refine fr_gmc ?_); (try (conv => arg 1; simp [Image.cells])); (with_reducible refine at_mk ?_); (with_reducible first | refine gm_bool ?_ | refine gm_gv ?_); refine ⟨_, _, _, (by intro hc; first | ((try simp only [Bool.and_eq_true] at hc); (try (conv => lhs; simp [hc, Image.cells])); first | done | exact rfl) | ((try simp [gq] at hc); (try (conv => lhs; simp [gq, hc, Image.cells])); first | done | exact rfl)), h1, (by intro hc; (try simp at hc); (repeat' (first | exact DRs.nil | refine DRs.cons ?_ ?_ | exact .int _ _ | exact .bool _ | exact .str _ | exact .nilsl | exact .nilp | exact dr_ints (by simp) _ | exact dr_intss (by simp) _ | refine dr_agg ?_ | refine dr_fn ?_ | refine dr_tptr' (by simp) ?_ | assumption | exact .nilsl))), ?_⟩)
    | ((with_reducible refine st_gmv ?_); (try (conv => arg 1; simp [Image.cells])); (with_reducible refine at_mk ?_); (with_reducible first | refine gm_bool ?_ | refine gm_gv ?_); refine ⟨_, _, _, _, _, (by intro hc; first | ((try simp only [Bool.and_eq_true] at hc); (try (conv => lhs; simp [hc, Image.cells])); first | done | exact rfl) | ((try simp [gq] at hc); (try (conv => lhs; simp [gq, hc, Image.cells])); first | done | exact rfl)), (by intro hc; first | ((try simp only [Bool.and_eq_true] at hc); (try (conv => lhs; simp [hc, Image.cells])); first | done | exact rfl) | ((try simp [gq] at hc); (try (conv => lhs; simp [gq, hc, Image.cells])); first | done | exact rfl)), rfl, h1, (by intro hc; (try simp at hc); (repeat' (first | exact DRs.nil | refine DRs.cons ?_ ?_ | exact .int _ _ | exact .bool _ | exact .str _ | exact .nilsl | exact .nilp | exact dr_ints (by simp) _ | exact dr_intss (by simp) _ | refine dr_agg ?_ | refine dr_fn ?_ | refine dr_tptr' (by simp) ?_ | assumption | exact .nilsl))), ?_⟩)
    | ((with_reducible refine st_gmc ?_); (try (conv => arg 1; simp [Image.cells])); (with_reducible refine at_mk ?_); (with_reducible first | refine gm_bool ?_ | refine gm_gv ?_); refine ⟨_, _, _, (by intro hc; first | ((try simp only [Bool.and_eq_true] at hc); (try (conv => lhs; simp [hc, Image.cells])); first | done | exact rfl) | ((try simp [gq] at hc); (try (conv => lhs; simp [gq, hc, Image.cells])); first | done | exact rfl)), rfl, in_ _ _ _, (by intro hc; (try simp at hc); (repeat' (first | exact DRs.nil | refine DRs.cons ?_ ?_ | exact .int _ _ | exact .bool _ | exact .str _ | exact .nilsl | exact .nilp | exact dr_ints (by simp) _ | exact dr_intss (by simp) _ | refine dr_agg ?_ | refine dr_fn ?_ | refine dr_tptr' (by simp) ?_ | assumption | exact .nilsl))), ?_⟩)
    | ((with_reducible refine fr_gmc ?_); (try (conv => arg 1; simp [Image.cells])); (with_reducible refine at_mk ?_); (with_reducible first | refine gm_bool ?_ | refine gm_gv ?_); refine ⟨_, _, _, (by intro hc; first | ((try simp only [Bool.and_eq_true] at hc); (try (conv => lhs; simp [hc, Image.cells])); first | done | exact rfl) | ((try simp [gq] at hc); (try (conv => lhs; simp [gq, hc, Image.cells])); first | done | exact rfl)), in_ _ _ _, (by intro hc; (try simp at hc); (repeat' (first | exact DRs.nil | refine DRs.cons ?_ ?_ | exact .int _ _ | exact .bool _ | exact .str _ | exact .nilsl | exact .nilp | exact dr_ints (by simp) _ | exact dr_intss (by simp) _ | refine dr_agg ?_ | refine dr_fn ?_ | refine dr_tptr' (by simp) ?_ | assumption | exact .nilsl))), ?_⟩)
    | ((with_reducible refine st_gmv ?_); (try (conv => arg 1; simp [Image.cells])); (with_reducible refine at_mk ?_); (with_reducible first | refine gm_bool ?_ | refine gm_gv ?_); refine ⟨_, _, _, _, _, (by intro hc; first | ((try simp only [Bool.and_eq_true] at hc); (try (conv => lhs; simp [hc, Image.cells])); first | done | exact rfl) | ((try simp [gq] at hc); (try (conv => lhs; simp [gq, hc, Image.cells])); first | done | exact rfl)), (by intro hc; first | ((try simp only [Bool.and_eq_true] at hc); (try (conv => lhs; simp [hc, Image.cells])); first | done | exact rfl) | ((try simp [gq] at hc); (try (conv => lhs; simp [gq, hc, Image.cells])); first | done | exact rfl)), rfl, in_ _ _ _, (by intro hc; (try simp at hc); (repeat' (first | exact DRs.nil | refine DRs.cons ?_ ?_ | exact .int _ _ | exact .bool _ | exact .str _ | exact .nilsl | exact .nilp | exact dr_ints (by simp) _ | exact dr_intss (by simp) _ | refine dr_agg ?_ | refine dr_fn ?_ | refine dr_tptr' (by simp) ?_ | assumption | exact .nilsl))), ?_⟩)
    | ((with_reducible refine st_m rfl ?_); (try (conv => arg 1; simp [Image.cells])); (with_reducible refine ev2_some ?_))
    | ((with_reducible refine fr_n rfl ?_); (try (conv => arg 1; simp [Image.cells])); (with_reducible refine evn_some ?_))
    | ((with_reducible first | refine st_cv ?_ | refine fr_cv ?_); (try (conv => arg 1; simp [Image.cells])); (with_reducible refine at_mk ?_); (with_reducible refine fn_mk ?_); (try (conv => arg 1; simp [Image.cells])); (with_reducible refine at_mk ?_))
    | ((with_reducible refine fr_a ?_); (try (conv => arg 1; simp [Image.cells])); (with_reducible refine at_mk ?_); (try (conv => arg 1; simp [Image.cells])); (with_reducible refine at_mk ?_); refine ⟨?names, ?_⟩; (case names => (simp [appNames, ints, intss] <;> first | kernel_rfl | (refine ⟨?_, ?_⟩ <;> kernel_rfl))); (try (conv => arg 1; simp [Image.cells])); (with_reducible refine ev2_some ?_))
    | ((with_reducible first | refine st_q ?_ | refine fr_q ?_ | refine st_res ?_); (try (conv => arg 1; simp [Image.cells])); (with_reducible refine ev_some ?_))
    | ((with_reducible refine st_if ?_); (try (conv => arg 1; simp [Image.cells])); (with_reducible refine at_mk ?_); with_reducible first | refine br_t ?_ | refine br_f ?_)
    | ((with_reducible refine ct_id ?_); refine st_tree rfl (h1) (by (repeat' (first | exact DRs.nil | refine DRs.cons ?_ ?_ | exact .int _ _ | exact .bool _ | exact .str _ | exact .nilsl | exact .nilp | exact dr_ints (by simp) _ | exact dr_intss (by simp) _ | refine dr_agg ?_ | refine dr_fn ?_ | refine dr_tptr' (by simp) ?_ | assumption | exact .nilsl))) ?_)
    | ((with_reducible refine tw_id ?_); refine treeW_pure (h1) (by (repeat' (first | exact DRs.nil | refine DRs.cons ?_ ?_ | exact .int _ _ | exact .bool _ | exact .str _ | exact .nilsl | exact .nilp | exact dr_ints (by simp) _ | exact dr_intss (by simp) _ | refine dr_agg ?_ | refine dr_fn ?_ | refine dr_tptr' (by simp) ?_ | assumption | exact .nilsl))) ?_)
    | ((with_reducible refine ct_id ?_); refine st_tree rfl (in_ _ _ _) (by (repeat' (first | exact DRs.nil | refine DRs.cons ?_ ?_ | exact .int _ _ | exact .bool _ | exact .str _ | exact .nilsl | exact .nilp | exact dr_ints (by simp) _ | exact dr_intss (by simp) _ | refine dr_agg ?_ | refine dr_fn ?_ | refine dr_tptr' (by simp) ?_ | assumption | exact .nilsl))) ?_)
    | ((with_reducible refine tw_id ?_); refine treeW_pure (in_ _ _ _) (by (repeat' (first | exact DRs.nil | refine DRs.cons ?_ ?_ | exact .int _ _ | exact .bool _ | exact .str _ | exact .nilsl | exact .nilp | exact dr_ints (by simp) _ | exact dr_intss (by simp) _ | refine dr_agg ?_ | refine dr_fn ?_ | refine dr_tptr' (by simp) ?_ | assumption | exact .nilsl))) ?_))
  (try with_reducible refine st_if ?_)
  (try (conv => arg 1; simp [hs]))
  (try with_reducible refine at_mk ?_)
  refine ⟨fun hb => ?_, fun hb => ?_⟩
  · skip
    repeat' (first
     | with_reducible refine stp ?_
     | with_reducible refine k_blk_o rfl ?_
     | with_reducible refine k_seq_n ?_
     | ((try (conv => arg 1; simp [hs])); with_reducible refine evp ?_)
     | ((with_reducible refine apn ?na ?_); (case na => simp [appNames, ints, intss] <;> first | kernel_rfl | (refine ⟨?_, ?_⟩ <;> kernel_rfl)))
     | fail)
    refine dr_bool ?_
    simp only [Bool.or_eq_true, Bool.not_eq_true'] at hb
    rcases hb with (((h | h) | h) | h) | h <;> simp only [imageOk, h, Bool.false_and, Bool.and_false]
  · simp at hb
    obtain ⟨⟨⟨⟨c1, c2⟩, c3⟩, c4⟩, c5⟩ := hb
    obtain ⟨k, hk⟩ : ∃ k, m.Code.length = k + 1 := ⟨m.Code.length - 1, by simp [inB] at c5; omega⟩
    have hkl : k < m.Code.length := by omega
    obtain ⟨w, hx⟩ : ∃ w, m.Code[k]? = some w := ⟨m.Code[k], by simp⟩
    have hlast : m.Code.getLast? = some w := by rw [List.getLast?_eq_getElem?, hk]; exact hx
    have hw : IntKind.i64.wrap ((m.Code.length : Int) - 1) = (k : Int) := by rw [hk, wrap_id (by omega) (by omega)]; omega
    repeat' (first
      | (with_reducible first | refine st_seq ?_ | refine st_reg ?_ | refine st_block ?_ | refine st_nil ?_ | refine st_skip ?_ | refine st_ret ?_ | refine st_exit ?_ | refine fr_nil ?_ | refine k_seq_n ?_ | refine k_seq_r ?_ | refine k_seq_e ?_ | refine k_blk_n ?_ | refine k_blk_r ?_ | refine k_blk_s ?_ | refine k_blk_o rfl ?_ | refine k_fn_r ?_ | refine k_fn_n ?_ | refine k_lp_r ?_ | refine k_lp_e ?_)
      | ((with_reducible first | refine st_move ?_ | refine st_asg ?_ | refine st_c ?_ | refine fr_c ?_); (try (conv => arg 1; simp [hw, hx, words, Word.cells])); (with_reducible refine at_mk ?_))
      | ((with_reducible first | refine st_g ?_ | refine fr_g ?_); (try (conv => arg 1; simp [hw, hx, words, Word.cells])); (with_reducible refine at_mk ?_); with_reducible first | refine gd_tt ?_ | refine gd_ff ?_ | refine gd_tf ?_ | refine gd_ft ?_ | refine gd_no ?_)
      | ((with_reducible first | refine st_gm ?_ | refine fr_gm ?_); (try (conv => arg 1; simp [hw, hx, words, Word.cells])); (with_reducible refine at_mk ?_); (with_reducible first | refine gm_bool ?_ | refine gm_gv ?_); refine ⟨_, (by intro hc; first | ((try simp only [Bool.and_eq_true] at hc); (try (conv => lhs; simp [hc, hw, hx, words, Word.cells])); first | done | exact rfl) | ((try simp [gq] at hc); (try (conv => lhs; simp [gq, hc, hw, hx, words, Word.cells])); first | done | exact rfl)), ?_⟩)
      | ((with_reducible refine st_gmc ?_); (try (conv => arg 1; simp [hw, hx, words, Word.cells])); (with_reducible refine at_mk ?_); (with_reducible first | refine gm_bool ?_ | refine gm_gv ?_); refine ⟨_, _, _, (by intro hc; first | ((try simp only [Bool.and_eq_true] at hc); (try (conv => lhs; simp [hc, hw, hx, words, Word.cells])); first | done | exact rfl) | ((try simp [gq] at hc); (try (conv => lhs; simp [gq, hc, hw, hx, words, Word.cells])); first | done | exact rfl)), rfl, h2, (by intro hc; (try simp at hc); (repeat' (first | exact DRs.nil | refine DRs.cons ?_ ?_ | exact .int _ _ | exact .bool _ | exact .str _ | exact .nilsl | exact .nilp | exact dr_ints (by simp) _ | exact dr_intss (by simp) _ | refine dr_agg ?_ | refine dr_fn ?_ | refine dr_tptr' (by simp) ?_ | assumption | exact dr_words (by simp) _ | exact dr_ptr0 (r := ⟨0, 4, [m.cells true]⟩) (by simp [Image.cells, words]) rfl rfl (drs_image m (by simp))))), ?_⟩)
      | ((with_reducible refine fr_gmc ?_); (try (conv => arg 1; simp [hw, hx, words, Word.cells])); (with_reducible refine at_mk ?_); (with_reducible first | refine gm_bool ?_ | refine gm_gv ?_); refine ⟨_, _, _, (by intro hc; first | ((try simp only [Bool.and_eq_true] at hc); (try (conv => lhs; simp [hc, hw, hx, words, Word.cells])); first | done | exact rfl) | ((try simp [gq] at hc); (try (conv => lhs; simp [gq, hc, hw, hx, words, Word.cells])); first | done | exact rfl)), h2, (by intro hc; (try simp at hc); (repeat' (first | exact DRs.nil | refine DRs.cons ?_ ?_ | exact .int _ _ | exact .bool _ | exact .str _ | exact .nilsl | exact .nilp | exact dr_ints (by simp) _ | exact dr_intss (by simp) _ | refine dr_agg ?_ | refine dr_fn ?_ | refine dr_tptr' (by simp) ?_ | assumption | exact dr_words (by simp) _ | exact dr_ptr0 (r := ⟨0, 4, [m.cells true]⟩) (by simp [Image.cells, words]) rfl rfl (drs_image m (by simp))))), ?_⟩)
      | ((with_reducible refine st_gmv ?_); (try (conv => arg 1; simp [hw, hx, words, Word.cells])); (with_reducible refine at_mk ?_); (with_reducible first | refine gm_bool ?_ | refine gm_gv ?_); refine ⟨_, _, _, _, _, (by intro hc; first | ((try simp only [Bool.and_eq_true] at hc); (try (conv => lhs; simp [hc, hw, hx, words, Word.cells])); first | done | exact rfl) | ((try simp [gq] at hc); (try (conv => lhs; simp [gq, hc, hw, hx, words, Word.cells])); first | done | exact rfl)), (by intro hc; first | ((try simp only [Bool.and_eq_true] at hc); (try (conv => lhs; simp [hc, hw, hx, words, Word.cells])); first | done | exact rfl) | ((try simp [gq] at hc); (try (conv => lhs; simp [gq, hc, hw, hx, words, Word.cells])); first | done | exact rfl)), rfl, h2, (by intro hc; (try simp at hc); (repeat' (first | exact DRs.nil | refine DRs.cons ?_ ?_ | exact .int _ _ | exact .bool _ | exact .str _ | exact .nilsl | exact .nilp | exact dr_ints (by simp) _ | exact dr_intss (by simp) _ | refine dr_agg ?_ | refine dr_fn ?_ | refine dr_tptr' (by simp) ?_ | assumption | exact dr_words (by simp) _ | exact dr_ptr0 (r := ⟨0, 4, [m.cells true]⟩) (by simp [Image.cells, words]) rfl rfl (drs_image m (by simp))))), ?_⟩)
      | ((with_reducible refine st_m rfl ?_); (try (conv => arg 1; simp [hw, hx, words, Word.cells])); (with_reducible refine ev2_some ?_))
      | ((with_reducible refine fr_n rfl ?_); (try (conv => arg 1; simp [hw, hx, words, Word.cells])); (with_reducible refine evn_some ?_))
      | ((with_reducible first | refine st_cv ?_ | refine fr_cv ?_); (try (conv => arg 1; simp [hw, hx, words, Word.cells])); (with_reducible refine at_mk ?_); (with_reducible refine fn_mk ?_); (try (conv => arg 1; simp [hw, hx, words, Word.cells])); (with_reducible refine at_mk ?_))
      | ((with_reducible refine fr_a ?_); (try (conv => arg 1; simp [hw, hx, words, Word.cells])); (with_reducible refine at_mk ?_); (try (conv => arg 1; simp [hw, hx, words, Word.cells])); (with_reducible refine at_mk ?_); refine ⟨?names, ?_⟩; (case names => (simp [appNames, ints, intss] <;> first | kernel_rfl | (refine ⟨?_, ?_⟩ <;> kernel_rfl))); (try (conv => arg 1; simp [hw, hx, words, Word.cells])); (with_reducible refine ev2_some ?_))
      | ((with_reducible first | refine st_q ?_ | refine fr_q ?_ | refine st_res ?_); (try (conv => arg 1; simp [hw, hx, words, Word.cells])); (with_reducible refine ev_some ?_))
      | ((with_reducible refine st_if ?_); (try (conv => arg 1; simp [hw, hx, words, Word.cells])); (with_reducible refine at_mk ?_); with_reducible first | refine br_t ?_ | refine br_f ?_)
      | ((with_reducible refine ct_id ?_); refine st_tree rfl (h2) (by (repeat' (first | exact DRs.nil | refine DRs.cons ?_ ?_ | exact .int _ _ | exact .bool _ | exact .str _ | exact .nilsl | exact .nilp | exact dr_ints (by simp) _ | exact dr_intss (by simp) _ | refine dr_agg ?_ | refine dr_fn ?_ | refine dr_tptr' (by simp) ?_ | assumption | exact dr_words (by simp) _ | exact dr_ptr0 (r := ⟨0, 4, [m.cells true]⟩) (by simp [Image.cells, words]) rfl rfl (drs_image m (by simp))))) ?_)
      | ((with_reducible refine tw_id ?_); refine treeW_pure (h2) (by (repeat' (first | exact DRs.nil | refine DRs.cons ?_ ?_ | exact .int _ _ | exact .bool _ | exact .str _ | exact .nilsl | exact .nilp | exact dr_ints (by simp) _ | exact dr_intss (by simp) _ | refine dr_agg ?_ | refine dr_fn ?_ | refine dr_tptr' (by simp) ?_ | assumption | exact dr_words (by simp) _ | exact dr_ptr0 (r := ⟨0, 4, [m.cells true]⟩) (by simp [Image.cells, words]) rfl rfl (drs_image m (by simp))))) ?_))
    refine dr_bool ?_
    have e1 : (!m.Code.any fun w => !wordOk m w) = m.Code.all (wordOk m) := by rw [List.all_eq_not_any_not]
    have e2 : (m.Sizes.all fun n => inB n 1 16) = true := List.all_eq_true.2 c2
    rw [e1]
    simp only [imageOk, c1, e2, c3, c4, c5, Bool.true_and, lastOk, hlast]
end Go.Proofs.Ytfgaoojogididaa.AM
