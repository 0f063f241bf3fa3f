/- Lemmas: an abstract machine over named rows, and what single functions compute (parts U0, D2, U1, GK, D4, D5, E10, E11, W0, GR, D7, E12, D14, W1, W2, W3, W4, W5, W6, W7, W8, E2, E22, E0). -/
import Derived.Test.YtmcmgeedhbgglaaGreatDoorKk1
import Derived.Test.YtmcmgeedhbgglaaGreatDoorRows
import Derived.Shelf.LaysM
import Derived.Shelf.Strconv.Itoa3
import Derived.Lib.Strings
import Derived.Lib.AtoiAll
import Derived.Lib.AtoiAllCases
import Derived.Shelf.Strconv.AtoiAll
import Derived.Shelf.Strings.Split
namespace Go.Proofs.YtmcmgeedhbgglaaGreatDoor.AM
open Go.RowKit
@[simp] theorem tk_2 : tk Tryz.prog 2 = some (1, false) := by kernel_rfl
@[simp] theorem tsz_2 : tsz Tryz.prog 2 = some 1 := by kernel_rfl
@[simp] theorem tzero_2 : tzero Tryz.prog 2 = some [.int .i64 0] := by kernel_rfl
@[simp] theorem tby_2 : tby Tryz.prog 2 = some 8 := by kernel_rfl
@[simp] theorem und_2 : Tryz.prog.underlying 2 = some (.int .i64) := by kernel_rfl
@[simp] theorem tk_3 : tk Tryz.prog 3 = some (1, false) := by kernel_rfl
@[simp] theorem tsz_3 : tsz Tryz.prog 3 = some 1 := by kernel_rfl
@[simp] theorem tzero_3 : tzero Tryz.prog 3 = some [.int .i64 0] := by kernel_rfl
@[simp] theorem tby_3 : tby Tryz.prog 3 = some 8 := by kernel_rfl
@[simp] theorem und_3 : Tryz.prog.underlying 3 = some (.int .i64) := by kernel_rfl
@[simp] theorem tk_4 : tk Tryz.prog 4 = some (1, false) := by kernel_rfl
@[simp] theorem tsz_4 : tsz Tryz.prog 4 = some 1 := by kernel_rfl
@[simp] theorem tzero_4 : tzero Tryz.prog 4 = some [.bool false] := by kernel_rfl
@[simp] theorem tby_4 : tby Tryz.prog 4 = some 1 := by kernel_rfl
@[simp] theorem und_4 : Tryz.prog.underlying 4 = some .bool := by kernel_rfl
@[simp] theorem tk_5 : tk Tryz.prog 5 = some (1, false) := by kernel_rfl
@[simp] theorem tsz_5 : tsz Tryz.prog 5 = some 1 := by kernel_rfl
@[simp] theorem tzero_5 : tzero Tryz.prog 5 = some [.int .u8 0] := by kernel_rfl
@[simp] theorem tby_5 : tby Tryz.prog 5 = some 1 := by kernel_rfl
@[simp] theorem und_5 : Tryz.prog.underlying 5 = some (.int .u8) := by kernel_rfl
@[simp] theorem tk_6 : tk Tryz.prog 6 = some (1, false) := by kernel_rfl
@[simp] theorem tsz_6 : tsz Tryz.prog 6 = some 1 := by kernel_rfl
@[simp] theorem tzero_6 : tzero Tryz.prog 6 = some [.int .u8 0] := by kernel_rfl
@[simp] theorem tby_6 : tby Tryz.prog 6 = some 1 := by kernel_rfl
@[simp] theorem und_6 : Tryz.prog.underlying 6 = some (.int .u8) := by kernel_rfl
@[simp] theorem tk_7 : tk Tryz.prog 7 = some (4, true) := by kernel_rfl
@[simp] theorem tsz_7 : tsz Tryz.prog 7 = some 4 := by kernel_rfl
@[simp] theorem tzero_7 : tzero Tryz.prog 7 = some [.int .i64 0, .int .i64 0, .bool false, .int .u8 0] := by kernel_rfl
@[simp] theorem tby_7 : tby Tryz.prog 7 = some 24 := by kernel_rfl
@[simp] theorem tfld_7_0 : tfld Tryz.prog 7 0 = some (0, 1, 2) := by kernel_rfl
@[simp] theorem tfld_7_1 : tfld Tryz.prog 7 1 = some (1, 1, 3) := by kernel_rfl
@[simp] theorem tfld_7_2 : tfld Tryz.prog 7 2 = some (2, 1, 4) := by kernel_rfl
@[simp] theorem tfld_7_3 : tfld Tryz.prog 7 3 = some (3, 1, 6) := by kernel_rfl
@[simp] theorem tbuild_7 : tbuild Tryz.prog 7 = some ([.int .i64 0, .int .i64 0, .bool false, .int .u8 0], [(0, 1), (1, 1), (2, 1), (3, 1)]) := by kernel_rfl
@[simp] theorem tkinds_7 : tkinds Tryz.prog 7 = some [.i, .i, .b, .i] := by kernel_rfl
@[simp] theorem tk_8 : tk Tryz.prog 8 = some (4, true) := by kernel_rfl
@[simp] theorem tsz_8 : tsz Tryz.prog 8 = some 4 := by kernel_rfl
@[simp] theorem tzero_8 : tzero Tryz.prog 8 = some [.int .i64 0, .int .i64 0, .bool false, .int .u8 0] := by kernel_rfl
@[simp] theorem tby_8 : tby Tryz.prog 8 = some 24 := by kernel_rfl
@[simp] theorem tfld_8_0 : tfld Tryz.prog 8 0 = some (0, 1, 2) := by kernel_rfl
@[simp] theorem tfld_8_1 : tfld Tryz.prog 8 1 = some (1, 1, 3) := by kernel_rfl
@[simp] theorem tfld_8_2 : tfld Tryz.prog 8 2 = some (2, 1, 4) := by kernel_rfl
@[simp] theorem tfld_8_3 : tfld Tryz.prog 8 3 = some (3, 1, 6) := by kernel_rfl
@[simp] theorem tbuild_8 : tbuild Tryz.prog 8 = some ([.int .i64 0, .int .i64 0, .bool false, .int .u8 0], [(0, 1), (1, 1), (2, 1), (3, 1)]) := by kernel_rfl
@[simp] theorem tkinds_8 : tkinds Tryz.prog 8 = some [.i, .i, .b, .i] := by kernel_rfl
@[simp] theorem tk_9 : tk Tryz.prog 9 = some (1, false) := by kernel_rfl
@[simp] theorem tsz_9 : tsz Tryz.prog 9 = some 1 := by kernel_rfl
@[simp] theorem tzero_9 : tzero Tryz.prog 9 = some [.str ByteArray.empty] := by kernel_rfl
@[simp] theorem tby_9 : tby Tryz.prog 9 = some 16 := by kernel_rfl
@[simp] theorem und_9 : Tryz.prog.underlying 9 = some .string := by kernel_rfl
@[simp] theorem tk_10 : tk Tryz.prog 10 = some (1, false) := by kernel_rfl
@[simp] theorem tsz_10 : tsz Tryz.prog 10 = some 1 := by kernel_rfl
@[simp] theorem tzero_10 : tzero Tryz.prog 10 = some [.str ByteArray.empty] := by kernel_rfl
@[simp] theorem tby_10 : tby Tryz.prog 10 = some 16 := by kernel_rfl
@[simp] theorem und_10 : Tryz.prog.underlying 10 = some .string := by kernel_rfl
@[simp] theorem tk_11 : tk Tryz.prog 11 = some (1, false) := by kernel_rfl
@[simp] theorem tsz_11 : tsz Tryz.prog 11 = some 1 := by kernel_rfl
@[simp] theorem tzero_11 : tzero Tryz.prog 11 = some [.str ByteArray.empty] := by kernel_rfl
@[simp] theorem tby_11 : tby Tryz.prog 11 = some 16 := by kernel_rfl
@[simp] theorem und_11 : Tryz.prog.underlying 11 = some .string := by kernel_rfl
@[simp] theorem tk_12 : tk Tryz.prog 12 = some (1, false) := by kernel_rfl
@[simp] theorem tsz_12 : tsz Tryz.prog 12 = some 1 := by kernel_rfl
@[simp] theorem tzero_12 : tzero Tryz.prog 12 = some [.int .u64 0] := by kernel_rfl
@[simp] theorem tby_12 : tby Tryz.prog 12 = some 8 := by kernel_rfl
@[simp] theorem und_12 : Tryz.prog.underlying 12 = some (.int .u64) := by kernel_rfl
@[simp] theorem tk_13 : tk Tryz.prog 13 = some (2, true) := by kernel_rfl
@[simp] theorem tsz_13 : tsz Tryz.prog 13 = some 2 := by kernel_rfl
@[simp] theorem tzero_13 : tzero Tryz.prog 13 = some [.str ByteArray.empty, .int .u64 0] := by kernel_rfl
@[simp] theorem tby_13 : tby Tryz.prog 13 = some 24 := by kernel_rfl
@[simp] theorem tfld_13_0 : tfld Tryz.prog 13 0 = some (0, 1, 9) := by kernel_rfl
@[simp] theorem tfld_13_1 : tfld Tryz.prog 13 1 = some (1, 1, 12) := by kernel_rfl
@[simp] theorem tbuild_13 : tbuild Tryz.prog 13 = some ([.str ByteArray.empty, .int .u64 0], [(0, 1), (1, 1)]) := by kernel_rfl
@[simp] theorem tk_14 : tk Tryz.prog 14 = some (2, true) := by kernel_rfl
@[simp] theorem tsz_14 : tsz Tryz.prog 14 = some 2 := by kernel_rfl
@[simp] theorem tzero_14 : tzero Tryz.prog 14 = some [.str ByteArray.empty, .int .u64 0] := by kernel_rfl
@[simp] theorem tby_14 : tby Tryz.prog 14 = some 24 := by kernel_rfl
@[simp] theorem tfld_14_0 : tfld Tryz.prog 14 0 = some (0, 1, 9) := by kernel_rfl
@[simp] theorem tfld_14_1 : tfld Tryz.prog 14 1 = some (1, 1, 12) := by kernel_rfl
@[simp] theorem tbuild_14 : tbuild Tryz.prog 14 = some ([.str ByteArray.empty, .int .u64 0], [(0, 1), (1, 1)]) := by kernel_rfl
@[simp] theorem tk_15 : tk Tryz.prog 15 = some (1, false) := by kernel_rfl
@[simp] theorem tsz_15 : tsz Tryz.prog 15 = some 1 := by kernel_rfl
@[simp] theorem tzero_15 : tzero Tryz.prog 15 = some [.nilp] := by kernel_rfl
@[simp] theorem tby_15 : tby Tryz.prog 15 = some 8 := by kernel_rfl
@[simp] theorem tk_16 : tk Tryz.prog 16 = some (1, false) := by kernel_rfl
@[simp] theorem tsz_16 : tsz Tryz.prog 16 = some 1 := by kernel_rfl
@[simp] theorem tzero_16 : tzero Tryz.prog 16 = some [.nilp] := by kernel_rfl
@[simp] theorem tby_16 : tby Tryz.prog 16 = some 8 := by kernel_rfl
@[simp] theorem tk_17 : tk Tryz.prog 17 = some (1, false) := by kernel_rfl
@[simp] theorem tsz_17 : tsz Tryz.prog 17 = some 1 := by kernel_rfl
@[simp] theorem tzero_17 : tzero Tryz.prog 17 = some [.nilp] := by kernel_rfl
@[simp] theorem tby_17 : tby Tryz.prog 17 = some 8 := by kernel_rfl
@[simp] theorem tk_18 : tk Tryz.prog 18 = some (1, true) := by kernel_rfl
@[simp] theorem tsz_18 : tsz Tryz.prog 18 = some 1 := by kernel_rfl
@[simp] theorem tzero_18 : tzero Tryz.prog 18 = some [.nilp] := by kernel_rfl
@[simp] theorem tby_18 : tby Tryz.prog 18 = some 8 := by kernel_rfl
@[simp] theorem tfld_18_0 : tfld Tryz.prog 18 0 = some (0, 1, 17) := by kernel_rfl
@[simp] theorem tbuild_18 : tbuild Tryz.prog 18 = some ([.nilp], [(0, 1)]) := by kernel_rfl
@[simp] theorem tk_19 : tk Tryz.prog 19 = some (1, true) := by kernel_rfl
@[simp] theorem tsz_19 : tsz Tryz.prog 19 = some 1 := by kernel_rfl
@[simp] theorem tzero_19 : tzero Tryz.prog 19 = some [.nilp] := by kernel_rfl
@[simp] theorem tby_19 : tby Tryz.prog 19 = some 8 := by kernel_rfl
@[simp] theorem tfld_19_0 : tfld Tryz.prog 19 0 = some (0, 1, 17) := by kernel_rfl
@[simp] theorem tbuild_19 : tbuild Tryz.prog 19 = some ([.nilp], [(0, 1)]) := by kernel_rfl
@[simp] theorem tk_20 : tk Tryz.prog 20 = some (1, false) := by kernel_rfl
@[simp] theorem tsz_20 : tsz Tryz.prog 20 = some 1 := by kernel_rfl
@[simp] theorem tzero_20 : tzero Tryz.prog 20 = some [.nilif] := by kernel_rfl
@[simp] theorem tby_20 : tby Tryz.prog 20 = some 16 := by kernel_rfl
@[simp] theorem tk_21 : tk Tryz.prog 21 = some (1, false) := by kernel_rfl
@[simp] theorem tsz_21 : tsz Tryz.prog 21 = some 1 := by kernel_rfl
@[simp] theorem tzero_21 : tzero Tryz.prog 21 = some [.int .i32 0] := by kernel_rfl
@[simp] theorem tby_21 : tby Tryz.prog 21 = some 4 := by kernel_rfl
@[simp] theorem und_21 : Tryz.prog.underlying 21 = some (.int .i32) := by kernel_rfl
@[simp] theorem tk_22 : tk Tryz.prog 22 = some (1, false) := by kernel_rfl
@[simp] theorem tsz_22 : tsz Tryz.prog 22 = some 1 := by kernel_rfl
@[simp] theorem tzero_22 : tzero Tryz.prog 22 = some [.nilsl] := by kernel_rfl
@[simp] theorem tby_22 : tby Tryz.prog 22 = some 24 := by kernel_rfl
@[simp] theorem telem_22 : telem Tryz.prog 22 = some 3 := by kernel_rfl
@[simp] theorem und_22 : Tryz.prog.underlying 22 = some (.slice 3) := by kernel_rfl
@[simp] theorem tk_23 : tk Tryz.prog 23 = some (1, false) := by kernel_rfl
@[simp] theorem tsz_23 : tsz Tryz.prog 23 = some 1 := by kernel_rfl
@[simp] theorem tzero_23 : tzero Tryz.prog 23 = some [.nilsl] := by kernel_rfl
@[simp] theorem tby_23 : tby Tryz.prog 23 = some 24 := by kernel_rfl
@[simp] theorem telem_23 : telem Tryz.prog 23 = some 68 := by kernel_rfl
@[simp] theorem und_23 : Tryz.prog.underlying 23 = some (.slice 68) := by kernel_rfl
@[simp] theorem tk_24 : tk Tryz.prog 24 = some (4, true) := by kernel_rfl
@[simp] theorem tsz_24 : tsz Tryz.prog 24 = some 4 := by kernel_rfl
@[simp] theorem tzero_24 : tzero Tryz.prog 24 = some [.nilsl, .int .i64 0, .int .i64 0, .nilsl] := by kernel_rfl
@[simp] theorem tby_24 : tby Tryz.prog 24 = some 64 := by kernel_rfl
@[simp] theorem tfld_24_0 : tfld Tryz.prog 24 0 = some (0, 1, 22) := by kernel_rfl
@[simp] theorem tfld_24_1 : tfld Tryz.prog 24 1 = some (1, 1, 3) := by kernel_rfl
@[simp] theorem tfld_24_2 : tfld Tryz.prog 24 2 = some (2, 1, 3) := by kernel_rfl
@[simp] theorem tfld_24_3 : tfld Tryz.prog 24 3 = some (3, 1, 23) := by kernel_rfl
@[simp] theorem tbuild_24 : tbuild Tryz.prog 24 = some ([.nilsl, .int .i64 0, .int .i64 0, .nilsl], [(0, 1), (1, 1), (2, 1), (3, 1)]) := by kernel_rfl
@[simp] theorem tk_25 : tk Tryz.prog 25 = some (4, true) := by kernel_rfl
@[simp] theorem tsz_25 : tsz Tryz.prog 25 = some 4 := by kernel_rfl
@[simp] theorem tzero_25 : tzero Tryz.prog 25 = some [.nilsl, .int .i64 0, .int .i64 0, .nilsl] := by kernel_rfl
@[simp] theorem tby_25 : tby Tryz.prog 25 = some 64 := by kernel_rfl
@[simp] theorem tfld_25_0 : tfld Tryz.prog 25 0 = some (0, 1, 22) := by kernel_rfl
@[simp] theorem tfld_25_1 : tfld Tryz.prog 25 1 = some (1, 1, 3) := by kernel_rfl
@[simp] theorem tfld_25_2 : tfld Tryz.prog 25 2 = some (2, 1, 3) := by kernel_rfl
@[simp] theorem tfld_25_3 : tfld Tryz.prog 25 3 = some (3, 1, 23) := by kernel_rfl
@[simp] theorem tbuild_25 : tbuild Tryz.prog 25 = some ([.nilsl, .int .i64 0, .int .i64 0, .nilsl], [(0, 1), (1, 1), (2, 1), (3, 1)]) := by kernel_rfl
@[simp] theorem tk_31 : tk Tryz.prog 31 = some (1, false) := by kernel_rfl
@[simp] theorem tsz_31 : tsz Tryz.prog 31 = some 1 := by kernel_rfl
@[simp] theorem tzero_31 : tzero Tryz.prog 31 = some [.nilsl] := by kernel_rfl
@[simp] theorem tby_31 : tby Tryz.prog 31 = some 24 := by kernel_rfl
@[simp] theorem telem_31 : telem Tryz.prog 31 = some 88 := by kernel_rfl
@[simp] theorem und_31 : Tryz.prog.underlying 31 = some (.slice 88) := by kernel_rfl
@[simp] theorem tk_32 : tk Tryz.prog 32 = some (4, true) := by kernel_rfl
@[simp] theorem tsz_32 : tsz Tryz.prog 32 = some 4 := by kernel_rfl
@[simp] theorem tzero_32 : tzero Tryz.prog 32 = some [.nilsl, .int .i64 0, .int .i64 0, .nilsl] := by kernel_rfl
@[simp] theorem tby_32 : tby Tryz.prog 32 = some 64 := by kernel_rfl
@[simp] theorem tfld_32_0 : tfld Tryz.prog 32 0 = some (0, 1, 22) := by kernel_rfl
@[simp] theorem tfld_32_1 : tfld Tryz.prog 32 1 = some (1, 1, 3) := by kernel_rfl
@[simp] theorem tfld_32_2 : tfld Tryz.prog 32 2 = some (2, 1, 3) := by kernel_rfl
@[simp] theorem tfld_32_3 : tfld Tryz.prog 32 3 = some (3, 1, 31) := by kernel_rfl
@[simp] theorem tbuild_32 : tbuild Tryz.prog 32 = some ([.nilsl, .int .i64 0, .int .i64 0, .nilsl], [(0, 1), (1, 1), (2, 1), (3, 1)]) := by kernel_rfl
@[simp] theorem tk_33 : tk Tryz.prog 33 = some (4, true) := by kernel_rfl
@[simp] theorem tsz_33 : tsz Tryz.prog 33 = some 4 := by kernel_rfl
@[simp] theorem tzero_33 : tzero Tryz.prog 33 = some [.nilsl, .int .i64 0, .int .i64 0, .nilsl] := by kernel_rfl
@[simp] theorem tby_33 : tby Tryz.prog 33 = some 64 := by kernel_rfl
@[simp] theorem tfld_33_0 : tfld Tryz.prog 33 0 = some (0, 1, 22) := by kernel_rfl
@[simp] theorem tfld_33_1 : tfld Tryz.prog 33 1 = some (1, 1, 3) := by kernel_rfl
@[simp] theorem tfld_33_2 : tfld Tryz.prog 33 2 = some (2, 1, 3) := by kernel_rfl
@[simp] theorem tfld_33_3 : tfld Tryz.prog 33 3 = some (3, 1, 31) := by kernel_rfl
@[simp] theorem tbuild_33 : tbuild Tryz.prog 33 = some ([.nilsl, .int .i64 0, .int .i64 0, .nilsl], [(0, 1), (1, 1), (2, 1), (3, 1)]) := by kernel_rfl
@[simp] theorem tk_38 : tk Tryz.prog 38 = some (1, false) := by kernel_rfl
@[simp] theorem tsz_38 : tsz Tryz.prog 38 = some 1 := by kernel_rfl
@[simp] theorem tzero_38 : tzero Tryz.prog 38 = some [.nilsl] := by kernel_rfl
@[simp] theorem tby_38 : tby Tryz.prog 38 = some 24 := by kernel_rfl
@[simp] theorem telem_38 : telem Tryz.prog 38 = some 9 := by kernel_rfl
@[simp] theorem und_38 : Tryz.prog.underlying 38 = some (.slice 9) := by kernel_rfl
@[simp] theorem tk_49 : tk Tryz.prog 49 = some (1, false) := by kernel_rfl
@[simp] theorem tsz_49 : tsz Tryz.prog 49 = some 1 := by kernel_rfl
@[simp] theorem tzero_49 : tzero Tryz.prog 49 = some [.nilsl] := by kernel_rfl
@[simp] theorem tby_49 : tby Tryz.prog 49 = some 24 := by kernel_rfl
@[simp] theorem telem_49 : telem Tryz.prog 49 = some 58 := by kernel_rfl
@[simp] theorem und_49 : Tryz.prog.underlying 49 = some (.slice 58) := by kernel_rfl
@[simp] theorem tk_52 : tk Tryz.prog 52 = some (1, false) := by kernel_rfl
@[simp] theorem tsz_52 : tsz Tryz.prog 52 = some 1 := by kernel_rfl
@[simp] theorem tzero_52 : tzero Tryz.prog 52 = some [.nilp] := by kernel_rfl
@[simp] theorem tby_52 : tby Tryz.prog 52 = some 8 := by kernel_rfl
@[simp] theorem tk_53 : tk Tryz.prog 53 = some (6, true) := by kernel_rfl
@[simp] theorem tsz_53 : tsz Tryz.prog 53 = some 6 := by kernel_rfl
@[simp] theorem tzero_53 : tzero Tryz.prog 53 = some [.nilsl, .int .i64 0, .bool false, .nilsl, .nilsl, .nilsl] := by kernel_rfl
@[simp] theorem tby_53 : tby Tryz.prog 53 = some 112 := by kernel_rfl
@[simp] theorem tfld_53_0 : tfld Tryz.prog 53 0 = some (0, 1, 49) := by kernel_rfl
@[simp] theorem tfld_53_1 : tfld Tryz.prog 53 1 = some (1, 1, 3) := by kernel_rfl
@[simp] theorem tfld_53_2 : tfld Tryz.prog 53 2 = some (2, 1, 4) := by kernel_rfl
@[simp] theorem tfld_53_3 : tfld Tryz.prog 53 3 = some (3, 1, 38) := by kernel_rfl
@[simp] theorem tfld_53_4 : tfld Tryz.prog 53 4 = some (4, 1, 38) := by kernel_rfl
@[simp] theorem tfld_53_5 : tfld Tryz.prog 53 5 = some (5, 1, 22) := by kernel_rfl
@[simp] theorem tbuild_53 : tbuild Tryz.prog 53 = some ([.nilsl, .int .i64 0, .bool false, .nilsl, .nilsl, .nilsl], [(0, 1), (1, 1), (2, 1), (3, 1), (4, 1), (5, 1)]) := by kernel_rfl
@[simp] theorem tk_54 : tk Tryz.prog 54 = some (6, true) := by kernel_rfl
@[simp] theorem tsz_54 : tsz Tryz.prog 54 = some 6 := by kernel_rfl
@[simp] theorem tzero_54 : tzero Tryz.prog 54 = some [.nilsl, .int .i64 0, .bool false, .nilsl, .nilsl, .nilsl] := by kernel_rfl
@[simp] theorem tby_54 : tby Tryz.prog 54 = some 112 := by kernel_rfl
@[simp] theorem tfld_54_0 : tfld Tryz.prog 54 0 = some (0, 1, 49) := by kernel_rfl
@[simp] theorem tfld_54_1 : tfld Tryz.prog 54 1 = some (1, 1, 3) := by kernel_rfl
@[simp] theorem tfld_54_2 : tfld Tryz.prog 54 2 = some (2, 1, 4) := by kernel_rfl
@[simp] theorem tfld_54_3 : tfld Tryz.prog 54 3 = some (3, 1, 38) := by kernel_rfl
@[simp] theorem tfld_54_4 : tfld Tryz.prog 54 4 = some (4, 1, 38) := by kernel_rfl
@[simp] theorem tfld_54_5 : tfld Tryz.prog 54 5 = some (5, 1, 22) := by kernel_rfl
@[simp] theorem tbuild_54 : tbuild Tryz.prog 54 = some ([.nilsl, .int .i64 0, .bool false, .nilsl, .nilsl, .nilsl], [(0, 1), (1, 1), (2, 1), (3, 1), (4, 1), (5, 1)]) := by kernel_rfl
@[simp] theorem tk_57 : tk Tryz.prog 57 = some (4, true) := by kernel_rfl
@[simp] theorem tsz_57 : tsz Tryz.prog 57 = some 4 := by kernel_rfl
@[simp] theorem tzero_57 : tzero Tryz.prog 57 = some [.int .i64 0, .str ByteArray.empty, .int .i64 0, .int .i64 0] := by kernel_rfl
@[simp] theorem tby_57 : tby Tryz.prog 57 = some 40 := by kernel_rfl
@[simp] theorem tfld_57_0 : tfld Tryz.prog 57 0 = some (0, 1, 3) := by kernel_rfl
@[simp] theorem tfld_57_1 : tfld Tryz.prog 57 1 = some (1, 1, 9) := by kernel_rfl
@[simp] theorem tfld_57_2 : tfld Tryz.prog 57 2 = some (2, 1, 3) := by kernel_rfl
@[simp] theorem tfld_57_3 : tfld Tryz.prog 57 3 = some (3, 1, 3) := by kernel_rfl
@[simp] theorem tbuild_57 : tbuild Tryz.prog 57 = some ([.int .i64 0, .str ByteArray.empty, .int .i64 0, .int .i64 0], [(0, 1), (1, 1), (2, 1), (3, 1)]) := by kernel_rfl
@[simp] theorem tkinds_57 : tkinds Tryz.prog 57 = some [.i, .s, .i, .i] := by kernel_rfl
@[simp] theorem tk_58 : tk Tryz.prog 58 = some (4, true) := by kernel_rfl
@[simp] theorem tsz_58 : tsz Tryz.prog 58 = some 4 := by kernel_rfl
@[simp] theorem tzero_58 : tzero Tryz.prog 58 = some [.int .i64 0, .str ByteArray.empty, .int .i64 0, .int .i64 0] := by kernel_rfl
@[simp] theorem tby_58 : tby Tryz.prog 58 = some 40 := by kernel_rfl
@[simp] theorem tfld_58_0 : tfld Tryz.prog 58 0 = some (0, 1, 3) := by kernel_rfl
@[simp] theorem tfld_58_1 : tfld Tryz.prog 58 1 = some (1, 1, 9) := by kernel_rfl
@[simp] theorem tfld_58_2 : tfld Tryz.prog 58 2 = some (2, 1, 3) := by kernel_rfl
@[simp] theorem tfld_58_3 : tfld Tryz.prog 58 3 = some (3, 1, 3) := by kernel_rfl
@[simp] theorem tbuild_58 : tbuild Tryz.prog 58 = some ([.int .i64 0, .str ByteArray.empty, .int .i64 0, .int .i64 0], [(0, 1), (1, 1), (2, 1), (3, 1)]) := by kernel_rfl
@[simp] theorem tkinds_58 : tkinds Tryz.prog 58 = some [.i, .s, .i, .i] := by kernel_rfl
@[simp] theorem tk_60 : tk Tryz.prog 60 = some (1, false) := by kernel_rfl
@[simp] theorem tsz_60 : tsz Tryz.prog 60 = some 1 := by kernel_rfl
@[simp] theorem tzero_60 : tzero Tryz.prog 60 = some [.nilp] := by kernel_rfl
@[simp] theorem tby_60 : tby Tryz.prog 60 = some 8 := by kernel_rfl
@[simp] theorem tk_67 : tk Tryz.prog 67 = some (5, true) := by kernel_rfl
@[simp] theorem tsz_67 : tsz Tryz.prog 67 = some 5 := by kernel_rfl
@[simp] theorem tzero_67 : tzero Tryz.prog 67 = some [.int .i64 0, .int .i64 0, .int .i64 0, .int .i64 0, .int .i64 0] := by kernel_rfl
@[simp] theorem tby_67 : tby Tryz.prog 67 = some 40 := by kernel_rfl
@[simp] theorem tfld_67_0 : tfld Tryz.prog 67 0 = some (0, 1, 3) := by kernel_rfl
@[simp] theorem tfld_67_1 : tfld Tryz.prog 67 1 = some (1, 1, 3) := by kernel_rfl
@[simp] theorem tfld_67_2 : tfld Tryz.prog 67 2 = some (2, 1, 3) := by kernel_rfl
@[simp] theorem tfld_67_3 : tfld Tryz.prog 67 3 = some (3, 1, 3) := by kernel_rfl
@[simp] theorem tfld_67_4 : tfld Tryz.prog 67 4 = some (4, 1, 3) := by kernel_rfl
@[simp] theorem tbuild_67 : tbuild Tryz.prog 67 = some ([.int .i64 0, .int .i64 0, .int .i64 0, .int .i64 0, .int .i64 0], [(0, 1), (1, 1), (2, 1), (3, 1), (4, 1)]) := by kernel_rfl
@[simp] theorem tkinds_67 : tkinds Tryz.prog 67 = some [.i, .i, .i, .i, .i] := by kernel_rfl
@[simp] theorem tk_68 : tk Tryz.prog 68 = some (5, true) := by kernel_rfl
@[simp] theorem tsz_68 : tsz Tryz.prog 68 = some 5 := by kernel_rfl
@[simp] theorem tzero_68 : tzero Tryz.prog 68 = some [.int .i64 0, .int .i64 0, .int .i64 0, .int .i64 0, .int .i64 0] := by kernel_rfl
@[simp] theorem tby_68 : tby Tryz.prog 68 = some 40 := by kernel_rfl
@[simp] theorem tfld_68_0 : tfld Tryz.prog 68 0 = some (0, 1, 3) := by kernel_rfl
@[simp] theorem tfld_68_1 : tfld Tryz.prog 68 1 = some (1, 1, 3) := by kernel_rfl
@[simp] theorem tfld_68_2 : tfld Tryz.prog 68 2 = some (2, 1, 3) := by kernel_rfl
@[simp] theorem tfld_68_3 : tfld Tryz.prog 68 3 = some (3, 1, 3) := by kernel_rfl
@[simp] theorem tfld_68_4 : tfld Tryz.prog 68 4 = some (4, 1, 3) := by kernel_rfl
@[simp] theorem tbuild_68 : tbuild Tryz.prog 68 = some ([.int .i64 0, .int .i64 0, .int .i64 0, .int .i64 0, .int .i64 0], [(0, 1), (1, 1), (2, 1), (3, 1), (4, 1)]) := by kernel_rfl
@[simp] theorem tkinds_68 : tkinds Tryz.prog 68 = some [.i, .i, .i, .i, .i] := by kernel_rfl
@[simp] theorem tk_86 : tk Tryz.prog 86 = some (1, false) := by kernel_rfl
@[simp] theorem tsz_86 : tsz Tryz.prog 86 = some 1 := by kernel_rfl
@[simp] theorem tzero_86 : tzero Tryz.prog 86 = some [.nilsl] := by kernel_rfl
@[simp] theorem tby_86 : tby Tryz.prog 86 = some 24 := by kernel_rfl
@[simp] theorem telem_86 : telem Tryz.prog 86 = some 120 := by kernel_rfl
@[simp] theorem und_86 : Tryz.prog.underlying 86 = some (.slice 120) := by kernel_rfl
@[simp] theorem tk_87 : tk Tryz.prog 87 = some (6, true) := by kernel_rfl
@[simp] theorem tsz_87 : tsz Tryz.prog 87 = some 6 := by kernel_rfl
@[simp] theorem tzero_87 : tzero Tryz.prog 87 = some [.int .i64 0, .int .i64 0, .int .i64 0, .nilsl, .nilsl, .nilsl] := by kernel_rfl
@[simp] theorem tby_87 : tby Tryz.prog 87 = some 96 := by kernel_rfl
@[simp] theorem tfld_87_0 : tfld Tryz.prog 87 0 = some (0, 1, 3) := by kernel_rfl
@[simp] theorem tfld_87_1 : tfld Tryz.prog 87 1 = some (1, 1, 3) := by kernel_rfl
@[simp] theorem tfld_87_2 : tfld Tryz.prog 87 2 = some (2, 1, 3) := by kernel_rfl
@[simp] theorem tfld_87_3 : tfld Tryz.prog 87 3 = some (3, 1, 86) := by kernel_rfl
@[simp] theorem tfld_87_4 : tfld Tryz.prog 87 4 = some (4, 1, 31) := by kernel_rfl
@[simp] theorem tfld_87_5 : tfld Tryz.prog 87 5 = some (5, 1, 31) := by kernel_rfl
@[simp] theorem tbuild_87 : tbuild Tryz.prog 87 = some ([.int .i64 0, .int .i64 0, .int .i64 0, .nilsl, .nilsl, .nilsl], [(0, 1), (1, 1), (2, 1), (3, 1), (4, 1), (5, 1)]) := by kernel_rfl
@[simp] theorem tk_88 : tk Tryz.prog 88 = some (6, true) := by kernel_rfl
@[simp] theorem tsz_88 : tsz Tryz.prog 88 = some 6 := by kernel_rfl
@[simp] theorem tzero_88 : tzero Tryz.prog 88 = some [.int .i64 0, .int .i64 0, .int .i64 0, .nilsl, .nilsl, .nilsl] := by kernel_rfl
@[simp] theorem tby_88 : tby Tryz.prog 88 = some 96 := by kernel_rfl
@[simp] theorem tfld_88_0 : tfld Tryz.prog 88 0 = some (0, 1, 3) := by kernel_rfl
@[simp] theorem tfld_88_1 : tfld Tryz.prog 88 1 = some (1, 1, 3) := by kernel_rfl
@[simp] theorem tfld_88_2 : tfld Tryz.prog 88 2 = some (2, 1, 3) := by kernel_rfl
@[simp] theorem tfld_88_3 : tfld Tryz.prog 88 3 = some (3, 1, 86) := by kernel_rfl
@[simp] theorem tfld_88_4 : tfld Tryz.prog 88 4 = some (4, 1, 31) := by kernel_rfl
@[simp] theorem tfld_88_5 : tfld Tryz.prog 88 5 = some (5, 1, 31) := by kernel_rfl
@[simp] theorem tbuild_88 : tbuild Tryz.prog 88 = some ([.int .i64 0, .int .i64 0, .int .i64 0, .nilsl, .nilsl, .nilsl], [(0, 1), (1, 1), (2, 1), (3, 1), (4, 1), (5, 1)]) := by kernel_rfl
@[simp] theorem tk_93 : tk Tryz.prog 93 = some (2, true) := by kernel_rfl
@[simp] theorem tsz_93 : tsz Tryz.prog 93 = some 2 := by kernel_rfl
@[simp] theorem tzero_93 : tzero Tryz.prog 93 = some [.int .i64 0, .int .i64 0] := by kernel_rfl
@[simp] theorem tby_93 : tby Tryz.prog 93 = some 16 := by kernel_rfl
@[simp] theorem tfld_93_0 : tfld Tryz.prog 93 0 = some (0, 1, 3) := by kernel_rfl
@[simp] theorem tfld_93_1 : tfld Tryz.prog 93 1 = some (1, 1, 3) := by kernel_rfl
@[simp] theorem tbuild_93 : tbuild Tryz.prog 93 = some ([.int .i64 0, .int .i64 0], [(0, 1), (1, 1)]) := by kernel_rfl
@[simp] theorem tkinds_93 : tkinds Tryz.prog 93 = some [.i, .i] := by kernel_rfl
@[simp] theorem tk_94 : tk Tryz.prog 94 = some (2, true) := by kernel_rfl
@[simp] theorem tsz_94 : tsz Tryz.prog 94 = some 2 := by kernel_rfl
@[simp] theorem tzero_94 : tzero Tryz.prog 94 = some [.int .i64 0, .int .i64 0] := by kernel_rfl
@[simp] theorem tby_94 : tby Tryz.prog 94 = some 16 := by kernel_rfl
@[simp] theorem tfld_94_0 : tfld Tryz.prog 94 0 = some (0, 1, 3) := by kernel_rfl
@[simp] theorem tfld_94_1 : tfld Tryz.prog 94 1 = some (1, 1, 3) := by kernel_rfl
@[simp] theorem tbuild_94 : tbuild Tryz.prog 94 = some ([.int .i64 0, .int .i64 0], [(0, 1), (1, 1)]) := by kernel_rfl
@[simp] theorem tkinds_94 : tkinds Tryz.prog 94 = some [.i, .i] := by kernel_rfl
@[simp] theorem tk_112 : tk Tryz.prog 112 = some (1, false) := by kernel_rfl
@[simp] theorem tsz_112 : tsz Tryz.prog 112 = some 1 := by kernel_rfl
@[simp] theorem tzero_112 : tzero Tryz.prog 112 = some [.nilp] := by kernel_rfl
@[simp] theorem tby_112 : tby Tryz.prog 112 = some 8 := by kernel_rfl
@[simp] theorem tk_119 : tk Tryz.prog 119 = some (5, true) := by kernel_rfl
@[simp] theorem tsz_119 : tsz Tryz.prog 119 = some 5 := by kernel_rfl
@[simp] theorem tzero_119 : tzero Tryz.prog 119 = some [.int .i64 0, .int .i64 0, .int .i64 0, .str ByteArray.empty, .nilsl] := by kernel_rfl
@[simp] theorem tby_119 : tby Tryz.prog 119 = some 64 := by kernel_rfl
@[simp] theorem tfld_119_0 : tfld Tryz.prog 119 0 = some (0, 1, 3) := by kernel_rfl
@[simp] theorem tfld_119_1 : tfld Tryz.prog 119 1 = some (1, 1, 3) := by kernel_rfl
@[simp] theorem tfld_119_2 : tfld Tryz.prog 119 2 = some (2, 1, 3) := by kernel_rfl
@[simp] theorem tfld_119_3 : tfld Tryz.prog 119 3 = some (3, 1, 9) := by kernel_rfl
@[simp] theorem tfld_119_4 : tfld Tryz.prog 119 4 = some (4, 1, 86) := by kernel_rfl
@[simp] theorem tbuild_119 : tbuild Tryz.prog 119 = some ([.int .i64 0, .int .i64 0, .int .i64 0, .str ByteArray.empty, .nilsl], [(0, 1), (1, 1), (2, 1), (3, 1), (4, 1)]) := by kernel_rfl
@[simp] theorem tk_120 : tk Tryz.prog 120 = some (5, true) := by kernel_rfl
@[simp] theorem tsz_120 : tsz Tryz.prog 120 = some 5 := by kernel_rfl
@[simp] theorem tzero_120 : tzero Tryz.prog 120 = some [.int .i64 0, .int .i64 0, .int .i64 0, .str ByteArray.empty, .nilsl] := by kernel_rfl
@[simp] theorem tby_120 : tby Tryz.prog 120 = some 64 := by kernel_rfl
@[simp] theorem tfld_120_0 : tfld Tryz.prog 120 0 = some (0, 1, 3) := by kernel_rfl
@[simp] theorem tfld_120_1 : tfld Tryz.prog 120 1 = some (1, 1, 3) := by kernel_rfl
@[simp] theorem tfld_120_2 : tfld Tryz.prog 120 2 = some (2, 1, 3) := by kernel_rfl
@[simp] theorem tfld_120_3 : tfld Tryz.prog 120 3 = some (3, 1, 9) := by kernel_rfl
@[simp] theorem tfld_120_4 : tfld Tryz.prog 120 4 = some (4, 1, 86) := by kernel_rfl
@[simp] theorem tbuild_120 : tbuild Tryz.prog 120 = some ([.int .i64 0, .int .i64 0, .int .i64 0, .str ByteArray.empty, .nilsl], [(0, 1), (1, 1), (2, 1), (3, 1), (4, 1)]) := by kernel_rfl
@[simp] theorem tk_124 : tk Tryz.prog 124 = some (1, false) := by kernel_rfl
@[simp] theorem tsz_124 : tsz Tryz.prog 124 = some 1 := by kernel_rfl
@[simp] theorem tzero_124 : tzero Tryz.prog 124 = some [.nilif] := by kernel_rfl
@[simp] theorem tby_124 : tby Tryz.prog 124 = some 16 := by kernel_rfl
@[simp] theorem tk_125 : tk Tryz.prog 125 = some (1, false) := by kernel_rfl
@[simp] theorem tsz_125 : tsz Tryz.prog 125 = some 1 := by kernel_rfl
@[simp] theorem tzero_125 : tzero Tryz.prog 125 = some [.nilif] := by kernel_rfl
@[simp] theorem tby_125 : tby Tryz.prog 125 = some 16 := by kernel_rfl
@[simp] theorem tk_161 : tk Tryz.prog 161 = some (1, false) := by kernel_rfl
@[simp] theorem tsz_161 : tsz Tryz.prog 161 = some 1 := by kernel_rfl
@[simp] theorem tzero_161 : tzero Tryz.prog 161 = some [.nilsl] := by kernel_rfl
@[simp] theorem tby_161 : tby Tryz.prog 161 = some 24 := by kernel_rfl
@[simp] theorem telem_161 : telem Tryz.prog 161 = some 5 := by kernel_rfl
@[simp] theorem und_161 : Tryz.prog.underlying 161 = some (.slice 5) := by kernel_rfl
@[simp] theorem tk_165 : tk Tryz.prog 165 = some (1, false) := by kernel_rfl
@[simp] theorem tsz_165 : tsz Tryz.prog 165 = some 1 := by kernel_rfl
@[simp] theorem tzero_165 : tzero Tryz.prog 165 = some [.nilsl] := by kernel_rfl
@[simp] theorem tby_165 : tby Tryz.prog 165 = some 24 := by kernel_rfl
@[simp] theorem telem_165 : telem Tryz.prog 165 = some 38 := by kernel_rfl
@[simp] theorem und_165 : Tryz.prog.underlying 165 = some (.slice 38) := by kernel_rfl
@[simp] theorem tk_166 : tk Tryz.prog 166 = some (1, false) := by kernel_rfl
@[simp] theorem tsz_166 : tsz Tryz.prog 166 = some 1 := by kernel_rfl
@[simp] theorem tzero_166 : tzero Tryz.prog 166 = some [.int .i64 0] := by kernel_rfl
@[simp] theorem tby_166 : tby Tryz.prog 166 = some 8 := by kernel_rfl
@[simp] theorem und_166 : Tryz.prog.underlying 166 = some (.int .i64) := by kernel_rfl
@[simp] theorem tk_169 : tk Tryz.prog 169 = some (1, false) := by kernel_rfl
@[simp] theorem tsz_169 : tsz Tryz.prog 169 = some 1 := by kernel_rfl
@[simp] theorem tzero_169 : tzero Tryz.prog 169 = some [.nilp] := by kernel_rfl
@[simp] theorem tby_169 : tby Tryz.prog 169 = some 8 := by kernel_rfl
@[simp] theorem tk_173 : tk Tryz.prog 173 = some (1, false) := by kernel_rfl
@[simp] theorem tsz_173 : tsz Tryz.prog 173 = some 1 := by kernel_rfl
@[simp] theorem tzero_173 : tzero Tryz.prog 173 = some [.int .u64 0] := by kernel_rfl
@[simp] theorem tby_173 : tby Tryz.prog 173 = some 8 := by kernel_rfl
@[simp] theorem und_173 : Tryz.prog.underlying 173 = some (.int .u64) := by kernel_rfl
@[simp] theorem tk_174 : tk Tryz.prog 174 = some (24, true) := by kernel_rfl
@[simp] theorem tsz_174 : tsz Tryz.prog 174 = some 24 := by kernel_rfl
@[simp] theorem tzero_174 : tzero Tryz.prog 174 = some [.int .u8 0, .int .u8 0, .int .u8 0, .int .u8 0, .int .u8 0, .int .u8 0, .int .u8 0, .int .u8 0, .int .u8 0, .int .u8 0, .int .u8 0, .int .u8 0, .int .u8 0, .int .u8 0, .int .u8 0, .int .u8 0, .int .u8 0, .int .u8 0, .int .u8 0, .int .u8 0, .int .u8 0, .int .u8 0, .int .u8 0, .int .u8 0] := by kernel_rfl
@[simp] theorem tby_174 : tby Tryz.prog 174 = some 24 := by kernel_rfl
@[simp] theorem tk_175 : tk Tryz.prog 175 = some (1, false) := by kernel_rfl
@[simp] theorem tsz_175 : tsz Tryz.prog 175 = some 1 := by kernel_rfl
@[simp] theorem tzero_175 : tzero Tryz.prog 175 = some [.int .u64 0] := by kernel_rfl
@[simp] theorem tby_175 : tby Tryz.prog 175 = some 8 := by kernel_rfl
@[simp] theorem und_175 : Tryz.prog.underlying 175 = some (.int .u64) := by kernel_rfl
@[simp] theorem tk_183 : tk Tryz.prog 183 = some (3, true) := by kernel_rfl
@[simp] theorem tsz_183 : tsz Tryz.prog 183 = some 3 := by kernel_rfl
@[simp] theorem tzero_183 : tzero Tryz.prog 183 = some [.str ByteArray.empty, .str ByteArray.empty, .nilif] := by kernel_rfl
@[simp] theorem tby_183 : tby Tryz.prog 183 = some 48 := by kernel_rfl
@[simp] theorem tfld_183_0 : tfld Tryz.prog 183 0 = some (0, 1, 9) := by kernel_rfl
@[simp] theorem tfld_183_1 : tfld Tryz.prog 183 1 = some (1, 1, 9) := by kernel_rfl
@[simp] theorem tfld_183_2 : tfld Tryz.prog 183 2 = some (2, 1, 125) := by kernel_rfl
@[simp] theorem tbuild_183 : tbuild Tryz.prog 183 = some ([.str ByteArray.empty, .str ByteArray.empty, .nilif], [(0, 1), (1, 1), (2, 1)]) := by kernel_rfl
@[simp] theorem tk_184 : tk Tryz.prog 184 = some (3, true) := by kernel_rfl
@[simp] theorem tsz_184 : tsz Tryz.prog 184 = some 3 := by kernel_rfl
@[simp] theorem tzero_184 : tzero Tryz.prog 184 = some [.str ByteArray.empty, .str ByteArray.empty, .nilif] := by kernel_rfl
@[simp] theorem tby_184 : tby Tryz.prog 184 = some 48 := by kernel_rfl
@[simp] theorem tfld_184_0 : tfld Tryz.prog 184 0 = some (0, 1, 9) := by kernel_rfl
@[simp] theorem tfld_184_1 : tfld Tryz.prog 184 1 = some (1, 1, 9) := by kernel_rfl
@[simp] theorem tfld_184_2 : tfld Tryz.prog 184 2 = some (2, 1, 125) := by kernel_rfl
@[simp] theorem tbuild_184 : tbuild Tryz.prog 184 = some ([.str ByteArray.empty, .str ByteArray.empty, .nilif], [(0, 1), (1, 1), (2, 1)]) := by kernel_rfl
@[simp] theorem tk_186 : tk Tryz.prog 186 = some (256, true) := by kernel_rfl
@[simp] theorem tsz_186 : tsz Tryz.prog 186 = some 256 := by kernel_rfl
@[simp] theorem tzero_186 : tzero Tryz.prog 186 = some [.int .u8 0, .int .u8 0, .int .u8 0, .int .u8 0, .int .u8 0, .int .u8 0, .int .u8 0, .int .u8 0, .int .u8 0, .int .u8 0, .int .u8 0, .int .u8 0, .int .u8 0, .int .u8 0, .int .u8 0, .int .u8 0, .int .u8 0, .int .u8 0, .int .u8 0, .int .u8 0, .int .u8 0, .int .u8 0, .int .u8 0, .int .u8 0, .int .u8 0, .int .u8 0, .int .u8 0, .int .u8 0, .int .u8 0, .int .u8 0, .int .u8 0, .int .u8 0, .int .u8 0, .int .u8 0, .int .u8 0, .int .u8 0, .int .u8 0, .int .u8 0, .int .u8 0, .int .u8 0, .int .u8 0, .int .u8 0, .int .u8 0, .int .u8 0, .int .u8 0, .int .u8 0, .int .u8 0, .int .u8 0, .int .u8 0, .int .u8 0, .int .u8 0, .int .u8 0, .int .u8 0, .int .u8 0, .int .u8 0, .int .u8 0, .int .u8 0, .int .u8 0, .int .u8 0, .int .u8 0, .int .u8 0, .int .u8 0, .int .u8 0, .int .u8 0, .int .u8 0, .int .u8 0, .int .u8 0, .int .u8 0, .int .u8 0, .int .u8 0, .int .u8 0, .int .u8 0, .int .u8 0, .int .u8 0, .int .u8 0, .int .u8 0, .int .u8 0, .int .u8 0, .int .u8 0, .int .u8 0, .int .u8 0, .int .u8 0, .int .u8 0, .int .u8 0, .int .u8 0, .int .u8 0, .int .u8 0, .int .u8 0, .int .u8 0, .int .u8 0, .int .u8 0, .int .u8 0, .int .u8 0, .int .u8 0, .int .u8 0, .int .u8 0, .int .u8 0, .int .u8 0, .int .u8 0, .int .u8 0, .int .u8 0, .int .u8 0, .int .u8 0, .int .u8 0, .int .u8 0, .int .u8 0, .int .u8 0, .int .u8 0, .int .u8 0, .int .u8 0, .int .u8 0, .int .u8 0, .int .u8 0, .int .u8 0, .int .u8 0, .int .u8 0, .int .u8 0, .int .u8 0, .int .u8 0, .int .u8 0, .int .u8 0, .int .u8 0, .int .u8 0, .int .u8 0, .int .u8 0, .int .u8 0, .int .u8 0, .int .u8 0, .int .u8 0, .int .u8 0, .int .u8 0, .int .u8 0, .int .u8 0, .int .u8 0, .int .u8 0, .int .u8 0, .int .u8 0, .int .u8 0, .int .u8 0, .int .u8 0, .int .u8 0, .int .u8 0, .int .u8 0, .int .u8 0, .int .u8 0, .int .u8 0, .int .u8 0, .int .u8 0, .int .u8 0, .int .u8 0, .int .u8 0, .int .u8 0, .int .u8 0, .int .u8 0, .int .u8 0, .int .u8 0, .int .u8 0, .int .u8 0, .int .u8 0, .int .u8 0, .int .u8 0, .int .u8 0, .int .u8 0, .int .u8 0, .int .u8 0, .int .u8 0, .int .u8 0, .int .u8 0, .int .u8 0, .int .u8 0, .int .u8 0, .int .u8 0, .int .u8 0, .int .u8 0, .int .u8 0, .int .u8 0, .int .u8 0, .int .u8 0, .int .u8 0, .int .u8 0, .int .u8 0, .int .u8 0, .int .u8 0, .int .u8 0, .int .u8 0, .int .u8 0, .int .u8 0, .int .u8 0, .int .u8 0, .int .u8 0, .int .u8 0, .int .u8 0, .int .u8 0, .int .u8 0, .int .u8 0, .int .u8 0, .int .u8 0, .int .u8 0, .int .u8 0, .int .u8 0, .int .u8 0, .int .u8 0, .int .u8 0, .int .u8 0, .int .u8 0, .int .u8 0, .int .u8 0, .int .u8 0, .int .u8 0, .int .u8 0, .int .u8 0, .int .u8 0, .int .u8 0, .int .u8 0, .int .u8 0, .int .u8 0, .int .u8 0, .int .u8 0, .int .u8 0, .int .u8 0, .int .u8 0, .int .u8 0, .int .u8 0, .int .u8 0, .int .u8 0, .int .u8 0, .int .u8 0, .int .u8 0, .int .u8 0, .int .u8 0, .int .u8 0, .int .u8 0, .int .u8 0, .int .u8 0, .int .u8 0, .int .u8 0, .int .u8 0, .int .u8 0, .int .u8 0, .int .u8 0, .int .u8 0, .int .u8 0, .int .u8 0, .int .u8 0, .int .u8 0, .int .u8 0, .int .u8 0, .int .u8 0, .int .u8 0, .int .u8 0, .int .u8 0, .int .u8 0, .int .u8 0, .int .u8 0, .int .u8 0, .int .u8 0] := by kernel_rfl
@[simp] theorem tby_186 : tby Tryz.prog 186 = some 256 := by kernel_rfl
@[simp] theorem tk_187 : tk Tryz.prog 187 = some (2, true) := by kernel_rfl
@[simp] theorem tsz_187 : tsz Tryz.prog 187 = some 2 := by kernel_rfl
@[simp] theorem tzero_187 : tzero Tryz.prog 187 = some [.int .u8 0, .int .u8 0] := by kernel_rfl
@[simp] theorem tby_187 : tby Tryz.prog 187 = some 2 := by kernel_rfl
@[simp] theorem tfld_187_0 : tfld Tryz.prog 187 0 = some (0, 1, 5) := by kernel_rfl
@[simp] theorem tfld_187_1 : tfld Tryz.prog 187 1 = some (1, 1, 5) := by kernel_rfl
@[simp] theorem tbuild_187 : tbuild Tryz.prog 187 = some ([.int .u8 0, .int .u8 0], [(0, 1), (1, 1)]) := by kernel_rfl
@[simp] theorem tkinds_187 : tkinds Tryz.prog 187 = some [.i, .i] := by kernel_rfl
@[simp] theorem tk_188 : tk Tryz.prog 188 = some (2, true) := by kernel_rfl
@[simp] theorem tsz_188 : tsz Tryz.prog 188 = some 2 := by kernel_rfl
@[simp] theorem tzero_188 : tzero Tryz.prog 188 = some [.int .u8 0, .int .u8 0] := by kernel_rfl
@[simp] theorem tby_188 : tby Tryz.prog 188 = some 2 := by kernel_rfl
@[simp] theorem tfld_188_0 : tfld Tryz.prog 188 0 = some (0, 1, 5) := by kernel_rfl
@[simp] theorem tfld_188_1 : tfld Tryz.prog 188 1 = some (1, 1, 5) := by kernel_rfl
@[simp] theorem tbuild_188 : tbuild Tryz.prog 188 = some ([.int .u8 0, .int .u8 0], [(0, 1), (1, 1)]) := by kernel_rfl
@[simp] theorem tkinds_188 : tkinds Tryz.prog 188 = some [.i, .i] := by kernel_rfl
@[simp] theorem tk_189 : tk Tryz.prog 189 = some (32, true) := by kernel_rfl
@[simp] theorem tsz_189 : tsz Tryz.prog 189 = some 32 := by kernel_rfl
@[simp] theorem tzero_189 : tzero Tryz.prog 189 = some [.int .u8 0, .int .u8 0, .int .u8 0, .int .u8 0, .int .u8 0, .int .u8 0, .int .u8 0, .int .u8 0, .int .u8 0, .int .u8 0, .int .u8 0, .int .u8 0, .int .u8 0, .int .u8 0, .int .u8 0, .int .u8 0, .int .u8 0, .int .u8 0, .int .u8 0, .int .u8 0, .int .u8 0, .int .u8 0, .int .u8 0, .int .u8 0, .int .u8 0, .int .u8 0, .int .u8 0, .int .u8 0, .int .u8 0, .int .u8 0, .int .u8 0, .int .u8 0] := by kernel_rfl
@[simp] theorem tby_189 : tby Tryz.prog 189 = some 32 := by kernel_rfl
@[simp] theorem tk_190 : tk Tryz.prog 190 = some (1, false) := by kernel_rfl
@[simp] theorem tsz_190 : tsz Tryz.prog 190 = some 1 := by kernel_rfl
@[simp] theorem tzero_190 : tzero Tryz.prog 190 = some [.int .u32 0] := by kernel_rfl
@[simp] theorem tby_190 : tby Tryz.prog 190 = some 4 := by kernel_rfl
@[simp] theorem und_190 : Tryz.prog.underlying 190 = some (.int .u32) := by kernel_rfl
@[simp] theorem tk_194 : tk Tryz.prog 194 = some (20, true) := by kernel_rfl
@[simp] theorem tsz_194 : tsz Tryz.prog 194 = some 20 := by kernel_rfl
@[simp] theorem tzero_194 : tzero Tryz.prog 194 = some [.int .u64 0, .int .u64 0, .int .u64 0, .int .u64 0, .int .u64 0, .int .u64 0, .int .u64 0, .int .u64 0, .int .u64 0, .int .u64 0, .int .u64 0, .int .u64 0, .int .u64 0, .int .u64 0, .int .u64 0, .int .u64 0, .int .u64 0, .int .u64 0, .int .u64 0, .int .u64 0] := by kernel_rfl
@[simp] theorem tby_194 : tby Tryz.prog 194 = some 160 := by kernel_rfl
@[simp] theorem tk_195 : tk Tryz.prog 195 = some (65, true) := by kernel_rfl
@[simp] theorem tsz_195 : tsz Tryz.prog 195 = some 65 := by kernel_rfl
@[simp] theorem tzero_195 : tzero Tryz.prog 195 = some [.int .u8 0, .int .u8 0, .int .u8 0, .int .u8 0, .int .u8 0, .int .u8 0, .int .u8 0, .int .u8 0, .int .u8 0, .int .u8 0, .int .u8 0, .int .u8 0, .int .u8 0, .int .u8 0, .int .u8 0, .int .u8 0, .int .u8 0, .int .u8 0, .int .u8 0, .int .u8 0, .int .u8 0, .int .u8 0, .int .u8 0, .int .u8 0, .int .u8 0, .int .u8 0, .int .u8 0, .int .u8 0, .int .u8 0, .int .u8 0, .int .u8 0, .int .u8 0, .int .u8 0, .int .u8 0, .int .u8 0, .int .u8 0, .int .u8 0, .int .u8 0, .int .u8 0, .int .u8 0, .int .u8 0, .int .u8 0, .int .u8 0, .int .u8 0, .int .u8 0, .int .u8 0, .int .u8 0, .int .u8 0, .int .u8 0, .int .u8 0, .int .u8 0, .int .u8 0, .int .u8 0, .int .u8 0, .int .u8 0, .int .u8 0, .int .u8 0, .int .u8 0, .int .u8 0, .int .u8 0, .int .u8 0, .int .u8 0, .int .u8 0, .int .u8 0, .int .u8 0] := by kernel_rfl
@[simp] theorem tby_195 : tby Tryz.prog 195 = some 65 := by kernel_rfl
@[simp] theorem tk_198 : tk Tryz.prog 198 = some (1, false) := by kernel_rfl
@[simp] theorem tsz_198 : tsz Tryz.prog 198 = some 1 := by kernel_rfl
@[simp] theorem tzero_198 : tzero Tryz.prog 198 = some [.nilp] := by kernel_rfl
@[simp] theorem tby_198 : tby Tryz.prog 198 = some 8 := by kernel_rfl
@[simp] theorem tk_199 : tk Tryz.prog 199 = some (1, false) := by kernel_rfl
@[simp] theorem tsz_199 : tsz Tryz.prog 199 = some 1 := by kernel_rfl
@[simp] theorem tzero_199 : tzero Tryz.prog 199 = some [.nilp] := by kernel_rfl
@[simp] theorem tby_199 : tby Tryz.prog 199 = some 8 := by kernel_rfl
@[simp] theorem tk_200 : tk Tryz.prog 200 = some (1, true) := by kernel_rfl
@[simp] theorem tsz_200 : tsz Tryz.prog 200 = some 1 := by kernel_rfl
@[simp] theorem tzero_200 : tzero Tryz.prog 200 = some [.str ByteArray.empty] := by kernel_rfl
@[simp] theorem tby_200 : tby Tryz.prog 200 = some 16 := by kernel_rfl
@[simp] theorem tfld_200_0 : tfld Tryz.prog 200 0 = some (0, 1, 9) := by kernel_rfl
@[simp] theorem tbuild_200 : tbuild Tryz.prog 200 = some ([.str ByteArray.empty], [(0, 1)]) := by kernel_rfl
@[simp] theorem tkinds_200 : tkinds Tryz.prog 200 = some [.s] := by kernel_rfl
@[simp] theorem tk_201 : tk Tryz.prog 201 = some (1, true) := by kernel_rfl
@[simp] theorem tsz_201 : tsz Tryz.prog 201 = some 1 := by kernel_rfl
@[simp] theorem tzero_201 : tzero Tryz.prog 201 = some [.str ByteArray.empty] := by kernel_rfl
@[simp] theorem tby_201 : tby Tryz.prog 201 = some 16 := by kernel_rfl
@[simp] theorem tfld_201_0 : tfld Tryz.prog 201 0 = some (0, 1, 9) := by kernel_rfl
@[simp] theorem tbuild_201 : tbuild Tryz.prog 201 = some ([.str ByteArray.empty], [(0, 1)]) := by kernel_rfl
@[simp] theorem tkinds_201 : tkinds Tryz.prog 201 = some [.s] := by kernel_rfl
@[simp] theorem tk_203 : tk Tryz.prog 203 = some (32, true) := by kernel_rfl
@[simp] theorem tsz_203 : tsz Tryz.prog 203 = some 32 := by kernel_rfl
@[simp] theorem tzero_203 : tzero Tryz.prog 203 = some [.int .u8 0, .int .u8 0, .int .u8 0, .int .u8 0, .int .u8 0, .int .u8 0, .int .u8 0, .int .u8 0, .int .u8 0, .int .u8 0, .int .u8 0, .int .u8 0, .int .u8 0, .int .u8 0, .int .u8 0, .int .u8 0, .int .u8 0, .int .u8 0, .int .u8 0, .int .u8 0, .int .u8 0, .int .u8 0, .int .u8 0, .int .u8 0, .int .u8 0, .int .u8 0, .int .u8 0, .int .u8 0, .int .u8 0, .int .u8 0, .int .u8 0, .int .u8 0] := by kernel_rfl
@[simp] theorem tby_203 : tby Tryz.prog 203 = some 32 := by kernel_rfl
@[simp] theorem tk_204 : tk Tryz.prog 204 = some (64, true) := by kernel_rfl
@[simp] theorem tsz_204 : tsz Tryz.prog 204 = some 64 := by kernel_rfl
@[simp] theorem tzero_204 : tzero Tryz.prog 204 = some [.int .u8 0, .int .u8 0, .int .u8 0, .int .u8 0, .int .u8 0, .int .u8 0, .int .u8 0, .int .u8 0, .int .u8 0, .int .u8 0, .int .u8 0, .int .u8 0, .int .u8 0, .int .u8 0, .int .u8 0, .int .u8 0, .int .u8 0, .int .u8 0, .int .u8 0, .int .u8 0, .int .u8 0, .int .u8 0, .int .u8 0, .int .u8 0, .int .u8 0, .int .u8 0, .int .u8 0, .int .u8 0, .int .u8 0, .int .u8 0, .int .u8 0, .int .u8 0, .int .u8 0, .int .u8 0, .int .u8 0, .int .u8 0, .int .u8 0, .int .u8 0, .int .u8 0, .int .u8 0, .int .u8 0, .int .u8 0, .int .u8 0, .int .u8 0, .int .u8 0, .int .u8 0, .int .u8 0, .int .u8 0, .int .u8 0, .int .u8 0, .int .u8 0, .int .u8 0, .int .u8 0, .int .u8 0, .int .u8 0, .int .u8 0, .int .u8 0, .int .u8 0, .int .u8 0, .int .u8 0, .int .u8 0, .int .u8 0, .int .u8 0, .int .u8 0] := by kernel_rfl
@[simp] theorem tby_204 : tby Tryz.prog 204 = some 64 := by kernel_rfl
@[simp] theorem tk_205 : tk Tryz.prog 205 = some (4, true) := by kernel_rfl
@[simp] theorem tsz_205 : tsz Tryz.prog 205 = some 4 := by kernel_rfl
@[simp] theorem tzero_205 : tzero Tryz.prog 205 = some [.nilp, .nilp, .nilp, .str ByteArray.empty] := by kernel_rfl
@[simp] theorem tby_205 : tby Tryz.prog 205 = some 40 := by kernel_rfl
@[simp] theorem tfld_205_0 : tfld Tryz.prog 205 0 = some (0, 1, 17) := by kernel_rfl
@[simp] theorem tfld_205_1 : tfld Tryz.prog 205 1 = some (1, 1, 17) := by kernel_rfl
@[simp] theorem tfld_205_2 : tfld Tryz.prog 205 2 = some (2, 1, 17) := by kernel_rfl
@[simp] theorem tfld_205_3 : tfld Tryz.prog 205 3 = some (3, 1, 9) := by kernel_rfl
@[simp] theorem tbuild_205 : tbuild Tryz.prog 205 = some ([.nilp, .nilp, .nilp, .str ByteArray.empty], [(0, 1), (1, 1), (2, 1), (3, 1)]) := by kernel_rfl
@[simp] theorem tk_206 : tk Tryz.prog 206 = some (4, true) := by kernel_rfl
@[simp] theorem tsz_206 : tsz Tryz.prog 206 = some 4 := by kernel_rfl
@[simp] theorem tzero_206 : tzero Tryz.prog 206 = some [.nilp, .nilp, .nilp, .str ByteArray.empty] := by kernel_rfl
@[simp] theorem tby_206 : tby Tryz.prog 206 = some 40 := by kernel_rfl
@[simp] theorem tfld_206_0 : tfld Tryz.prog 206 0 = some (0, 1, 17) := by kernel_rfl
@[simp] theorem tfld_206_1 : tfld Tryz.prog 206 1 = some (1, 1, 17) := by kernel_rfl
@[simp] theorem tfld_206_2 : tfld Tryz.prog 206 2 = some (2, 1, 17) := by kernel_rfl
@[simp] theorem tfld_206_3 : tfld Tryz.prog 206 3 = some (3, 1, 9) := by kernel_rfl
@[simp] theorem tbuild_206 : tbuild Tryz.prog 206 = some ([.nilp, .nilp, .nilp, .str ByteArray.empty], [(0, 1), (1, 1), (2, 1), (3, 1)]) := by kernel_rfl
@[simp] theorem tk_207 : tk Tryz.prog 207 = some (0, true) := by kernel_rfl
@[simp] theorem tsz_207 : tsz Tryz.prog 207 = some 0 := by kernel_rfl
@[simp] theorem tzero_207 : tzero Tryz.prog 207 = some [] := by kernel_rfl
@[simp] theorem tby_207 : tby Tryz.prog 207 = some 0 := by kernel_rfl
@[simp] theorem tk_208 : tk Tryz.prog 208 = some (0, true) := by kernel_rfl
@[simp] theorem tsz_208 : tsz Tryz.prog 208 = some 0 := by kernel_rfl
@[simp] theorem tzero_208 : tzero Tryz.prog 208 = some [] := by kernel_rfl
@[simp] theorem tby_208 : tby Tryz.prog 208 = some 0 := by kernel_rfl
@[simp] theorem tfld_208_0 : tfld Tryz.prog 208 0 = some (0, 0, 207) := by kernel_rfl
@[simp] theorem tbuild_208 : tbuild Tryz.prog 208 = some ([], [(0, 0)]) := by kernel_rfl
@[simp] theorem tk_209 : tk Tryz.prog 209 = some (0, true) := by kernel_rfl
@[simp] theorem tsz_209 : tsz Tryz.prog 209 = some 0 := by kernel_rfl
@[simp] theorem tzero_209 : tzero Tryz.prog 209 = some [] := by kernel_rfl
@[simp] theorem tby_209 : tby Tryz.prog 209 = some 0 := by kernel_rfl
@[simp] theorem tfld_209_0 : tfld Tryz.prog 209 0 = some (0, 0, 207) := by kernel_rfl
@[simp] theorem tbuild_209 : tbuild Tryz.prog 209 = some ([], [(0, 0)]) := by kernel_rfl
@[simp] theorem tk_210 : tk Tryz.prog 210 = some (1, false) := by kernel_rfl
@[simp] theorem tsz_210 : tsz Tryz.prog 210 = some 1 := by kernel_rfl
@[simp] theorem tzero_210 : tzero Tryz.prog 210 = some [.int .u8 0] := by kernel_rfl
@[simp] theorem tby_210 : tby Tryz.prog 210 = some 1 := by kernel_rfl
@[simp] theorem und_210 : Tryz.prog.underlying 210 = some (.int .u8) := by kernel_rfl
@[simp] theorem tk_211 : tk Tryz.prog 211 = some (1, false) := by kernel_rfl
@[simp] theorem tsz_211 : tsz Tryz.prog 211 = some 1 := by kernel_rfl
@[simp] theorem tzero_211 : tzero Tryz.prog 211 = some [.int .u8 0] := by kernel_rfl
@[simp] theorem tby_211 : tby Tryz.prog 211 = some 1 := by kernel_rfl
@[simp] theorem und_211 : Tryz.prog.underlying 211 = some (.int .u8) := by kernel_rfl
@[simp] theorem tk_213 : tk Tryz.prog 213 = some (1, false) := by kernel_rfl
@[simp] theorem tsz_213 : tsz Tryz.prog 213 = some 1 := by kernel_rfl
@[simp] theorem tzero_213 : tzero Tryz.prog 213 = some [.int .i32 0] := by kernel_rfl
@[simp] theorem tby_213 : tby Tryz.prog 213 = some 4 := by kernel_rfl
@[simp] theorem und_213 : Tryz.prog.underlying 213 = some (.int .i32) := by kernel_rfl
@[simp] theorem tk_214 : tk Tryz.prog 214 = some (1, false) := by kernel_rfl
@[simp] theorem tsz_214 : tsz Tryz.prog 214 = some 1 := by kernel_rfl
@[simp] theorem tzero_214 : tzero Tryz.prog 214 = some [.int .i32 0] := by kernel_rfl
@[simp] theorem tby_214 : tby Tryz.prog 214 = some 4 := by kernel_rfl
@[simp] theorem und_214 : Tryz.prog.underlying 214 = some (.int .i32) := by kernel_rfl
@[simp] theorem tk_217 : tk Tryz.prog 217 = some (1, false) := by kernel_rfl
@[simp] theorem tsz_217 : tsz Tryz.prog 217 = some 1 := by kernel_rfl
@[simp] theorem tzero_217 : tzero Tryz.prog 217 = some [.nilp] := by kernel_rfl
@[simp] theorem tby_217 : tby Tryz.prog 217 = some 8 := by kernel_rfl
theorem mixed : Tryz.prog.follows .mixedOrders = true := by kernel_rfl
theorem laid : laidOutB Tryz.prog = true := by kernel_rfl
end Go.Proofs.YtmcmgeedhbgglaaGreatDoor.AM

set_option linter.unusedVariables false
set_option linter.unusedSimpArgs false
set_option maxRecDepth 4000
namespace Go.Proofs.YtmcmgeedhbgglaaGreatDoor.AM
open Go.RowKit Go.Shelf

/-- The kit's numbers, led to this program's. -/
def laysItoa_ren : Go.Shelf.Ren := ⟨fun | 171 => 85 | 243 => 124 | 246 => 150 | 283 => 163 | 284 => 164 | 285 => 165 | 286 => 166 | 129 => 173 | 317 => 172 | 318 => 174 | 319 => 175 | 320 => 176 | 337 => 180 | 338 => 181 | n => n, fun | 3 => 3 | 9 => 9 | 2 => 2 | 4 => 4 | 171 => 174 | 0 => 0 | 53 => 175 | 37 => 161 | 5 => 5 | 173 => 178 | 212 => 194 | 51 => 190 | 20 => 20 | 213 => 195 | 46 => 173 | 232 => 203 | 233 => 204 | n => n, fun | 17 => 5 | 18 => 6 | 19 => 7 | n => n⟩
theorem laysItoa : LaysM.n171 Tryz.prog laysItoa_ren where
  mixed := by kernel_rfl
  f129 := Tryz.func173.trans (congrArg some (by kernel_rfl))
  f171 := Tryz.func85.trans (congrArg some (by kernel_rfl))
  f243 := Tryz.func124.trans (congrArg some (by kernel_rfl))
  f246 := Tryz.func150.trans (congrArg some (by kernel_rfl))
  f283 := Tryz.func163.trans (congrArg some (by kernel_rfl))
  f284 := Tryz.func164.trans (congrArg some (by kernel_rfl))
  f285 := Tryz.func165.trans (congrArg some (by kernel_rfl))
  f286 := Tryz.func166.trans (congrArg some (by kernel_rfl))
  f317 := Tryz.func172.trans (congrArg some (by kernel_rfl))
  f318 := Tryz.func174.trans (congrArg some (by kernel_rfl))
  f319 := Tryz.func175.trans (congrArg some (by kernel_rfl))
  f320 := Tryz.func176.trans (congrArg some (by kernel_rfl))
  f337 := Tryz.func180.trans (congrArg some (by kernel_rfl))
  f338 := Tryz.func181.trans (congrArg some (by kernel_rfl))
  t0 := Tryz.underlying0
  a0 := Tryz.isAgg0
  z0 := Tryz.sizeOf0
  v0 := Tryz.zeroValue0
  t2 := Tryz.underlying2
  a2 := Tryz.isAgg2
  z2 := Tryz.sizeOf2
  v2 := Tryz.zeroValue2
  t3 := Tryz.underlying3
  a3 := Tryz.isAgg3
  z3 := Tryz.sizeOf3
  v3 := Tryz.zeroValue3
  t4 := Tryz.underlying4
  a4 := Tryz.isAgg4
  z4 := Tryz.sizeOf4
  v4 := Tryz.zeroValue4
  t5 := Tryz.underlying5
  a5 := Tryz.isAgg5
  z5 := Tryz.sizeOf5
  v5 := Tryz.zeroValue5
  t9 := Tryz.underlying9
  a9 := Tryz.isAgg9
  z9 := Tryz.sizeOf9
  v9 := Tryz.zeroValue9
  t20 := Tryz.underlying20
  a20 := Tryz.isAgg20
  z20 := Tryz.sizeOf20
  v20 := Tryz.zeroValue20
  t37 := Tryz.underlying161
  a37 := Tryz.isAgg161
  z37 := Tryz.sizeOf161
  v37 := Tryz.zeroValue161
  t46 := Tryz.underlying173
  a46 := Tryz.isAgg173
  z46 := Tryz.sizeOf173
  v46 := Tryz.zeroValue173
  t51 := Tryz.underlying190
  a51 := Tryz.isAgg190
  z51 := Tryz.sizeOf190
  v51 := Tryz.zeroValue190
  t53 := Tryz.underlying175
  a53 := Tryz.isAgg175
  z53 := Tryz.sizeOf175
  v53 := Tryz.zeroValue175
  t171 := Tryz.underlying174
  a171 := Tryz.isAgg174
  z171 := Tryz.sizeOf174
  v171 := Tryz.zeroValue174
  t173 := Tryz.underlying178
  a173 := Tryz.isAgg178
  z173 := Tryz.sizeOf178
  v173 := Tryz.zeroValue178
  t212 := Tryz.underlying194
  a212 := Tryz.isAgg194
  z212 := Tryz.sizeOf194
  v212 := Tryz.zeroValue194
  t213 := Tryz.underlying195
  a213 := Tryz.isAgg195
  z213 := Tryz.sizeOf195
  t232 := Tryz.underlying203
  a232 := Tryz.isAgg203
  z232 := Tryz.sizeOf203
  v232 := Tryz.zeroValue203
  t233 := Tryz.underlying204
  a233 := Tryz.isAgg204
  z233 := Tryz.sizeOf204
  v233 := Tryz.zeroValue204
  g17 := by kernel_rfl
  g18 := by kernel_rfl
  g19 := by kernel_rfl
  i0 := by kernel_rfl
  i2 := by kernel_rfl
  i3 := by kernel_rfl
  i4 := by kernel_rfl
  i5 := by kernel_rfl
  i9 := by kernel_rfl
  i20 := by kernel_rfl
  i37 := by kernel_rfl
  i46 := by kernel_rfl
  i51 := by kernel_rfl
  i53 := by kernel_rfl
  i171 := by kernel_rfl
  i173 := by kernel_rfl
  i212 := by kernel_rfl
  i232 := by kernel_rfl
  i233 := by kernel_rfl
  m17 := by kernel_rfl
  m18 := by kernel_rfl
  m19 := by kernel_rfl

theorem tab_pow {mu : Nm → Nat → Option Loc} {pr : Bool → Nat → Prop} {h : Hp} {w : World} (R : Rel mu pr h w) : Go.Lib.TabIs Tryz.prog w "internal/strconv.uint64pow10" .u64 Go.Lib.pow10Tab := by
  obtain ⟨_, arr, ty, fr, hb, ha⟩ := R.tab 5 _ (by simp only [tabs]; exact List.mem_cons_self ..)
  subst ha
  have hg : Tryz.prog.globalNamed "internal/strconv.uint64pow10" = some 5 := by kernel_rfl
  simp only [Go.Lib.TabIs, World.var?, hg]
  simp [hb]
theorem below_grow {w : World} (k : Nat) (os : Array Obj) : Below w.heap.size w (Sort.grow (w.drewN k) os) :=
  ⟨rfl, rfl, rfl, by show w.heap.size ≤ (w.heap ++ os).size; simp, fun i hi => by
    show (w.heap ++ os)[i]? = _
    rw [Array.getElem?_append_left hi]⟩
/-- strconv.Itoa: the decimal numeral, for every number. -/
theorem itoaS (n : Int) (h0 : -9223372036854775808 ≤ n) (h1 : n ≤ 9223372036854775807) (h : Hp) : Sound Tryz.prog 85 [.int .i64 n] h fun v h' => v = .str (itoaT n) ∧ h' = h := by
  refine sound_lib Tryz.func85 rfl rfl fun mu pr w vs R hv => ?_
  obtain ⟨u, rfl⟩ : ∃ u, vs = [u] := by
    match vs, hv.1 with
    | [u], _ => exact ⟨u, rfl⟩
  obtain rfl : u = .int .i64 n := by
    obtain ⟨u', h1, h2⟩ := hv.2 0 _ rfl
    simp at h1
    subst h1
    cases h2
    rfl
  have C := Any.strconv_Itoa laysItoa n h0 h1 w (tab_pow R)
  refine Calls.mono (R := _) C ?_
  rintro e w' ⟨rfl, k, os, rfl⟩
  exact ⟨_, rfl, fun pr' hp => .str _, below_grow k os⟩
theorem itoaP (n : Int) (h0 : -9223372036854775808 ≤ n) (h1 : n ≤ 9223372036854775807) : Pure Tryz.prog 85 [.int .i64 n] (.str (itoaT n)) := fun T =>
  (itoaS n h0 h1 _).mono fun v h' ⟨e, _⟩ => by rw [e]; exact .str _
end Go.Proofs.YtmcmgeedhbgglaaGreatDoor.AM

namespace Go.Proofs.YtmcmgeedhbgglaaGreatDoor.AM
open Go.RowKit

private def MU1 : FuncId → Mode := fun f => if f = 999999 then .fresh else if f = 22 then .heap else .tree

theorem wrap_id {n : Int} (h1 : -9223372036854775808 ≤ n) (h2 : n ≤ 9223372036854775807) : IntKind.i64.wrap n = n := by
  simp [IntKind.wrap, IntKind.bits, IntKind.signed]
  omega
def marks (k : Int) (n : Nat) : List Int := (List.range n).map fun (i : Nat) => k + (i : Int)
theorem marks_length (k : Int) (n : Nat) : (marks k n).length = n := by simp [marks]
theorem marks_get {k : Int} {n i : Nat} (h : i < n) : (marks k n)[i]? = some (k + i) := by simp [marks, h]

theorem eqIntS (xs : List Int) (hl : xs.length ≤ 2 ^ 62) : Pure Tryz.prog 20 [ints true xs, ints true xs] (.bool true) := by
  intro T
  refine enter mixed MU1 Tryz.func20 rfl (by kernel_rfl) rfl ?_
  repeat' (first | (with_reducible first | refine stp ?_ | refine k_blk_o rfl ?_ | refine k_seq_n ?_) | ((try (conv => arg 1; simp [ints])); with_reducible refine evp ?_) | fail)
  repeat' (first | (with_reducible first | refine stp ?_ | refine k_blk_o rfl ?_ | refine k_seq_n ?_) | ((try (conv => arg 1; simp [ints])); with_reducible refine evp ?_) | fail)
  refine st_loop (fun (i : Nat) σ h => i ≤ xs.length ∧ σ 0 = ints true xs ∧ σ 1 = ints true xs ∧ σ 5 = .int .i64 i) (fun i => xs.length - i) 0 ?init ?step
  case init =>
    simp [putA_get, envOf_0, envOf_1]
  case step =>
    rintro i σ h ⟨hi, h0, h1, h5⟩
    repeat' (first | (with_reducible first | refine stp ?_ | refine k_blk_o rfl ?_ | refine k_seq_n ?_) | ((try (conv => arg 1; simp [ints, h0, h5])); with_reducible refine evp ?_) | fail)
    (try with_reducible refine st_if ?_)
    (try (conv => arg 1; simp [ints]))
    (try with_reducible refine at_mk ?_)
    refine ⟨fun hb => ?_, fun hb => ?_⟩
    · have hlt : i < xs.length := by simpa using hb
      have hx : xs[i]? = some (xs[i]) := by simp
      have hw : IntKind.i64.wrap (i + 1) = i + 1 := wrap_id (by omega) (by omega)
      repeat' (first | (with_reducible first | refine stp ?_ | refine k_blk_o rfl ?_ | refine k_seq_n ?_) | ((try (conv => arg 1; simp [ints])); with_reducible refine evp ?_) | fail)
      repeat (with_reducible first | refine stp ?_ | refine k_seq_n ?_)
      refine st_draw 9 (fun _ => false) (by kernel_rfl) ?_
      simp only [List.take_succ_cons, List.take_zero, List.drop_succ_cons, List.drop_zero, List.take_nil, List.drop_nil]
      repeat' (first | (with_reducible first | refine stp ?_ | refine k_blk_o rfl ?_ | refine k_seq_n ?_) | ((try (conv => arg 1; simp [ints, h0, h1, h5, hx, hw])); with_reducible refine evp ?_) | ((with_reducible refine apn ?na ?_); (case na => simp [appNames, ints, intss] <;> first | kernel_rfl | (refine ⟨?_, ?_⟩ <;> kernel_rfl))) | fail)
      repeat' (first | (with_reducible first | refine stp ?_ | refine k_blk_o rfl ?_ | refine k_seq_n ?_) | ((try (conv => arg 1; simp [h5, hw])); with_reducible refine evp ?_) | ((with_reducible refine apn ?na ?_); (case na => simp [appNames, ints, intss] <;> first | kernel_rfl | (refine ⟨?_, ?_⟩ <;> kernel_rfl))) | fail)
      refine k_lp_n (i + 1) (by omega) ⟨by omega, by simp [putA_get, putA_none, h0], by simp [putA_get, putA_none, h1], by simp [putA_get, putA_none, h5]⟩
    · skip
      repeat' (first | (with_reducible first | refine stp ?_ | refine k_blk_o rfl ?_ | refine k_seq_n ?_) | ((try (conv => arg 1; simp [ints])); with_reducible refine evp ?_) | ((with_reducible refine apn ?na ?_); (case na => simp [appNames, ints, intss] <;> first | kernel_rfl | (refine ⟨?_, ?_⟩ <;> kernel_rfl))) | fail)
      exact .bool true

theorem heldIntS (n : Nat) (k : Int) (hk : 0 ≤ k) (hl : k + n ≤ 2 ^ 62) : Pure Tryz.prog 24 [ints true (marks k n), .int .i64 k] (.int .i64 (k + n)) := by
  intro T
  refine enter mixed MU1 Tryz.func24 rfl (by kernel_rfl) rfl ?_
  repeat' (first | (with_reducible first | refine stp ?_ | refine k_blk_o rfl ?_ | refine k_seq_n ?_) | ((try (conv => arg 1; simp [ints])); with_reducible refine evp ?_) | fail)
  refine st_loop (fun (i : Nat) σ h => i ≤ n ∧ σ 0 = ints true (marks k n) ∧ σ 1 = .int .i64 (k + i) ∧ σ 5 = .int .i64 i) (fun i => n - i) 0 ?init ?step
  case init =>
    simp [putA_get, envOf_0, envOf_1]
  case step =>
    rintro i σ h ⟨hi, h0, h1, h5⟩
    repeat' (first | (with_reducible first | refine stp ?_ | refine k_blk_o rfl ?_ | refine k_seq_n ?_) | ((try (conv => arg 1; simp [ints, h0, h5, marks_length])); with_reducible refine evp ?_) | fail)
    (try with_reducible refine st_if ?_)
    (try (conv => arg 1; simp [ints]))
    (try with_reducible refine at_mk ?_)
    refine ⟨fun hb => ?_, fun hb => ?_⟩
    · have hlt : i < n := by simpa using hb
      have hw : IntKind.i64.wrap (i + 1) = i + 1 := wrap_id (by omega) (by omega)
      have hw2 : IntKind.i64.wrap (k + i + 1) = k + i + 1 := wrap_id (by omega) (by omega)
      repeat' (first | (with_reducible first | refine stp ?_ | refine k_blk_o rfl ?_ | refine k_seq_n ?_) | ((try (conv => arg 1; simp [ints, h0, h1, h5, hlt, marks_get hlt, hw, hw2])); with_reducible refine evp ?_) | fail)
      repeat' (first | (with_reducible first | refine stp ?_ | refine k_blk_o rfl ?_ | refine k_seq_n ?_) | ((try (conv => arg 1; simp [h1, h5, hw, hw2])); with_reducible refine evp ?_) | fail)
      refine k_lp_n (i + 1) (by omega) ⟨by omega, by simp [putA_get, putA_none, h0], by simp [putA_get, putA_none, h1]; omega, by simp [putA_get, putA_none, h5]⟩
    · have : i = n := by simp at hb; omega
      subst this
      repeat' (first | (with_reducible first | refine stp ?_ | refine k_blk_o rfl ?_ | refine k_seq_n ?_) | ((try (conv => arg 1; simp [ints, h1])); with_reducible refine evp ?_) | fail)
      exact .int _ _

/-- What owns a slice of whole numbers. -/
theorem own_ints_inv {rows : Nm → Option Row} {a : AV} {xs : List Int} {ns : List Nm} (h : Own rows true [a] [ints true xs] ns) :
    (xs = [] ∧ (∀ c, Own rows c [a] [ints c []] ns) ∧ ((a = .nilsl ∧ ns = []) ∨ ∃ n ver off, a = .sl n ver off 0 ∧ ns = [n])) ∨
    (∃ n ver pre sp, a = .sl n ver pre.length xs.length ∧ ns = [n] ∧ rows n = some ⟨ver, 1, pre ++ ((xs.map fun x => [.int .i64 x]) ++ sp)⟩ ∧ (∀ e ∈ pre, e.length = 1) ∧ (∀ e ∈ sp, e.length = 1) ∧ ClRow ⟨ver, 1, pre⟩ ∧ ClRow ⟨ver, 1, sp⟩) := by
  unfold ints at h
  generalize hm : (xs.map fun n => [AV.int .i64 n]) = tm at h
  cases h with
  | nilsl h =>
    cases h
    exact .inl ⟨by simpa using hm, fun c => .nilsl .nil, .inl ⟨rfl, rfl⟩⟩
  | @sl _ _ ns1 ns2 n ver len s r _ h1 h2 h3 h4 h5 h6 h7 h8 h9 h10 =>
    cases h10
    have flat : ∀ (ys : List Int) (bs : List AV) (ns : List Nm), Own rows true bs (ys.map fun n => [AV.int .i64 n]).flatten ns → ns = [] ∧ bs = (ys.map fun n => [AV.int .i64 n]).flatten := by
      intro ys
      induction ys with
      | nil => intro bs ns h; cases h; exact ⟨rfl, rfl⟩
      | cons y ys ih =>
        intro bs ns h
        simp only [List.map_cons, List.flatten_cons, List.cons_append, List.nil_append] at h
        cases h with
        | int _ _ h => obtain ⟨e1, e2⟩ := ih _ _ h; exact ⟨e1, by simp [e2]⟩
    subst hm
    obtain ⟨e1, e2⟩ := flat xs _ _ h9
    subst e1
    have hlen : xs.length = len := by simpa using h7
    cases xs with
    | nil =>
      left
      simp at hlen
      subst hlen
      exact ⟨rfl, fun c => .sl n ver 0 s r [] h1 h2 h3 h4 h5 h6 rfl (by simp) (by simpa using Own.nil) .nil, .inr ⟨n, ver, 0, rfl, by simp⟩⟩
    | cons x xs =>
      right
      have hs : s = 1 := by
        have := h8 [.int .i64 x] (by simp)
        simpa using this.symm
      subst hs
      have key : ∀ (l : List (List AV)) (ys : List Int), (∀ e ∈ l, e.length = 1) → l.flatten = (ys.map fun n => [AV.int .i64 n]).flatten → l = ys.map fun n => [AV.int .i64 n] := by
        intro l
        induction l with
        | nil => intro ys _ he; cases ys with
          | nil => rfl
          | cons _ _ => simp at he
        | cons e l ih =>
          intro ys hl he
          have h1 := hl e (by simp)
          match e, h1 with
          | [v], _ =>
            cases ys with
            | nil => simp at he
            | cons y ys =>
              simp only [List.flatten_cons, List.map_cons, List.cons_append, List.nil_append, List.cons.injEq] at he
              rw [he.1, ih ys (fun e he => hl e (by simp [he])) he.2]
              rfl
      have e3 := key _ (x :: xs) (fun e he => h6 e (List.mem_of_mem_take he)) e2
      obtain ⟨ver', esz', elems⟩ := r
      simp only at h2 h3 e3 h6 h4 h5
      subst h2 h3
      refine ⟨n, ver', [], elems.drop len, by rw [hlen]; rfl, by simp, ?_, by simp, fun e he => h6 e (List.mem_of_mem_drop he), fun i e j x he hx => by simp at he, fun i e j x he hx => ?_⟩
      · rw [h1, List.nil_append, ← e3, List.take_append_drop]
      · refine h4 (len + i) e j x ?_ hx
        simpa [List.getElem?_drop] using he
  | slo n ver pre sp ys h1 h2 h3 h4 h5 h6 =>
    cases h6
    have hxy : ys = xs := by
      have h7 := congrArg (List.map fun l : List AV => match l with | [AV.int _ z] => z | _ => 0) hm
      simp only [List.map_map] at h7
      have e : ((fun l : List AV => match l with | [AV.int _ z] => z | _ => 0) ∘ fun n : Int => [AV.int IntKind.i64 n]) = id := funext fun z => rfl
      rw [e, List.map_id, List.map_id] at h7
      exact h7.symm
    subst hxy
    cases ys with
    | nil => exact .inl ⟨rfl, fun c => .slo n ver pre sp [] h1 h2 h3 h4 h5 .nil, .inr ⟨n, ver, _, rfl, rfl⟩⟩
    | cons y ys => exact .inr ⟨n, ver, pre, sp, rfl, rfl, h1, h4, h5, h2, h3⟩

theorem own_ints_mk {rows : Nm → Option Row} {n : Nm} {ver : Nat} {xs : List Int} {pre sp : List (List AV)} (h : rows n = some ⟨ver, 1, pre ++ ((xs.map fun x => [.int .i64 x]) ++ sp)⟩) (h0 : ∀ e ∈ pre, e.length = 1) (h1 : ∀ e ∈ sp, e.length = 1) (h3 : ClRow ⟨ver, 1, pre⟩) (h2 : ClRow ⟨ver, 1, sp⟩) {c : Bool} : Own rows c [.sl n ver pre.length xs.length] [ints c xs] [n] :=
  .slo n ver pre sp xs h h3 h2 h0 h1 .nil

theorem mid_get {α : Type} {pre l sp : List α} {i : Nat} (hi : i < l.length) : (pre ++ (l ++ sp))[pre.length + i]? = l[i]? := by
  rw [List.getElem?_append_right (by omega), Nat.add_sub_cancel_left, List.getElem?_append_left hi]
theorem mid_set {α : Type} {pre l sp : List α} {i : Nat} {e : α} (hi : i < l.length) : (pre ++ (l ++ sp)).set (pre.length + i) e = pre ++ (l.set i e ++ sp) := by
  rw [List.set_append, if_neg (by omega), Nat.add_sub_cancel_left, List.set_append, if_pos hi]

/-- Marked: the rows are the same ones, what they hold are marks. -/
theorem markIntS {h : Hp} {a : AV} {xs : List Int} {ns : List Nm} (ho : Own h.rows true [a] [ints true xs] ns) (hns : ∀ n ∈ ns, n.1 < h.tick) (k : Int) (hk : 0 ≤ k) (hl : k + xs.length ≤ 2 ^ 62) :
    Sound Tryz.prog 22 [a, .int .i64 k] h fun v h' => v = .int .i64 (k + xs.length) ∧ (∀ c, Own h'.rows c [a] [ints c (marks k xs.length)] ns) ∧ (∀ n, n ∉ ns → h'.rows n = h.rows n) ∧ h.tick ≤ h'.tick := by
  rcases own_ints_inv ho with ⟨rfl, hc, hx⟩ | ⟨n, ver, pre, sp, rfl, rfl, hr, hpr, hsp, hcp, hcl⟩
  · rcases hx with ⟨rfl, rfl⟩ | ⟨n, ver, off, rfl, rfl⟩
    all_goals
      refine enter mixed MU1 Tryz.func22 rfl (by kernel_rfl) rfl ?_
      repeat' (first | (with_reducible first | refine stp ?_ | refine k_blk_o rfl ?_ | refine k_seq_n ?_) | ((try (conv => arg 1; simp [ints])); with_reducible refine evp ?_) | fail)
      refine st_loop (fun (i : Nat) σ h' => (∃ a, (a = .nilsl ∨ ∃ n ver off, a = .sl n ver off 0) ∧ σ 0 = a) ∧ σ 1 = .int .i64 k ∧ σ 5 = .int .i64 0 ∧ h'.rows = h.rows ∧ h.tick ≤ h'.tick) (fun i => 0) 0 ?init ?step
      case init =>
        refine ⟨⟨_, ?_, rfl⟩, by simp [putA_get, envOf_1], by simp [putA_get, opd, avc, avc1], by simp [hp_next_rows], by simp [hp_next_tick] <;> omega⟩
        simp [putA_get, envOf_0]
      case step =>
        rintro i σ h' ⟨⟨a, ha, h0⟩, h1, h5, h6, h7⟩
        rcases ha with rfl | ⟨n, ver, off, rfl⟩
        all_goals
          repeat' (first | (with_reducible first | refine stp ?_ | refine k_blk_o rfl ?_ | refine k_seq_n ?_) | ((try (conv => arg 1; simp [h0, h1, h5])); with_reducible refine evp ?_) | fail)
          repeat' (first | (with_reducible first | refine stp ?_ | refine k_blk_o rfl ?_ | refine k_seq_n ?_) | ((try (conv => arg 1; simp [h0, h1, h5])); with_reducible refine evp ?_) | fail)
          refine ⟨by simp [resV], fun c => ?_, fun n _ => by simp [hp_next_rows, h6], by simp [hp_next_tick]; omega⟩
          exact (hc c).congr fun n _ => by simp [hp_next_rows, h6]
  · have hn : n.1 < h.tick := hns n (by simp)
    refine enter mixed MU1 Tryz.func22 rfl (by kernel_rfl) rfl ?_
    repeat' (first | (with_reducible first | refine stp ?_ | refine k_blk_o rfl ?_ | refine k_seq_n ?_) | ((try (conv => arg 1; simp [ints])); with_reducible refine evp ?_) | fail)
    refine st_loop (fun (i : Nat) σ h' => i ≤ xs.length ∧ σ 0 = .sl n ver pre.length xs.length ∧ σ 1 = .int .i64 (k + i) ∧ σ 5 = .int .i64 i ∧ h.tick ≤ h'.tick ∧ (∀ m, m ≠ n → h'.rows m = h.rows m) ∧
      ∃ ys : List Int, ys.length = xs.length ∧ ys.take i = (marks k xs.length).take i ∧ h'.rows n = some ⟨ver, 1, pre ++ ((ys.map fun x => [.int .i64 x]) ++ sp)⟩) (fun i => xs.length - i) 0 ?init ?step
    case init =>
      refine ⟨Nat.zero_le _, by simp [putA_get, envOf_0], by simp [putA_get, envOf_1], by simp [putA_get, opd, avc, avc1], by simp [hp_next_tick]; omega, fun m _ => by simp [hp_next_rows], xs, rfl, rfl, by simpa [hp_next_rows] using hr⟩
    case step =>
      rintro i σ h' ⟨hi, h0, h1, h5, ht, hoth, ys, hy, hyi, hr'⟩
      repeat' (first | (with_reducible first | refine stp ?_ | refine k_blk_o rfl ?_ | refine k_seq_n ?_) | ((try (conv => arg 1; simp [h0, h1, h5])); with_reducible refine evp ?_) | fail)
      (try with_reducible refine st_if ?_)
      (try (conv => arg 1; simp [h0]))
      (try with_reducible refine at_mk ?_)
      refine ⟨fun hb => ?_, fun hb => ?_⟩
      · have hlt : i < xs.length := by simpa using hb
        have hy2 : (pre ++ ((ys.map fun x => [AV.int .i64 x]) ++ sp))[pre.length + i]? = some [.int .i64 (ys[i]'(by omega))] := by
          rw [mid_get (by simp; omega)]
          simp
        generalize hes : pre ++ ((ys.map fun x => [AV.int .i64 x]) ++ sp) = es at hr' hy2
        have ht2 : n.1 < h'.tick + 1 + 1 := by omega
        have hw : IntKind.i64.wrap (i + 1) = i + 1 := wrap_id (by omega) (by omega)
        have hw2 : IntKind.i64.wrap (k + i + 1) = k + i + 1 := wrap_id (by omega) (by omega)
        repeat' (first | (with_reducible first | refine stp ?_ | refine k_blk_o rfl ?_ | refine k_seq_n ?_) | ((try (conv => arg 1; simp [h0, h1, h5, hr', hlt, hy2, ht2, hw, hw2])); with_reducible refine evp ?_) | fail)
        refine k_lp_n (i + 1) (by omega) ⟨by omega, by simp [putA_get, putA_none, h0], by simp [putA_get, putA_none, h1]; omega, by simp [putA_get, putA_none, h5], by simp [hp_next_tick, hp_put_tick, hp_mt_tick]; omega, fun m hm => by simp [hp_next_rows, hp_rows_put, hm, hoth m hm], ys.set i (k + i), by simp [hy], ?_, ?_⟩
        · rw [List.take_add_one, List.take_add_one, marks_get hlt]
          simp [hyi, hy, hlt, List.take_set_of_le]
        · simp [hp_next_rows, hp_rows_put, ← hes, mid_set (show i < (ys.map fun x => [AV.int .i64 x]).length by simp; omega), List.map_set]
      · have hge : i = xs.length := by simp at hb; omega
        repeat' (first | (with_reducible first | refine stp ?_ | refine k_blk_o rfl ?_ | refine k_seq_n ?_) | ((try (conv => arg 1; simp [h0, h1, h5])); with_reducible refine evp ?_) | fail)
        have e1 : ys = marks k xs.length := by
          subst hge
          rw [List.take_of_length_le (by omega), List.take_of_length_le (by simp [marks_length])] at hyi
          exact hyi
        refine ⟨by simp [resV, hge], fun c => ?_, fun m hm => by simpa [hp_next_rows] using hoth m (by simpa using hm), by simp [hp_next_tick]; omega⟩
        have := own_ints_mk (rows := h'.rows) (n := n) (ver := ver) (xs := marks k xs.length) (pre := pre) (sp := sp) (by rw [← e1]; exact hr') hpr hsp hcp hcl (c := c)
        rw [marks_length] at this
        exact this.congr fun m _ => by simp [hp_next_rows]
end Go.Proofs.YtmcmgeedhbgglaaGreatDoor.AM

namespace Go.Proofs.YtmcmgeedhbgglaaGreatDoor.AM
open Go.RowKit

theorem own_one {rows : Nm → Option Row} {c : Bool} {v t : AV} {ns : List Nm} (h : Own rows c [v] [t] ns) : v.one = true ∧ v.stored = true ∧ v.cells = [v] := by
  cases h <;> exact ⟨rfl, rfl, rfl⟩

theorem ownV_ints {rows : Nm → Option Row} {c : Bool} {v : AV} {xs : List Int} {ns : List Nm} (h : OwnV rows c v (ints c xs) ns) : Own rows c [v] [ints c xs] ns := by
  cases h with
  | one h => exact h

theorem dr_agg {c : Bool} {rows : Nm → Option Row} {as' ts : List AV} (h : DRs c rows as' ts) : DR c rows (.agg as') (.agg ts) := .agg _ _ h.1 h.2

theorem dr_ptr0 {c : Bool} {rows : Nm → Option Row} {n : Nm} {ver : Nat} {r : Row} {cs ts : List AV} (h1 : rows n = some r) (h2 : r.ver = ver) (h3 : r.elems[0]? = some cs) (h : DRs c rows cs ts) : DR c rows (.ptr n ver 0 0) (.tptr c ts) :=
  .ptr n ver 0 0 r cs ts h1 h2 h3 (by simpa using h.1) (fun j x y hx hy => h.2 j x y (by simpa using hx) hy)

theorem own_cons1 {rows : Nm → Option Row} {b : Bool} {l ts : List AV} {t : AV} {ns : List Nm} (h : Own rows b l (t :: ts) ns) : ∃ w l' n1 n2, l = w :: l' ∧ ns = n1 ++ n2 ∧ Own rows b [w] [t] n1 ∧ Own rows b l' ts n2 := by
  have hl := h.length
  match l, hl, h with
  | w :: l', hl, h =>
    obtain ⟨n1, n2, e, o1, o2⟩ := Own.split (as1 := [w]) (ts1 := [t]) (as2 := l') (ts2 := ts) h rfl
    exact ⟨w, l', n1, n2, rfl, e, o1, o2⟩

def cl1 (xs : List Int) : List (List AV) := xs.map fun x => [.int .i64 x]

section
variable {h h' : Hp} {bs bs' : Bx} {os : Ox} {n : Nm} {r r' : Row}
theorem Cx.box_drop {x : Nm × Row} (c : Cx h (x :: bs) os) : Cx h bs os := by
  refine ⟨fun y hy => c.box y (by simp [hy]), c.own, ?_, fun m hm => c.lt m ?_⟩
  · have := c.nd
    rw [show x = (x.1, x.2) from rfl, nms_box] at this
    exact (List.nodup_cons.1 this).2
  · rw [show x = (x.1, x.2) from rfl, nms_box]
    exact List.mem_cons_of_mem _ hm
end

/-- Whole numbers in a row, with what lies ahead and behind. -/
def ir (ver : Nat) (pre : List (List AV)) (xs : List Int) (sp : List (List AV)) : Row := ⟨ver, 1, pre ++ (cl1 xs ++ sp)⟩
structure IrOk (ver : Nat) (pre sp : List (List AV)) : Prop where
  h0 : ∀ e ∈ pre, e.length = 1
  h1 : ∀ e ∈ sp, e.length = 1
  h2 : ClRow ⟨ver, 1, pre⟩
  h3 : ClRow ⟨ver, 1, sp⟩
theorem ir_get {pre sp : List (List AV)} {xs : List Int} {i : Nat} (hi : i < xs.length) : (pre ++ (cl1 xs ++ sp))[pre.length + i]? = some [.int .i64 xs[i]] := by
  rw [mid_get (by simpa [cl1] using hi)]
  simp [cl1, hi]
theorem ir_set {pre sp : List (List AV)} {xs : List Int} {i : Nat} {y : Int} (hi : i < xs.length) : (pre ++ (cl1 xs ++ sp)).set (pre.length + i) [.int .i64 y] = pre ++ (cl1 (xs.set i y) ++ sp) := by
  rw [mid_set (by simpa [cl1] using hi)]
  simp [cl1, List.map_set]
theorem ir_ver {ver : Nat} {pre sp : List (List AV)} {xs : List Int} : (ir ver pre xs sp).ver = ver := Eq.refl _
theorem ir_esz {ver : Nat} {pre sp : List (List AV)} {xs : List Int} : (ir ver pre xs sp).esz = 1 := Eq.refl _
theorem ir_elems {ver : Nat} {pre sp : List (List AV)} {xs : List Int} : (ir ver pre xs sp).elems = pre ++ (cl1 xs ++ sp) := Eq.refl _
theorem ir_mk {ver : Nat} {pre sp : List (List AV)} {xs : List Int} : (⟨ver, 1, pre ++ (cl1 xs ++ sp)⟩ : Row) = ir ver pre xs sp := Eq.refl _

section
variable {h h' : Hp} {bs bs' : Bx} {os : Ox} {n k : Nm} {r r2 : Row} {T i j : Nat} {v w : AV} {ns : List Nm}
theorem Cx.open_ints {xs : List Int} (x : Cx h bs ((w, (fun b => ints b xs), ns) :: os)) (hx : 0 < xs.length) : ∃ k ver pre sp, w = .sl k ver pre.length xs.length ∧ ns = [k] ∧ IrOk ver pre sp ∧ Cx h ((k, ir ver pre xs sp) :: bs) os := by
  rcases own_ints_inv (own_of (x.o0 true) rfl) with ⟨rfl, _, _⟩ | ⟨k, ver, pre, sp, rfl, rfl, hr, h1, h2, h3, h4⟩
  · simp at hx
  · refine ⟨k, ver, pre, sp, rfl, rfl, ⟨h1, h2, h3, h4⟩, ?_, fun y hy => x.own y (by simp [hy]), ?_, fun m hm => x.lt m ?_⟩
    · intro y hy
      simp only [List.mem_cons] at hy
      rcases hy with rfl | hy
      · exact hr
      · exact x.box y hy
    · have := x.nd
      simp only [nms, List.map_cons, List.flatten_cons] at this ⊢
      exact (List.Perm.nodup_iff (by simp)).1 this
    · simp only [nms, List.map_cons, List.flatten_cons, List.mem_append, List.mem_cons] at hm ⊢
      rcases hm with (rfl | hm) | hm
      · simp
      · exact .inl hm
      · exact .inr (.inr hm)
theorem Cx.close_ints {ver : Nat} {pre sp : List (List AV)} {xs : List Int} (x : Cx h ((k, ir ver pre xs sp) :: bs) os) (q : IrOk ver pre sp) : Cx h bs ((.sl k ver pre.length xs.length, (fun b => ints b xs), [k]) :: os) := by
  refine ⟨fun y hy => x.box y (by simp [hy]), fun y hy b => ?_, ?_, fun m hm => x.lt m ?_⟩
  · simp only [List.mem_cons] at hy
    rcases hy with rfl | hy
    · exact .one (own_ints_mk x.b0 q.h0 q.h1 q.h2 q.h3)
    · exact x.own y hy b
  · have := x.nd
    simp only [nms, List.map_cons, List.flatten_cons] at this ⊢
    exact (List.Perm.nodup_iff (by simp)).2 this
  · simp only [nms, List.map_cons, List.flatten_cons, List.mem_append, List.mem_cons] at hm ⊢
    rcases hm with hm | (hm | hm) | hm
    · exact .inl (.inr hm)
    · exact .inl (.inl hm)
    · simp at hm
    · exact .inr hm

/-- A tick not below another one. -/
class GeT (t T : Nat) : Prop where
  le : t ≤ T
instance : GeT T T := ⟨Nat.le_refl _⟩
instance {t T : Nat} [g : GeT t T] : GeT t (T + 1) := ⟨Nat.le_succ_of_le g.le⟩
/-- What of a context is left behind a run. -/
class CxE (h : Hp) (bs : Bx) (os : Ox) (h' : Hp) (bs' : outParam Bx) : Prop where
  cx : Cx h bs os → Cx h' bs' os
  nm : bs'.map (·.1) = bs.map (·.1)
  tk : h.tick ≤ h'.tick
theorem Cx.to (x : Cx h bs os) [e : CxE h bs os h' bs'] : Cx h' bs' os := e.cx x
instance (priority := low) : CxE h bs os h bs := ⟨id, rfl, Nat.le_refl _⟩
instance [e : CxE h bs os h' bs'] : CxE h bs os h'.next bs' := ⟨fun x => (e.cx x).next, e.nm, by rw [hp_next_tick]; exact Nat.le_succ_of_le e.tk⟩
instance [g : GeT h.tick T] [e : CxE h bs os h' bs'] : CxE h bs os (h'.put (T, i, j) r) bs' := ⟨fun x => (e.cx x).put_junk (fun hm => by
    have hl := x.lt (T, i, j) (by
      simp only [nms, List.mem_append] at hm ⊢
      rw [← e.nm]
      exact hm)
    have := g.le
    simp only at hl
    omega), e.nm, by rw [hp_put_tick]; exact e.tk⟩
instance [e : CxE h bs os h' ((n, r) :: bs')] : CxE h bs os (h'.put n r2) ((n, r2) :: bs') := ⟨fun x => (e.cx x).box_set, e.nm, by rw [hp_put_tick]; exact e.tk⟩
instance {a : Nm × Row} [e : CxE h bs os h' (a :: (n, r) :: bs')] : CxE h bs os (h'.put n r2) (a :: (n, r2) :: bs') := ⟨fun x => (e.cx x).box_set1, e.nm, by rw [hp_put_tick]; exact e.tk⟩
instance {a b : Nm × Row} [e : CxE h bs os h' (a :: b :: (n, r) :: bs')] : CxE h bs os (h'.put n r2) (a :: b :: (n, r2) :: bs') := ⟨fun x => (e.cx x).box_set2, e.nm, by rw [hp_put_tick]; exact e.tk⟩
theorem Cx.box_set3 {a b c : Nm × Row} (x : Cx h (a :: b :: c :: (n, r) :: bs) os) : Cx (h.put n r2) (a :: b :: c :: (n, r2) :: bs) os := ((x.bperm (List.perm_middle (l₁ := [a, b, c]))).box_set (r' := r2)).bperm (List.perm_middle (l₁ := [a, b, c])).symm
theorem Cx.box_set4 {a b c d : Nm × Row} (x : Cx h (a :: b :: c :: d :: (n, r) :: bs) os) : Cx (h.put n r2) (a :: b :: c :: d :: (n, r2) :: bs) os := ((x.bperm (List.perm_middle (l₁ := [a, b, c, d]))).box_set (r' := r2)).bperm (List.perm_middle (l₁ := [a, b, c, d])).symm
instance {a b c : Nm × Row} [e : CxE h bs os h' (a :: b :: c :: (n, r) :: bs')] : CxE h bs os (h'.put n r2) (a :: b :: c :: (n, r2) :: bs') := ⟨fun x => (e.cx x).box_set3, e.nm, by rw [hp_put_tick]; exact e.tk⟩
instance {a b c d : Nm × Row} [e : CxE h bs os h' (a :: b :: c :: d :: (n, r) :: bs')] : CxE h bs os (h'.put n r2) (a :: b :: c :: d :: (n, r2) :: bs') := ⟨fun x => (e.cx x).box_set4, e.nm, by rw [hp_put_tick]; exact e.tk⟩

/-- The boxes, one by one. -/
def Bxs (h : Hp) : Bx → Prop
  | [] => True
  | (n, r) :: bs => h.rows n = some r ∧ n.1 < h.tick ∧ Bxs h bs
theorem Bxs.of : ∀ {bs : Bx}, (∀ y ∈ bs, h.rows y.1 = some y.2 ∧ y.1.1 < h.tick) → Bxs h bs
  | [], _ => trivial
  | (n, r) :: bs, p => ⟨(p (n, r) (by simp)).1, (p (n, r) (by simp)).2, Bxs.of fun y hy => p y (by simp [hy])⟩
theorem Cx.bxs (x : Cx h bs os) : Bxs h bs := Bxs.of fun y hy => ⟨x.box y hy, x.lt _ (mem_box hy)⟩
/-- Names apart. -/
def Aps : List Nm → Prop
  | [] => True
  | n :: l => (∀ m ∈ l, n ≠ m ∧ m ≠ n) ∧ Aps l
theorem Aps.of : ∀ {l : List Nm}, l.Nodup → Aps l
  | [], _ => trivial
  | n :: l, p => ⟨fun m hm => ⟨fun e => (List.nodup_cons.1 p).1 (e ▸ hm), fun e => (List.nodup_cons.1 p).1 (e ▸ hm)⟩, Aps.of (List.nodup_cons.1 p).2⟩
theorem Cx.aps (x : Cx h bs os) : Aps (bs.map (·.1)) := Aps.of (List.nodup_append.1 x.nd).1
end
theorem nm_ne {n : Nm} {t i j : Nat} (h : n.1 < t) : (n = (t, i, j)) = False := eq_false fun e => by rw [e] at h; exact Nat.lt_irrefl _ h
theorem nm_ne' {n : Nm} {t i j : Nat} (h : n.1 < t) : ((t, i, j) = n) = False := eq_false fun e => by rw [← e] at h; exact Nat.lt_irrefl _ h
theorem tk_ne {a t : Nat} (h : a < t) : (a = t) = False := eq_false (Nat.ne_of_lt h)
theorem tk_ne' {a t : Nat} (h : a < t) : (t = a) = False := eq_false (Nat.ne_of_gt h)

theorem cx_kg {P : Program} {M : FuncId → Mode} {C : CS} {D : Array Oper → (Nat → AV) → Hp → ((Nat → AV) → Hp → Prop) → Prop} {σ : Nat → AV} {K : Ex → (Nat → AV) → Hp → Prop} {h : Hp} {bs : Bx} {os : Ox} (F : Hp → Prop) {b : Code} (c : Cx h bs os) (f : F h) (k : ∀ h', Cx h' bs os → F h' → wpC P M C D b σ h' K) : KSeq P M C D b K .normal σ h := k h c f

/-- A row keeps its elements' size. -/
def Eszs (h h' : Hp) : Prop := ∀ n r r', h.rows n = some r → h'.rows n = some r' → r'.ver = r.ver → r'.esz = r.esz

theorem Sound.esz {P : Program} {f : FuncId} {args : List AV} {h : Hp} {K : AV → Hp → Prop} (s : Sound P f args h K) : Sound P f args h fun v h' => K v h' ∧ Eszs h h' := by
  refine ⟨s.1, fun mu pr w vs R hv => (s.2 mu pr w vs R hv).mono fun e w' ⟨z, v, h', mu', pr', e1, k, r, A⟩ => ⟨z, v, h', mu', pr', e1, ⟨k, fun n r1 r2 g1 g2 g3 => ?_⟩, r, A⟩⟩
  obtain ⟨l, arr, ty, m1, _, _, z1, _⟩ := R.row n r1 g1
  obtain ⟨l', arr', ty', m2, _, _, z2, _⟩ := A.rel.row n r2 g2
  have := A.ext.names _ _ _ m1
  rw [g3, this] at m2
  cases m2
  omega

theorem Sound.tk {P : Program} {f : FuncId} {args : List AV} {h : Hp} {K : AV → Hp → Prop} (s : Sound P f args h K) : Sound P f args h fun v h' => K v h' ∧ h.tick ≤ h'.tick :=
  ⟨s.1, fun mu pr w vs R hv => (s.2 mu pr w vs R hv).mono fun e w' ⟨z, v, h', mu', pr', e1, k, r, A⟩ => ⟨z, v, h', mu', pr', e1, ⟨k, A.tick⟩, r, A⟩⟩

def zeros (n : Nat) : List Int := List.replicate n 0

theorem zeros_succ (n : Nat) : zeros (n + 1) = zeros n ++ [0] := by simp [zeros, List.replicate_succ']

/-- Onto a row that ends where the slice ends. -/
theorem appendA_ext {P : Program} {t : TypeId} {m n : Nm} {v len s : Nat} {x : AV} {h : Hp} {l : List (List AV)} (es : List (List AV)) (h0 : ((telem P t).bind fun e => (tsz P e).bind fun s => (tby P e).bind fun bb => (tzero P e).bind fun z => some (s, decide (0 < s ∧ bb ≤ 32768 ∧ z.length = s))) = some (s, true))
    (hr : h.rows m = some ⟨v, s, l⟩) (hlen : l.length = len) (hx : srcElems h.rows x = some es) (hes : ∀ e ∈ es, e.length = s) (hl : len + es.length ≤ 4294967296) (hm : decide (m.1 < h.tick) = true) :
    appendA P t (.sl m v 0 len) x h n = some (.sl m (v + if es = [] then 0 else 1) 0 (len + es.length), h.put m ⟨v + if es = [] then 0 else 1, s, l ++ es⟩) := by
  simp only [Option.bind_eq_some_iff] at h0
  obtain ⟨e', he', s', hs, bb, hb, z, hz, hd⟩ := h0
  simp only [Option.some.injEq, Prod.mk.injEq, decide_eq_true_eq] at hd
  obtain ⟨e1, hd1, hd2, hd3⟩ := hd
  rw [e1] at hs hd1 hd3
  subst hlen
  have hall : es.all (fun e => e.length == s) = true := by
    rw [List.all_eq_true]
    intro e he
    simpa using hes e he
  unfold appendA
  simp only [he', hx, hs, hb, hz]
  rw [if_pos ⟨hd1, hd2, hd3, hall⟩]
  simp only [hr]
  rw [if_pos ⟨trivial, trivial, by omega, hl, of_decide_eq_true hm⟩]
  cases es with
  | nil =>
    simp only [if_true, List.length_nil, Nat.add_zero, List.append_nil]
    congr 2
    obtain ⟨rows, tick⟩ := h
    simp only [Hp.put]
    congr 1
    funext k
    by_cases hk : k = m
    · rw [if_pos hk, hk]; exact hr
    · rw [if_neg hk]
  | cons e es =>
    have hnot : ¬ 0 + (l.length + (e :: es).length) ≤ l.length := by simp
    rw [if_neg (by simp), if_neg hnot]
    simp

/-- Onto nothing: a new row. -/
theorem appendA_nil1 {P : Program} {t : TypeId} {n k : Nm} {vk s : Nat} {h : Hp} {e : List AV} (h0 : ((telem P t).bind fun e => (tsz P e).bind fun s => (tby P e).bind fun bb => (tzero P e).bind fun z => some (s, decide (0 < s ∧ bb ≤ 32768 ∧ z.length = s))) = some (s, true))
    (hk : h.rows k = some ⟨vk, s, [e]⟩) (he : e.length = s) :
    appendA P t .nilsl (.sl k vk 0 1) h n = some (.sl n 0 0 1, h.put n ⟨0, s, [e]⟩) := by
  simp only [Option.bind_eq_some_iff] at h0
  obtain ⟨e', he', s', hs, bb, hb, z, hz, hd⟩ := h0
  simp only [Option.some.injEq, Prod.mk.injEq, decide_eq_true_eq] at hd
  obtain ⟨e1, hd1, hd2, hd3⟩ := hd
  rw [e1] at hs hd1 hd3
  unfold appendA
  have hsrc : srcElems h.rows (.sl k vk 0 1) = some [e] := by simp [srcElems, hk]
  rw [he', hsrc]
  simp only [hs, hb, hz]
  simp [he, hd1, hd2, hd3]

theorem own_src {rows : Nm → Option Row} {w : AV} {xs : List Int} {ns : List Nm} (o : Own rows true [w] [ints true xs] ns) : srcElems rows w = some (xs.map fun n => [.int .i64 n]) := by
  rcases own_ints_inv o with ⟨rfl, _, hx⟩ | ⟨n, ver, pre, sp, rfl, rfl, hr, h1, h2, h3, h4⟩
  · rcases hx with ⟨rfl, hns⟩ | ⟨n, ver, off, rfl, hns⟩
    · rfl
    · generalize ht : ints true [] = t at o
      generalize hv : AV.sl n ver off 0 = v at o
      cases o with
      | int => cases hv
      | bool => cases hv
      | str => cases hv
      | nilsl => cases hv
      | sl n' ver' len s r ts' g1 g2 g3 g4 g5 g6 g7 g8 g9 g10 => injection hv with e1 e2 e3 e4; subst e1 e2 e3 e4; simp [srcElems, g1, g2]
      | slo n' ver' pre sp zs g1 =>
        injection hv with e1 e2 e3 e4
        have hz : zs = [] := by cases zs with | nil => rfl | cons => simp at e4
        subst e1 e2 e3 hz
        simp [srcElems, g1]
  · simp [srcElems, hr]

theorem hp_put_same {h : Hp} {m : Nm} {r : Row} (hr : h.rows m = some r) : h.put m r = h := by
  obtain ⟨rows, tick⟩ := h
  simp only [Hp.put]
  congr 1
  funext k
  by_cases hk : k = m
  · rw [if_pos hk, hk]; exact hr.symm
  · rw [if_neg hk]

/-- Over the first places of a row of zeros. -/
theorem copyA_zeros {P : Program} {t : TypeId} {n : Nm} {v s : Nat} {h : Hp} {A : List Int} (h0 : ((telem P t).bind fun e => tsz P e) = some 1) (hr : h.rows n = some ⟨v, 1, cl1 (zeros s)⟩) (hA : A.length ≤ s) (hm : n.1 < h.tick) :
    copyA P t (.sl n v 0 s) (ints true A) h = some (.int .i64 A.length, h.put n ⟨v, 1, cl1 (A ++ zeros (s - A.length))⟩) := by
  simp only [Option.bind_eq_some_iff] at h0
  obtain ⟨e, he, hs⟩ := h0
  have hl : (A.map fun n => [AV.int .i64 n]).length = A.length := by simp
  have ht : (A.map fun n => [AV.int .i64 n]).take s = A.map fun n => [AV.int .i64 n] := List.take_of_length_le (by simpa using hA)
  have hall : (A.map fun n => [AV.int .i64 n]).all (fun e => e.length == 1) = true := by simp
  unfold copyA
  simp only [he, srcElems_ints, lenOfA, hs]
  rw [if_pos ⟨hall, Nat.one_pos⟩, ht]
  by_cases hA0 : A = []
  · subst hA0
    rw [if_pos (by simp)]
    have : h.put n ⟨v, 1, cl1 ([] ++ zeros (s - 0))⟩ = h := hp_put_same (by simpa using hr)
    simp only [List.length_nil]
    rw [this]
    rfl
  · rw [if_neg (by simpa using hA0)]
    have e2 : (cl1 (zeros s)).drop A.length = cl1 (zeros (s - A.length)) := by simp [cl1, zeros]
    simp only [overA, hr]
    rw [if_pos ⟨trivial, trivial, by simp [cl1, zeros], by simpa using hA, hm⟩]
    have e3 : (List.map (fun n => [AV.int IntKind.i64 n]) (zeros s)).drop A.length = List.map (fun n => [AV.int IntKind.i64 n]) (zeros (s - A.length)) := e2
    simp [e3, cl1]

def inB (n lo hi : Int) : Bool := decide (lo ≤ n) && decide (n ≤ hi)

theorem inB_nat {x k : Int} (h : inB x 0 k = true) : ∃ n : Nat, x = (n : Int) ∧ (n : Int) ≤ k := by
  simp only [inB, Bool.and_eq_true, decide_eq_true_eq] at h
  exact ⟨x.toNat, by omega, by omega⟩

theorem cx_kf {h : Hp} {bs : Bx} {os : Ox} {P : Program} {M : FuncId → Mode} {C : CS} {D : Array Oper → (Nat → AV) → Hp → ((Nat → AV) → Hp → Prop) → Prop} {σ : Nat → AV} {K : Ex → (Nat → AV) → Hp → Prop} (F : Hp → Prop) {b : Code} (c : Cx h bs os) (f : F h) (k : ∀ h', Cx h' bs os → F h' → wpC P M C D b σ h' K) : KSeq P M C D b K .normal σ h := k h c f
theorem dr_tup2 {c : Bool} {rows : Nm → Option Row} {a b t u : AV} (h1 : DR c rows a t) (h2 : DR c rows b u) : DR c rows (.tup [a, b]) (.tup [t, u]) := have h : DRs c rows [a, b] [t, u] := .cons h1 (.cons h2 .nil); .tup _ _ h.1 h.2
theorem av_oneX {P : Program} {t : TypeId} {d : TypeDesc} (h : P.underlying t = some d) (hd : (match d with | .struct _ => false | _ => true) = true) (c : AV) : avOf P t [c] = c := by
  unfold avOf
  rw [h]
  cases d <;> first | rfl | cases hd
end Go.Proofs.YtmcmgeedhbgglaaGreatDoor.AM

namespace Go.Proofs.YtmcmgeedhbgglaaGreatDoor.AM
open Go.RowKit

/-- A text by its bytes. -/
def bs (l : List UInt8) : ByteArray := ⟨l.toArray⟩
theorem bs_mk (a : Array UInt8) : (⟨a⟩ : ByteArray) = bs a.toList := Eq.refl _
theorem bs_app (a b : List UInt8) : bs a ++ bs b = bs (a ++ b) := by
  apply ByteArray.ext
  simp [bs]
theorem bs_size (l : List UInt8) : (bs l).size = l.length := by simp [bs, ByteArray.size]
theorem bs_empty : ByteArray.empty = bs [] := Eq.refl _
theorem bs_extract (l : List UInt8) (i j : Nat) : (bs l).extract i j = bs ((l.drop i).take (j - i)) := by
  apply ByteArray.ext
  simp [bs, ByteArray.data_extract]
theorem bs_toList (l : List UInt8) : (bs l).toList = l := by
  rw [ByteArray.toList_eq]
  simp [bs]
theorem bs_get (l : List UInt8) (k : Nat) : (bs l)[k]? = l[k]? := by
  by_cases h : k < l.length
  · have : k < (bs l).size := by rw [bs_size]; exact h
    rw [getElem?_pos (bs l) k this, getElem?_pos l k h]
    rfl
  · have : ¬ k < (bs l).size := by rw [bs_size]; exact h
    rw [getElem?_neg (bs l) k this, getElem?_neg l k h]
theorem bs_of (s : ByteArray) : ∃ l, s = bs l := ⟨s.data.toList, rfl⟩
theorem bs_inj {a b : List UInt8} (h : bs a = bs b) : a = b := by
  have := congrArg (fun s => s.data.toList) h
  simpa [bs] using this
theorem bs_data (l : List UInt8) : (bs l).data.toList = l := by simp [bs]
/-- A bound on a text's length, by its form. -/
class Bd (l : List UInt8) (n : outParam Nat) : Prop where
  le : l.length ≤ n
instance : Bd [] 0 := ⟨Nat.le_refl _⟩
instance {x : UInt8} {l : List UInt8} {n : Nat} [h : Bd l n] : Bd (x :: l) (n + 1) := ⟨Nat.succ_le_succ h.le⟩
instance {a b : List UInt8} {n m : Nat} [h : Bd a n] [k : Bd b m] : Bd (a ++ b) (n + m) := ⟨by rw [List.length_append]; exact Nat.add_le_add h.le k.le⟩
theorem cat_le {a b : List UInt8} {n m : Nat} [h : Bd a n] [k : Bd b m] (hs : n + m ≤ 4611686018427387904) : (9223372036854775807 < ((bs a).size : Int) + ((bs b).size : Int)) = False := by
  have := h.le; have := k.le
  rw [bs_size, bs_size]
  exact eq_false (by omega)
section
variable {P : Program} {rows : Nm → Option Row} {t : TypeId} {l : List UInt8} {k k' : IntKind}
theorem slice_fr {i : Int} (hu : P.underlying t = some .string) (h0 : 0 ≤ i) (h1 : i ≤ l.length) : sliceA P rows t (.str (bs l)) (some (.int k i)) none false = some (.str (bs (l.drop i.toNat))) := by
  simp only [sliceA, hu, bnd, if_pos h0, bs_size]
  rw [if_neg (by simp), if_pos (by omega), bs_extract, List.take_of_length_le (by simp)]
theorem slice_to {j : Int} (hu : P.underlying t = some .string) (h0 : 0 ≤ j) (h1 : j ≤ l.length) : sliceA P rows t (.str (bs l)) none (some (.int k j)) false = some (.str (bs (l.take j.toNat))) := by
  simp only [sliceA, hu, bnd, if_pos h0, bs_size]
  rw [if_neg (by simp), if_pos (by omega), bs_extract]
  simp
theorem slice_ft {i j : Int} (hu : P.underlying t = some .string) (h0 : 0 ≤ i) (h1 : i ≤ j) (h2 : j ≤ l.length) : sliceA P rows t (.str (bs l)) (some (.int k i)) (some (.int k' j)) false = some (.str (bs ((l.drop i.toNat).take (j.toNat - i.toNat)))) := by
  simp only [sliceA, hu, bnd, if_pos h0, if_pos (show 0 ≤ j by omega), bs_size]
  rw [if_neg (by simp), if_pos (by omega), bs_extract]
theorem index_bs {i : Int} (hu : P.underlying t = some .string) (h0 : 0 ≤ i) (h1 : i.toNat < l.length) : indexA P t (.str (bs l)) (.int k i) = some (.int .u8 l[i.toNat].toNat) := by
  simp [indexA, hu, if_pos h0, bs_get, h1]
end
/-- A number's decimal numeral, byte by byte. -/
def dg (n : Int) : List UInt8 := Go.Lib.itoa n
theorem itoaT_dg (n : Int) : itoaT n = bs (dg n) := rfl
theorem dg_len {n : Int} (h : I64 n) : (dg n).length ≤ 20 := by
  have := itoa_size h.1 h.2
  rwa [itoaT_dg, bs_size] at this
theorem bd_dg {n : Int} (h : I64 n) : Bd (dg n) 20 := ⟨dg_len h⟩
theorem itoaB (n : Int) (h : I64 n) : Pure Tryz.prog 85 [.int .i64 n] (.str (bs (dg n))) := itoaP n h.1 h.2
/-- Words with a blank ahead of each. -/
def sp (xs : List (List UInt8)) : List UInt8 := xs.flatMap fun x => 32 :: x
theorem sp_nil : sp [] = [] := rfl
theorem sp_cons (x : List UInt8) (xs : List (List UInt8)) : sp (x :: xs) = 32 :: (x ++ sp xs) := by simp [sp]
theorem sp_app (a b : List (List UInt8)) : sp (a ++ b) = sp a ++ sp b := by simp [sp]
theorem sp_len {xs : List (List UInt8)} {k : Nat} (h : ∀ x ∈ xs, x.length ≤ k) : (sp xs).length ≤ xs.length * (k + 1) := by
  induction xs with
  | nil => simp [sp]
  | cons x xs ih =>
    have h1 := h x (by simp)
    have h2 := ih fun y hy => h y (by simp [hy])
    rw [sp_cons, List.length_cons, List.length_append, List.length_cons, Nat.succ_mul]
    omega
end Go.Proofs.YtmcmgeedhbgglaaGreatDoor.AM

namespace Go.Proofs.YtmcmgeedhbgglaaGreatDoor.AM
open Go.RowKit

private def MD5 : FuncId → Mode := fun f => .tree

theorem dec_slice {P : Program} {rows : Nm → Option Row} {t : TypeId} {d : Nat} (hu : P.underlying t = some .string) (h : d < 10) : sliceA P rows t (.str (bs [48, 49, 50, 51, 52, 53, 54, 55, 56, 57])) (some (.int .i64 d)) (some (.int .i64 (d + 1))) false = some (.str (bs [UInt8.ofNat (48 + d)])) := by
  have : ∀ d : Fin 10, (([48, 49, 50, 51, 52, 53, 54, 55, 56, 57] : List UInt8).drop d).take 1 = [UInt8.ofNat (48 + d)] := by decide +kernel
  rw [slice_ft hu (by omega) (by omega) (by simp; omega), ← this ⟨d, h⟩]
  congr 4
  omega
/-- A number of a sign. -/
def sg (n : Int) (u : Nat) : Int := if n < 0 then -(u : Int) else u
theorem sg_self (n : Int) : sg n n.natAbs = n := by unfold sg; split <;> omega
theorem sg_quo (n : Int) (u : Nat) : (sg n u).tdiv 10 = sg n (u / 10) := by
  unfold sg
  split
  · rw [Int.neg_tdiv]
    congr 1
  · rfl
theorem sg_rem (n : Int) (u : Nat) : (sg n u).tmod 10 = sg n (u % 10) := by
  unfold sg
  split
  · rw [Int.neg_tmod]
    congr 1
  · rfl
theorem sg_zero (n : Int) (u : Nat) : sg n u = 0 ↔ u = 0 := by unfold sg; split <;> omega
theorem dg_dd {n : Int} (h : n ≠ 0) : dg n = (if n < 0 then [45] else []) ++ dd n.natAbs := by
  unfold dg
  rcases Int.lt_trichotomy n 0 with h1 | h1 | h1
  · rw [itoa_neg h1, if_pos h1]; rfl
  · exact absurd h1 h
  · rw [itoa_pos h1, if_neg (by omega)]; rfl
theorem dg_zero : dg 0 = [48] := bs_inj (by rw [← itoaT_dg, itoa_zero]; rfl)

theorem specDecText (n : Int) (h : I64 n) : Pure Tryz.prog 41 [.int .i64 n] (.str (bs (dg n))) := by
  intro T
  obtain ⟨hb1, hb2⟩ := h
  refine enter mixed MD5 Tryz.func41 rfl (by kernel_rfl) rfl ?_
  by_cases hz : n = 0
  · subst hz
    repeat' (first | (with_reducible first | refine stp ?_ | refine k_blk_o rfl ?_ | refine k_seq_n ?_) | ((try (conv => arg 1; simp [bs_mk])); with_reducible refine evp ?_) | fail)
    rw [dg_zero]
    exact .str _
  have hnd : (dd n.natAbs).length ≤ 19 := dd_len 19 _ (by omega)
  repeat' (first | (with_reducible first | refine stp ?_ | refine k_blk_o rfl ?_ | refine k_seq_n ?_) | ((try (conv => arg 1; simp [bs_mk, hz])); with_reducible refine evp ?_) | fail)
  refine st_loop (fun (u : Nat) σ h => ∃ out, dd n.natAbs = dd u ++ out ∧ u ≤ n.natAbs ∧ σ 0 = .int .i64 n ∧ σ 3 = .str (bs out) ∧ σ 4 = .int .i64 (sg n u)) (fun u => u) n.natAbs ?init ?step
  case init =>
    exact ⟨[], by simp, Nat.le_refl _, by simp [putA_get, envOf_0], by simp [putA_get, envOf_0, opd, avc, avc1, bs_empty, bs_mk], by simp [putA_get, envOf_0, opd, avc, avc1, sg_self]⟩
  case step =>
    rintro u σ h ⟨out, ho, hu, s0, s3, s4⟩
    by_cases hu0 : u = 0
    · subst hu0
      have e0 : sg n 0 = 0 := (sg_zero n 0).2 rfl
      rw [dd_zero, List.nil_append] at ho
      haveI : Bd out 19 := ⟨by rw [← ho]; exact hnd⟩
      by_cases hneg : n < 0
      · skip
        repeat' (first | (with_reducible first | refine stp ?_ | refine k_blk_o rfl ?_ | refine k_seq_n ?_) | ((try (conv => arg 1; simp [s0, s3, s4, e0, hneg, bs_mk, cat_le, bs_app])); with_reducible refine evp ?_) | fail)
        rw [dg_dd hz, if_pos hneg, ho]
        exact .str _
      · skip
        repeat' (first | (with_reducible first | refine stp ?_ | refine k_blk_o rfl ?_ | refine k_seq_n ?_) | ((try (conv => arg 1; simp [s0, s3, s4, e0, hneg, bs_mk, cat_le, bs_app])); with_reducible refine evp ?_) | fail)
        rw [dg_dd hz, if_neg hneg, ho]
        exact .str _
    · have hs0 : ¬ sg n u = 0 := fun e => hu0 ((sg_zero n u).1 e)
      have hd : u % 10 < 10 := Nat.mod_lt _ (by decide)
      have er := sg_rem n u
      have eq := sg_quo n u
      have ho2 : dd n.natAbs = dd (u / 10) ++ (UInt8.ofNat (48 + u % 10) :: out) := by rw [ho, dd_pos hu0]; simp
      haveI : Bd out 19 := ⟨by have := congrArg List.length ho; rw [List.length_append] at this; omega⟩
      have hwq : IntKind.i64.wrap (sg n (u / 10)) = sg n (u / 10) := wrap_id (by unfold sg; split <;> omega) (by unfold sg; split <;> omega)
      generalize hdd : u % 10 = d at *
      have hw1 : IntKind.i64.wrap ((d : Int) + 1) = (d : Int) + 1 := wrap_id (by omega) (by omega)
      have hw2 : IntKind.i64.wrap (d : Int) = d := wrap_id (by omega) (by omega)
      have hnn : ¬ (d : Int) < 0 := by omega
      by_cases hneg : sg n d < 0
      · have hw3 : IntKind.i64.wrap (-(sg n d)) = d := by rw [wrap_id (by unfold sg; split <;> omega) (by unfold sg; split <;> omega)]; unfold sg at hneg ⊢; split at hneg <;> split <;> omega
        repeat' (first | (with_reducible first | refine stp ?_ | refine k_blk_o rfl ?_ | refine k_seq_n ?_) | ((try (conv => arg 1; simp [s0, s3, s4, hs0, er, eq, hneg, hw1, hw2, hw3, hwq,  bs_mk, hd, dec_slice, cat_le, bs_app])); with_reducible refine evp ?_) | fail)
        refine k_lp_n (u / 10) (by omega) ⟨_, ho2, by omega, by simp [s0], by simp, by simp⟩
      · have es : sg n d = d := by unfold sg at hneg ⊢; split at hneg <;> split <;> omega
        rw [es] at er
        repeat' (first | (with_reducible first | refine stp ?_ | refine k_blk_o rfl ?_ | refine k_seq_n ?_) | ((try (conv => arg 1; simp [s0, s3, s4, hs0, er, eq, hnn, hw1, hw2, hwq, bs_mk, hd, dec_slice, cat_le, bs_app])); with_reducible refine evp ?_) | fail)
        refine k_lp_n (u / 10) (by omega) ⟨_, ho2, by omega, by simp [s0], by simp, by simp⟩
end Go.Proofs.YtmcmgeedhbgglaaGreatDoor.AM

namespace Go.Proofs.YtmcmgeedhbgglaaGreatDoor.AM
open Go.RowKit

def wr (a : Int) : Int := IntKind.i64.wrap a
theorem wr_id {a : Int} (h : I64 a) : wr a = a := wrap_id h.1 h.2
theorem wr_in (a : Int) : I64 (wr a) := by
  unfold wr I64
  simp [IntKind.wrap, IntKind.bits, IntKind.signed]
  omega
theorem wr_step (u d : Int) : wr (wr (wr (10 * wr u) + (48 + d)) - 48) = wr (10 * u + d) := by
  unfold wr
  simp [IntKind.wrap, IntKind.bits, IntKind.signed]
  omega
theorem wr_neg (u : Int) : wr (-(wr u)) = wr (-u) := by
  unfold wr
  simp [IntKind.wrap, IntKind.bits, IntKind.signed]
  omega
def isD (b : UInt8) : Bool := decide (48 ≤ b.toNat) && decide (b.toNat ≤ 57)
/-- What digits spell, in 64 bits. -/
def nvS (n : Int) (b : UInt8) : Int := wr (wr (wr (10 * n) + b.toNat) - 48)
def nv (t : List UInt8) : Int := t.foldl nvS 0
theorem nv_snoc (t : List UInt8) (b : UInt8) : nv (t ++ [b]) = nvS (nv t) b := by simp [nv]
theorem nv_in (t : List UInt8) : I64 (nv t) := by
  rcases List.eq_nil_or_concat t with rfl | ⟨a, b, rfl⟩
  · exact ⟨by decide, by decide⟩
  · rw [List.concat_eq_append, nv_snoc]; exact wr_in _
theorem dig_toNat (u : Nat) : (UInt8.ofNat (48 + u % 10)).toNat = 48 + u % 10 := by
  rw [UInt8.toNat_ofNat']
  omega
theorem nv_dd (u : Nat) : nv (dd u) = wr u := by
  induction u using Nat.strongRecOn with
  | _ u ih =>
    by_cases h : u = 0
    · subst h; rw [dd_zero]; rfl
    · rw [dd_pos h, nv_snoc, ih (u / 10) (by omega)]
      unfold nvS
      rw [dig_toNat, show ((48 + u % 10 : Nat) : Int) = 48 + ((u % 10 : Nat) : Int) by omega, wr_step]
      congr 1
      omega
theorem dd_digits (u : Nat) : ∀ b ∈ dd u, isD b = true := by
  induction u using Nat.strongRecOn with
  | _ u ih =>
    by_cases h : u = 0
    · subst h; rw [dd_zero]; simp
    · rw [dd_pos h]
      intro b hb
      simp only [List.mem_append, List.mem_singleton] at hb
      rcases hb with hb | rfl
      · exact ih (u / 10) (by omega) b hb
      · unfold isD
        rw [dig_toNat]
        simp
        omega
theorem dd_ne {u : Nat} (h : u ≠ 0) : dd u ≠ [] := by rw [dd_pos h]; simp
theorem dd_nd {u : Nat} : 45 ∉ dd u := fun h => by
  have := dd_digits u 45 h
  revert this
  decide
theorem parse_snoc (d : UInt8) : ∀ (l : List UInt8) (a v : Nat), Go.Lib.parseUint10 a l = .ok v → Go.Lib.parseUint10 a (l ++ [d]) = Go.Lib.parseUint10 v [d]
  | [], a, v, h => by
    simp only [Go.Lib.parseUint10] at h
    injection h with h
    subst h
    rfl
  | c :: r, a, v, h => by
    simp only [Go.Lib.parseUint10] at h
    rw [List.cons_append]
    conv => lhs; unfold Go.Lib.parseUint10
    split at h
    · rename_i h1
      rw [if_pos h1]
      split at h
      · cases h
      · rename_i h2
        rw [if_neg h2]
        split at h
        · cases h
        · rename_i h3
          rw [if_neg h3]
          exact parse_snoc d r _ v h
    · cases h
theorem parse_dd (u : Nat) (hu : u < 18446744073709551616) : Go.Lib.parseUint10 0 (dd u) = .ok u := by
  induction u using Nat.strongRecOn with
  | _ u ih =>
    by_cases h : u = 0
    · subst h; rw [dd_zero]; rfl
    · rw [dd_pos h, parse_snoc _ _ _ _ (ih (u / 10) (by omega) (by omega))]
      simp only [Go.Lib.parseUint10, dig_toNat]
      rw [if_pos (by omega), if_neg (by omega), if_neg (by omega)]
      congr 1
      omega
theorem atoi_dg {v : Int} (h : I64 v) : Go.Lib.atoiAll (dg v) = .ok v := by
  obtain ⟨h0, h1⟩ := h
  rcases Int.lt_trichotomy v 0 with hv | rfl | hv
  · rw [dg_dd (by omega), if_pos hv]
    show Go.Lib.atoiAll (45 :: dd v.natAbs) = _
    rw [Go.Lib.atoiAll_minus]
    unfold Go.Lib.parseMag
    rw [if_neg (dd_ne (by omega)), parse_dd _ (by omega)]
    simp only [Go.Lib.signed]
    rw [if_neg (by omega)]
    congr 1
    omega
  · rw [dg_zero]; rfl
  · rw [dg_dd (by omega), if_neg (by omega), List.nil_append]
    have hne := dd_ne (u := v.natAbs) (by omega)
    have hd := dd_digits v.natAbs
    have hp := parse_dd v.natAbs (by omega)
    cases hl : dd v.natAbs with
    | nil => exact absurd hl hne
    | cons c r =>
      have hc := hd c (by rw [hl]; simp)
      simp only [isD, Bool.and_eq_true, decide_eq_true_eq] at hc
      rw [Go.Lib.atoiAll_plain _ _ (by omega) (by omega), ← hl]
      unfold Go.Lib.parseMag
      rw [if_neg hne, hp]
      simp only [Go.Lib.signless]
      rw [if_neg (by omega)]
      congr 1
      omega
/-- Behind a sign. -/
def tl (s : List UInt8) : List UInt8 := match s with
  | 45 :: r => r
  | _ => s
/-- A numeral's number; whether it is one. -/
def readR (s : List UInt8) : Int × Bool := match Go.Lib.atoiAll s with
  | .ok v => if dg v = s then (v, true) else (0, false)
  | _ => (0, false)
def spn (s : List UInt8) : Int := if tl s ≠ s then wr (-(nv (tl s))) else nv (tl s)
theorem spn_in (s : List UInt8) : I64 (spn s) := by
  unfold spn
  split
  · exact wr_in _
  · exact nv_in _
def specR (s : List UInt8) : Int × Bool :=
  if ((tl s).any (fun b => !isD b) || (decide (tl s ≠ []) && decide (19 < (tl s).length))) = true then (0, false)
  else if tl s = [] ∨ dg (spn s) ≠ s then (0, false)
  else (spn s, true)
theorem readR_in (s : List UInt8) : I64 (readR s).1 := by
  unfold readR
  split
  · rename_i v h
    split
    · exact Go.Lib.atoiAll_bounds h
    · exact ⟨by decide, by decide⟩
  · exact ⟨by decide, by decide⟩
theorem readR_dg {v : Int} (h : I64 v) : readR (dg v) = (v, true) := by
  unfold readR
  rw [atoi_dg h]
  simp
theorem readR_t {s : List UInt8} (h : (readR s).2 = true) : dg (readR s).1 = s := by
  unfold readR at *
  split at h
  · split at h
    · rename_i hv
      simp [hv]
    · cases h
  · cases h
theorem readR_f {s : List UInt8} (h : (readR s).2 = false) : readR s = (0, false) := by
  unfold readR at *
  split at h
  · split at h
    · cases h
    · rename_i hv
      simp [hv]
  · rfl
theorem specR_dg {v : Int} (h : I64 v) : specR (dg v) = (v, true) := by
  obtain ⟨h0, h1⟩ := h
  have key : ∀ (t : List UInt8) (s : List UInt8) (u : Nat), s = dg v → t = tl s → t ≠ [] → (∀ b ∈ t, isD b = true) → t.length ≤ 19 → (if t ≠ s then wr (-(nv t)) else nv t) = v → specR (dg v) = (v, true) := by
    intro t s u hs ht h2 h3 h4 h5
    subst ht
    rw [← hs]
    unfold specR
    have ha : (tl s).any (fun b => !isD b) = false := by
      rw [List.any_eq_false]
      intro b hb
      simp [h3 b hb]
    rw [ha, if_neg (by simp; omega), show spn s = v by unfold spn; exact h5, if_neg (by rw [hs] at h2 ⊢; simp [h2])]
  rcases Int.lt_trichotomy v 0 with hv | hv | hv
  · have e : dg v = 45 :: dd v.natAbs := by rw [dg_dd (by omega), if_pos hv]; rfl
    refine key (dd v.natAbs) (dg v) 0 rfl (by rw [e]; rfl) (dd_ne (by omega)) (dd_digits _) (dd_len 19 _ (by omega)) ?_
    rw [e, if_pos (fun h => by have := congrArg List.length h; simp at this), nv_dd, wr_neg]
    rw [show -((v.natAbs : Nat) : Int) = v by omega]
    exact wr_id ⟨h0, h1⟩
  · subst hv
    rw [dg_zero]
    decide +kernel
  · have e : dg v = dd v.natAbs := by rw [dg_dd (by omega), if_neg (by omega)]; rfl
    have ht : tl (dg v) = dg v := by
      unfold tl
      rw [e]
      split
      · rename_i r hr
        exact absurd (by rw [hr]; simp) (dd_nd (u := v.natAbs))
      · rfl
    refine key (dd v.natAbs) (dg v) 0 rfl (by rw [ht, e]) (dd_ne (by omega)) (dd_digits _) (dd_len 19 _ (by omega)) ?_
    rw [e, if_neg (fun h => h rfl), nv_dd, show ((v.natAbs : Nat) : Int) = v by omega]
    exact wr_id ⟨h0, h1⟩
theorem specR_t {s : List UInt8} (h : (specR s).2 = true) : dg (specR s).1 = s ∧ I64 (specR s).1 := by
  unfold specR at *
  split at h
  · cases h
  · rename_i h1
    split at h
    · cases h
    · rename_i h2
      rw [if_neg h1, if_neg h2]
      exact ⟨Classical.not_not.1 fun e => h2 (.inr e), spn_in s⟩
theorem specR_f {s : List UInt8} (h : (specR s).2 = false) : specR s = (0, false) := by
  unfold specR at *
  split at h
  · rename_i h1; rw [if_pos h1]
  · rename_i h1
    split at h
    · rename_i h2; rw [if_neg h1, if_pos h2]
    · cases h
/-- The reference's reading is the program's. -/
theorem specR_eq (s : List UInt8) : specR s = readR s := by
  cases h : (specR s).2 with
  | true =>
    obtain ⟨a, b⟩ := specR_t h
    have := readR_dg b
    rw [a] at this
    rw [this, ← h]
  | false =>
    cases h2 : (readR s).2 with
    | true =>
      have a := readR_t h2
      have := specR_dg (readR_in s)
      rw [a] at this
      rw [this] at h
      cases h
    | false => rw [specR_f h, readR_f h2]
end Go.Proofs.YtmcmgeedhbgglaaGreatDoor.AM

namespace Go.Proofs.YtmcmgeedhbgglaaGreatDoor.AM
open Go.RowKit Go.Shelf

/-- The kit's numbers, led to this program's. -/
def laysAtoi_ren : Go.Shelf.Ren := ⟨fun | 172 => 101 | 244 => 134 | 245 => 135 | 247 => 152 | 279 => 153 | 280 => 154 | 281 => 155 | 282 => 156 | 287 => 167 | 316 => 168 | 171 => 85 | 205 => 169 | 321 => 177 | 322 => 178 | 243 => 124 | 246 => 150 | 283 => 163 | 284 => 164 | 285 => 165 | 286 => 166 | 129 => 173 | 317 => 172 | 318 => 174 | 319 => 175 | 320 => 176 | 337 => 180 | 338 => 181 | n => n, fun | 9 => 9 | 3 => 3 | 75 => 125 | 76 => 126 | 4 => 4 | 5 => 5 | 167 => 166 | 37 => 161 | 0 => 0 | 85 => 167 | 2 => 2 | 168 => 169 | 53 => 175 | 175 => 180 | 46 => 173 | 210 => 184 | 127 => 198 | 145 => 201 | 143 => 199 | 21 => 21 | 171 => 174 | 173 => 178 | 212 => 194 | 51 => 190 | 20 => 20 | 213 => 195 | 232 => 203 | 233 => 204 | 80 => 92 | n => n, fun | 15 => 1 | 16 => 2 | 17 => 5 | 18 => 6 | 19 => 7 | n => n⟩
theorem laysAtoi : LaysC.n172 Tryz.prog laysAtoi_ren where
  mixed := by kernel_rfl
  f129 := Tryz.func173.trans (congrArg some (by kernel_rfl))
  f171 := Tryz.func85.trans (congrArg some (by kernel_rfl))
  f172 := Tryz.func101.trans (congrArg some (by kernel_rfl))
  f205 := Tryz.func169.trans (congrArg some (by kernel_rfl))
  f243 := Tryz.func124.trans (congrArg some (by kernel_rfl))
  f244 := Tryz.func134.trans (congrArg some (by kernel_rfl))
  f245 := Tryz.func135.trans (congrArg some (by kernel_rfl))
  f246 := Tryz.func150.trans (congrArg some (by kernel_rfl))
  f247 := Tryz.func152.trans (congrArg some (by kernel_rfl))
  f279 := Tryz.func153.trans (congrArg some (by kernel_rfl))
  f280 := Tryz.func154.trans (congrArg some (by kernel_rfl))
  f281 := Tryz.func155.trans (congrArg some (by kernel_rfl))
  f282 := Tryz.func156.trans (congrArg some (by kernel_rfl))
  f283 := Tryz.func163.trans (congrArg some (by kernel_rfl))
  f284 := Tryz.func164.trans (congrArg some (by kernel_rfl))
  f285 := Tryz.func165.trans (congrArg some (by kernel_rfl))
  f286 := Tryz.func166.trans (congrArg some (by kernel_rfl))
  f287 := Tryz.func167.trans (congrArg some (by kernel_rfl))
  f316 := Tryz.func168.trans (congrArg some (by kernel_rfl))
  f317 := Tryz.func172.trans (congrArg some (by kernel_rfl))
  f318 := Tryz.func174.trans (congrArg some (by kernel_rfl))
  f319 := Tryz.func175.trans (congrArg some (by kernel_rfl))
  f320 := Tryz.func176.trans (congrArg some (by kernel_rfl))
  f321 := Tryz.func177.trans (congrArg some (by kernel_rfl))
  f322 := Tryz.func178.trans (congrArg some (by kernel_rfl))
  f337 := Tryz.func180.trans (congrArg some (by kernel_rfl))
  f338 := Tryz.func181.trans (congrArg some (by kernel_rfl))
  t0 := Tryz.underlying0
  a0 := Tryz.isAgg0
  z0 := Tryz.sizeOf0
  v0 := Tryz.zeroValue0
  t2 := Tryz.underlying2
  a2 := Tryz.isAgg2
  z2 := Tryz.sizeOf2
  v2 := Tryz.zeroValue2
  t3 := Tryz.underlying3
  a3 := Tryz.isAgg3
  z3 := Tryz.sizeOf3
  v3 := Tryz.zeroValue3
  t4 := Tryz.underlying4
  a4 := Tryz.isAgg4
  z4 := Tryz.sizeOf4
  v4 := Tryz.zeroValue4
  t5 := Tryz.underlying5
  a5 := Tryz.isAgg5
  z5 := Tryz.sizeOf5
  v5 := Tryz.zeroValue5
  t9 := Tryz.underlying9
  a9 := Tryz.isAgg9
  z9 := Tryz.sizeOf9
  v9 := Tryz.zeroValue9
  t20 := Tryz.underlying20
  a20 := Tryz.isAgg20
  z20 := Tryz.sizeOf20
  v20 := Tryz.zeroValue20
  t21 := Tryz.underlying21
  a21 := Tryz.isAgg21
  z21 := Tryz.sizeOf21
  v21 := Tryz.zeroValue21
  t37 := Tryz.underlying161
  a37 := Tryz.isAgg161
  z37 := Tryz.sizeOf161
  v37 := Tryz.zeroValue161
  t46 := Tryz.underlying173
  a46 := Tryz.isAgg173
  z46 := Tryz.sizeOf173
  v46 := Tryz.zeroValue173
  t51 := Tryz.underlying190
  a51 := Tryz.isAgg190
  z51 := Tryz.sizeOf190
  v51 := Tryz.zeroValue190
  t53 := Tryz.underlying175
  a53 := Tryz.isAgg175
  z53 := Tryz.sizeOf175
  v53 := Tryz.zeroValue175
  t75 := Tryz.underlying125
  a75 := Tryz.isAgg125
  z75 := Tryz.sizeOf125
  v75 := Tryz.zeroValue125
  t76 := Tryz.underlying126
  a76 := Tryz.isAgg126
  z76 := Tryz.sizeOf126
  v76 := Tryz.zeroValue126
  t85 := Tryz.underlying167
  a85 := Tryz.isAgg167
  z85 := Tryz.sizeOf167
  v85 := Tryz.zeroValue167
  t127 := Tryz.underlying198
  a127 := Tryz.isAgg198
  z127 := Tryz.sizeOf198
  v127 := Tryz.zeroValue198
  t143 := Tryz.underlying199
  a143 := Tryz.isAgg199
  z143 := Tryz.sizeOf199
  v143 := Tryz.zeroValue199
  t145 := Tryz.underlying201
  a145 := Tryz.isAgg201
  z145 := Tryz.sizeOf201
  v145 := Tryz.zeroValue201
  t167 := Tryz.underlying166
  a167 := Tryz.isAgg166
  z167 := Tryz.sizeOf166
  v167 := Tryz.zeroValue166
  t168 := Tryz.underlying169
  a168 := Tryz.isAgg169
  z168 := Tryz.sizeOf169
  v168 := Tryz.zeroValue169
  t171 := Tryz.underlying174
  a171 := Tryz.isAgg174
  z171 := Tryz.sizeOf174
  v171 := Tryz.zeroValue174
  t173 := Tryz.underlying178
  a173 := Tryz.isAgg178
  z173 := Tryz.sizeOf178
  v173 := Tryz.zeroValue178
  t175 := Tryz.underlying180
  a175 := Tryz.isAgg180
  z175 := Tryz.sizeOf180
  v175 := Tryz.zeroValue180
  t210 := Tryz.underlying184
  a210 := Tryz.isAgg184
  z210 := Tryz.sizeOf184
  v210 := Tryz.zeroValue184
  t212 := Tryz.underlying194
  a212 := Tryz.isAgg194
  z212 := Tryz.sizeOf194
  v212 := Tryz.zeroValue194
  t213 := Tryz.underlying195
  a213 := Tryz.isAgg195
  z213 := Tryz.sizeOf195
  t232 := Tryz.underlying203
  a232 := Tryz.isAgg203
  z232 := Tryz.sizeOf203
  v232 := Tryz.zeroValue203
  t233 := Tryz.underlying204
  a233 := Tryz.isAgg204
  z233 := Tryz.sizeOf204
  v233 := Tryz.zeroValue204
  g15 := by kernel_rfl
  g16 := by kernel_rfl
  g17 := by kernel_rfl
  g18 := by kernel_rfl
  g19 := by kernel_rfl
  t80 := Tryz.underlying92
  a80 := Tryz.isAgg92
  z80 := Tryz.sizeOf92
  v80 := Tryz.zeroValue92
  i0 := by kernel_rfl
  i2 := by kernel_rfl
  i3 := by kernel_rfl
  i4 := by kernel_rfl
  i5 := by kernel_rfl
  i9 := by kernel_rfl
  i20 := by kernel_rfl
  i21 := by kernel_rfl
  i37 := by kernel_rfl
  i46 := by kernel_rfl
  i51 := by kernel_rfl
  i53 := by kernel_rfl
  i75 := by kernel_rfl
  i76 := by kernel_rfl
  i80 := by kernel_rfl
  i85 := by kernel_rfl
  i127 := by kernel_rfl
  i143 := by kernel_rfl
  i145 := by kernel_rfl
  i167 := by kernel_rfl
  i168 := by kernel_rfl
  i171 := by kernel_rfl
  i173 := by kernel_rfl
  i175 := by kernel_rfl
  i210 := by kernel_rfl
  i212 := by kernel_rfl
  i232 := by kernel_rfl
  i233 := by kernel_rfl
  m15 := by kernel_rfl
  m16 := by kernel_rfl
  m17 := by kernel_rfl
  m18 := by kernel_rfl
  m19 := by kernel_rfl
  c0 := by kernel_rfl
  c2 := by kernel_rfl
  c3 := by kernel_rfl
  c4 := by kernel_rfl
  c5 := by kernel_rfl
  c9 := by kernel_rfl
  c20 := by kernel_rfl
  c21 := by kernel_rfl
  c37 := by kernel_rfl
  c46 := by kernel_rfl
  c51 := by kernel_rfl
  c53 := by kernel_rfl
  c75 := by kernel_rfl
  c76 := by kernel_rfl
  c80 := by kernel_rfl
  c85 := by kernel_rfl
  c127 := by kernel_rfl
  c143 := by kernel_rfl
  c145 := by kernel_rfl
  c167 := by kernel_rfl
  c168 := by kernel_rfl
  c171 := by kernel_rfl
  c173 := by kernel_rfl
  c175 := by kernel_rfl
  c210 := by kernel_rfl
  c212 := by kernel_rfl
  c213 := by kernel_rfl
  c232 := by kernel_rfl
  c233 := by kernel_rfl

/-- A call of the library that leaves all that was there as it was; of its result a fact is told. -/
theorem sound_libK {P : Program} {f : FuncId} {args : List AV} {h : Hp} {fn : Func} {K : AV → Prop} (h1 : P.funcs[f]? = some fn) (h2 : fn.body.isNone = false) (h3 : (fn.name == "runtime.NumGoroutine") = false)
    (hc : ∀ (mu : Nm → Nat → Option Loc) (pr : Bool → Nat → Prop) (w : World) (vs : List Value), Rel mu pr h w → VRs mu pr w.heap args vs → Calls P f vs.toArray w fun e w' => ∃ z r, e = .returned z ∧ K r ∧ (∀ pr' hp, VR mu pr' hp r z) ∧ Below w.heap.size w w') :
    Sound P f args h fun v h' => K v ∧ h' = h := by
  refine ⟨⟨fn, h1, h2, h3⟩, fun mu pr w vs R hv => (hc mu pr w vs R hv).mono ?_⟩
  rintro e w' ⟨z, r, rfl, hK, hz, B⟩
  exact ⟨z, r, h, mu, pr, rfl, ⟨hK, rfl⟩, hz _ _, After.below R B⟩
theorem tab_errs {mu : Nm → Nat → Option Loc} {pr : Bool → Nat → Prop} {h : Hp} {w : World} (R : Rel mu pr h w) : (∃ t p, w.cell? ⟨1, 0, none⟩ = some (.iface t p)) ∧ ∃ t p, w.cell? ⟨2, 0, none⟩ = some (.iface t p) := by
  constructor
  · obtain ⟨_, arr, ty, fr, hb, t, p, ha⟩ := R.tab 1 _ (by simp only [tabs]; exact List.mem_cons_of_mem _ (List.mem_cons_of_mem _ (List.mem_cons_self ..)))
    subst ha
    exact ⟨t, p, by simp [World.cell?, hb]⟩
  · obtain ⟨_, arr, ty, fr, hb, t, p, ha⟩ := R.tab 2 _ (by simp only [tabs]; exact List.mem_cons_of_mem _ (List.mem_cons_of_mem _ (List.mem_cons_of_mem _ (List.mem_cons_self ..))))
    subst ha
    exact ⟨t, p, by simp [World.cell?, hb]⟩
/-- What strconv.Atoi yields. -/
def atoiV (l : List UInt8) : AV := match Go.Lib.atoiAll l with
  | .ok v => .tup [.int .i64 v, .nilif]
  | .range => .tup [.int .i64 (Go.Lib.atoiSat l), .errv]
  | _ => .tup [.int .i64 0, .errv]
theorem vr_pair {mu : Nm → Nat → Option Loc} {pr : Bool → Nat → Prop} {hp : Array Obj} {n : Int} {a : AV} {v : Value} (h : VR mu pr hp a v) : VR mu pr hp (.tup [.int .i64 n, a]) (.tuple #[.int .i64 n, v]) := by
  refine .tup _ _ (fun i => if i = 0 then .int .i64 n else v) rfl (fun i c hc => ?_) (fun i c hc => ?_)
  · match i, hc with
    | 0, _ => rfl
    | 1, _ => rfl
  · match i, hc with
    | 0, hc => simp at hc; subst hc; exact .int _ _
    | 1, hc => simp at hc; subst hc; exact h
theorem below_bytes {w : World} {t : TypeId} {s : ByteArray} : Below w.heap.size w (Go.Lib.bytesWorld w t s) := Go.Lib.bytesWorld_below w t s
/-- strconv.Atoi, at every text. -/
theorem atoiP (l : List UInt8) (hl : l.length ≤ 2 ^ 40) (h : Hp) : Sound Tryz.prog 101 [.str (bs l)] h fun v h' => v = atoiV l ∧ h' = h := by
  refine sound_libK Tryz.func101 rfl rfl fun mu pr w vs R hv => ?_
  obtain ⟨u, rfl⟩ : ∃ u, vs = [u] := by
    match vs, hv.1 with
    | [u], _ => exact ⟨u, rfl⟩
  obtain rfl : u = .string (bs l) := by
    obtain ⟨u', h1, h2⟩ := hv.2 0 _ rfl
    simp at h1
    subst h1
    cases h2
    rfl
  obtain ⟨⟨t1, p1, e1⟩, t2, p2, e2⟩ := tab_errs R
  have hz : (bs l).size ≤ 281474976710656 := by rw [bs_size]; omega
  cases ha : Go.Lib.atoiAll l with
  | ok v =>
    have C := Any.strconv_Atoi_ok laysAtoi (bs l) (by omega) v (by rw [bs_data]; exact ha) w
    refine Calls.mono (R := _) C ?_
    rintro e w' ⟨rfl, hw⟩
    refine ⟨_, _, rfl, rfl, fun pr' hp => ?_, ?_⟩
    · unfold atoiV; rw [ha]; exact vr_pair .nilif
    · rcases hw with rfl | ⟨t, rfl⟩
      · exact Below.refl _ _
      · exact below_bytes
  | range =>
    have C := Any.strconv_Atoi_range laysAtoi (bs l) hz (by rw [bs_data]; exact ha) (.iface t2 p2) w e2 (.inr ⟨t2, p2, rfl⟩)
    refine Calls.mono (R := _) C ?_
    rintro e w' ⟨N, rfl, _, _, B⟩
    refine ⟨_, _, rfl, rfl, fun pr' hp => ?_, B⟩
    unfold atoiV; rw [ha, bs_data]; exact vr_pair (.errv _ _)
  | _ =>
    have C := Any.strconv_Atoi_syntax laysAtoi (bs l) hz (by rw [bs_data]; exact ha) (.iface t1 p1) w e1 (.inr ⟨t1, p1, rfl⟩)
    refine Calls.mono (R := _) C ?_
    rintro e w' ⟨N, rfl, _, _, B⟩
    refine ⟨_, _, rfl, rfl, fun pr' hp => ?_, B⟩
    unfold atoiV; rw [ha]; exact vr_pair (.errv _ _)
end Go.Proofs.YtmcmgeedhbgglaaGreatDoor.AM

namespace Go.Proofs.YtmcmgeedhbgglaaGreatDoor.AM
open Go.RowKit

private def MW0 : FuncId → Mode := fun f => .tree

structure Word where
  Op : Int
  R : Int
  A : Int
  B : Int
  N : Int
def Word.cells (w : Word) : List AV := [.int .i64 w.Op, .int .i64 w.R, .int .i64 w.A, .int .i64 w.B, .int .i64 w.N]
def words (b : Bool) (ws : List Word) : AV := .tr b (ws.map Word.cells)
structure Image where
  Sizes : List Int
  Params : Int
  Slots : Int
  Code : List Word
def Image.cells (b : Bool) (m : Image) : List AV := [ints b m.Sizes, .int .i64 m.Params, .int .i64 m.Slots, words b m.Code]
@[simp] theorem one_words (b : Bool) (ws : List Word) : (words b ws).one = true := rfl
@[simp] theorem stored_words (b : Bool) (ws : List Word) : (words b ws).stored = true := rfl
@[simp] theorem cells_words (b : Bool) (ws : List Word) : (words b ws).cells = [words b ws] := rfl


theorem l01In (n lo hi : Int) : Pure Tryz.prog 38 [.int .i64 n, .int .i64 lo, .int .i64 hi] (.bool (inB n lo hi)) := by
  intro T
  refine enter mixed MW0 Tryz.func38 rfl (by kernel_rfl) rfl ?_
  repeat' (first
    | (with_reducible first | refine st_seq ?_ | refine st_reg ?_ | refine st_block ?_ | refine st_nil ?_ | refine st_skip ?_ | refine st_ret ?_ | refine st_exit ?_ | refine fr_nil ?_ | refine k_seq_n ?_ | refine k_seq_r ?_ | refine k_seq_e ?_ | refine k_blk_n ?_ | refine k_blk_r ?_ | refine k_blk_s ?_ | refine k_blk_o rfl ?_ | refine k_fn_r ?_ | refine k_fn_n ?_ | refine k_lp_r ?_ | refine k_lp_e ?_)
    | ((with_reducible first | refine st_move ?_ | refine st_asg ?_ | refine st_c ?_ | refine fr_c ?_); (try (conv => arg 1; simp)); (with_reducible refine at_mk ?_))
    | ((with_reducible first | refine st_g ?_ | refine fr_g ?_); (try (conv => arg 1; simp)); (with_reducible refine at_mk ?_); with_reducible first | refine gd_tt ?_ | refine gd_ff ?_ | refine gd_tf ?_ | refine gd_ft ?_ | refine gd_no ?_)
    | ((with_reducible first | refine st_gm ?_ | refine fr_gm ?_); (try (conv => arg 1; simp)); (with_reducible refine at_mk ?_); (with_reducible first | refine gm_bool ?_ | refine gm_gv ?_); refine ⟨_, (by intro hc; first | ((try simp only [Bool.and_eq_true] at hc); (try (conv => lhs; simp [hc])); first | done | exact rfl) | ((try simp [gq] at hc); (try (conv => lhs; simp [gq, hc])); first | done | exact rfl)), ?_⟩)
    | ((with_reducible refine st_m rfl ?_); (try (conv => arg 1; simp)); (with_reducible refine ev2_some ?_))
    | ((with_reducible refine fr_n rfl ?_); (try (conv => arg 1; simp)); (with_reducible refine evn_some ?_))
    | ((with_reducible first | refine st_cv ?_ | refine fr_cv ?_); (try (conv => arg 1; simp)); (with_reducible refine at_mk ?_); (with_reducible refine fn_mk ?_); (try (conv => arg 1; simp)); (with_reducible refine at_mk ?_))
    | ((with_reducible refine fr_a ?_); (try (conv => arg 1; simp)); (with_reducible refine at_mk ?_); (try (conv => arg 1; simp)); (with_reducible refine at_mk ?_); refine ⟨?names, ?_⟩; (case names => (simp [appNames, ints, intss] <;> first | kernel_rfl | (refine ⟨?_, ?_⟩ <;> kernel_rfl))); (try (conv => arg 1; simp)); (with_reducible refine ev2_some ?_))
    | ((with_reducible first | refine st_q ?_ | refine fr_q ?_ | refine st_res ?_); (try (conv => arg 1; simp)); (with_reducible refine ev_some ?_))
    | ((with_reducible refine st_if ?_); (try (conv => arg 1; simp)); (with_reducible refine at_mk ?_); with_reducible first | refine br_t ?_ | refine br_f ?_))
  exact dr_bool (by simp [inB])
theorem in_ (n lo hi : Int) : Pure Tryz.prog 66 [.int .i64 n, .int .i64 lo, .int .i64 hi] (.bool (inB n lo hi)) := by
  intro T
  refine enter mixed MW0 Tryz.func66 rfl (by kernel_rfl) rfl ?_
  repeat' (first
    | (with_reducible first | refine st_seq ?_ | refine st_reg ?_ | refine st_block ?_ | refine st_nil ?_ | refine st_skip ?_ | refine st_ret ?_ | refine st_exit ?_ | refine fr_nil ?_ | refine k_seq_n ?_ | refine k_seq_r ?_ | refine k_seq_e ?_ | refine k_blk_n ?_ | refine k_blk_r ?_ | refine k_blk_s ?_ | refine k_blk_o rfl ?_ | refine k_fn_r ?_ | refine k_fn_n ?_ | refine k_lp_r ?_ | refine k_lp_e ?_)
    | ((with_reducible first | refine st_move ?_ | refine st_asg ?_ | refine st_c ?_ | refine fr_c ?_); (try (conv => arg 1; simp)); (with_reducible refine at_mk ?_))
    | ((with_reducible first | refine st_g ?_ | refine fr_g ?_); (try (conv => arg 1; simp)); (with_reducible refine at_mk ?_); with_reducible first | refine gd_tt ?_ | refine gd_ff ?_ | refine gd_tf ?_ | refine gd_ft ?_ | refine gd_no ?_)
    | ((with_reducible first | refine st_gm ?_ | refine fr_gm ?_); (try (conv => arg 1; simp)); (with_reducible refine at_mk ?_); (with_reducible first | refine gm_bool ?_ | refine gm_gv ?_); refine ⟨_, (by intro hc; first | ((try simp only [Bool.and_eq_true] at hc); (try (conv => lhs; simp [hc])); first | done | exact rfl) | ((try simp [gq] at hc); (try (conv => lhs; simp [gq, hc])); first | done | exact rfl)), ?_⟩)
    | ((with_reducible refine st_m rfl ?_); (try (conv => arg 1; simp)); (with_reducible refine ev2_some ?_))
    | ((with_reducible refine fr_n rfl ?_); (try (conv => arg 1; simp)); (with_reducible refine evn_some ?_))
    | ((with_reducible first | refine st_cv ?_ | refine fr_cv ?_); (try (conv => arg 1; simp)); (with_reducible refine at_mk ?_); (with_reducible refine fn_mk ?_); (try (conv => arg 1; simp)); (with_reducible refine at_mk ?_))
    | ((with_reducible refine fr_a ?_); (try (conv => arg 1; simp)); (with_reducible refine at_mk ?_); (try (conv => arg 1; simp)); (with_reducible refine at_mk ?_); refine ⟨?names, ?_⟩; (case names => (simp [appNames, ints, intss] <;> first | kernel_rfl | (refine ⟨?_, ?_⟩ <;> kernel_rfl))); (try (conv => arg 1; simp)); (with_reducible refine ev2_some ?_))
    | ((with_reducible first | refine st_q ?_ | refine fr_q ?_ | refine st_res ?_); (try (conv => arg 1; simp)); (with_reducible refine ev_some ?_))
    | ((with_reducible refine st_if ?_); (try (conv => arg 1; simp)); (with_reducible refine at_mk ?_); with_reducible first | refine br_t ?_ | refine br_f ?_))
  exact dr_bool (by simp [inB])
end Go.Proofs.YtmcmgeedhbgglaaGreatDoor.AM

namespace Go.Proofs.YtmcmgeedhbgglaaGreatDoor.AM
open Go.RowKit

theorem own_nil_inv {rows : Nm → Option Row} {c : Bool} {ns : List Nm} (h : Own rows c [] [] ns) : ns = [] := by cases h; rfl
theorem ownV_agg_inv {rows : Nm → Option Row} {c : Bool} {l ts : List AV} {ns : List Nm} (h : OwnV rows c (.agg l) (.agg ts) ns) : Own rows c l ts ns := by
  cases h with
  | one h => cases h
  | agg h => exact h

theorem own_ints_flat {rows : Nm → Option Row} {c : Bool} : ∀ {xs : List Int} {ts : List AV} {ns : List Nm}, Own rows c (xs.map fun x => [AV.int .i64 x]).flatten ts ns → ns = []
  | [], ts, ns, h => by
    generalize hl : (([] : List Int).map fun x => [AV.int .i64 x]).flatten = l at h
    cases h <;> first | rfl | cases hl
  | x :: xs, ts, ns, h => by
    generalize hl : ((x :: xs).map fun x => [AV.int .i64 x]).flatten = l at h
    simp only [List.map_cons, List.flatten_cons, List.singleton_append] at hl
    cases h with
    | int _ _ h => injection hl with _ hl; subst hl; exact own_ints_flat h
    | _ => cases hl
/-- The names do not hang on the trees. -/
theorem Own.det {rows : Nm → Option Row} {c : Bool} {as1 ts : List AV} {ns : List Nm} (h : Own rows c as1 ts ns) : ∀ {c' : Bool} {ts' : List AV} {ns' : List Nm}, Own rows c' as1 ts' ns' → ns' = ns := by
  induction h with
  | nil => intro c' ts' ns' h'; cases h'; rfl
  | int _ _ _ ih => intro c' ts' ns' h'; cases h' with | int _ _ h' => exact ih h'
  | bool _ _ ih => intro c' ts' ns' h'; cases h' with | bool _ h' => exact ih h'
  | str _ _ ih => intro c' ts' ns' h'; cases h' with | str _ h' => exact ih h'
  | nilsl _ ih => intro c' ts' ns' h'; cases h' with | nilsl h' => exact ih h'
  | @sl as1 ts ns1 ns2 n ver len s r ts' h1 h2 h3 h4 h5 h6 h7 h8 h9 h10 ih1 ih2 =>
    intro c' ts' ns' h'
    generalize hl : AV.sl n ver 0 len :: as1 = l at h'
    cases h' with
    | sl n' ver' len' s' r' ts2 q1 q2 q3 q4 q5 q6 q7 q8 q9 q10 =>
      injection hl with hl e
      injection hl with e1 e2 _ e4
      subst e e1 e2 e4
      rw [h1] at q1
      cases q1
      rw [ih1 q9, ih2 q10]
    | slo n' ver' pre sp xs q1 q2 q3 q4 q5 q6 =>
      injection hl with hl e
      injection hl with e1 e2 e3 e4
      subst e e1 e2 e4
      have hp : pre = [] := List.eq_nil_of_length_eq_zero e3.symm
      subst hp
      rw [h1] at q1
      cases q1
      simp only [List.nil_append] at h9
      rw [List.take_left' (by simp)] at h9
      rw [own_ints_flat h9, ih2 q6]
      rfl
    | _ => cases hl
  | @slo as1 ts ns n ver pre sp xs h1 h2 h3 h4 h5 h6 ih =>
    intro c' ts' ns' h'
    generalize hl : AV.sl n ver pre.length xs.length :: as1 = l at h'
    cases h' with
    | sl n' ver' len' s' r' ts2 q1 q2 q3 q4 q5 q6 q7 q8 q9 q10 =>
      injection hl with hl e
      injection hl with e1 e2 e3 e4
      subst e e1 e2 e4
      have hp : pre = [] := List.eq_nil_of_length_eq_zero e3
      subst hp
      rw [h1] at q1
      cases q1
      simp only [List.nil_append] at q9
      rw [List.take_left' (by simp)] at q9
      rw [own_ints_flat q9, ih q10]
      rfl
    | slo n' ver' pre' sp' xs' q1 q2 q3 q4 q5 q6 =>
      injection hl with hl e
      injection hl with e1 e2 e3 e4
      subst e e1
      rw [ih q6]
    | _ => cases hl

section
variable {h h' : Hp} {bs : Bx} {os : Ox} {k : Nm} {ns ns1 ns2 : List Nm} {s ver : Nat} {w : AV} {es sp : List (List AV)} {ts : Bool → List (List AV)}
/-- What is owned, side by side. -/
theorem Cx.agg_app {l1 l2 : List AV} {t1 t2 : Bool → List AV} (x : Cx h bs ((.agg l2, (fun b => .agg (t2 b)), ns2) :: (.agg l1, (fun b => .agg (t1 b)), ns1) :: os)) : Cx h bs ((.agg (l1 ++ l2), (fun b => .agg (t1 b ++ t2 b)), ns1 ++ ns2) :: os) := by
  refine ⟨x.box, fun y hy b => ?_, ?_, fun m hm => x.lt m ?_⟩
  · simp only [List.mem_cons] at hy
    rcases hy with rfl | hy
    · exact .agg (Own.append (ownV_agg_inv (x.o1 b)) (ownV_agg_inv (x.o0 b)))
    · exact x.own y (by simp [hy]) b
  · have nd := x.nd
    simp only [nms, List.map_cons, List.flatten_cons] at nd ⊢
    refine (List.Perm.nodup_iff ?_).1 nd
    rw [← List.append_assoc ns2 ns1 _]
    exact List.Perm.append_left _ (List.Perm.append_right _ List.perm_append_comm)
  · simp only [nms, List.map_cons, List.flatten_cons, List.mem_append] at hm ⊢
    rcases hm with hm | (hm | hm) | hm
    · exact .inl hm
    · exact .inr (.inr (.inl hm))
    · exact .inr (.inl hm)
    · exact .inr (.inr (.inr hm))
theorem Cx.agg_split {l1 l2 : List AV} {t1 t2 : Bool → List AV} (hl : ∀ b, (t1 b).length = l1.length) (x : Cx h bs ((.agg (l1 ++ l2), (fun b => .agg (t1 b ++ t2 b)), ns) :: os)) : ∃ ns1 ns2, ns = ns1 ++ ns2 ∧ Cx h bs ((.agg l2, (fun b => .agg (t2 b)), ns2) :: (.agg l1, (fun b => .agg (t1 b)), ns1) :: os) := by
  obtain ⟨ns1, ns2, e, o1, o2⟩ := Own.split (ownV_agg_inv (x.o0 true)) (hl true)
  refine ⟨ns1, ns2, e, x.box, fun y hy b => ?_, ?_, fun m hm => x.lt m ?_⟩
  · obtain ⟨ns1', ns2', e', o1', o2'⟩ := Own.split (ownV_agg_inv (x.o0 b)) (hl b)
    simp only [List.mem_cons] at hy
    rcases hy with rfl | rfl | hy
    · rw [o2.det o2'] at o2'; exact .agg o2'
    · rw [o1.det o1'] at o1'; exact .agg o1'
    · exact x.own y (by simp [hy]) b
  · have nd := x.nd
    rw [e] at nd
    simp only [nms, List.map_cons, List.flatten_cons] at nd ⊢
    refine (List.Perm.nodup_iff ?_).1 nd
    rw [← List.append_assoc ns2 ns1 _]
    exact List.Perm.append_left _ (List.Perm.append_right _ List.perm_append_comm)
  · rw [e]
    simp only [nms, List.map_cons, List.flatten_cons, List.mem_append] at hm ⊢
    rcases hm with hm | hm | hm | hm
    · exact .inl hm
    · exact .inr (.inl (.inr hm))
    · exact .inr (.inl (.inl hm))
    · exact .inr (.inr hm)
/-- A value alone out of what is owned. -/
theorem Cx.agg_one {t : Bool → AV} (x : Cx h bs ((.agg [w], (fun b => .agg [t b]), ns) :: os)) : Cx h bs ((w, t, ns) :: os) :=
  ⟨x.box, fun y hy b => by
    simp only [List.mem_cons] at hy
    rcases hy with rfl | hy
    · exact .one (ownV_agg_inv (x.o0 b))
    · exact x.own y (by simp [hy]) b, x.nd, x.lt⟩
theorem Cx.agg_mk {t : Bool → AV} (x : Cx h bs ((w, t, ns) :: os)) (ht : ∀ b, (t b).one = true) : Cx h bs ((.agg [w], (fun b => .agg [t b]), ns) :: os) :=
  ⟨x.box, fun y hy b => by
    simp only [List.mem_cons] at hy
    rcases hy with rfl | hy
    · exact .agg (own_of (x.o0 b) (ht b))
    · exact x.own y (by simp [hy]) b, x.nd, x.lt⟩
/-- Other plain cells in the same place. -/
theorem Cx.agg_map {l l' : List AV} {t t' : Bool → List AV} (x : Cx h bs ((.agg l, (fun b => .agg (t b)), ns) :: os)) (f : ∀ b, Own h.rows b l (t b) ns → Own h.rows b l' (t' b) ns) : Cx h bs ((.agg l', (fun b => .agg (t' b)), ns) :: os) :=
  ⟨x.box, fun y hy b => by
    simp only [List.mem_cons] at hy
    rcases hy with rfl | hy
    · exact .agg (f b (ownV_agg_inv (x.o0 b)))
    · exact x.own y (by simp [hy]) b, x.nd, x.lt⟩
theorem Cx.close_row (x : Cx h ((k, ⟨ver, s, es ++ sp⟩) :: bs) ((.agg es.flatten, (fun b => .agg (ts b).flatten), ns) :: os)) (h1 : ∀ e ∈ es, e.length = s) (h2 : ∀ b, (ts b).length = es.length) (h3 : ∀ b, ∀ t ∈ ts b, t.length = s) (h4 : ∀ e ∈ sp, e.length = s) (h5 : ClRow ⟨ver, s, sp⟩) :
    Cx h bs ((.sl k ver 0 es.length, (fun b => .tr b (ts b)), k :: (ns ++ [])) :: os) := by
  have hcl : ClRow ⟨ver, s, es ++ sp⟩ := by
    intro i e j y he hy
    simp only at he
    by_cases hi : i < es.length
    · rw [List.getElem?_append_left hi] at he
      have hm : y ∈ es.flatten := List.mem_flatten.2 ⟨e, List.mem_of_getElem? he, List.mem_of_getElem? hy⟩
      obtain ⟨n, hn⟩ := List.mem_iff_getElem?.1 hm
      exact (ownV_agg_inv (x.o0 true)).cl n y hn
    · rw [List.getElem?_append_right (by omega)] at he
      exact h5 _ e j y he hy
  refine ⟨fun y hy => x.box y (by simp [hy]), fun y hy b => ?_, ?_, fun m hm => x.lt m ?_⟩
  · simp only [List.mem_cons] at hy
    rcases hy with rfl | hy
    · refine .one (.sl k ver es.length s _ (ts b) x.b0 rfl rfl hcl (by simp) (fun e he => ?_) (h2 b) (h3 b) ?_ .nil)
      · simp only [List.mem_append] at he
        exact he.elim (h1 e) (h4 e)
      · simpa using ownV_agg_inv (x.o0 b)
    · exact x.own y (by simp [hy]) b
  · have := x.nd
    simp only [nms, List.map_cons, List.flatten_cons, List.append_nil] at this ⊢
    exact (List.Perm.nodup_iff (by simp)).2 this
  · simp only [nms, List.map_cons, List.flatten_cons, List.append_nil, List.mem_append, List.mem_cons] at hm ⊢
    rcases hm with hm | (hm | hm) | hm
    · exact .inl (.inr hm)
    · exact .inl (.inl hm)
    · exact .inr (.inl hm)
    · exact .inr (.inr hm)
theorem Cx.open_row (x : Cx h bs ((w, (fun b => .tr b (ts b)), ns) :: os)) (hs : 1 < s) (h3 : ∀ b, ∀ t ∈ ts b, t.length = s) (hne : ts true ≠ []) :
    ∃ k ver es sp ns1, w = .sl k ver 0 es.length ∧ ns = k :: (ns1 ++ []) ∧ es.length = (ts true).length ∧ (∀ e ∈ es, e.length = s) ∧ (∀ e ∈ sp, e.length = s) ∧ ClRow ⟨ver, s, sp⟩ ∧ Cx h ((k, ⟨ver, s, es ++ sp⟩) :: bs) ((.agg es.flatten, (fun b => .agg (ts b).flatten), ns1) :: os) := by
  have o := own_of (x.o0 true) rfl
  have o' : ∀ b, Own h.rows b [w] [.tr b (ts b)] ns := fun b => own_of (x.o0 b) rfl
  generalize hw : w = w0 at o
  generalize ht : AV.tr true (ts true) = t0 at o
  cases o with
  | int => cases ht
  | bool => cases ht
  | str => cases ht
  | nilsl => injection ht with _ ht; exact absurd ht hne
  | slo n v pre sp xs =>
    exfalso
    injection ht with _ ht
    have hx : xs ≠ [] := fun e => hne (by rw [ht, e]; rfl)
    obtain ⟨a, l, rfl⟩ := List.exists_cons_of_ne_nil hx
    have := h3 true [.int .i64 a] (by rw [ht]; simp)
    simp at this
    omega
  | @sl _ _ ns1 ns2 n v len s' r ts' g1 g2 g3 g4 g5 g6 g7 g8 g9 g10 =>
    cases g10
    injection ht with _ ht
    subst hw ht
    obtain ⟨v', s2, l⟩ := r
    subst g2 g3
    have hss : s2 = s := by
      obtain ⟨a, l', e⟩ := List.exists_cons_of_ne_nil hne
      have a1 := h3 true a (by rw [e]; simp)
      have a2 := g8 a (by rw [e]; simp)
      simp only at a2
      omega
    subst hss
    have g5' : len ≤ l.length := g5
    have hlen : (l.take len).length = len := by simp only [List.length_take]; omega
    refine ⟨n, v', l.take len, l.drop len, ns1, by rw [hlen], rfl, by rw [hlen]; exact g7.symm, fun e he => g6 e (List.mem_of_mem_take he), fun e he => g6 e (List.mem_of_mem_drop he), fun i e j y he hy => ?_, ?_⟩
    · simp only [List.getElem?_drop] at he
      exact g4 _ e j y he hy
    · rw [List.take_append_drop]
      refine ⟨fun y hy => ?_, fun y hy b => ?_, ?_, fun m hm => x.lt m ?_⟩
      · simp only [List.mem_cons] at hy
        rcases hy with rfl | hy
        · exact g1
        · exact x.box y hy
      · simp only [List.mem_cons] at hy
        rcases hy with rfl | hy
        · refine .agg ?_
          have ob := o' b
          generalize ht2 : AV.tr b (ts b) = t2 at ob
          generalize hn2 : n :: (ns1 ++ []) = nn at ob
          generalize hw2 : AV.sl n v' 0 len = w2 at ob
          cases ob with
          | int => cases hw2
          | bool => cases hw2
          | str => cases hw2
          | nilsl => cases hw2
          | slo n2 v2 pre2 sp2 xs2 q1 q2 q3 q4 q5 q6 =>
            exfalso
            injection hw2 with e1 e2 e3 e4
            subst e1
            rw [g1] at q1
            injection q1 with q1
            injection q1 with _ q1 _
            omega
          | @sl _ _ m1 m2 n2 v2 len2 s2' r2 ts2 q1 q2 q3 q4 q5 q6 q7 q8 q9 q10 =>
            cases q10
            injection ht2 with _ ht2
            injection hw2 with e1 e2 e3 e4
            subst ht2 e1 e4
            rw [g1] at q1
            cases q1
            injection hn2 with _ hn2
            simp only [List.append_nil] at hn2
            subst hn2
            exact q9
        · exact x.own y (by simp [hy]) b
      · have := x.nd
        simp only [nms, List.map_cons, List.flatten_cons, List.append_nil] at this ⊢
        exact (List.Perm.nodup_iff (by simp)).1 this
      · simp only [nms, List.map_cons, List.flatten_cons, List.append_nil, List.mem_append, List.mem_cons] at hm ⊢
        rcases hm with (hm | hm) | hm | hm
        · exact .inr (.inl (.inl hm))
        · exact .inl hm
        · exact .inr (.inl (.inr hm))
        · exact .inr (.inr hm)
/-- A row of plain cells. -/
theorem Cx.open_flat {l : List (List AV)} (x : Cx h bs ((w, (fun b => .tr b l), ns) :: os)) (hf : ∀ e ∈ l, e.length = s ∧ ∀ x ∈ e, flatc x = true) (hs : 1 < s) (hne : l ≠ []) :
    ∃ k ver sp, w = .sl k ver 0 l.length ∧ ns = [k] ∧ (∀ e ∈ sp, e.length = s) ∧ ClRow ⟨ver, s, sp⟩ ∧ Cx h ((k, ⟨ver, s, l ++ sp⟩) :: bs) os := by
  rcases own_row_inv hf hs (own_of (x.o0 true) rfl) with ⟨h0, _⟩ | ⟨n, ver, sp, rfl, rfl, hr, h1, h2⟩
  · exact absurd h0 hne
  · refine ⟨n, ver, sp, rfl, rfl, h1, h2, ?_, fun y hy => x.own y (by simp [hy]), ?_, fun m hm => x.lt m ?_⟩
    · intro y hy
      simp only [List.mem_cons] at hy
      rcases hy with rfl | hy
      · exact hr
      · exact x.box y hy
    · have := x.nd
      simp only [nms, List.map_cons, List.flatten_cons] at this ⊢
      exact (List.Perm.nodup_iff (by simp)).1 this
    · simp only [nms, List.map_cons, List.flatten_cons, List.mem_append, List.mem_cons] at hm ⊢
      rcases hm with (rfl | hm) | hm
      · simp
      · exact .inl hm
      · exact .inr (.inr hm)
theorem Cx.close_flat {l : List (List AV)} (x : Cx h ((k, ⟨ver, s, l ++ sp⟩) :: bs) os) (hf : ∀ e ∈ l, e.length = s ∧ ∀ x ∈ e, flatc x = true) (h1 : ∀ e ∈ sp, e.length = s) (h2 : ClRow ⟨ver, s, sp⟩) :
    Cx h bs ((.sl k ver 0 l.length, (fun b => .tr b l), [k]) :: os) := by
  refine ⟨fun y hy => x.box y (by simp [hy]), fun y hy b => ?_, ?_, fun m hm => x.lt m ?_⟩
  · simp only [List.mem_cons] at hy
    rcases hy with rfl | hy
    · exact .one (own_row_mk x.b0 hf h1 h2)
    · exact x.own y (by simp [hy]) b
  · have := x.nd
    simp only [nms, List.map_cons, List.flatten_cons] at this ⊢
    exact (List.Perm.nodup_iff (by simp)).2 this
  · simp only [nms, List.map_cons, List.flatten_cons, List.mem_append, List.mem_cons] at hm ⊢
    rcases hm with hm | (hm | hm) | hm
    · exact .inl (.inr hm)
    · exact .inl (.inl hm)
    · simp at hm
    · exact .inr hm
theorem fin_own {t : Bool → AV} (x : Cx h' bs ((w, t, ns) :: os)) : ∃ ns, (∀ c, OwnV h'.rows c w (t c) ns) ∧ ns.Nodup ∧ ∀ n ∈ ns, n.1 < h'.tick := ⟨ns, x.o0, x.nodup, x.lts⟩
end
end Go.Proofs.YtmcmgeedhbgglaaGreatDoor.AM

namespace Go.Proofs.YtmcmgeedhbgglaaGreatDoor.AM
open Go.RowKit

theorem bs_getE {l : List UInt8} {k : Nat} (h : k < (bs l).size) : (bs l)[k] = l[k]'(by rw [bs_size] at h; exact h) := Eq.refl _
theorem rg2 : List.range 2 = [0, 1] := by decide
theorem rg3 : List.range 3 = [0, 1, 2] := by decide
theorem rg4 : List.range 4 = [0, 1, 2, 3] := by decide
theorem rg6 : List.range 6 = [0, 1, 2, 3, 4, 5] := by decide
theorem rg12 : List.range 12 = [0, 1, 2, 3, 4, 5, 6, 7, 8, 9, 10, 11] := by decide
/-- Texts in a slice. -/
def strs (b : Bool) (l : List ByteArray) : AV := .tr b (l.map fun x => [.str x])
@[simp] theorem one_strs (b : Bool) (xs : List ByteArray) : (strs b xs).one = true := rfl
@[simp] theorem stored_strs (b : Bool) (xs : List ByteArray) : (strs b xs).stored = true := rfl
@[simp] theorem cells_strs (b : Bool) (xs : List ByteArray) : (strs b xs).cells = [strs b xs] := rfl
theorem lenA_strs {P : Program} {t : TypeId} (b : Bool) (xs : List ByteArray) (h : (telem P t).isSome = true) : lenA P t (strs b xs) = some (.int .i64 xs.length) := by
  unfold strs
  rw [lenA_tr b _ h]
  simp
attribute [simp] lenA_strs
theorem dr_strs {c b : Bool} {rows : Nm → Option Row} (hb : b = true → c = true) (l : List ByteArray) : DR c rows (strs b l) (strs c l) := dr_trflat hb fun e he x hx => by
  simp at he; obtain ⟨a, _, rfl⟩ := he; simp at hx; subst hx; rfl
theorem dr_strs_sl {c : Bool} {rows : Nm → Option Row} {n : Nm} {l : List ByteArray} (h : rows n = some ⟨0, 1, l.map fun x => [.str x]⟩) : DR c rows (.sl n 0 0 l.length) (strs c l) := by
  refine .sl n 0 0 l.length _ _ h rfl (by simp) (by simp) (fun i e t he ht => ?_) (fun i e t j x y he ht hx hy => ?_)
  · simp only [Nat.zero_add] at he
    rw [he] at ht; cases ht; rfl
  · simp only [Nat.zero_add] at he
    rw [he] at ht; cases ht
    rw [hx] at hy; cases hy
    simp at he; obtain ⟨a, _, rfl⟩ := he
    match j, hx with
    | 0, hx => simp at hx; subst hx; exact .str _

theorem take_snoc {α : Type} {l : List α} {i : Nat} (hi : i < l.length) : l.take (i + 1) = l.take i ++ [l[i]] := by
  rw [List.take_add_one, List.getElem?_eq_getElem hi]; rfl
/-- A row of plain cells, read as data. -/
theorem dr_flat_sl {c : Bool} {rows : Nm → Option Row} {n : Nm} {ver s : Nat} {l : List (List AV)} {sp : List (List AV)} (h : rows n = some ⟨ver, s, l ++ sp⟩) (hf : ∀ e ∈ l, ∀ x ∈ e, flatc x = true) : DR c rows (.sl n ver 0 l.length) (.tr c l) := by
  have hg : ∀ i, i < l.length → (l ++ sp)[0 + i]? = l[i]? := fun i hi => by rw [Nat.zero_add, List.getElem?_append_left hi]
  refine .sl n ver 0 l.length _ _ h rfl (by simp) rfl (fun i e t he ht => ?_) (fun i e t j x y he ht hx hy => ?_)
  · have hi : i < l.length := (List.getElem?_eq_some_iff.1 ht).1
    rw [hg i hi] at he
    rw [he] at ht; cases ht; rfl
  · have hi : i < l.length := (List.getElem?_eq_some_iff.1 ht).1
    rw [hg i hi] at he
    rw [he] at ht; cases ht
    rw [hx] at hy; cases hy
    exact dr_flatc (hf e (List.mem_of_getElem? he) x (List.mem_of_getElem? hx))
def FL (s : Nat) (l : List (List AV)) (w : AV) (b : Bx) : Prop :=
  (w = .nilsl ∧ l = [] ∧ b = []) ∨ ∃ k ver sp, w = .sl k ver 0 l.length ∧ (∀ e ∈ sp, e.length = s ∧ ∀ x ∈ e, flatc x = true) ∧ b = [(k, ⟨ver, s, l ++ sp⟩)]
theorem FL.one {s : Nat} {l : List (List AV)} {w : AV} {b : Bx} (f : FL s l w b) : w.one = true ∧ w.stored = true ∧ w.cells = [w] := by
  rcases f with ⟨rfl, _, _⟩ | ⟨k, ver, sp, rfl, _, _⟩ <;> exact ⟨rfl, rfl, rfl⟩
theorem FL.nil {s : Nat} : FL s [] .nilsl [] := .inl ⟨rfl, rfl, rfl⟩
theorem FL.mt {s : Nat} {k : Nm} {ver : Nat} : FL s [] (.sl k ver 0 0) [(k, ⟨ver, s, []⟩)] := .inr ⟨k, ver, [], rfl, by simp, rfl⟩
theorem FL.dr {s : Nat} {l : List (List AV)} {w : AV} {b : Bx} {h : Hp} {c : Bool} (f : FL s l w b) (hf : ∀ e ∈ l, ∀ x ∈ e, flatc x = true) (x : ∀ y ∈ b, h.rows y.1 = some y.2) : DR c h.rows w (.tr c l) := by
  rcases f with ⟨rfl, rfl, rfl⟩ | ⟨k, ver, sp, rfl, _, rfl⟩
  · exact .nilsl
  · exact dr_flat_sl (s := s) (x (k, _) (List.mem_singleton.2 rfl)) hf
theorem appendA_room {P : Program} {t : TypeId} {m n k : Nm} {v vk s len : Nat} {h : Hp} {l sp : List (List AV)} {e e0 : List AV} (h0 : ((telem P t).bind fun e => (tsz P e).bind fun s => (tby P e).bind fun bb => (tzero P e).bind fun z => some (s, decide (0 < s ∧ bb ≤ 32768 ∧ z.length = s))) = some (s, true))
    (hr : h.rows m = some ⟨v, s, l ++ e0 :: sp⟩) (hlen : l.length = len) (hk : h.rows k = some ⟨vk, s, [e]⟩) (he : e.length = s) (hl : len + 1 ≤ 4294967296) (hm : m.1 < h.tick) :
    appendA P t (.sl m v 0 len) (.sl k vk 0 1) h n = some (.sl m v 0 (len + 1), h.put m ⟨v, s, (l ++ [e]) ++ sp⟩) := by
  simp only [Option.bind_eq_some_iff] at h0
  obtain ⟨e', he', s', hs, bb, hb, z, hz, hd⟩ := h0
  simp only [Option.some.injEq, Prod.mk.injEq, decide_eq_true_eq] at hd
  obtain ⟨e1, hd1, hd2, hd3⟩ := hd
  rw [e1] at hs hd1 hd3
  subst hlen
  unfold appendA
  have hsrc : srcElems h.rows (.sl k vk 0 1) = some [e] := by simp [srcElems, hk]
  rw [he', hsrc]
  simp only [hs, hb, hz]
  have a1 : (l ++ e0 :: sp).take l.length = l := by simp
  have a2 : (l ++ e0 :: sp).drop (l.length + 1) = sp := by rw [show l ++ e0 :: sp = (l ++ [e0]) ++ sp by simp]; exact List.drop_left' (by simp)
  have a3 : l.length ≤ (l ++ e0 :: sp).length := by simp
  have a4 : l.length + 1 ≤ (l ++ e0 :: sp).length := by simp
  simp only [List.length_append, List.length_cons] at a3 a4
  simp [he, hd1, hd2, hd3, hr, hl, hm, a1, a2, a3, a4]
theorem Cx.to_front {h : Hp} {fs b bs : Bx} {os : Ox} (x : Cx h (fs ++ (b ++ bs)) os) : Cx h (b ++ (fs ++ bs)) os := x.bperm (List.perm_append_comm_assoc fs b bs)
theorem FL.app {P : Program} {t : TypeId} {s : Nat} {l : List (List AV)} {w : AV} {b bs : Bx} {os : Ox} {h : Hp} {k n : Nm} {vk : Nat} {e : List AV} (h0 : ((telem P t).bind fun e => (tsz P e).bind fun s => (tby P e).bind fun bb => (tzero P e).bind fun z => some (s, decide (0 < s ∧ bb ≤ 32768 ∧ z.length = s))) = some (s, true))
    (f : FL s l w b) (x : Cx h (b ++ bs) os) (hk : h.rows k = some ⟨vk, s, [e]⟩) (he : e.length = s) (hl : l.length + 1 ≤ 4294967296) (hn : n ∉ nms (b ++ bs) os) (ht : n.1 < h.tick) :
    ∃ w' b' h', appendA P t w (.sl k vk 0 1) h n = some (w', h') ∧ FL s (l ++ [e]) w' b' ∧ Cx h' (b' ++ bs) os ∧ h'.tick = h.tick ∧ (w'.one = true ∧ w'.stored = true ∧ w'.cells = [w']) := by
  rcases f with ⟨rfl, rfl, rfl⟩ | ⟨m, ver, sp, rfl, hsp, rfl⟩
  · exact ⟨_, [(n, ⟨0, s, [e]⟩)], _, appendA_nil1 h0 hk he, .inr ⟨n, 0, [], rfl, fun e he => by (cases he), rfl⟩, x.box_add hn ht, rfl, rfl, rfl, rfl⟩
  · have ltm := x.lt m (mem_box (x := (m, _)) (List.mem_cons_self ..))
    cases sp with
    | nil =>
      refine ⟨_, [(m, ⟨ver + 1, s, l ++ [e]⟩)], _, appendA_snoc h0 (by simpa using x.b0) rfl hk he hl (decide_eq_true ltm), .inr ⟨m, ver + 1, [], by simp, fun e he => by (cases he), by simp⟩, x.box_set, rfl, rfl, rfl, rfl⟩
    | cons e0 sp =>
      exact ⟨_, [(m, ⟨ver, s, (l ++ [e]) ++ sp⟩)], _, appendA_room h0 x.b0 rfl hk he hl ltm, .inr ⟨m, ver, sp, by simp, fun e he => hsp e (by simp [he]), rfl⟩, x.box_set, rfl, rfl, rfl, rfl⟩
/-- The step of an append. -/
theorem ev2_app {P : Program} {t : TypeId} {s : Nat} {l : List (List AV)} {w : AV} {fs b bs : Bx} {os : Ox} {h : Hp} {k n : Nm} {vk : Nat} {e : List AV} {N : AV → Hp → Prop} (h0 : ((telem P t).bind fun e => (tsz P e).bind fun s => (tby P e).bind fun bb => (tzero P e).bind fun z => some (s, decide (0 < s ∧ bb ≤ 32768 ∧ z.length = s))) = some (s, true))
    (f : FL s l w b) (x : Cx h (fs ++ (b ++ bs)) os) (hk : h.rows k = some ⟨vk, s, [e]⟩) (he : e.length = s) (hl : l.length + 1 ≤ 4294967296) (hn : n ∉ nms (fs ++ (b ++ bs)) os) (ht : n.1 < h.tick)
    (kk : ∀ w' b' h', FL s (l ++ [e]) w' b' → Cx h' (fs ++ (b' ++ bs)) os → h'.tick = h.tick → (w'.one = true ∧ w'.stored = true ∧ w'.cells = [w']) → N w' h') : Ev2 (appendA P t w (.sl k vk 0 1) h n) N := by
  have y := x.to_front
  obtain ⟨w', b', h', ea, fl, z, tk, q⟩ := FL.app (n := n) h0 f y hk he hl (fun e => hn (by
    simp only [nms, List.map_append, List.mem_append] at e ⊢
    rcases e with (e | e | e) | e
    · exact .inl (.inr (.inl e))
    · exact .inl (.inl e)
    · exact .inl (.inr (.inr e))
    · exact .inr e)) ht
  rw [ea]
  exact kk w' b' h' fl z.to_front tk q
theorem FL.appN {P : Program} {t : TypeId} {s : Nat} {l : List (List AV)} {w : AV} {b bs : Bx} {os : Ox} {h : Hp} {k n : Nm} {vk : Nat} {e : List AV} (h0 : ((telem P t).bind fun e => (tsz P e).bind fun s => (tby P e).bind fun bb => (tzero P e).bind fun z => some (s, decide (0 < s ∧ bb ≤ 32768 ∧ z.length = s))) = some (s, true))
    (f : FL s l w b) (x : Cx h (b ++ bs) os) (hk : h.rows k = some ⟨vk, s, [e]⟩) (he : e.length = s) (hl : l.length + 1 ≤ 4294967296) (hn : n ∉ nms (b ++ bs) os) (ht : n.1 < h.tick) :
    ∃ w' b' h', appendA P t w (.sl k vk 0 1) h n = some (w', h') ∧ FL s (l ++ [e]) w' b' ∧ Cx h' (b' ++ bs) os ∧ h'.tick = h.tick ∧ (w'.one = true ∧ w'.stored = true ∧ w'.cells = [w']) ∧ ∀ y ∈ b', y.1 = n ∨ y.1 ∈ b.map (·.1) := by
  rcases f with ⟨rfl, rfl, rfl⟩ | ⟨m, ver, sp, rfl, hsp, rfl⟩
  · exact ⟨_, [(n, ⟨0, s, [e]⟩)], _, appendA_nil1 h0 hk he, .inr ⟨n, 0, [], rfl, fun e he => by (cases he), rfl⟩, x.box_add hn ht, rfl, ⟨rfl, rfl, rfl⟩, fun y hy => by simp at hy; subst hy; exact .inl rfl⟩
  · have ltm := x.lt m (mem_box (x := (m, _)) (List.mem_cons_self ..))
    cases sp with
    | nil =>
      refine ⟨_, [(m, ⟨ver + 1, s, l ++ [e]⟩)], _, appendA_snoc h0 (by simpa using x.b0) rfl hk he hl (decide_eq_true ltm), .inr ⟨m, ver + 1, [], by simp, fun e he => by (cases he), by simp⟩, x.box_set, rfl, ⟨rfl, rfl, rfl⟩, fun y hy => by simp at hy; subst hy; exact .inr (by simp)⟩
    | cons e0 sp =>
      exact ⟨_, [(m, ⟨ver, s, (l ++ [e]) ++ sp⟩)], _, appendA_room h0 x.b0 rfl hk he hl ltm, .inr ⟨m, ver, sp, by simp, fun e he => hsp e (by simp [he]), rfl⟩, x.box_set, rfl, ⟨rfl, rfl, rfl⟩, fun y hy => by simp at hy; subst hy; exact .inr (by simp)⟩
/-- The same, with the names. -/
theorem ev2_appN {P : Program} {t : TypeId} {s : Nat} {l : List (List AV)} {w : AV} {fs b bs : Bx} {os : Ox} {h : Hp} {k n : Nm} {vk : Nat} {e : List AV} {N : AV → Hp → Prop} (h0 : ((telem P t).bind fun e => (tsz P e).bind fun s => (tby P e).bind fun bb => (tzero P e).bind fun z => some (s, decide (0 < s ∧ bb ≤ 32768 ∧ z.length = s))) = some (s, true))
    (f : FL s l w b) (x : Cx h (fs ++ (b ++ bs)) os) (hk : h.rows k = some ⟨vk, s, [e]⟩) (he : e.length = s) (hl : l.length + 1 ≤ 4294967296) (hn : n ∉ nms (fs ++ (b ++ bs)) os) (ht : n.1 < h.tick)
    (kk : ∀ w' b' h', FL s (l ++ [e]) w' b' → Cx h' (fs ++ (b' ++ bs)) os → h'.tick = h.tick → (w'.one = true ∧ w'.stored = true ∧ w'.cells = [w']) → (∀ y ∈ b', y.1 = n ∨ y.1 ∈ b.map (·.1)) → N w' h') : Ev2 (appendA P t w (.sl k vk 0 1) h n) N := by
  have y := x.to_front
  obtain ⟨w', b', h', ea, fl, z, tk, q, qn⟩ := FL.appN (n := n) h0 f y hk he hl (fun e => hn (by
    simp only [nms, List.map_append, List.mem_append] at e ⊢
    rcases e with (e | e | e) | e
    · exact .inl (.inr (.inl e))
    · exact .inl (.inl e)
    · exact .inl (.inr (.inr e))
    · exact .inr e)) ht
  rw [ea]
  exact kk w' b' h' fl z.to_front tk q qn
theorem Cx.new_nin {h : Hp} {bs : Bx} {os : Ox} {T i : Nat} (x : Cx h bs os) (hT : h.tick ≤ T) : (T, i, 0) ∉ nms bs os := fun e => by
  have := x.lt _ e
  simp only at this
  omega
theorem FL.own {s : Nat} {l : List (List AV)} {w : AV} {b bs : Bx} {os : Ox} {h : Hp} (f : FL s l w b) (hf : ∀ e ∈ l, e.length = s ∧ ∀ x ∈ e, flatc x = true) (x : Cx h (b ++ bs) os) : ∃ ns, Cx h bs ((w, (fun c => .tr c l), ns) :: os) := by
  rcases f with ⟨rfl, rfl, rfl⟩ | ⟨k, ver, sp, rfl, hsp, rfl⟩
  · exact ⟨[], x.add_own (fun b => .one (.nilsl .nil)) .nil (fun n hn => by cases hn) (fun n _ => rfl) (Nat.le_refl _)⟩
  · exact ⟨[k], Cx.close_flat x hf (fun e he => (hsp e he).1) (clRow_flat fun e he => (hsp e he).2)⟩
/-- What a piece of code brings about, and no more of it. -/
theorem st_cut {P : Program} {M : FuncId → Mode} {σ : Nat → AV} {h : Hp} {K : Ex → (Nat → AV) → Hp → Prop} {a : Code} (R : (Nat → AV) → Hp → Prop) (w : wpC P M (Sound P) (drawW2 P M (Sound P)) a σ h (fun e σ' h' => e = .normal ∧ R σ' h')) (k : ∀ σ' h', R σ' h' → K .normal σ' h') : wpC P M (Sound P) (drawW2 P M (Sound P)) a σ h K :=
  wpC_mono Sound.le drawW_le a σ h _ _ (fun e σ' h' hr => by obtain ⟨rfl, hr⟩ := hr; exact k _ _ hr) w
theorem clearA_at {P : Program} {t : TypeId} {n : Nm} {v off len s : Nat} {h : Hp} {pre mid post : List (List AV)} {z : List AV} (h0 : ((telem P t).bind fun e => (tsz P e).bind fun s => (tzero P e).bind fun z => some (s, z, decide (z.length = s ∧ 0 < s ∧ ones z = true))) = some (s, z, true))
    (hr : h.rows n = some ⟨v, s, pre ++ (mid ++ post)⟩) (hp : pre.length = off) (hm : mid.length = len) (ht : n.1 < h.tick) : clearA P t (.sl n v off len) h = some (h.put n ⟨v, s, pre ++ (List.replicate len z ++ post)⟩) := by
  simp only [Option.bind_eq_some_iff] at h0
  obtain ⟨e, he, s', hs, z', hz, hd⟩ := h0
  simp only [Option.some.injEq, Prod.mk.injEq, decide_eq_true_eq] at hd
  obtain ⟨rfl, rfl, hd⟩ := hd
  unfold clearA
  simp only [he, lenOfA, hs, hz]
  subst hp hm
  by_cases h0 : mid.length = 0
  · rw [if_pos h0]
    have : mid = [] := List.eq_nil_of_length_eq_zero h0
    subst this
    congr 1
    exact (hp_put_same (by simpa using hr)).symm
  · rw [if_neg h0, if_pos hd]
    have e1 : (pre ++ (mid ++ post)).take pre.length = pre := by simp
    have e2 : (pre ++ (mid ++ post)).drop (pre.length + mid.length) = post := by rw [← List.append_assoc]; exact List.drop_left' (by simp)
    simp only [overA, hr]
    rw [if_pos ⟨trivial, trivial, by simp, by simp, ht⟩]
    simp only [e1, List.length_replicate, e2, List.append_assoc]
end Go.Proofs.YtmcmgeedhbgglaaGreatDoor.AM

namespace Go.Proofs.YtmcmgeedhbgglaaGreatDoor.AM
open Go.RowKit

private def ME12 : FuncId → Mode := fun f => if f = 101 then .heap else .tree

theorem und_err : ∃ ms, Tryz.prog.underlying 125 = some (.interface ms) := ⟨_, Tryz.underlying125⟩
theorem implReadNum (s : List UInt8) (hl : s.length ≤ 2 ^ 40) : Pure Tryz.prog 79 [.str (bs s)] (.tup [.int .i64 (readR s).1, .bool (readR s).2]) := by
  intro T
  obtain ⟨ms, hms⟩ := und_err
  refine enter mixed ME12 Tryz.func79 rfl (by kernel_rfl) rfl ?_
  repeat' (first | (with_reducible first | refine stp ?_ | refine k_blk_o rfl ?_ | refine k_seq_n ?_) | ((try (conv => arg 1; simp [bs_mk])); with_reducible refine evp ?_) | fail)
  refine st_heap rfl (atoiP s hl _) ?_
  rintro v h1 ⟨rfl, rfl⟩
  cases ha : Go.Lib.atoiAll s with
  | ok v =>
    have K := itoaB v (Go.Lib.atoiAll_bounds ha)
    have hv : atoiV s = .tup [.int .i64 v, .nilif] := by unfold atoiV; rw [ha]
    by_cases he : dg v = s
    · have hr : readR s = (v, true) := by unfold readR; rw [ha]; simp [he]
      repeat' (first | (with_reducible first | refine stp ?_ | refine k_blk_o rfl ?_ | refine k_seq_n ?_) | ((try (conv => arg 1; simp [hv, hms, isCst, he, bs_toList])); with_reducible refine evp ?_) | ((with_reducible refine tcl ?_); first | ((apply tg (K)); (case e => rfl); (case d => (refine dq ?_); (repeat' (first | ((refine Da.mk ?_); first | assumption) | constructor))))) | fail)
      rw [hr]
      exact dr_tup2 (.int _ _) (.bool _)
    · have hr : readR s = (0, false) := by unfold readR; rw [ha]; simp [he]
      have he := beq_false_of_ne he
      repeat' (first | (with_reducible first | refine stp ?_ | refine k_blk_o rfl ?_ | refine k_seq_n ?_) | ((try (conv => arg 1; simp [hv, hms, isCst, he, bs_toList])); with_reducible refine evp ?_) | ((with_reducible refine tcl ?_); first | ((apply tg (K)); (case e => rfl); (case d => (refine dq ?_); (repeat' (first | ((refine Da.mk ?_); first | assumption) | constructor))))) | fail)
      rw [hr]
      exact dr_tup2 (.int _ _) (.bool _)
  | range =>
    have hv : atoiV s = .tup [.int .i64 (Go.Lib.atoiSat s), .errv] := by unfold atoiV; rw [ha]
    have hr : readR s = (0, false) := by unfold readR; rw [ha]
    repeat' (first | (with_reducible first | refine stp ?_ | refine k_blk_o rfl ?_ | refine k_seq_n ?_) | ((try (conv => arg 1; simp [hv, hms, isCst])); with_reducible refine evp ?_) | fail)
    rw [hr]
    exact dr_tup2 (.int _ _) (.bool _)
  | _ =>
    have hv : atoiV s = .tup [.int .i64 0, .errv] := by unfold atoiV; rw [ha]
    have hr : readR s = (0, false) := by unfold readR; rw [ha]
    repeat' (first | (with_reducible first | refine stp ?_ | refine k_blk_o rfl ?_ | refine k_seq_n ?_) | ((try (conv => arg 1; simp [hv, hms, isCst])); with_reducible refine evp ?_) | fail)
    rw [hr]
    exact dr_tup2 (.int _ _) (.bool _)

theorem l01Digit (b : UInt8) : Pure Tryz.prog 88 [.int .u8 b.toNat] (.bool (isD b)) := by
  intro T
  have hb : b.toNat < 256 := b.toNat_lt
  have hw : IntKind.i64.wrap (b.toNat : Int) = b.toNat := wrap_id (by omega) (by omega)
  have K := l01In b.toNat 48 57
  refine enter mixed ME12 Tryz.func88 rfl (by kernel_rfl) rfl ?_
  repeat' (first | (with_reducible first | refine stp ?_ | refine k_blk_o rfl ?_ | refine k_seq_n ?_) | ((try (conv => arg 1; simp [convA, hw])); with_reducible refine evp ?_) | ((with_reducible refine tcl ?_); first | ((apply tg (K)); (case e => rfl); (case d => (refine dq ?_); (repeat' (first | ((refine Da.mk ?_); first | assumption) | constructor))))) | fail)
  refine dr_bool ?_
  simp [inB, isD]
  rw [Bool.eq_iff_iff]
  simp
  omega

theorem nv_take {t : List UInt8} {i : Nat} (h : i < t.length) : nv (t.take (i + 1)) = nvS (nv (t.take i)) t[i] := by
  rw [List.take_add_one, List.getElem?_eq_getElem h]
  exact nv_snoc _ _

set_option maxHeartbeats 4000000 in
theorem specReadNum (s : List UInt8) (hl : s.length ≤ 2 ^ 40) : Pure Tryz.prog 76 [.str (bs s)] (.tup [.int .i64 (specR s).1, .bool (specR s).2]) := by
  intro T
  obtain ⟨t, ht⟩ : ∃ t, t = tl s := ⟨_, rfl⟩
  have htl : t.length ≤ 2 ^ 40 := by
    subst ht
    unfold tl
    split
    · simp at hl; omega
    · exact hl
  have hlen := bs_size t
  have hlens := bs_size s
  obtain ⟨q, hq⟩ : ∃ q : Bool, q = decide (tl s ≠ s) := ⟨_, rfl⟩
  refine enter mixed ME12 Tryz.func76 rfl (by kernel_rfl) rfl ?_
  have hs : (∃ r, s = 45 :: r) ∨ s = [] ∨ ∃ c r, s = c :: r ∧ ¬ c = 45 := by
    cases s with
    | nil => exact .inr (.inl rfl)
    | cons c r =>
      by_cases h : c = 45
      · subst h; exact .inl ⟨r, rfl⟩
      · exact .inr (.inr ⟨c, r, rfl, h⟩)
  have hneq : ∀ r : List UInt8, ¬ r = 45 :: r := fun r h => by have := congrArg List.length h; simp at this
  have K0 : ∀ b : UInt8, Pure Tryz.prog 88 [.int .u8 b.toNat] (.bool (isD b)) := l01Digit
  have KD := specDecText (spn s) (spn_in s)
  have fin : ∀ (h : Hp) (T' : Nat), True := fun _ _ => trivial
  repeat' (first | (with_reducible first | refine stp ?_ | refine k_blk_o rfl ?_) | ((try (conv => arg 1; simp [bs_mk])); with_reducible refine evp ?_) | fail)
  refine k_seq_n ?_
  repeat' (first | (with_reducible first | refine stp ?_ | refine k_blk_o rfl ?_) | ((try (conv => arg 1; simp [bs_mk])); with_reducible refine evp ?_) | fail)
  refine k_seq_n ?_
  refine st_seq ?_
  refine st_cut (fun σ h => σ 0 = .str (bs s) ∧ σ 4 = .str (bs t)) ?cw ?ck
  case cw =>
    rcases hs with ⟨r, rfl⟩ | rfl | ⟨c, r, rfl, hc⟩
    · have htr : t = r := ht
      subst htr
      have esl : ∀ rows, sliceA Tryz.prog rows 9 (.str (bs (45 :: t))) (some (.int .i64 1)) none false = some (.str (bs t)) := fun rows => slice_fr und_9 (by omega) (by simp; omega)
      repeat' (first | (with_reducible first | refine stp ?_ | refine k_blk_o rfl ?_ | refine k_seq_n ?_) | ((try (conv => arg 1; simp [bs_mk, hlens, bs_getE, esl])); with_reducible refine evp ?_) | fail)
      exact ⟨rfl, by simp, by simp⟩
    · have htr : t = [] := ht
      subst htr
      repeat' (first | (with_reducible first | refine stp ?_ | refine k_blk_o rfl ?_ | refine k_seq_n ?_) | ((try (conv => arg 1; simp [bs_mk, hlens])); with_reducible refine evp ?_) | fail)
      exact ⟨rfl, by simp, by simp⟩
    · have htr : t = c :: r := by
        rw [ht]
        unfold tl
        split
        · rename_i r' hr
          exact absurd (List.cons.inj hr).1 hc
        · rfl
      subst htr
      have hc2 : ¬ (c.toNat : Int) = 45 := fun e => hc (UInt8.toNat_inj.1 (by show c.toNat = 45; omega))
      repeat' (first | (with_reducible first | refine stp ?_ | refine k_blk_o rfl ?_ | refine k_seq_n ?_) | ((try (conv => arg 1; simp [bs_mk, hlens, bs_getE, hc2])); with_reducible refine evp ?_) | fail)
      exact ⟨rfl, by simp, by simp⟩
  case ck =>
    rintro σ h ⟨s0, s4⟩
    repeat' (first | (with_reducible first | refine stp ?_ | refine k_blk_o rfl ?_ | refine k_seq_n ?_) | ((try (conv => arg 1; simp [s0, s4])); with_reducible refine evp ?_) | fail)
    refine st_loop (fun (i : Nat) σ h => i ≤ t.length ∧ (∀ b ∈ t.take i, isD b = true) ∧ (0 < i → t.length ≤ 19) ∧ σ 0 = .str (bs s) ∧ σ 4 = .str (bs t) ∧ σ 5 = .int .i64 (nv (t.take i)) ∧ σ 6 = .int .i64 i) (fun i => t.length - i) 0 ?init ?step
    case init =>
      exact ⟨Nat.zero_le _, by simp, by omega, by simp [s0], by simp [s4], by simp [nv], by simp⟩
    case step =>
      rintro i σ h ⟨hi, hd, h19, s0, s4, s5, s6⟩
      by_cases hlt : i < t.length
      · have hlt2 : (i : Int) < t.length := by omega
        have hw : IntKind.i64.wrap (i + 1) = i + 1 := wrap_id (by omega) (by omega)
        have hwb : IntKind.i64.wrap (t[i].toNat : Int) = t[i].toNat := wrap_id (by omega) (by have := t[i].toNat_lt; omega)
        have K := K0 t[i]
        have hm : t[i] ∈ t := List.getElem_mem hlt
        cases hD : isD t[i] with
        | false =>
          have hR : specR s = (0, false) := by
            unfold specR
            rw [if_pos]
            rw [← ht]
            simp only [Bool.or_eq_true, List.any_eq_true]
            exact .inl ⟨t[i], hm, by simp [hD]⟩
          rw [hR]
          rw [hD] at K
          repeat' (first | (with_reducible first | refine stp ?_ | refine k_blk_o rfl ?_ | refine k_seq_n ?_) | ((try (conv => arg 1; simp [s0, s4, s5, s6, hlt, hlt2, hlen, bs_getE])); with_reducible refine evp ?_) | ((with_reducible refine tcl ?_); first | ((apply tg (K)); (case e => rfl); (case d => (refine dq ?_); (repeat' (first | ((refine Da.mk ?_); first | assumption) | constructor))))) | fail)
          exact dr_tup2 (.int _ _) (.bool _)
        | true =>
          rw [hD] at K
          by_cases hl19 : t.length ≤ 19
          · have hl19' : ¬ 19 < (t.length : Int) := by omega
            repeat' (first | (with_reducible first | refine stp ?_ | refine k_blk_o rfl ?_ | refine k_seq_n ?_) | ((try (conv => arg 1; simp [s0, s4, s5, s6, hlt, hlt2, hl19', hlen, hw, hwb, convA, bs_getE])); with_reducible refine evp ?_) | ((with_reducible refine tcl ?_); first | ((apply tg (K)); (case e => rfl); (case d => (refine dq ?_); (repeat' (first | ((refine Da.mk ?_); first | assumption) | constructor))))) | fail)
            refine k_lp_n (i + 1) (by omega) ⟨by omega, fun b hb => ?_, fun _ => hl19, by simp [s0], by simp [s4], by simp [nv_take hlt, nvS, wr], by simp⟩
            rw [List.take_add_one, List.getElem?_eq_getElem hlt] at hb
            simp only [Option.toList_some, List.mem_append, List.mem_singleton] at hb
            rcases hb with hb | rfl
            · exact hd b hb
            · exact hD
          · have hl19' : 19 < (t.length : Int) := by omega
            have hR : specR s = (0, false) := by
              unfold specR
              rw [if_pos]
              rw [← ht]
              simp only [Bool.or_eq_true, Bool.and_eq_true, decide_eq_true_eq]
              exact .inr ⟨fun e => by rw [e] at hlt; simp at hlt, by omega⟩
            rw [hR]
            repeat' (first | (with_reducible first | refine stp ?_ | refine k_blk_o rfl ?_ | refine k_seq_n ?_) | ((try (conv => arg 1; simp [s0, s4, s5, s6, hlt, hlt2, hl19', hlen, bs_getE])); with_reducible refine evp ?_) | ((with_reducible refine tcl ?_); first | ((apply tg (K)); (case e => rfl); (case d => (refine dq ?_); (repeat' (first | ((refine Da.mk ?_); first | assumption) | constructor))))) | fail)
            exact dr_tup2 (.int _ _) (.bool _)
      · have hge : i = t.length := by omega
        subst hge
        rw [List.take_length] at hd s5
        have h1 : ¬ ((tl s).any (fun b => !isD b) || (decide (tl s ≠ []) && decide (19 < (tl s).length))) = true := by
          rw [← ht]
          simp only [Bool.or_eq_true, Bool.and_eq_true, decide_eq_true_eq, List.any_eq_true, not_or, not_exists, not_and]
          refine ⟨fun b hb => by simp [hd b hb], fun hne => ?_⟩
          have : 0 < t.length := List.length_pos_iff.2 hne
          have := h19 this
          omega
        have hsp : ∀ q : Bool, (t == s) = q → spn s = if q = true then nv t else wr (-(nv t)) := fun q hq => by
          unfold spn
          rw [← ht]
          cases q
          · rw [if_pos (by simpa using hq)]; rfl
          · rw [if_neg (by simpa using hq)]; rfl
        have fin : ∀ (σ' : Nat → AV) (h' : Hp), σ' 0 = .str (bs s) → σ' 4 = .str (bs t) → σ' 5 = .int .i64 (spn s) → True := fun _ _ _ _ _ => trivial
        cases hq : t == s with
        | true =>
          have hS := hsp true hq
          rw [if_pos rfl] at hS
          rw [← hS] at s5
          by_cases h0 : t = []
          · have hR : specR s = (0, false) := by unfold specR; rw [if_neg h1, if_pos (.inl (by rw [← ht]; exact h0))]
            rw [hR]
            subst h0
            repeat' (first | (with_reducible first | refine stp ?_ | refine k_blk_o rfl ?_ | refine k_seq_n ?_) | ((try (conv => arg 1; simp [s0, s4, s5, s6, hlen, hq, bs_mk, bs_toList])); with_reducible refine evp ?_) | fail)
            exact dr_tup2 (.int _ _) (.bool _)
          · have hb0 : (t == []) = false := by simp [h0]
            by_cases he : dg (spn s) = s
            · have hR : specR s = (spn s, true) := by unfold specR; rw [if_neg h1, if_neg (by rw [← ht]; simp [h0, he])]
              rw [hR]
              repeat' (first | (with_reducible first | refine stp ?_ | refine k_blk_o rfl ?_ | refine k_seq_n ?_) | ((try (conv => arg 1; simp [s0, s4, s5, s6, hlen, hq, hb0, he, bs_mk, bs_toList])); with_reducible refine evp ?_) | ((with_reducible refine tcl ?_); first | ((apply tg (KD)); (case e => rfl); (case d => (refine dq ?_); (repeat' (first | ((refine Da.mk ?_); first | assumption) | constructor))))) | fail)
              exact dr_tup2 (.int _ _) (.bool _)
            · have hR : specR s = (0, false) := by unfold specR; rw [if_neg h1, if_pos (.inr he)]
              have he := beq_false_of_ne he
              rw [hR]
              repeat' (first | (with_reducible first | refine stp ?_ | refine k_blk_o rfl ?_ | refine k_seq_n ?_) | ((try (conv => arg 1; simp [s0, s4, s5, s6, hlen, hq, hb0, he, bs_mk, bs_toList])); with_reducible refine evp ?_) | ((with_reducible refine tcl ?_); first | ((apply tg (KD)); (case e => rfl); (case d => (refine dq ?_); (repeat' (first | ((refine Da.mk ?_); first | assumption) | constructor))))) | fail)
              exact dr_tup2 (.int _ _) (.bool _)
        | false =>
          have hS := hsp false hq
          rw [if_neg (by decide)] at hS
          have hwn : IntKind.i64.wrap (-(nv t)) = spn s := hS.symm
          by_cases h0 : t = []
          · have hR : specR s = (0, false) := by unfold specR; rw [if_neg h1, if_pos (.inl (by rw [← ht]; exact h0))]
            rw [hR]
            subst h0
            repeat' (first | (with_reducible first | refine stp ?_ | refine k_blk_o rfl ?_ | refine k_seq_n ?_) | ((try (conv => arg 1; simp [s0, s4, s5, s6, hlen, hq, bs_mk, bs_toList])); with_reducible refine evp ?_) | fail)
            exact dr_tup2 (.int _ _) (.bool _)
          · have hb0 : (t == []) = false := by simp [h0]
            by_cases he : dg (spn s) = s
            · have hR : specR s = (spn s, true) := by unfold specR; rw [if_neg h1, if_neg (by rw [← ht]; simp [h0, he])]
              rw [hR]
              repeat' (first | (with_reducible first | refine stp ?_ | refine k_blk_o rfl ?_ | refine k_seq_n ?_) | ((try (conv => arg 1; simp [s0, s4, s5, s6, hlen, hq, hb0, hwn, he, bs_mk, bs_toList])); with_reducible refine evp ?_) | ((with_reducible refine tcl ?_); first | ((apply tg (KD)); (case e => rfl); (case d => (refine dq ?_); (repeat' (first | ((refine Da.mk ?_); first | assumption) | constructor))))) | fail)
              exact dr_tup2 (.int _ _) (.bool _)
            · have hR : specR s = (0, false) := by unfold specR; rw [if_neg h1, if_pos (.inr he)]
              have he := beq_false_of_ne he
              rw [hR]
              repeat' (first | (with_reducible first | refine stp ?_ | refine k_blk_o rfl ?_ | refine k_seq_n ?_) | ((try (conv => arg 1; simp [s0, s4, s5, s6, hlen, hq, hb0, hwn, he, bs_mk, bs_toList])); with_reducible refine evp ?_) | ((with_reducible refine tcl ?_); first | ((apply tg (KD)); (case e => rfl); (case d => (refine dq ?_); (repeat' (first | ((refine Da.mk ?_); first | assumption) | constructor))))) | fail)
              exact dr_tup2 (.int _ _) (.bool _)
theorem specReadNum' (s : List UInt8) (hl : s.length ≤ 2 ^ 40) : Pure Tryz.prog 76 [.str (bs s)] (.tup [.int .i64 (readR s).1, .bool (readR s).2]) := by
  rw [← specR_eq]
  exact specReadNum s hl
end Go.Proofs.YtmcmgeedhbgglaaGreatDoor.AM

namespace Go.Proofs.YtmcmgeedhbgglaaGreatDoor.AM
open Go.RowKit

theorem i64_nat {i : Nat} (h : i ≤ 2 ^ 62) : I64 i := ⟨by omega, by omega⟩
theorem sp_dg_len {l : List Int} (h : ∀ x ∈ l, I64 x) : (sp (l.map dg)).length ≤ l.length * 21 := by
  have := sp_len (xs := l.map dg) (k := 20) (fun x hx => by
    obtain ⟨y, hy, rfl⟩ := List.mem_map.1 hx
    exact dg_len (h y hy))
  simpa using this
/-- A list's first numbers, a blank ahead of each. -/
def spd (l : List Int) (i : Nat) : List UInt8 := sp ((l.take i).map dg)
theorem spd_zero (l : List Int) : spd l 0 = [] := by simp [spd, sp_nil]
theorem spd_all (l : List Int) : spd l l.length = sp (l.map dg) := by simp [spd]
theorem spd_succ {l : List Int} {i : Nat} (h : i < l.length) : spd l (i + 1) = spd l i ++ 32 :: dg l[i] := by
  unfold spd
  rw [List.take_add_one, List.getElem?_eq_getElem h, List.map_append, sp_app]
  simp [sp_cons, sp_nil]
theorem spd_len {l : List Int} (h : ∀ x ∈ l, I64 x) (i : Nat) (hl : l.length ≤ 2 ^ 20) : (spd l i).length ≤ 4294967296 := by
  have := sp_dg_len (l := l.take i) (fun x hx => h x (List.mem_of_mem_take hx))
  simp only [List.length_take] at this
  have h2 : min i l.length ≤ l.length := Nat.min_le_right _ _
  unfold spd
  omega

end Go.Proofs.YtmcmgeedhbgglaaGreatDoor.AM

namespace Go.Proofs.YtmcmgeedhbgglaaGreatDoor.AM
open Go.RowKit

private def MW1 : FuncId → Mode := fun f => .tree

theorem word_flat (w : Word) : w.cells.length = 5 ∧ ∀ x ∈ w.cells, flatc x = true := ⟨rfl, by simp [Word.cells, flatc]⟩
theorem words_flat (ws : List Word) : ∀ e ∈ ws.map Word.cells, e.length = 5 ∧ ∀ x ∈ e, flatc x = true := fun e he => by
  obtain ⟨w, _, rfl⟩ := List.mem_map.1 he
  exact word_flat w
theorem drs_word {c : Bool} {rows : Nm → Option Row} (w : Word) : DRs c rows w.cells w.cells := drs_flat (word_flat w).2
theorem dr_words {c b : Bool} {rows : Nm → Option Row} (hb : b = true → c = true) (ws : List Word) : DR c rows (words b ws) (words c ws) := dr_trflat hb fun e he => (words_flat ws e he).2

theorem eqWord (w : Word) : Pure Tryz.prog 48 [.agg w.cells, .agg w.cells] (.bool true) := by
  intro T
  refine enter mixed MW1 Tryz.func48 rfl (by kernel_rfl) rfl ?_
  repeat' (first | (with_reducible first | refine stp ?_ | refine k_blk_o rfl ?_ | refine k_seq_n ?_) | ((try (conv => arg 1; simp [Word.cells])); with_reducible refine evp ?_) | fail)
  exact .bool _
end Go.Proofs.YtmcmgeedhbgglaaGreatDoor.AM

namespace Go.Proofs.YtmcmgeedhbgglaaGreatDoor.AM
open Go.RowKit

private def MW2 : FuncId → Mode := fun f => .tree

theorem eqWordS (xs : List Word) (hl : xs.length ≤ 2 ^ 62) : Pure Tryz.prog 21 [words true xs, words true xs] (.bool true) := by
  intro T
  refine enter mixed MW2 Tryz.func21 rfl (by kernel_rfl) rfl ?_
  repeat' (first | (with_reducible first | refine stp ?_ | refine k_blk_o rfl ?_ | refine k_seq_n ?_) | ((try (conv => arg 1; simp [words])); with_reducible refine evp ?_) | fail)
  refine st_loop (fun (i : Nat) σ h => i ≤ xs.length ∧ σ 0 = words true xs ∧ σ 1 = words true xs ∧ σ 5 = .int .i64 i) (fun i => xs.length - i) 0 ?init ?step
  case init =>
    simp [words]
  case step =>
    rintro i σ h ⟨hi, h0, h1, h5⟩
    repeat' (first | (with_reducible first | refine stp ?_ | refine k_blk_o rfl ?_ | refine k_seq_n ?_) | ((try (conv => arg 1; simp [words, h0, h5])); with_reducible refine evp ?_) | fail)
    (try with_reducible refine st_if ?_)
    (try (conv => arg 1; simp [words]))
    (try with_reducible refine at_mk ?_)
    refine ⟨fun hb => ?_, fun hb => ?_⟩
    · have hlt : i < xs.length := by simpa using hb
      have hx : xs[i]? = some (xs[i]) := by simp
      have hlen : (xs[i]).cells.length = 5 := rfl
      have hw : IntKind.i64.wrap (i + 1) = i + 1 := wrap_id (by omega) (by omega)
      repeat' (first | (with_reducible first | refine stp ?_ | refine k_blk_o rfl ?_ | refine k_seq_n ?_) | ((try (conv => arg 1; simp [words])); with_reducible refine evp ?_) | fail)
      repeat (with_reducible first | refine stp ?_ | refine k_seq_n ?_)
      refine st_draw 10 (fun _ => false) (by kernel_rfl) ?_
      simp only [List.take_succ_cons, List.take_zero, List.drop_succ_cons, List.drop_zero, List.take_nil, List.drop_nil]
      repeat' (first | (with_reducible first | refine stp ?_ | refine k_blk_o rfl ?_ | refine k_seq_n ?_) | ((try (conv => arg 1; simp [words, h0, h1, h5, hx, hlen, Word.cells])); with_reducible refine evp ?_) | ((with_reducible refine apn ?na ?_); (case na => simp [appNames, ints, intss] <;> first | kernel_rfl | (refine ⟨?_, ?_⟩ <;> kernel_rfl))) | fail)
      refine treeW_pure (eqWord xs[i]) (.cons (dr_agg (drs_word _)) (.cons (dr_agg (drs_word _)) .nil)) ?_
      repeat' (first | (with_reducible first | refine stp ?_ | refine k_blk_o rfl ?_ | refine k_seq_n ?_) | ((try (conv => arg 1; simp [words, h0, h1, h5, hx, hw])); with_reducible refine evp ?_) | ((with_reducible refine apn ?na ?_); (case na => simp [appNames, ints, intss] <;> first | kernel_rfl | (refine ⟨?_, ?_⟩ <;> kernel_rfl))) | fail)
      refine k_lp_n (i + 1) (by omega) ⟨by omega, by simp [h0], by simp [h1], by simp [h5]⟩
    · skip
      repeat' (first | (with_reducible first | refine stp ?_ | refine k_blk_o rfl ?_ | refine k_seq_n ?_) | ((try (conv => arg 1; simp [words])); with_reducible refine evp ?_) | ((with_reducible refine apn ?na ?_); (case na => simp [appNames, ints, intss] <;> first | kernel_rfl | (refine ⟨?_, ?_⟩ <;> kernel_rfl))) | fail)
      exact .bool true

def mwords (k : Int) (n : Nat) : List Word := (List.range n).map fun (i : Nat) => ⟨k + 5 * i, k + 5 * i + 1, k + 5 * i + 1 + 1, k + 5 * i + 1 + 1 + 1, k + 5 * i + 1 + 1 + 1 + 1⟩
theorem mwords_length (k : Int) (n : Nat) : (mwords k n).length = n := by simp [mwords]
theorem mwords_get {k : Int} {n i : Nat} (h : i < n) : (mwords k n)[i]? = some ⟨k + 5 * i, k + 5 * i + 1, k + 5 * i + 1 + 1, k + 5 * i + 1 + 1 + 1, k + 5 * i + 1 + 1 + 1 + 1⟩ := by simp [mwords, h]

theorem markWordS {h : Hp} {a : AV} {xs : List Word} {ns : List Nm} (ho : Own h.rows true [a] [words true xs] ns) (hns : ∀ n ∈ ns, n.1 < h.tick) (k : Int) (hk : 0 ≤ k) (hl : k + 5 * xs.length ≤ 2 ^ 62) :
    Sound Tryz.prog 23 [a, .int .i64 k] h fun v h' => v = .int .i64 (k + 5 * xs.length) ∧ (∀ c, Own h'.rows c [a] [words c (mwords k xs.length)] ns) ∧ (∀ n, n ∉ ns → h'.rows n = h.rows n) ∧ h.tick ≤ h'.tick := by
  rcases own_row_inv (words_flat xs) (by omega) ho with ⟨hx0, hc, hx⟩ | ⟨n, ver, sp, rfl, rfl, hr, hsp, hcl⟩
  · have hx0 : xs = [] := by simpa using hx0
    subst hx0
    rcases hx with ⟨rfl, rfl⟩ | ⟨n, ver, off, rfl, rfl⟩
    all_goals
      refine enter mixed MW2 Tryz.func23 rfl (by kernel_rfl) rfl ?_
      repeat' (first | (with_reducible first | refine stp ?_ | refine k_blk_o rfl ?_ | refine k_seq_n ?_) | ((try (conv => arg 1; simp [words])); with_reducible refine evp ?_) | fail)
      refine st_loop (fun (i : Nat) σ h' => (∃ a, (a = .nilsl ∨ ∃ n ver off, a = .sl n ver off 0) ∧ σ 0 = a) ∧ σ 1 = .int .i64 k ∧ σ 5 = .int .i64 0 ∧ h'.rows = h.rows ∧ h.tick ≤ h'.tick) (fun i => 0) 0 ?init ?step
      case init =>
        refine ⟨⟨_, ?_, rfl⟩, by simp, by simp, by simp, by simp <;> omega⟩
        simp
      case step =>
        rintro i σ h' ⟨⟨a, ha, h0⟩, h1, h5, h6, h7⟩
        rcases ha with rfl | ⟨n, ver, off, rfl⟩
        all_goals
          repeat' (first | (with_reducible first | refine stp ?_ | refine k_blk_o rfl ?_ | refine k_seq_n ?_) | ((try (conv => arg 1; simp [h0, h1, h5])); with_reducible refine evp ?_) | fail)
          repeat' (first | (with_reducible first | refine stp ?_ | refine k_blk_o rfl ?_ | refine k_seq_n ?_) | ((try (conv => arg 1; simp [h0, h1, h5])); with_reducible refine evp ?_) | fail)
          refine ⟨by simp [resV], fun c => ?_, fun n _ => by simp [h6], by simp; omega⟩
          exact (hc c).congr fun n _ => by simp [h6]
  · have hn : n.1 < h.tick := hns n (by simp)
    rw [List.length_map]
    refine enter mixed MW2 Tryz.func23 rfl (by kernel_rfl) rfl ?_
    repeat' (first | (with_reducible first | refine stp ?_ | refine k_blk_o rfl ?_ | refine k_seq_n ?_) | ((try (conv => arg 1; simp [words])); with_reducible refine evp ?_) | fail)
    refine st_loop (fun (i : Nat) σ h' => i ≤ xs.length ∧ σ 0 = .sl n ver 0 xs.length ∧ σ 1 = .int .i64 (k + 5 * i) ∧ σ 5 = .int .i64 i ∧ h.tick ≤ h'.tick ∧ (∀ m, m ≠ n → h'.rows m = h.rows m) ∧
      ∃ ys : List Word, ys.length = xs.length ∧ ys.take i = (mwords k xs.length).take i ∧ h'.rows n = some ⟨ver, 5, (ys.map Word.cells) ++ sp⟩) (fun i => xs.length - i) 0 ?init ?step
    case init =>
      refine ⟨Nat.zero_le _, by simp, by simp, by simp, by simp; omega, fun m _ => by simp, xs, rfl, rfl, by simpa using hr⟩
    case step =>
      rintro i σ h' ⟨hi, h0, h1, h5, ht, hoth, ys, hy, hyi, hr'⟩
      repeat' (first | (with_reducible first | refine stp ?_ | refine k_blk_o rfl ?_ | refine k_seq_n ?_) | ((try (conv => arg 1; simp [h0, h1, h5])); with_reducible refine evp ?_) | fail)
      (try with_reducible refine st_if ?_)
      (try (conv => arg 1; simp [h0]))
      (try with_reducible refine at_mk ?_)
      refine ⟨fun hb => ?_, fun hb => ?_⟩
      · have hlt : i < xs.length := by simpa using hb
        obtain ⟨y1, y2, y3, y4, y5, hy2⟩ : ∃ y1 y2 y3 y4 y5 : Int, ((ys.map Word.cells) ++ sp)[i]? = some [.int .i64 y1, .int .i64 y2, .int .i64 y3, .int .i64 y4, .int .i64 y5] := by
          rw [List.getElem?_append_left (by simp; omega)]
          exact ⟨(ys[i]'(by omega)).Op, (ys[i]'(by omega)).R, (ys[i]'(by omega)).A, (ys[i]'(by omega)).B, (ys[i]'(by omega)).N, by simp [hlt, hy, Word.cells]⟩
        have ht2 : n.1 < h'.tick + 1 + 1 := by omega
        have hw : IntKind.i64.wrap (i + 1) = i + 1 := wrap_id (by omega) (by omega)
        have w1 : IntKind.i64.wrap (k + 5 * i + 1) = k + 5 * i + 1 := wrap_id (by omega) (by omega)
        have w2 : IntKind.i64.wrap (k + 5 * i + 1 + 1) = k + 5 * i + 1 + 1 := wrap_id (by omega) (by omega)
        have w3 : IntKind.i64.wrap (k + 5 * i + 1 + 1 + 1) = k + 5 * i + 1 + 1 + 1 := wrap_id (by omega) (by omega)
        have w4 : IntKind.i64.wrap (k + 5 * i + 1 + 1 + 1 + 1) = k + 5 * i + 1 + 1 + 1 + 1 := wrap_id (by omega) (by omega)
        have w5 : IntKind.i64.wrap (k + 5 * i + 1 + 1 + 1 + 1 + 1) = k + 5 * i + 1 + 1 + 1 + 1 + 1 := wrap_id (by omega) (by omega)
        have hl4 : i < ys.length := by omega
        generalize hes : (ys.map Word.cells) ++ sp = es at hr' hy2
        have hset : ∀ e, (es.set i e)[i]? = some e := fun e => List.getElem?_set_self (by rw [← hes]; simp; omega)
        have tk4 : n.1 < h'.tick + 1 + 1 + 1 + 1 := by omega
        have tk6 : n.1 < h'.tick + 1 + 1 + 1 + 1 + 1 + 1 := by omega
        have tk8 : n.1 < h'.tick + 1 + 1 + 1 + 1 + 1 + 1 + 1 + 1 := by omega
        have tk10 : n.1 < h'.tick + 1 + 1 + 1 + 1 + 1 + 1 + 1 + 1 + 1 + 1 := by omega
        repeat' (first | (with_reducible first | refine stp ?_ | refine k_blk_o rfl ?_ | refine k_seq_n ?_) | ((try (conv => arg 1; simp [h0, h1, h5, hr', hlt, hy2, hset, ht2, tk4, tk6, tk8, tk10, hw, w1, w2, w3, w4, w5])); with_reducible refine evp ?_) | fail)
        refine k_lp_n (i + 1) (by omega) ⟨by omega, by simp [h0], by simp [h1]; omega, by simp [h5], by simp; omega, fun m hm => by simp [hm, hoth m hm], ys.set i ⟨k + 5 * i, k + 5 * i + 1, k + 5 * i + 1 + 1, k + 5 * i + 1 + 1 + 1, k + 5 * i + 1 + 1 + 1 + 1⟩, by simp [hy], ?_, ?_⟩
        · rw [List.take_add_one, List.take_add_one, mwords_get hlt]
          simp [hyi, hy, hlt, List.take_set_of_le]
        · simp [← hes, List.set_append, hl4, List.map_set, Word.cells]
      · have hge : i = xs.length := by simp at hb; omega
        repeat' (first | (with_reducible first | refine stp ?_ | refine k_blk_o rfl ?_ | refine k_seq_n ?_) | ((try (conv => arg 1; simp [h0, h1, h5])); with_reducible refine evp ?_) | fail)
        have e1 : ys = mwords k xs.length := by
          subst hge
          rw [List.take_of_length_le (by omega), List.take_of_length_le (by simp [mwords_length])] at hyi
          exact hyi
        refine ⟨by simp [resV, hge], fun c => ?_, fun m hm => by simpa using hoth m (by simpa using hm), by simp; omega⟩
        have := own_row_mk (rows := h'.rows) (n := n) (ver := ver) (s := 5) (xs := (mwords k xs.length).map Word.cells) (sp := sp) (by rw [← e1]; exact hr') (words_flat _) hsp hcl (c := c)
        rw [List.length_map, mwords_length] at this
        exact this.congr fun m _ => by simp
end Go.Proofs.YtmcmgeedhbgglaaGreatDoor.AM

namespace Go.Proofs.YtmcmgeedhbgglaaGreatDoor.AM
open Go.RowKit

private def MW3 : FuncId → Mode := fun f => if f = 999999 ∨ f = 999999 then .fresh else if f = 22 ∨ f = 23 then .heap else .tree

structure Image.Small (m : Image) : Prop where
  sizes : m.Sizes.length ≤ 2 ^ 20
  code : m.Code.length ≤ 2 ^ 20

theorem drs_image (m : Image) {b b' : Bool} (hb : b = true → b' = true) {rows : Nm → Option Row} : DRs b' rows (m.cells b) (m.cells b') :=
  .cons (dr_ints hb _) (.cons (.int _ _) (.cons (.int _ _) (.cons (dr_words hb _) .nil)))

theorem eqImage (m : Image) (hs : m.Small) : Pure Tryz.prog 7 [.agg (m.cells true), .agg (m.cells true)] (.bool true) := by
  intro T
  refine enter mixed MW3 Tryz.func7 rfl (by kernel_rfl) rfl ?_
  repeat' (first | (with_reducible first | refine stp ?_ | refine k_blk_o rfl ?_ | refine k_seq_n ?_) | ((try (conv => arg 1; simp [Image.cells])); with_reducible refine evp ?_) | ((with_reducible refine tcl ?_); first | ((apply tg (eqIntS m.Sizes (by have := hs.sizes; omega))); (case e => rfl); (case d => (refine dq ?_); (repeat' (first | ((refine Da.mk ?_); first | exact dr_words (by simp) _ | assumption) | constructor)))) | ((apply tg (eqWordS m.Code (by have := hs.code; omega))); (case e => rfl); (case d => (refine dq ?_); (repeat' (first | ((refine Da.mk ?_); first | exact dr_words (by simp) _ | assumption) | constructor))))) | fail)
  exact .bool true
end Go.Proofs.YtmcmgeedhbgglaaGreatDoor.AM

namespace Go.Proofs.YtmcmgeedhbgglaaGreatDoor.AM
open Go.RowKit

private def MW4 : FuncId → Mode := fun f => if f = 999999 ∨ f = 999999 then .fresh else if f = 22 ∨ f = 23 then .heap else .tree

theorem ownV_image {rows : Nm → Option Row} {b : Bool} {v : AV} {m : Image} {ns : List Nm} (h : OwnV rows b v (.agg (m.cells b)) ns) : ∃ w1 w2 n1 n2, v = .agg [w1, .int .i64 m.Params, .int .i64 m.Slots, w2] ∧ ns = n1 ++ n2 ∧ Own rows b [w1] [ints b m.Sizes] n1 ∧ Own rows b [w2] [words b m.Code] n2 := by
  generalize ht : AV.agg (m.cells b) = t at h
  cases h with
  | one h => subst ht; unfold Image.cells at h; cases h
  | tup2 => cases ht
  | @agg l _ _ h =>
    cases ht
    unfold Image.cells at h
    obtain ⟨w1, l1, n1, m1, rfl, rfl, o1, h⟩ := own_cons1 h
    cases h with
    | int _ _ h => cases h with
      | int _ _ h =>
        obtain ⟨w2, l2, n2, m2, rfl, rfl, o2, h⟩ := own_cons1 h
        cases h with
        | nil => exact ⟨w1, w2, n1, n2, rfl, by simp, o1, o2⟩

theorem markImage {h : Hp} {v : AV} {m : Image} {ns : List Nm} (ho : OwnV h.rows true v (.agg (m.cells true)) ns) (hnd : ns.Nodup) (hns : ∀ n ∈ ns, n.1 < h.tick) (hs : m.Small) (k : Int) (hk : 0 ≤ k) (hk2 : k ≤ 2 ^ 40) :
    Sound Tryz.prog 8 [v, .int .i64 k] h fun r h' => (∃ k', r = .int .i64 k' ∧ k ≤ k' ∧ k' ≤ k + 2 ^ 30) ∧ (∀ n, n ∉ ns → n.1 < h.tick → h'.rows n = h.rows n) ∧ h.tick ≤ h'.tick := by
  obtain ⟨w1, w2, n1, n2, rfl, rfl, o1, o2⟩ := ownV_image ho
  have q1 := own_one o1
  have q2 := own_one' o2
  have z1 := hs.sizes
  have z2 := hs.code
  simp only [List.nodup_append, List.mem_append] at hnd
  have b1 : ∀ n ∈ n1, n.1 < h.tick := fun n hn => hns n (by simp [hn])
  have b2 : ∀ n ∈ n2, n.1 < h.tick := fun n hn => hns n (by simp [hn])
  have a1 : (h.tick, 0, 0) ∉ n1 := fun e => by have := b1 _ e; simp at this
  have a2 : (h.tick, 0, 0) ∉ n2 := fun e => by have := b2 _ e; simp at this
  refine enter mixed MW4 Tryz.func8 rfl (by kernel_rfl) rfl ?_
  repeat' (first | (with_reducible first | refine stp ?_ | refine k_blk_o rfl ?_ | refine k_seq_n ?_) | ((try (conv => arg 1; simp [q1.1, q2.1])); with_reducible refine evp ?_) | fail)
  refine st_heap rfl (markIntS (o1.congr fun n hn => ?_) (fun n hn => ?_) k (by omega) (by omega)) ?_
  · have hne : n ≠ (h.tick, 0, 0) := fun e => a1 (e ▸ hn)
    simp [hne]
  · have := b1 n hn
    simp; omega
  rintro r h1 ⟨rfl, _, p1, t1⟩
  simp only [hp_next_tick, hp_put_tick] at t1
  have r1 : h1.rows (h.tick, 0, 0) = some ⟨0, 4, [[w1, .int .i64 m.Params, .int .i64 m.Slots, w2]]⟩ := by
    rw [p1 _ a1]; simp
  repeat' (first | (with_reducible first | refine stp ?_ | refine k_blk_o rfl ?_ | refine k_seq_n ?_) | ((try (conv => arg 1; simp [q1.1, q2.1, r1])); with_reducible refine evp ?_) | fail)
  refine st_heap rfl (markWordS (o2.congr fun n hn => ?_) (fun n hn => ?_) (k + m.Sizes.length) (by omega) (by omega)) ?_
  · have hne : n ≠ (h.tick, 0, 0) := fun e => a2 (e ▸ hn)
    have : n ∉ n1 := fun e => hnd.2.2 n e n hn rfl
    simp [p1 n this, hne]
  · have := b2 n hn
    simp; omega
  rintro r h2 ⟨rfl, _, p2, t2⟩
  simp only [hp_next_tick, hp_put_tick] at t2
  repeat' (first | (with_reducible first | refine stp ?_ | refine k_blk_o rfl ?_ | refine k_seq_n ?_) | ((try (conv => arg 1; simp [q1.1, q2.1])); with_reducible refine evp ?_) | fail)
  refine ⟨⟨_, rfl, by omega, by omega⟩, fun n hn hlt => ?_, by simp; omega⟩
  have hne : n ≠ (h.tick, 0, 0) := fun e => by rw [e] at hlt; simp at hlt
  simp only [List.mem_append, not_or] at hn
  simp [p2 n hn.2, p1 n hn.1, hne]
end Go.Proofs.YtmcmgeedhbgglaaGreatDoor.AM

namespace Go.Proofs.YtmcmgeedhbgglaaGreatDoor.AM
open Go.RowKit

private def MW5 : FuncId → Mode := fun f => .tree

def wordOk (m : Image) (w : Word) : Bool :=
  if w.Op = 0 then inB w.R 0 15 && (decide (w.A = 0) && decide (w.B = 0))
  else if w.Op = 1 ∨ w.Op = 2 then inB w.R 0 15 && (decide (w.A = 0) && decide (w.B = 0)) && inB w.N 0 (IntKind.i64.wrap (m.Slots - 1))
  else if w.Op = 3 then inB w.R 0 15 && inB w.A 0 15 && inB w.B 0 15 && inB w.N 0 5
  else if w.Op = 4 ∨ w.Op = 5 then inB w.R 0 15 && inB w.A 0 15 && decide (w.B = 0) && inB w.N 0 (IntKind.i64.wrap (m.Sizes.length - 1))
  else if w.Op = 11 then inB w.R 0 15 && inB w.A 0 15 && decide (w.B = 0) && decide (w.N = 0)
  else if w.Op = 6 ∨ w.Op = 7 ∨ w.Op = 10 then inB w.R 0 15 && (decide (w.A = 0) && decide (w.B = 0)) && decide (w.N = 0)
  else if w.Op = 8 then decide (w.R = 0) && (decide (w.A = 0) && decide (w.B = 0)) && inB w.N 0 (IntKind.i64.wrap (m.Code.length - 1))
  else if w.Op = 9 then inB w.R 0 15 && (decide (w.A = 0) && decide (w.B = 0)) && inB w.N 0 (IntKind.i64.wrap (m.Code.length - 1))
  else false

theorem lenA_words {P : Program} {t : TypeId} (b : Bool) (ws : List Word) (h : (telem P t).isSome = true) : lenA P t (words b ws) = some (.int .i64 ws.length) := by
  unfold words
  rw [lenA_tr b _ h]
  simp
attribute [simp] lenA_words

theorem l13WordOk (m : Image) (w : Word) : Pure Tryz.prog 39 [.agg (m.cells true), .agg w.cells] (.bool (wordOk m w)) := by
  intro T
  obtain ⟨Op, R, A, B, N⟩ := w
  obtain ⟨Sizes, Params, Slots, Code⟩ := m
  refine enter mixed MW5 Tryz.func39 rfl (by kernel_rfl) rfl ?_
  repeat' (first
    | (with_reducible first | refine st_seq ?_ | refine st_reg ?_ | refine st_block ?_ | refine st_nil ?_ | refine st_skip ?_ | refine st_ret ?_ | refine st_exit ?_ | refine fr_nil ?_ | refine k_seq_n ?_ | refine k_seq_r ?_ | refine k_seq_e ?_ | refine k_blk_n ?_ | refine k_blk_r ?_ | refine k_blk_s ?_ | refine k_blk_o rfl ?_ | refine k_fn_r ?_ | refine k_fn_n ?_ | refine k_lp_r ?_ | refine k_lp_e ?_)
    | ((with_reducible first | refine st_move ?_ | refine st_asg ?_ | refine st_c ?_ | refine fr_c ?_); (try (conv => arg 1; simp [Image.cells, Word.cells])); (with_reducible refine at_mk ?_))
    | ((with_reducible first | refine st_g ?_ | refine fr_g ?_); (try (conv => arg 1; simp [Image.cells, Word.cells])); (with_reducible refine at_mk ?_); with_reducible first | refine gd_tt ?_ | refine gd_ff ?_ | refine gd_tf ?_ | refine gd_ft ?_ | refine gd_no ?_)
    | ((with_reducible first | refine st_gm ?_ | refine fr_gm ?_); (try (conv => arg 1; simp [Image.cells, Word.cells])); (with_reducible refine at_mk ?_); (with_reducible first | refine gm_bool ?_ | refine gm_gv ?_); refine ⟨_, (by intro hc; first | ((try simp only [Bool.and_eq_true] at hc); (try (conv => lhs; simp [hc, Image.cells, Word.cells])); first | done | exact rfl) | ((try simp [gq] at hc); (try (conv => lhs; simp [gq, hc, Image.cells, Word.cells])); first | done | exact rfl)), ?_⟩)
    | ((with_reducible refine st_gmc ?_); (try (conv => arg 1; simp [Image.cells, Word.cells])); (with_reducible refine at_mk ?_); (with_reducible first | refine gm_bool ?_ | refine gm_gv ?_); refine ⟨_, _, _, (by intro hc; first | ((try simp only [Bool.and_eq_true] at hc); (try (conv => lhs; simp [hc, Image.cells, Word.cells])); first | done | exact rfl) | ((try simp [gq] at hc); (try (conv => lhs; simp [gq, hc, Image.cells, Word.cells])); first | done | exact rfl)), rfl, l01In _ _ _, (by intro hc; (try simp at hc); (repeat' (first | exact DRs.nil | refine DRs.cons ?_ ?_ | exact .int _ _ | exact .bool _ | exact .str _ | exact .nilsl | exact .nilp | exact dr_ints (by simp) _ | exact dr_intss (by simp) _ | refine dr_agg ?_ | refine dr_fn ?_ | refine dr_tptr' (by simp) ?_ | assumption))), ?_⟩)
    | ((with_reducible refine fr_gmc ?_); (try (conv => arg 1; simp [Image.cells, Word.cells])); (with_reducible refine at_mk ?_); (with_reducible first | refine gm_bool ?_ | refine gm_gv ?_); refine ⟨_, _, _, (by intro hc; first | ((try simp only [Bool.and_eq_true] at hc); (try (conv => lhs; simp [hc, Image.cells, Word.cells])); first | done | exact rfl) | ((try simp [gq] at hc); (try (conv => lhs; simp [gq, hc, Image.cells, Word.cells])); first | done | exact rfl)), l01In _ _ _, (by intro hc; (try simp at hc); (repeat' (first | exact DRs.nil | refine DRs.cons ?_ ?_ | exact .int _ _ | exact .bool _ | exact .str _ | exact .nilsl | exact .nilp | exact dr_ints (by simp) _ | exact dr_intss (by simp) _ | refine dr_agg ?_ | refine dr_fn ?_ | refine dr_tptr' (by simp) ?_ | assumption))), ?_⟩)
    | ((with_reducible refine st_gmv ?_); (try (conv => arg 1; simp [Image.cells, Word.cells])); (with_reducible refine at_mk ?_); (with_reducible first | refine gm_bool ?_ | refine gm_gv ?_); refine ⟨_, _, _, _, _, (by intro hc; first | ((try simp only [Bool.and_eq_true] at hc); (try (conv => lhs; simp [hc, Image.cells, Word.cells])); first | done | exact rfl) | ((try simp [gq] at hc); (try (conv => lhs; simp [gq, hc, Image.cells, Word.cells])); first | done | exact rfl)), (by intro hc; first | ((try simp only [Bool.and_eq_true] at hc); (try (conv => lhs; simp [hc, Image.cells, Word.cells])); first | done | exact rfl) | ((try simp [gq] at hc); (try (conv => lhs; simp [gq, hc, Image.cells, Word.cells])); first | done | exact rfl)), rfl, l01In _ _ _, (by intro hc; (try simp at hc); (repeat' (first | exact DRs.nil | refine DRs.cons ?_ ?_ | exact .int _ _ | exact .bool _ | exact .str _ | exact .nilsl | exact .nilp | exact dr_ints (by simp) _ | exact dr_intss (by simp) _ | refine dr_agg ?_ | refine dr_fn ?_ | refine dr_tptr' (by simp) ?_ | assumption))), ?_⟩)
    | ((with_reducible refine st_m rfl ?_); (try (conv => arg 1; simp [Image.cells, Word.cells])); (with_reducible refine ev2_some ?_))
    | ((with_reducible refine fr_n rfl ?_); (try (conv => arg 1; simp [Image.cells, Word.cells])); (with_reducible refine evn_some ?_))
    | ((with_reducible first | refine st_cv ?_ | refine fr_cv ?_); (try (conv => arg 1; simp [Image.cells, Word.cells])); (with_reducible refine at_mk ?_); (with_reducible refine fn_mk ?_); (try (conv => arg 1; simp [Image.cells, Word.cells])); (with_reducible refine at_mk ?_))
    | ((with_reducible refine fr_a ?_); (try (conv => arg 1; simp [Image.cells, Word.cells])); (with_reducible refine at_mk ?_); (try (conv => arg 1; simp [Image.cells, Word.cells])); (with_reducible refine at_mk ?_); refine ⟨?names, ?_⟩; (case names => (simp [appNames, ints, intss] <;> first | kernel_rfl | (refine ⟨?_, ?_⟩ <;> kernel_rfl))); (try (conv => arg 1; simp [Image.cells, Word.cells])); (with_reducible refine ev2_some ?_))
    | ((with_reducible first | refine st_q ?_ | refine fr_q ?_ | refine st_res ?_); (try (conv => arg 1; simp [Image.cells, Word.cells])); (with_reducible refine ev_some ?_))
    | ((with_reducible refine st_if ?_); (try (conv => arg 1; simp [Image.cells, Word.cells])); (with_reducible refine at_mk ?_); with_reducible first | refine br_t ?_ | refine br_f ?_ | (refine br_b (fun hb => ?_) (fun hb => ?_) <;> ((try simp only [Bool.not_eq_eq_eq_not, Bool.not_true, Bool.not_false] at hb); (try simp only [hb]); (try simp at hb))))
    | ((with_reducible refine ct_id ?_); refine st_tree rfl (l01In _ _ _) (by (repeat' (first | exact DRs.nil | refine DRs.cons ?_ ?_ | exact .int _ _ | exact .bool _ | exact .str _ | exact .nilsl | exact .nilp | exact dr_ints (by simp) _ | exact dr_intss (by simp) _ | refine dr_agg ?_ | refine dr_fn ?_ | refine dr_tptr' (by simp) ?_ | assumption))) ?_)
    | ((with_reducible refine tw_id ?_); refine treeW_pure (l01In _ _ _) (by (repeat' (first | exact DRs.nil | refine DRs.cons ?_ ?_ | exact .int _ _ | exact .bool _ | exact .str _ | exact .nilsl | exact .nilp | exact dr_ints (by simp) _ | exact dr_intss (by simp) _ | refine dr_agg ?_ | refine dr_fn ?_ | refine dr_tptr' (by simp) ?_ | assumption))) ?_))
  all_goals exact dr_bool (by simp_all [wordOk])
end Go.Proofs.YtmcmgeedhbgglaaGreatDoor.AM

namespace Go.Proofs.YtmcmgeedhbgglaaGreatDoor.AM
open Go.RowKit

private def MW6 : FuncId → Mode := fun f => .tree

theorem register (n : Int) (has : Bool) : Pure Tryz.prog 123 [.int .i64 n, .bool has] (.bool (inB n 0 15 && (has || decide (n = 0)))) := by
  intro T
  refine enter mixed MW6 Tryz.func123 rfl (by kernel_rfl) rfl ?_
  repeat' (first
    | (with_reducible first | refine st_seq ?_ | refine st_reg ?_ | refine st_block ?_ | refine st_nil ?_ | refine st_skip ?_ | refine st_ret ?_ | refine st_exit ?_ | refine fr_nil ?_ | refine k_seq_n ?_ | refine k_seq_r ?_ | refine k_seq_e ?_ | refine k_blk_n ?_ | refine k_blk_r ?_ | refine k_blk_s ?_ | refine k_blk_o rfl ?_ | refine k_fn_r ?_ | refine k_fn_n ?_ | refine k_lp_r ?_ | refine k_lp_e ?_)
    | ((with_reducible first | refine st_move ?_ | refine st_asg ?_ | refine st_c ?_ | refine fr_c ?_); (try (conv => arg 1; simp)); (with_reducible refine at_mk ?_))
    | ((with_reducible first | refine st_g ?_ | refine fr_g ?_); (try (conv => arg 1; simp)); (with_reducible refine at_mk ?_); with_reducible first | refine gd_tt ?_ | refine gd_ff ?_ | refine gd_tf ?_ | refine gd_ft ?_ | refine gd_no ?_)
    | ((with_reducible first | refine st_gm ?_ | refine fr_gm ?_); (try (conv => arg 1; simp)); (with_reducible refine at_mk ?_); (with_reducible first | refine gm_bool ?_ | refine gm_gv ?_); refine ⟨_, (by intro hc; first | ((try simp only [Bool.and_eq_true] at hc); (try (conv => lhs; simp [hc])); first | done | exact rfl) | ((try simp [gq] at hc); (try (conv => lhs; simp [gq, hc])); first | done | exact rfl)), ?_⟩)
    | ((with_reducible refine st_gmc ?_); (try (conv => arg 1; simp)); (with_reducible refine at_mk ?_); (with_reducible first | refine gm_bool ?_ | refine gm_gv ?_); refine ⟨_, _, _, (by intro hc; first | ((try simp only [Bool.and_eq_true] at hc); (try (conv => lhs; simp [hc])); first | done | exact rfl) | ((try simp [gq] at hc); (try (conv => lhs; simp [gq, hc])); first | done | exact rfl)), rfl, in_ _ _ _, (by intro hc; (try simp at hc); (repeat' (first | exact DRs.nil | refine DRs.cons ?_ ?_ | exact .int _ _ | exact .bool _ | exact .str _ | exact .nilsl | exact .nilp | exact dr_ints (by simp) _ | exact dr_intss (by simp) _ | refine dr_agg ?_ | refine dr_fn ?_ | refine dr_tptr' (by simp) ?_ | assumption))), ?_⟩)
    | ((with_reducible refine fr_gmc ?_); (try (conv => arg 1; simp)); (with_reducible refine at_mk ?_); (with_reducible first | refine gm_bool ?_ | refine gm_gv ?_); refine ⟨_, _, _, (by intro hc; first | ((try simp only [Bool.and_eq_true] at hc); (try (conv => lhs; simp [hc])); first | done | exact rfl) | ((try simp [gq] at hc); (try (conv => lhs; simp [gq, hc])); first | done | exact rfl)), in_ _ _ _, (by intro hc; (try simp at hc); (repeat' (first | exact DRs.nil | refine DRs.cons ?_ ?_ | exact .int _ _ | exact .bool _ | exact .str _ | exact .nilsl | exact .nilp | exact dr_ints (by simp) _ | exact dr_intss (by simp) _ | refine dr_agg ?_ | refine dr_fn ?_ | refine dr_tptr' (by simp) ?_ | assumption))), ?_⟩)
    | ((with_reducible refine st_gmv ?_); (try (conv => arg 1; simp)); (with_reducible refine at_mk ?_); (with_reducible first | refine gm_bool ?_ | refine gm_gv ?_); refine ⟨_, _, _, _, _, (by intro hc; first | ((try simp only [Bool.and_eq_true] at hc); (try (conv => lhs; simp [hc])); first | done | exact rfl) | ((try simp [gq] at hc); (try (conv => lhs; simp [gq, hc])); first | done | exact rfl)), (by intro hc; first | ((try simp only [Bool.and_eq_true] at hc); (try (conv => lhs; simp [hc])); first | done | exact rfl) | ((try simp [gq] at hc); (try (conv => lhs; simp [gq, hc])); first | done | exact rfl)), rfl, in_ _ _ _, (by intro hc; (try simp at hc); (repeat' (first | exact DRs.nil | refine DRs.cons ?_ ?_ | exact .int _ _ | exact .bool _ | exact .str _ | exact .nilsl | exact .nilp | exact dr_ints (by simp) _ | exact dr_intss (by simp) _ | refine dr_agg ?_ | refine dr_fn ?_ | refine dr_tptr' (by simp) ?_ | assumption))), ?_⟩)
    | ((with_reducible refine st_m rfl ?_); (try (conv => arg 1; simp)); (with_reducible refine ev2_some ?_))
    | ((with_reducible refine fr_n rfl ?_); (try (conv => arg 1; simp)); (with_reducible refine evn_some ?_))
    | ((with_reducible first | refine st_cv ?_ | refine fr_cv ?_); (try (conv => arg 1; simp)); (with_reducible refine at_mk ?_); (with_reducible refine fn_mk ?_); (try (conv => arg 1; simp)); (with_reducible refine at_mk ?_))
    | ((with_reducible refine fr_a ?_); (try (conv => arg 1; simp)); (with_reducible refine at_mk ?_); (try (conv => arg 1; simp)); (with_reducible refine at_mk ?_); refine ⟨?names, ?_⟩; (case names => (simp [appNames, ints, intss] <;> first | kernel_rfl | (refine ⟨?_, ?_⟩ <;> kernel_rfl))); (try (conv => arg 1; simp)); (with_reducible refine ev2_some ?_))
    | ((with_reducible first | refine st_q ?_ | refine fr_q ?_ | refine st_res ?_); (try (conv => arg 1; simp)); (with_reducible refine ev_some ?_))
    | ((with_reducible refine st_if ?_); (try (conv => arg 1; simp)); (with_reducible refine at_mk ?_); with_reducible first | refine br_t ?_ | refine br_f ?_)
    | ((with_reducible refine ct_id ?_); refine st_tree rfl (in_ _ _ _) (by (repeat' (first | exact DRs.nil | refine DRs.cons ?_ ?_ | exact .int _ _ | exact .bool _ | exact .str _ | exact .nilsl | exact .nilp | exact dr_ints (by simp) _ | exact dr_intss (by simp) _ | refine dr_agg ?_ | refine dr_fn ?_ | refine dr_tptr' (by simp) ?_ | assumption))) ?_)
    | ((with_reducible refine tw_id ?_); refine treeW_pure (in_ _ _ _) (by (repeat' (first | exact DRs.nil | refine DRs.cons ?_ ?_ | exact .int _ _ | exact .bool _ | exact .str _ | exact .nilsl | exact .nilp | exact dr_ints (by simp) _ | exact dr_intss (by simp) _ | refine dr_agg ?_ | refine dr_fn ?_ | refine dr_tptr' (by simp) ?_ | assumption))) ?_))
  exact .bool _

set_option maxHeartbeats 4000000 in
theorem isWordOf (m : Image) (w : Word) : Pure Tryz.prog 84 [.agg (m.cells true), .agg w.cells] (.bool (wordOk m w)) := by
  intro T
  obtain ⟨Op, R, A, B, N⟩ := w
  obtain ⟨Sizes, Params, Slots, Code⟩ := m
  refine enter mixed MW6 Tryz.func84 rfl (by kernel_rfl) rfl ?_
  repeat' (first
    | (with_reducible first | refine st_seq ?_ | refine st_reg ?_ | refine st_block ?_ | refine st_nil ?_ | refine st_skip ?_ | refine st_ret ?_ | refine st_exit ?_ | refine fr_nil ?_ | refine k_seq_n ?_ | refine k_seq_r ?_ | refine k_seq_e ?_ | refine k_blk_n ?_ | refine k_blk_r ?_ | refine k_blk_s ?_ | refine k_blk_o rfl ?_ | refine k_fn_r ?_ | refine k_fn_n ?_ | refine k_lp_r ?_ | refine k_lp_e ?_)
    | ((with_reducible first | refine st_move ?_ | refine st_asg ?_ | refine st_c ?_ | refine fr_c ?_); (try (conv => arg 1; simp [Image.cells, Word.cells])); (with_reducible refine at_mk ?_))
    | ((with_reducible first | refine st_g ?_ | refine fr_g ?_); (try (conv => arg 1; simp [Image.cells, Word.cells])); (with_reducible refine at_mk ?_); with_reducible first | refine gd_tt ?_ | refine gd_ff ?_ | refine gd_tf ?_ | refine gd_ft ?_ | refine gd_no ?_)
    | ((with_reducible first | refine st_gm ?_ | refine fr_gm ?_); (try (conv => arg 1; simp [Image.cells, Word.cells])); (with_reducible refine at_mk ?_); (with_reducible first | refine gm_bool ?_ | refine gm_gv ?_); refine ⟨_, (by intro hc; first | ((try simp only [Bool.and_eq_true] at hc); (try (conv => lhs; simp [hc, Image.cells, Word.cells])); first | done | exact rfl) | ((try simp [gq] at hc); (try (conv => lhs; simp [gq, hc, Image.cells, Word.cells])); first | done | exact rfl)), ?_⟩)
    | ((with_reducible refine st_gmc ?_); (try (conv => arg 1; simp [Image.cells, Word.cells])); (with_reducible refine at_mk ?_); (with_reducible first | refine gm_bool ?_ | refine gm_gv ?_); refine ⟨_, _, _, (by intro hc; first | ((try simp only [Bool.and_eq_true] at hc); (try (conv => lhs; simp [hc, Image.cells, Word.cells])); first | done | exact rfl) | ((try simp [gq] at hc); (try (conv => lhs; simp [gq, hc, Image.cells, Word.cells])); first | done | exact rfl)), rfl, in_ _ _ _, (by intro hc; (try simp at hc); (repeat' (first | exact DRs.nil | refine DRs.cons ?_ ?_ | exact .int _ _ | exact .bool _ | exact .str _ | exact .nilsl | exact .nilp | exact dr_ints (by simp) _ | exact dr_intss (by simp) _ | refine dr_agg ?_ | refine dr_fn ?_ | refine dr_tptr' (by simp) ?_ | assumption))), ?_⟩)
    | ((with_reducible refine fr_gmc ?_); (try (conv => arg 1; simp [Image.cells, Word.cells])); (with_reducible refine at_mk ?_); (with_reducible first | refine gm_bool ?_ | refine gm_gv ?_); refine ⟨_, _, _, (by intro hc; first | ((try simp only [Bool.and_eq_true] at hc); (try (conv => lhs; simp [hc, Image.cells, Word.cells])); first | done | exact rfl) | ((try simp [gq] at hc); (try (conv => lhs; simp [gq, hc, Image.cells, Word.cells])); first | done | exact rfl)), in_ _ _ _, (by intro hc; (try simp at hc); (repeat' (first | exact DRs.nil | refine DRs.cons ?_ ?_ | exact .int _ _ | exact .bool _ | exact .str _ | exact .nilsl | exact .nilp | exact dr_ints (by simp) _ | exact dr_intss (by simp) _ | refine dr_agg ?_ | refine dr_fn ?_ | refine dr_tptr' (by simp) ?_ | assumption))), ?_⟩)
    | ((with_reducible refine st_gmv ?_); (try (conv => arg 1; simp [Image.cells, Word.cells])); (with_reducible refine at_mk ?_); (with_reducible first | refine gm_bool ?_ | refine gm_gv ?_); refine ⟨_, _, _, _, _, (by intro hc; first | ((try simp only [Bool.and_eq_true] at hc); (try (conv => lhs; simp [hc, Image.cells, Word.cells])); first | done | exact rfl) | ((try simp [gq] at hc); (try (conv => lhs; simp [gq, hc, Image.cells, Word.cells])); first | done | exact rfl)), (by intro hc; first | ((try simp only [Bool.and_eq_true] at hc); (try (conv => lhs; simp [hc, Image.cells, Word.cells])); first | done | exact rfl) | ((try simp [gq] at hc); (try (conv => lhs; simp [gq, hc, Image.cells, Word.cells])); first | done | exact rfl)), rfl, in_ _ _ _, (by intro hc; (try simp at hc); (repeat' (first | exact DRs.nil | refine DRs.cons ?_ ?_ | exact .int _ _ | exact .bool _ | exact .str _ | exact .nilsl | exact .nilp | exact dr_ints (by simp) _ | exact dr_intss (by simp) _ | refine dr_agg ?_ | refine dr_fn ?_ | refine dr_tptr' (by simp) ?_ | assumption))), ?_⟩)
    | ((with_reducible refine st_gmc ?_); (try (conv => arg 1; simp [Image.cells, Word.cells])); (with_reducible refine at_mk ?_); (with_reducible first | refine gm_bool ?_ | refine gm_gv ?_); refine ⟨_, _, _, (by intro hc; first | ((try simp only [Bool.and_eq_true] at hc); (try (conv => lhs; simp [hc, Image.cells, Word.cells])); first | done | exact rfl) | ((try simp [gq] at hc); (try (conv => lhs; simp [gq, hc, Image.cells, Word.cells])); first | done | exact rfl)), rfl, register _ _, (by intro hc; (try simp at hc); (repeat' (first | exact DRs.nil | refine DRs.cons ?_ ?_ | exact .int _ _ | exact .bool _ | exact .str _ | exact .nilsl | exact .nilp | exact dr_ints (by simp) _ | exact dr_intss (by simp) _ | refine dr_agg ?_ | refine dr_fn ?_ | refine dr_tptr' (by simp) ?_ | assumption))), ?_⟩)
    | ((with_reducible refine fr_gmc ?_); (try (conv => arg 1; simp [Image.cells, Word.cells])); (with_reducible refine at_mk ?_); (with_reducible first | refine gm_bool ?_ | refine gm_gv ?_); refine ⟨_, _, _, (by intro hc; first | ((try simp only [Bool.and_eq_true] at hc); (try (conv => lhs; simp [hc, Image.cells, Word.cells])); first | done | exact rfl) | ((try simp [gq] at hc); (try (conv => lhs; simp [gq, hc, Image.cells, Word.cells])); first | done | exact rfl)), register _ _, (by intro hc; (try simp at hc); (repeat' (first | exact DRs.nil | refine DRs.cons ?_ ?_ | exact .int _ _ | exact .bool _ | exact .str _ | exact .nilsl | exact .nilp | exact dr_ints (by simp) _ | exact dr_intss (by simp) _ | refine dr_agg ?_ | refine dr_fn ?_ | refine dr_tptr' (by simp) ?_ | assumption))), ?_⟩)
    | ((with_reducible refine st_gmv ?_); (try (conv => arg 1; simp [Image.cells, Word.cells])); (with_reducible refine at_mk ?_); (with_reducible first | refine gm_bool ?_ | refine gm_gv ?_); refine ⟨_, _, _, _, _, (by intro hc; first | ((try simp only [Bool.and_eq_true] at hc); (try (conv => lhs; simp [hc, Image.cells, Word.cells])); first | done | exact rfl) | ((try simp [gq] at hc); (try (conv => lhs; simp [gq, hc, Image.cells, Word.cells])); first | done | exact rfl)), (by intro hc; first | ((try simp only [Bool.and_eq_true] at hc); (try (conv => lhs; simp [hc, Image.cells, Word.cells])); first | done | exact rfl) | ((try simp [gq] at hc); (try (conv => lhs; simp [gq, hc, Image.cells, Word.cells])); first | done | exact rfl)), rfl, register _ _, (by intro hc; (try simp at hc); (repeat' (first | exact DRs.nil | refine DRs.cons ?_ ?_ | exact .int _ _ | exact .bool _ | exact .str _ | exact .nilsl | exact .nilp | exact dr_ints (by simp) _ | exact dr_intss (by simp) _ | refine dr_agg ?_ | refine dr_fn ?_ | refine dr_tptr' (by simp) ?_ | assumption))), ?_⟩)
    | ((with_reducible refine st_m rfl ?_); (try (conv => arg 1; simp [Image.cells, Word.cells])); (with_reducible refine ev2_some ?_))
    | ((with_reducible refine fr_n rfl ?_); (try (conv => arg 1; simp [Image.cells, Word.cells])); (with_reducible refine evn_some ?_))
    | ((with_reducible first | refine st_cv ?_ | refine fr_cv ?_); (try (conv => arg 1; simp [Image.cells, Word.cells])); (with_reducible refine at_mk ?_); (with_reducible refine fn_mk ?_); (try (conv => arg 1; simp [Image.cells, Word.cells])); (with_reducible refine at_mk ?_))
    | ((with_reducible refine fr_a ?_); (try (conv => arg 1; simp [Image.cells, Word.cells])); (with_reducible refine at_mk ?_); (try (conv => arg 1; simp [Image.cells, Word.cells])); (with_reducible refine at_mk ?_); refine ⟨?names, ?_⟩; (case names => (simp [appNames, ints, intss] <;> first | kernel_rfl | (refine ⟨?_, ?_⟩ <;> kernel_rfl))); (try (conv => arg 1; simp [Image.cells, Word.cells])); (with_reducible refine ev2_some ?_))
    | ((with_reducible first | refine st_q ?_ | refine fr_q ?_ | refine st_res ?_); (try (conv => arg 1; simp [Image.cells, Word.cells])); (with_reducible refine ev_some ?_))
    | ((with_reducible refine st_if ?_); (try (conv => arg 1; simp [Image.cells, Word.cells])); (with_reducible refine at_mk ?_); with_reducible first | refine br_t ?_ | refine br_f ?_ | (refine br_b (fun hb => ?_) (fun hb => ?_) <;> ((try simp only [Bool.not_eq_eq_eq_not, Bool.not_true, Bool.not_false] at hb); (try simp only [hb]); (try simp at hb))))
    | ((with_reducible refine ct_id ?_); refine st_tree rfl (in_ _ _ _) (by (repeat' (first | exact DRs.nil | refine DRs.cons ?_ ?_ | exact .int _ _ | exact .bool _ | exact .str _ | exact .nilsl | exact .nilp | exact dr_ints (by simp) _ | exact dr_intss (by simp) _ | refine dr_agg ?_ | refine dr_fn ?_ | refine dr_tptr' (by simp) ?_ | assumption))) ?_)
    | ((with_reducible refine tw_id ?_); refine treeW_pure (in_ _ _ _) (by (repeat' (first | exact DRs.nil | refine DRs.cons ?_ ?_ | exact .int _ _ | exact .bool _ | exact .str _ | exact .nilsl | exact .nilp | exact dr_ints (by simp) _ | exact dr_intss (by simp) _ | refine dr_agg ?_ | refine dr_fn ?_ | refine dr_tptr' (by simp) ?_ | assumption))) ?_)
    | ((with_reducible refine ct_id ?_); refine st_tree rfl (register _ _) (by (repeat' (first | exact DRs.nil | refine DRs.cons ?_ ?_ | exact .int _ _ | exact .bool _ | exact .str _ | exact .nilsl | exact .nilp | exact dr_ints (by simp) _ | exact dr_intss (by simp) _ | refine dr_agg ?_ | refine dr_fn ?_ | refine dr_tptr' (by simp) ?_ | assumption))) ?_)
    | ((with_reducible refine tw_id ?_); refine treeW_pure (register _ _) (by (repeat' (first | exact DRs.nil | refine DRs.cons ?_ ?_ | exact .int _ _ | exact .bool _ | exact .str _ | exact .nilsl | exact .nilp | exact dr_ints (by simp) _ | exact dr_intss (by simp) _ | refine dr_agg ?_ | refine dr_fn ?_ | refine dr_tptr' (by simp) ?_ | assumption))) ?_))
  all_goals refine dr_bool ?_
  all_goals rw [Bool.eq_iff_iff]
  all_goals (try simp_all [wordOk, inB])
  all_goals (try omega)
end Go.Proofs.YtmcmgeedhbgglaaGreatDoor.AM

namespace Go.Proofs.YtmcmgeedhbgglaaGreatDoor.AM
open Go.RowKit

private def MW7 : FuncId → Mode := fun f => .tree

def idxOf {α : Type} (p : α → Bool) (l : List α) : Int := if l.any p then l.findIdx p else -1
theorem idxOf_hit {α : Type} {p : α → Bool} {l : List α} {i : Nat} (hi : i < l.length) (h : ∀ j (hj : j < l.length), j < i → p l[j] = false) (hp : p l[i] = true) : idxOf p l = i := by
  have h1 : l.any p = true := List.any_eq_true.2 ⟨l[i], List.getElem_mem hi, hp⟩
  have h2 : l.findIdx p = i := (List.findIdx_eq hi).2 ⟨hp, fun j hj => h j (by omega) hj⟩
  simp [idxOf, h1, h2]
theorem idxOf_miss {α : Type} {p : α → Bool} {l : List α} (h : ∀ j (hj : j < l.length), p l[j] = false) : idxOf p l = -1 := by
  have h1 : l.any p = false := by
    rw [List.any_eq_false]
    intro x hx
    obtain ⟨i, hi, rfl⟩ := List.getElem_of_mem hx
    simp [h i hi]
  simp [idxOf, h1]
theorem idxOf_any {α : Type} (p : α → Bool) (l : List α) : decide (0 ≤ idxOf p l) = l.any p := by
  unfold idxOf
  split
  · rename_i h; simp [h]
  · rename_i h; simp at h; simp; exact h

theorem indexFuncW (xs : List Word) (f : FuncId) (cap : List AV) (p : Word → Bool) (hp : ∀ w ∈ xs, Pure Tryz.prog f (.agg w.cells :: cap) (.bool (p w))) (hc : ∀ rows, DRs true rows cap cap) (hl : xs.length ≤ 2 ^ 62) :
    Pure Tryz.prog 122 [words true xs, .fn f cap] (.int .i64 (idxOf p xs)) := by
  intro T
  refine enter mixed MW7 Tryz.func122 rfl (by kernel_rfl) rfl ?_
  repeat' (first | (with_reducible first | refine stp ?_ | refine k_blk_o rfl ?_ | refine k_seq_n ?_) | ((try (conv => arg 1; simp)); with_reducible refine evp ?_) | fail)
  refine st_loop (fun (i : Nat) σ h => i ≤ xs.length ∧ σ 0 = words true xs ∧ σ 1 = .fn f cap ∧ σ 7 = .int .i64 xs.length ∧ σ 8 = .int .i64 i ∧ ∀ j (hj : j < xs.length), j < i → p xs[j] = false) (fun i => xs.length - i) 0 ?init ?step
  case init =>
    simp
  case step =>
    rintro i σ h ⟨hi, h0, h1, h7, h8, hb4⟩
    repeat' (first | (with_reducible first | refine stp ?_ | refine k_blk_o rfl ?_ | refine k_seq_n ?_) | ((try (conv => arg 1; simp [h7, h8])); with_reducible refine evp ?_) | fail)
    (try with_reducible refine st_if ?_)
    (try (conv => arg 1; simp [h7]))
    (try with_reducible refine at_mk ?_)
    refine ⟨fun hb => ?_, fun hb => ?_⟩
    · have hlt : i < xs.length := by simpa using hb
      have hx : xs[i]? = some (xs[i]) := by simp
      have hlen : (xs[i]).cells.length = 5 := rfl
      have hw : IntKind.i64.wrap (i + 1) = i + 1 := wrap_id (by omega) (by omega)
      repeat' (first | (with_reducible first | refine stp ?_ | refine k_blk_o rfl ?_ | refine k_seq_n ?_) | ((try (conv => arg 1; simp [words, h0, h1, h7, h8, hx, hlen, Word.cells])); with_reducible refine evp ?_) | fail)
      refine st_tree rfl (hp xs[i] (List.getElem_mem hlt)) (.cons (dr_agg (drs_word _)) (hc _)) ?_
      repeat' (first | (with_reducible first | refine stp ?_ | refine k_blk_o rfl ?_ | refine k_seq_n ?_) | ((try (conv => arg 1; simp [h0, h1, h7, h8, hw])); with_reducible refine evp ?_) | fail)
      (try with_reducible refine st_if ?_)
      (try (conv => arg 1; simp [h0]))
      (try with_reducible refine at_mk ?_)
      refine ⟨fun hb => ?_, fun hb => ?_⟩
      · have hpt : p xs[i] = true := by simpa using hb
        repeat' (first | (with_reducible first | refine stp ?_ | refine k_blk_o rfl ?_ | refine k_seq_n ?_) | ((try (conv => arg 1; simp [h8])); with_reducible refine evp ?_) | fail)
        exact dr_int (idxOf_hit hlt hb4 hpt).symm
      · have hpf : p xs[i] = false := by simpa using hb
        repeat' (first | (with_reducible first | refine stp ?_ | refine k_blk_o rfl ?_ | refine k_seq_n ?_) | ((try (conv => arg 1; simp [h0, h1, h7, h8, hw])); with_reducible refine evp ?_) | fail)
        refine k_lp_n (i + 1) (by omega) ⟨by omega, by simp [h0], by simp [h1], by simp [h7], by simp [h8], fun j hj hji => ?_⟩
        by_cases e : j = i
        · subst e; exact hpf
        · exact hb4 j hj (by omega)
    · have hge : i = xs.length := by simp at hb; omega
      repeat' (first | (with_reducible first | refine stp ?_ | refine k_blk_o rfl ?_ | refine k_seq_n ?_) | ((try (conv => arg 1; simp [h0])); with_reducible refine evp ?_) | fail)
      exact dr_int (idxOf_miss fun j hj => hb4 j hj (by omega)).symm

theorem containsFuncW (xs : List Word) (f : FuncId) (cap : List AV) (p : Word → Bool) (hp : ∀ w ∈ xs, Pure Tryz.prog f (.agg w.cells :: cap) (.bool (p w))) (hc : ∀ rows, DRs true rows cap cap) (hl : xs.length ≤ 2 ^ 62) :
    Pure Tryz.prog 82 [words true xs, .fn f cap] (.bool (xs.any p)) := by
  intro T
  refine enter mixed MW7 Tryz.func82 rfl (by kernel_rfl) rfl ?_
  repeat' (first | (with_reducible first | refine stp ?_ | refine k_blk_o rfl ?_ | refine k_seq_n ?_) | ((try (conv => arg 1; simp)); with_reducible refine evp ?_) | ((with_reducible refine tcl ?_); first | ((apply tg (indexFuncW xs f cap p hp hc hl)); (case e => rfl); (case d => (refine dq ?_); (repeat' (first | ((refine Da.mk ?_); first | exact dr_words (by simp) _ | exact hc _ | assumption) | constructor))))) | fail)
  exact dr_bool (idxOf_any _ _)

theorem indexFuncI (xs : List Int) (f : FuncId) (cap : List AV) (p : Int → Bool) (hp : ∀ w ∈ xs, Pure Tryz.prog f (.int .i64 w :: cap) (.bool (p w))) (hc : ∀ rows, DRs true rows cap cap) (hl : xs.length ≤ 2 ^ 62) :
    Pure Tryz.prog 107 [ints true xs, .fn f cap] (.int .i64 (idxOf p xs)) := by
  intro T
  refine enter mixed MW7 Tryz.func107 rfl (by kernel_rfl) rfl ?_
  repeat' (first | (with_reducible first | refine stp ?_ | refine k_blk_o rfl ?_ | refine k_seq_n ?_) | ((try (conv => arg 1; simp)); with_reducible refine evp ?_) | fail)
  refine st_loop (fun (i : Nat) σ h => i ≤ xs.length ∧ σ 0 = ints true xs ∧ σ 1 = .fn f cap ∧ σ 7 = .int .i64 xs.length ∧ σ 8 = .int .i64 i ∧ ∀ j (hj : j < xs.length), j < i → p xs[j] = false) (fun i => xs.length - i) 0 ?init ?step
  case init =>
    simp
  case step =>
    rintro i σ h ⟨hi, h0, h1, h7, h8, hb4⟩
    repeat' (first | (with_reducible first | refine stp ?_ | refine k_blk_o rfl ?_ | refine k_seq_n ?_) | ((try (conv => arg 1; simp [h7, h8])); with_reducible refine evp ?_) | fail)
    (try with_reducible refine st_if ?_)
    (try (conv => arg 1; simp [h7]))
    (try with_reducible refine at_mk ?_)
    refine ⟨fun hb => ?_, fun hb => ?_⟩
    · have hlt : i < xs.length := by simpa using hb
      have hx : xs[i]? = some (xs[i]) := by simp
      have hw : IntKind.i64.wrap (i + 1) = i + 1 := wrap_id (by omega) (by omega)
      repeat' (first | (with_reducible first | refine stp ?_ | refine k_blk_o rfl ?_ | refine k_seq_n ?_) | ((try (conv => arg 1; simp [ints, h0, h1, h7, h8, hx])); with_reducible refine evp ?_) | fail)
      refine st_tree rfl (hp xs[i] (List.getElem_mem hlt)) (.cons (.int _ _) (hc _)) ?_
      repeat' (first | (with_reducible first | refine stp ?_ | refine k_blk_o rfl ?_ | refine k_seq_n ?_) | ((try (conv => arg 1; simp [h0, h1, h7, h8, hw])); with_reducible refine evp ?_) | fail)
      (try with_reducible refine st_if ?_)
      (try (conv => arg 1; simp [h0]))
      (try with_reducible refine at_mk ?_)
      refine ⟨fun hb => ?_, fun hb => ?_⟩
      · have hpt : p xs[i] = true := by simpa using hb
        repeat' (first | (with_reducible first | refine stp ?_ | refine k_blk_o rfl ?_ | refine k_seq_n ?_) | ((try (conv => arg 1; simp [h8])); with_reducible refine evp ?_) | fail)
        exact dr_int (idxOf_hit hlt hb4 hpt).symm
      · have hpf : p xs[i] = false := by simpa using hb
        repeat' (first | (with_reducible first | refine stp ?_ | refine k_blk_o rfl ?_ | refine k_seq_n ?_) | ((try (conv => arg 1; simp [h0, h1, h7, h8, hw])); with_reducible refine evp ?_) | fail)
        refine k_lp_n (i + 1) (by omega) ⟨by omega, by simp [h0], by simp [h1], by simp [h7], by simp [h8], fun j hj hji => ?_⟩
        by_cases e : j = i
        · subst e; exact hpf
        · exact hb4 j hj (by omega)
    · have hge : i = xs.length := by simp at hb; omega
      repeat' (first | (with_reducible first | refine stp ?_ | refine k_blk_o rfl ?_ | refine k_seq_n ?_) | ((try (conv => arg 1; simp [h0])); with_reducible refine evp ?_) | fail)
      exact dr_int (idxOf_miss fun j hj => hb4 j hj (by omega)).symm

theorem containsFuncI (xs : List Int) (f : FuncId) (cap : List AV) (p : Int → Bool) (hp : ∀ w ∈ xs, Pure Tryz.prog f (.int .i64 w :: cap) (.bool (p w))) (hc : ∀ rows, DRs true rows cap cap) (hl : xs.length ≤ 2 ^ 62) :
    Pure Tryz.prog 67 [ints true xs, .fn f cap] (.bool (xs.any p)) := by
  intro T
  refine enter mixed MW7 Tryz.func67 rfl (by kernel_rfl) rfl ?_
  repeat' (first | (with_reducible first | refine stp ?_ | refine k_blk_o rfl ?_ | refine k_seq_n ?_) | ((try (conv => arg 1; simp)); with_reducible refine evp ?_) | ((with_reducible refine tcl ?_); first | ((apply tg (indexFuncI xs f cap p hp hc hl)); (case e => rfl); (case d => (refine dq ?_); (repeat' (first | ((refine Da.mk ?_); first | exact hc _ | assumption) | constructor))))) | fail)
  exact dr_bool (idxOf_any _ _)
end Go.Proofs.YtmcmgeedhbgglaaGreatDoor.AM

namespace Go.Proofs.YtmcmgeedhbgglaaGreatDoor.AM
open Go.RowKit

private def MW8 : FuncId → Mode := fun f => .tree

theorem isSize (n : Int) : Pure Tryz.prog 68 [.int .i64 n] (.bool (!inB n 1 16)) := by
  intro T
  refine enter mixed MW8 Tryz.func68 rfl (by kernel_rfl) rfl ?_
  repeat' (first | (with_reducible first | refine stp ?_ | refine k_blk_o rfl ?_ | refine k_seq_n ?_) | ((try (conv => arg 1; simp)); with_reducible refine evp ?_) | ((with_reducible refine tcl ?_); first | ((apply tg (in_ _ _ _)); (case e => rfl); (case d => (refine dq ?_); (repeat' (first | ((refine Da.mk ?_); first | assumption) | constructor))))) | fail)
  exact .bool _

theorem areStmts0 (sizes : List Int) : Pure Tryz.prog 69 [.agg [ints true sizes, .int .i64 0, .int .i64 0, .tr true []], .tr true [], .int .i64 0] (.bool true) := by
  intro T
  refine enter mixed MW8 Tryz.func69 rfl (by kernel_rfl) rfl ?_
  repeat' (first
    | (with_reducible first | refine st_seq ?_ | refine st_reg ?_ | refine st_block ?_ | refine st_nil ?_ | refine st_skip ?_ | refine st_ret ?_ | refine st_exit ?_ | refine fr_nil ?_ | refine k_seq_n ?_ | refine k_seq_r ?_ | refine k_seq_e ?_ | refine k_blk_n ?_ | refine k_blk_r ?_ | refine k_blk_s ?_ | refine k_blk_o rfl ?_ | refine k_fn_r ?_ | refine k_fn_n ?_ | refine k_lp_r ?_ | refine k_lp_e ?_)
    | ((with_reducible first | refine st_move ?_ | refine st_asg ?_ | refine st_c ?_ | refine fr_c ?_); (try (conv => arg 1; simp)); (with_reducible refine at_mk ?_))
    | ((with_reducible first | refine st_g ?_ | refine fr_g ?_); (try (conv => arg 1; simp)); (with_reducible refine at_mk ?_); with_reducible first | refine gd_tt ?_ | refine gd_ff ?_ | refine gd_tf ?_ | refine gd_ft ?_ | refine gd_no ?_)
    | ((with_reducible first | refine st_gm ?_ | refine fr_gm ?_); (try (conv => arg 1; simp)); (with_reducible refine at_mk ?_); (with_reducible first | refine gm_bool ?_ | refine gm_gv ?_); refine ⟨_, (by intro hc; first | ((try simp only [Bool.and_eq_true] at hc); (try (conv => lhs; simp [hc])); first | done | exact rfl) | ((try simp [gq] at hc); (try (conv => lhs; simp [gq, hc])); first | done | exact rfl)), ?_⟩)
    | ((with_reducible refine st_m rfl ?_); (try (conv => arg 1; simp)); (with_reducible refine ev2_some ?_))
    | ((with_reducible refine fr_n rfl ?_); (try (conv => arg 1; simp)); (with_reducible refine evn_some ?_))
    | ((with_reducible first | refine st_cv ?_ | refine fr_cv ?_); (try (conv => arg 1; simp)); (with_reducible refine at_mk ?_); (with_reducible refine fn_mk ?_); (try (conv => arg 1; simp)); (with_reducible refine at_mk ?_))
    | ((with_reducible refine fr_a ?_); (try (conv => arg 1; simp)); (with_reducible refine at_mk ?_); (try (conv => arg 1; simp)); (with_reducible refine at_mk ?_); refine ⟨?names, ?_⟩; (case names => (simp [appNames, ints, intss] <;> first | kernel_rfl | (refine ⟨?_, ?_⟩ <;> kernel_rfl))); (try (conv => arg 1; simp)); (with_reducible refine ev2_some ?_))
    | ((with_reducible first | refine st_q ?_ | refine fr_q ?_ | refine st_res ?_); (try (conv => arg 1; simp)); (with_reducible refine ev_some ?_))
    | ((with_reducible refine st_if ?_); (try (conv => arg 1; simp)); (with_reducible refine at_mk ?_); with_reducible first | refine br_t ?_ | refine br_f ?_))
  refine st_loop (fun (i : Nat) σ h => σ 24 = .int .i64 0 ∧ σ 25 = .int .i64 0) (fun i => 0) 0 ?init ?step
  case init =>
    simp
  case step =>
    rintro i σ h ⟨h0, h1⟩
    repeat' (first | (with_reducible first | refine stp ?_ | refine k_blk_o rfl ?_ | refine k_seq_n ?_) | ((try (conv => arg 1; simp [h0, h1])); with_reducible refine evp ?_) | fail)
    exact .bool _

theorem isProgram0 (sizes : List Int) (hl : sizes.length ≤ 2 ^ 62) : Pure Tryz.prog 32 [.agg [ints true sizes, .int .i64 0, .int .i64 0, .tr true []]] (.bool (inB sizes.length 1 4 && sizes.all fun n => inB n 1 16)) := by
  intro T
  have hc := containsFuncI sizes 68 [] (fun n => !inB n 1 16) (fun w _ => isSize w) (fun _ => .nil) hl
  refine enter mixed MW8 Tryz.func32 rfl (by kernel_rfl) rfl ?_
  repeat' (first
    | (with_reducible first | refine st_seq ?_ | refine st_reg ?_ | refine st_block ?_ | refine st_nil ?_ | refine st_skip ?_ | refine st_ret ?_ | refine st_exit ?_ | refine fr_nil ?_ | refine k_seq_n ?_ | refine k_seq_r ?_ | refine k_seq_e ?_ | refine k_blk_n ?_ | refine k_blk_r ?_ | refine k_blk_s ?_ | refine k_blk_o rfl ?_ | refine k_fn_r ?_ | refine k_fn_n ?_ | refine k_lp_r ?_ | refine k_lp_e ?_)
    | ((with_reducible first | refine st_move ?_ | refine st_asg ?_ | refine st_c ?_ | refine fr_c ?_); (try (conv => arg 1; simp)); (with_reducible refine at_mk ?_))
    | ((with_reducible first | refine st_g ?_ | refine fr_g ?_); (try (conv => arg 1; simp)); (with_reducible refine at_mk ?_); with_reducible first | refine gd_tt ?_ | refine gd_ff ?_ | refine gd_tf ?_ | refine gd_ft ?_ | refine gd_no ?_)
    | ((with_reducible first | refine st_gm ?_ | refine fr_gm ?_); (try (conv => arg 1; simp)); (with_reducible refine at_mk ?_); (with_reducible first | refine gm_bool ?_ | refine gm_gv ?_); refine ⟨_, (by intro hc; first | ((try simp only [Bool.and_eq_true] at hc); (try (conv => lhs; simp [hc])); first | done | exact rfl) | ((try simp [gq] at hc); (try (conv => lhs; simp [gq, hc])); first | done | exact rfl)), ?_⟩)
    | ((with_reducible refine st_gmc ?_); (try (conv => arg 1; simp)); (with_reducible refine at_mk ?_); (with_reducible first | refine gm_bool ?_ | refine gm_gv ?_); refine ⟨_, _, _, (by intro hc; first | ((try simp only [Bool.and_eq_true] at hc); (try (conv => lhs; simp [hc])); first | done | exact rfl) | ((try simp [gq] at hc); (try (conv => lhs; simp [gq, hc])); first | done | exact rfl)), rfl, hc, (by intro hc; (try simp at hc); (repeat' (first | exact DRs.nil | refine DRs.cons ?_ ?_ | exact .int _ _ | exact .bool _ | exact .str _ | exact .nilsl | exact .nilp | exact dr_ints (by simp) _ | exact dr_intss (by simp) _ | refine dr_agg ?_ | refine dr_fn ?_ | refine dr_tptr' (by simp) ?_ | assumption | exact .tr0 _))), ?_⟩)
    | ((with_reducible refine fr_gmc ?_); (try (conv => arg 1; simp)); (with_reducible refine at_mk ?_); (with_reducible first | refine gm_bool ?_ | refine gm_gv ?_); refine ⟨_, _, _, (by intro hc; first | ((try simp only [Bool.and_eq_true] at hc); (try (conv => lhs; simp [hc])); first | done | exact rfl) | ((try simp [gq] at hc); (try (conv => lhs; simp [gq, hc])); first | done | exact rfl)), hc, (by intro hc; (try simp at hc); (repeat' (first | exact DRs.nil | refine DRs.cons ?_ ?_ | exact .int _ _ | exact .bool _ | exact .str _ | exact .nilsl | exact .nilp | exact dr_ints (by simp) _ | exact dr_intss (by simp) _ | refine dr_agg ?_ | refine dr_fn ?_ | refine dr_tptr' (by simp) ?_ | assumption | exact .tr0 _))), ?_⟩)
    | ((with_reducible refine st_gmv ?_); (try (conv => arg 1; simp)); (with_reducible refine at_mk ?_); (with_reducible first | refine gm_bool ?_ | refine gm_gv ?_); refine ⟨_, _, _, _, _, (by intro hc; first | ((try simp only [Bool.and_eq_true] at hc); (try (conv => lhs; simp [hc])); first | done | exact rfl) | ((try simp [gq] at hc); (try (conv => lhs; simp [gq, hc])); first | done | exact rfl)), (by intro hc; first | ((try simp only [Bool.and_eq_true] at hc); (try (conv => lhs; simp [hc])); first | done | exact rfl) | ((try simp [gq] at hc); (try (conv => lhs; simp [gq, hc])); first | done | exact rfl)), rfl, hc, (by intro hc; (try simp at hc); (repeat' (first | exact DRs.nil | refine DRs.cons ?_ ?_ | exact .int _ _ | exact .bool _ | exact .str _ | exact .nilsl | exact .nilp | exact dr_ints (by simp) _ | exact dr_intss (by simp) _ | refine dr_agg ?_ | refine dr_fn ?_ | refine dr_tptr' (by simp) ?_ | assumption | exact .tr0 _))), ?_⟩)
    | ((with_reducible refine st_gmc ?_); (try (conv => arg 1; simp)); (with_reducible refine at_mk ?_); (with_reducible first | refine gm_bool ?_ | refine gm_gv ?_); refine ⟨_, _, _, (by intro hc; first | ((try simp only [Bool.and_eq_true] at hc); (try (conv => lhs; simp [hc])); first | done | exact rfl) | ((try simp [gq] at hc); (try (conv => lhs; simp [gq, hc])); first | done | exact rfl)), rfl, in_ _ _ _, (by intro hc; (try simp at hc); (repeat' (first | exact DRs.nil | refine DRs.cons ?_ ?_ | exact .int _ _ | exact .bool _ | exact .str _ | exact .nilsl | exact .nilp | exact dr_ints (by simp) _ | exact dr_intss (by simp) _ | refine dr_agg ?_ | refine dr_fn ?_ | refine dr_tptr' (by simp) ?_ | assumption | exact .tr0 _))), ?_⟩)
    | ((with_reducible refine fr_gmc ?_); (try (conv => arg 1; simp)); (with_reducible refine at_mk ?_); (with_reducible first | refine gm_bool ?_ | refine gm_gv ?_); refine ⟨_, _, _, (by intro hc; first | ((try simp only [Bool.and_eq_true] at hc); (try (conv => lhs; simp [hc])); first | done | exact rfl) | ((try simp [gq] at hc); (try (conv => lhs; simp [gq, hc])); first | done | exact rfl)), in_ _ _ _, (by intro hc; (try simp at hc); (repeat' (first | exact DRs.nil | refine DRs.cons ?_ ?_ | exact .int _ _ | exact .bool _ | exact .str _ | exact .nilsl | exact .nilp | exact dr_ints (by simp) _ | exact dr_intss (by simp) _ | refine dr_agg ?_ | refine dr_fn ?_ | refine dr_tptr' (by simp) ?_ | assumption | exact .tr0 _))), ?_⟩)
    | ((with_reducible refine st_gmv ?_); (try (conv => arg 1; simp)); (with_reducible refine at_mk ?_); (with_reducible first | refine gm_bool ?_ | refine gm_gv ?_); refine ⟨_, _, _, _, _, (by intro hc; first | ((try simp only [Bool.and_eq_true] at hc); (try (conv => lhs; simp [hc])); first | done | exact rfl) | ((try simp [gq] at hc); (try (conv => lhs; simp [gq, hc])); first | done | exact rfl)), (by intro hc; first | ((try simp only [Bool.and_eq_true] at hc); (try (conv => lhs; simp [hc])); first | done | exact rfl) | ((try simp [gq] at hc); (try (conv => lhs; simp [gq, hc])); first | done | exact rfl)), rfl, in_ _ _ _, (by intro hc; (try simp at hc); (repeat' (first | exact DRs.nil | refine DRs.cons ?_ ?_ | exact .int _ _ | exact .bool _ | exact .str _ | exact .nilsl | exact .nilp | exact dr_ints (by simp) _ | exact dr_intss (by simp) _ | refine dr_agg ?_ | refine dr_fn ?_ | refine dr_tptr' (by simp) ?_ | assumption | exact .tr0 _))), ?_⟩)
    | ((with_reducible refine st_gmc ?_); (try (conv => arg 1; simp)); (with_reducible refine at_mk ?_); (with_reducible first | refine gm_bool ?_ | refine gm_gv ?_); refine ⟨_, _, _, (by intro hc; first | ((try simp only [Bool.and_eq_true] at hc); (try (conv => lhs; simp [hc])); first | done | exact rfl) | ((try simp [gq] at hc); (try (conv => lhs; simp [gq, hc])); first | done | exact rfl)), rfl, areStmts0 sizes, (by intro hc; (try simp at hc); (repeat' (first | exact DRs.nil | refine DRs.cons ?_ ?_ | exact .int _ _ | exact .bool _ | exact .str _ | exact .nilsl | exact .nilp | exact dr_ints (by simp) _ | exact dr_intss (by simp) _ | refine dr_agg ?_ | refine dr_fn ?_ | refine dr_tptr' (by simp) ?_ | assumption | exact .tr0 _))), ?_⟩)
    | ((with_reducible refine fr_gmc ?_); (try (conv => arg 1; simp)); (with_reducible refine at_mk ?_); (with_reducible first | refine gm_bool ?_ | refine gm_gv ?_); refine ⟨_, _, _, (by intro hc; first | ((try simp only [Bool.and_eq_true] at hc); (try (conv => lhs; simp [hc])); first | done | exact rfl) | ((try simp [gq] at hc); (try (conv => lhs; simp [gq, hc])); first | done | exact rfl)), areStmts0 sizes, (by intro hc; (try simp at hc); (repeat' (first | exact DRs.nil | refine DRs.cons ?_ ?_ | exact .int _ _ | exact .bool _ | exact .str _ | exact .nilsl | exact .nilp | exact dr_ints (by simp) _ | exact dr_intss (by simp) _ | refine dr_agg ?_ | refine dr_fn ?_ | refine dr_tptr' (by simp) ?_ | assumption | exact .tr0 _))), ?_⟩)
    | ((with_reducible refine st_gmv ?_); (try (conv => arg 1; simp)); (with_reducible refine at_mk ?_); (with_reducible first | refine gm_bool ?_ | refine gm_gv ?_); refine ⟨_, _, _, _, _, (by intro hc; first | ((try simp only [Bool.and_eq_true] at hc); (try (conv => lhs; simp [hc])); first | done | exact rfl) | ((try simp [gq] at hc); (try (conv => lhs; simp [gq, hc])); first | done | exact rfl)), (by intro hc; first | ((try simp only [Bool.and_eq_true] at hc); (try (conv => lhs; simp [hc])); first | done | exact rfl) | ((try simp [gq] at hc); (try (conv => lhs; simp [gq, hc])); first | done | exact rfl)), rfl, areStmts0 sizes, (by intro hc; (try simp at hc); (repeat' (first | exact DRs.nil | refine DRs.cons ?_ ?_ | exact .int _ _ | exact .bool _ | exact .str _ | exact .nilsl | exact .nilp | exact dr_ints (by simp) _ | exact dr_intss (by simp) _ | refine dr_agg ?_ | refine dr_fn ?_ | refine dr_tptr' (by simp) ?_ | assumption | exact .tr0 _))), ?_⟩)
    | ((with_reducible refine st_m rfl ?_); (try (conv => arg 1; simp)); (with_reducible refine ev2_some ?_))
    | ((with_reducible refine fr_n rfl ?_); (try (conv => arg 1; simp)); (with_reducible refine evn_some ?_))
    | ((with_reducible first | refine st_cv ?_ | refine fr_cv ?_); (try (conv => arg 1; simp)); (with_reducible refine at_mk ?_); (with_reducible refine fn_mk ?_); (try (conv => arg 1; simp)); (with_reducible refine at_mk ?_))
    | ((with_reducible refine fr_a ?_); (try (conv => arg 1; simp)); (with_reducible refine at_mk ?_); (try (conv => arg 1; simp)); (with_reducible refine at_mk ?_); refine ⟨?names, ?_⟩; (case names => (simp [appNames, ints, intss] <;> first | kernel_rfl | (refine ⟨?_, ?_⟩ <;> kernel_rfl))); (try (conv => arg 1; simp)); (with_reducible refine ev2_some ?_))
    | ((with_reducible first | refine st_q ?_ | refine fr_q ?_ | refine st_res ?_); (try (conv => arg 1; simp)); (with_reducible refine ev_some ?_))
    | ((with_reducible refine st_if ?_); (try (conv => arg 1; simp)); (with_reducible refine at_mk ?_); with_reducible first | refine br_t ?_ | refine br_f ?_)
    | ((with_reducible refine ct_id ?_); refine st_tree rfl (hc) (by (repeat' (first | exact DRs.nil | refine DRs.cons ?_ ?_ | exact .int _ _ | exact .bool _ | exact .str _ | exact .nilsl | exact .nilp | exact dr_ints (by simp) _ | exact dr_intss (by simp) _ | refine dr_agg ?_ | refine dr_fn ?_ | refine dr_tptr' (by simp) ?_ | assumption | exact .tr0 _))) ?_)
    | ((with_reducible refine tw_id ?_); refine treeW_pure (hc) (by (repeat' (first | exact DRs.nil | refine DRs.cons ?_ ?_ | exact .int _ _ | exact .bool _ | exact .str _ | exact .nilsl | exact .nilp | exact dr_ints (by simp) _ | exact dr_intss (by simp) _ | refine dr_agg ?_ | refine dr_fn ?_ | refine dr_tptr' (by simp) ?_ | assumption | exact .tr0 _))) ?_)
    | ((with_reducible refine ct_id ?_); refine st_tree rfl (in_ _ _ _) (by (repeat' (first | exact DRs.nil | refine DRs.cons ?_ ?_ | exact .int _ _ | exact .bool _ | exact .str _ | exact .nilsl | exact .nilp | exact dr_ints (by simp) _ | exact dr_intss (by simp) _ | refine dr_agg ?_ | refine dr_fn ?_ | refine dr_tptr' (by simp) ?_ | assumption | exact .tr0 _))) ?_)
    | ((with_reducible refine tw_id ?_); refine treeW_pure (in_ _ _ _) (by (repeat' (first | exact DRs.nil | refine DRs.cons ?_ ?_ | exact .int _ _ | exact .bool _ | exact .str _ | exact .nilsl | exact .nilp | exact dr_ints (by simp) _ | exact dr_intss (by simp) _ | refine dr_agg ?_ | refine dr_fn ?_ | refine dr_tptr' (by simp) ?_ | assumption | exact .tr0 _))) ?_)
    | ((with_reducible refine ct_id ?_); refine st_tree rfl (areStmts0 sizes) (by (repeat' (first | exact DRs.nil | refine DRs.cons ?_ ?_ | exact .int _ _ | exact .bool _ | exact .str _ | exact .nilsl | exact .nilp | exact dr_ints (by simp) _ | exact dr_intss (by simp) _ | refine dr_agg ?_ | refine dr_fn ?_ | refine dr_tptr' (by simp) ?_ | assumption | exact .tr0 _))) ?_)
    | ((with_reducible refine tw_id ?_); refine treeW_pure (areStmts0 sizes) (by (repeat' (first | exact DRs.nil | refine DRs.cons ?_ ?_ | exact .int _ _ | exact .bool _ | exact .str _ | exact .nilsl | exact .nilp | exact dr_ints (by simp) _ | exact dr_intss (by simp) _ | refine dr_agg ?_ | refine dr_fn ?_ | refine dr_tptr' (by simp) ?_ | assumption | exact .tr0 _))) ?_))
  refine dr_bool ?_
  have e0 : inB 0 0 0 = true := rfl
  have e1 : (!sizes.any fun n => !inB n 1 16) = sizes.all fun n => inB n 1 16 := by rw [List.all_eq_not_any_not]
  rw [e0, e1, Bool.and_true]

def lastOk (m : Image) : Bool := match m.Code.getLast? with | some w => decide (w.Op = 10) || decide (w.Op = 8) | none => false
def imageOk (m : Image) : Bool := (inB m.Sizes.length 1 4 && m.Sizes.all fun n => inB n 1 16) && inB m.Params 0 6 && inB m.Slots m.Params 1000 && inB m.Code.length 1 6000 && lastOk m && m.Code.all (wordOk m)

theorem notWord (m : Image) (w : Word) : Pure Tryz.prog 83 [.agg w.cells, .tptr true (m.cells true)] (.bool (!wordOk m w)) := by
  intro T
  refine enter mixed MW8 Tryz.func83 rfl (by kernel_rfl) rfl ?_
  repeat' (first | (with_reducible first | refine stp ?_ | refine k_blk_o rfl ?_ | refine k_seq_n ?_) | ((try (conv => arg 1; simp [Word.cells, Image.cells])); with_reducible refine evp ?_) | ((with_reducible refine tcl ?_); first | ((apply tg (isWordOf m w)); (case e => rfl); (case d => (refine dq ?_); (repeat' (first | ((refine Da.mk ?_); first | exact dr_words (by simp) _ | assumption) | constructor))))) | fail)
  exact .bool _

theorem isImage (m : Image) (hs : m.Sizes.length ≤ 2 ^ 62) (hcd : m.Code.length ≤ 2 ^ 62) : Pure Tryz.prog 46 [.agg (m.cells true)] (.bool (imageOk m)) := by
  intro T
  have h1 := isProgram0 m.Sizes hs
  have h2 := containsFuncW m.Code 83 [.tptr true (m.cells true)] (fun w => !wordOk m w) (fun w _ => notWord m w) (fun _ => .cons (dr_tptr' (fun h => h) (drs_image m (fun h => h))) .nil) hcd
  refine enter mixed MW8 Tryz.func46 rfl (by kernel_rfl) rfl ?_
  repeat' (first
    | (with_reducible first | refine st_seq ?_ | refine st_reg ?_ | refine st_block ?_ | refine st_nil ?_ | refine st_skip ?_ | refine st_ret ?_ | refine st_exit ?_ | refine fr_nil ?_ | refine k_seq_n ?_ | refine k_seq_r ?_ | refine k_seq_e ?_ | refine k_blk_n ?_ | refine k_blk_r ?_ | refine k_blk_s ?_ | refine k_blk_o rfl ?_ | refine k_fn_r ?_ | refine k_fn_n ?_ | refine k_lp_r ?_ | refine k_lp_e ?_)
    | ((with_reducible first | refine st_move ?_ | refine st_asg ?_ | refine st_c ?_ | refine fr_c ?_); (try (conv => arg 1; simp [Image.cells])); (with_reducible refine at_mk ?_))
    | ((with_reducible first | refine st_g ?_ | refine fr_g ?_); (try (conv => arg 1; simp [Image.cells])); (with_reducible refine at_mk ?_); with_reducible first | refine gd_tt ?_ | refine gd_ff ?_ | refine gd_tf ?_ | refine gd_ft ?_ | refine gd_no ?_)
    | ((with_reducible first | refine st_gm ?_ | refine fr_gm ?_); (try (conv => arg 1; simp [Image.cells])); (with_reducible refine at_mk ?_); (with_reducible first | refine gm_bool ?_ | refine gm_gv ?_); refine ⟨_, (by intro hc; first | ((try simp only [Bool.and_eq_true] at hc); (try (conv => lhs; simp [hc, Image.cells])); first | done | exact rfl) | ((try simp [gq] at hc); (try (conv => lhs; simp [gq, hc, Image.cells])); first | done | exact rfl)), ?_⟩)
    | ((with_reducible refine st_gmc ?_); (try (conv => arg 1; simp [Image.cells])); (with_reducible refine at_mk ?_); (with_reducible first | refine gm_bool ?_ | refine gm_gv ?_); refine ⟨_, _, _, (by intro hc; first | ((try simp only [Bool.and_eq_true] at hc); (try (conv => lhs; simp [hc, Image.cells])); first | done | exact rfl) | ((try simp [gq] at hc); (try (conv => lhs; simp [gq, hc, Image.cells])); first | done | exact rfl)), rfl, h1, (by intro hc; (try simp at hc); (repeat' (first | exact DRs.nil | refine DRs.cons ?_ ?_ | exact .int _ _ | exact .bool _ | exact .str _ | exact .nilsl | exact .nilp | exact dr_ints (by simp) _ | exact dr_intss (by simp) _ | refine dr_agg ?_ | refine dr_fn ?_ | refine dr_tptr' (by simp) ?_ | assumption | exact .nilsl))), ?_⟩)
    | ((with_reducible refine fr_gmc ?_); (try (conv => arg 1; simp [Image.cells])); (with_reducible refine at_mk ?_); (with_reducible first | refine gm_bool ?_ | refine gm_gv ?_); refine ⟨_, _, _, (by intro hc; first | ((try simp only [Bool.and_eq_true] at hc); (try (conv => lhs; simp [hc, Image.cells])); first | done | exact rfl) | ((try simp [gq] at hc); (try (conv => lhs; simp [gq, hc, Image.cells])); first | done | exact rfl)), h1, (by intro hc; (try simp at hc); (repeat' (first | exact DRs.nil | refine DRs.cons ?_ ?_ | exact .int _ _ | exact .bool _ | exact .str _ | exact .nilsl | exact .nilp | exact dr_ints (by simp) _ | exact dr_intss (by simp) _ | refine dr_agg ?_ | refine dr_fn ?_ | refine dr_tptr' (by simp) ?_ | assumption | exact .nilsl))), ?_⟩)
    | ((with_reducible refine st_gmv ?_); (try (conv => arg 1; simp [Image.cells])); (with_reducible refine at_mk ?_); (with_reducible first | refine gm_bool ?_ | refine gm_gv ?_); refine ⟨_, _, _, _, _, (by intro hc; first | ((try simp only [Bool.and_eq_true] at hc); (try (conv => lhs; simp [hc, Image.cells])); first | done | exact rfl) | ((try simp [gq] at hc); (try (conv => lhs; simp [gq, hc, Image.cells])); first | done | exact rfl)), (by intro hc; first | ((try simp only [Bool.and_eq_true] at hc); (try (conv => lhs; simp [hc, Image.cells])); first | done | exact rfl) | ((try simp [gq] at hc); (try (conv => lhs; simp [gq, hc, Image.cells])); first | done | exact rfl)), rfl, h1, (by intro hc; (try simp at hc); (repeat' (first | exact DRs.nil | refine DRs.cons ?_ ?_ | exact .int _ _ | exact .bool _ | exact .str _ | exact .nilsl | exact .nilp | exact dr_ints (by simp) _ | exact dr_intss (by simp) _ | refine dr_agg ?_ | refine dr_fn ?_ | refine dr_tptr' (by simp) ?_ | assumption | exact .nilsl))), ?_⟩)
    | ((with_reducible refine st_gmc ?_); (try (conv => arg 1; simp [Image.cells])); (with_reducible refine at_mk ?_); (with_reducible first | refine gm_bool ?_ | refine gm_gv ?_); refine ⟨_, _, _, (by intro hc; first | ((try simp only [Bool.and_eq_true] at hc); (try (conv => lhs; simp [hc, Image.cells])); first | done | exact rfl) | ((try simp [gq] at hc); (try (conv => lhs; simp [gq, hc, Image.cells])); first | done | exact rfl)), rfl, in_ _ _ _, (by intro hc; (try simp at hc); (repeat' (first | exact DRs.nil | refine DRs.cons ?_ ?_ | exact .int _ _ | exact .bool _ | exact .str _ | exact .nilsl | exact .nilp | exact dr_ints (by simp) _ | exact dr_intss (by simp) _ | refine dr_agg ?_ | refine dr_fn ?_ | refine dr_tptr' (by simp) ?_ | assumption | exact .nilsl))), ?_⟩)
    | ((with_reducible refine fr_gmc ?_); (try (conv => arg 1; simp [Image.cells])); (with_reducible refine at_mk ?_); (with_reducible first | refine gm_bool ?_ | refine gm_gv ?_); refine ⟨_, _, _, (by intro hc; first | ((try simp only [Bool.and_eq_true] at hc); (try (conv => lhs; simp [hc, Image.cells])); first | done | exact rfl) | ((try simp [gq] at hc); (try (conv => lhs; simp [gq, hc, Image.cells])); first | done | exact rfl)), in_ _ _ _, (by intro hc; (try simp at hc); (repeat' (first | exact DRs.nil | refine DRs.cons ?_ ?_ | exact .int _ _ | exact .bool _ | exact .str _ | exact .nilsl | exact .nilp | exact dr_ints (by simp) _ | exact dr_intss (by simp) _ | refine dr_agg ?_ | refine dr_fn ?_ | refine dr_tptr' (by simp) ?_ | assumption | exact .nilsl))), ?_⟩)
    | ((with_reducible refine st_gmv ?_); (try (conv => arg 1; simp [Image.cells])); (with_reducible refine at_mk ?_); (with_reducible first | refine gm_bool ?_ | refine gm_gv ?_); refine ⟨_, _, _, _, _, (by intro hc; first | ((try simp only [Bool.and_eq_true] at hc); (try (conv => lhs; simp [hc, Image.cells])); first | done | exact rfl) | ((try simp [gq] at hc); (try (conv => lhs; simp [gq, hc, Image.cells])); first | done | exact rfl)), (by intro hc; first | ((try simp only [Bool.and_eq_true] at hc); (try (conv => lhs; simp [hc, Image.cells])); first | done | exact rfl) | ((try simp [gq] at hc); (try (conv => lhs; simp [gq, hc, Image.cells])); first | done | exact rfl)), rfl, in_ _ _ _, (by intro hc; (try simp at hc); (repeat' (first | exact DRs.nil | refine DRs.cons ?_ ?_ | exact .int _ _ | exact .bool _ | exact .str _ | exact .nilsl | exact .nilp | exact dr_ints (by simp) _ | exact dr_intss (by simp) _ | refine dr_agg ?_ | refine dr_fn ?_ | refine dr_tptr' (by simp) ?_ | assumption | exact .nilsl))), ?_⟩)
    | ((with_reducible refine st_m rfl ?_); (try (conv => arg 1; simp [Image.cells])); (with_reducible refine ev2_some ?_))
    | ((with_reducible refine fr_n rfl ?_); (try (conv => arg 1; simp [Image.cells])); (with_reducible refine evn_some ?_))
    | ((with_reducible first | refine st_cv ?_ | refine fr_cv ?_); (try (conv => arg 1; simp [Image.cells])); (with_reducible refine at_mk ?_); (with_reducible refine fn_mk ?_); (try (conv => arg 1; simp [Image.cells])); (with_reducible refine at_mk ?_))
    | ((with_reducible refine fr_a ?_); (try (conv => arg 1; simp [Image.cells])); (with_reducible refine at_mk ?_); (try (conv => arg 1; simp [Image.cells])); (with_reducible refine at_mk ?_); refine ⟨?names, ?_⟩; (case names => (simp [appNames, ints, intss] <;> first | kernel_rfl | (refine ⟨?_, ?_⟩ <;> kernel_rfl))); (try (conv => arg 1; simp [Image.cells])); (with_reducible refine ev2_some ?_))
    | ((with_reducible first | refine st_q ?_ | refine fr_q ?_ | refine st_res ?_); (try (conv => arg 1; simp [Image.cells])); (with_reducible refine ev_some ?_))
    | ((with_reducible refine st_if ?_); (try (conv => arg 1; simp [Image.cells])); (with_reducible refine at_mk ?_); with_reducible first | refine br_t ?_ | refine br_f ?_)
    | ((with_reducible refine ct_id ?_); refine st_tree rfl (h1) (by (repeat' (first | exact DRs.nil | refine DRs.cons ?_ ?_ | exact .int _ _ | exact .bool _ | exact .str _ | exact .nilsl | exact .nilp | exact dr_ints (by simp) _ | exact dr_intss (by simp) _ | refine dr_agg ?_ | refine dr_fn ?_ | refine dr_tptr' (by simp) ?_ | assumption | exact .nilsl))) ?_)
    | ((with_reducible refine tw_id ?_); refine treeW_pure (h1) (by (repeat' (first | exact DRs.nil | refine DRs.cons ?_ ?_ | exact .int _ _ | exact .bool _ | exact .str _ | exact .nilsl | exact .nilp | exact dr_ints (by simp) _ | exact dr_intss (by simp) _ | refine dr_agg ?_ | refine dr_fn ?_ | refine dr_tptr' (by simp) ?_ | assumption | exact .nilsl))) ?_)
    | ((with_reducible refine ct_id ?_); refine st_tree rfl (in_ _ _ _) (by (repeat' (first | exact DRs.nil | refine DRs.cons ?_ ?_ | exact .int _ _ | exact .bool _ | exact .str _ | exact .nilsl | exact .nilp | exact dr_ints (by simp) _ | exact dr_intss (by simp) _ | refine dr_agg ?_ | refine dr_fn ?_ | refine dr_tptr' (by simp) ?_ | assumption | exact .nilsl))) ?_)
    | ((with_reducible refine tw_id ?_); refine treeW_pure (in_ _ _ _) (by (repeat' (first | exact DRs.nil | refine DRs.cons ?_ ?_ | exact .int _ _ | exact .bool _ | exact .str _ | exact .nilsl | exact .nilp | exact dr_ints (by simp) _ | exact dr_intss (by simp) _ | refine dr_agg ?_ | refine dr_fn ?_ | refine dr_tptr' (by simp) ?_ | assumption | exact .nilsl))) ?_))
  (try with_reducible refine st_if ?_)
  (try (conv => arg 1; simp [hs]))
  (try with_reducible refine at_mk ?_)
  refine ⟨fun hb => ?_, fun hb => ?_⟩
  · skip
    repeat' (first | (with_reducible first | refine stp ?_ | refine k_blk_o rfl ?_ | refine k_seq_n ?_) | ((try (conv => arg 1; simp [hs])); with_reducible refine evp ?_) | fail)
    refine dr_bool ?_
    simp only [Bool.or_eq_true, Bool.not_eq_true'] at hb
    rcases hb with (((h | h) | h) | h) | h <;> simp only [imageOk, h, Bool.false_and, Bool.and_false]
  · simp at hb
    obtain ⟨⟨⟨⟨c1, c2⟩, c3⟩, c4⟩, c5⟩ := hb
    obtain ⟨k, hk⟩ : ∃ k, m.Code.length = k + 1 := ⟨m.Code.length - 1, by simp [inB] at c5; omega⟩
    have hkl : k < m.Code.length := by omega
    obtain ⟨w, hx⟩ : ∃ w, m.Code[k]? = some w := ⟨m.Code[k], by simp⟩
    have hlast : m.Code.getLast? = some w := by rw [List.getLast?_eq_getElem?, hk]; exact hx
    have hw : IntKind.i64.wrap ((m.Code.length : Int) - 1) = (k : Int) := by rw [hk, wrap_id (by omega) (by omega)]; omega
    repeat' (first
      | (with_reducible first | refine st_seq ?_ | refine st_reg ?_ | refine st_block ?_ | refine st_nil ?_ | refine st_skip ?_ | refine st_ret ?_ | refine st_exit ?_ | refine fr_nil ?_ | refine k_seq_n ?_ | refine k_seq_r ?_ | refine k_seq_e ?_ | refine k_blk_n ?_ | refine k_blk_r ?_ | refine k_blk_s ?_ | refine k_blk_o rfl ?_ | refine k_fn_r ?_ | refine k_fn_n ?_ | refine k_lp_r ?_ | refine k_lp_e ?_)
      | ((with_reducible first | refine st_move ?_ | refine st_asg ?_ | refine st_c ?_ | refine fr_c ?_); (try (conv => arg 1; simp [hw, hx, words, Word.cells])); (with_reducible refine at_mk ?_))
      | ((with_reducible first | refine st_g ?_ | refine fr_g ?_); (try (conv => arg 1; simp [hw, hx, words, Word.cells])); (with_reducible refine at_mk ?_); with_reducible first | refine gd_tt ?_ | refine gd_ff ?_ | refine gd_tf ?_ | refine gd_ft ?_ | refine gd_no ?_)
      | ((with_reducible first | refine st_gm ?_ | refine fr_gm ?_); (try (conv => arg 1; simp [hw, hx, words, Word.cells])); (with_reducible refine at_mk ?_); (with_reducible first | refine gm_bool ?_ | refine gm_gv ?_); refine ⟨_, (by intro hc; first | ((try simp only [Bool.and_eq_true] at hc); (try (conv => lhs; simp [hc, hw, hx, words, Word.cells])); first | done | exact rfl) | ((try simp [gq] at hc); (try (conv => lhs; simp [gq, hc, hw, hx, words, Word.cells])); first | done | exact rfl)), ?_⟩)
      | ((with_reducible refine st_gmc ?_); (try (conv => arg 1; simp [hw, hx, words, Word.cells])); (with_reducible refine at_mk ?_); (with_reducible first | refine gm_bool ?_ | refine gm_gv ?_); refine ⟨_, _, _, (by intro hc; first | ((try simp only [Bool.and_eq_true] at hc); (try (conv => lhs; simp [hc, hw, hx, words, Word.cells])); first | done | exact rfl) | ((try simp [gq] at hc); (try (conv => lhs; simp [gq, hc, hw, hx, words, Word.cells])); first | done | exact rfl)), rfl, h2, (by intro hc; (try simp at hc); (repeat' (first | exact DRs.nil | refine DRs.cons ?_ ?_ | exact .int _ _ | exact .bool _ | exact .str _ | exact .nilsl | exact .nilp | exact dr_ints (by simp) _ | exact dr_intss (by simp) _ | refine dr_agg ?_ | refine dr_fn ?_ | refine dr_tptr' (by simp) ?_ | assumption | exact dr_words (by simp) _ | exact dr_ptr0 (r := ⟨0, 4, [m.cells true]⟩) (by simp [Image.cells, words]) rfl rfl (drs_image m (by simp))))), ?_⟩)
      | ((with_reducible refine fr_gmc ?_); (try (conv => arg 1; simp [hw, hx, words, Word.cells])); (with_reducible refine at_mk ?_); (with_reducible first | refine gm_bool ?_ | refine gm_gv ?_); refine ⟨_, _, _, (by intro hc; first | ((try simp only [Bool.and_eq_true] at hc); (try (conv => lhs; simp [hc, hw, hx, words, Word.cells])); first | done | exact rfl) | ((try simp [gq] at hc); (try (conv => lhs; simp [gq, hc, hw, hx, words, Word.cells])); first | done | exact rfl)), h2, (by intro hc; (try simp at hc); (repeat' (first | exact DRs.nil | refine DRs.cons ?_ ?_ | exact .int _ _ | exact .bool _ | exact .str _ | exact .nilsl | exact .nilp | exact dr_ints (by simp) _ | exact dr_intss (by simp) _ | refine dr_agg ?_ | refine dr_fn ?_ | refine dr_tptr' (by simp) ?_ | assumption | exact dr_words (by simp) _ | exact dr_ptr0 (r := ⟨0, 4, [m.cells true]⟩) (by simp [Image.cells, words]) rfl rfl (drs_image m (by simp))))), ?_⟩)
      | ((with_reducible refine st_gmv ?_); (try (conv => arg 1; simp [hw, hx, words, Word.cells])); (with_reducible refine at_mk ?_); (with_reducible first | refine gm_bool ?_ | refine gm_gv ?_); refine ⟨_, _, _, _, _, (by intro hc; first | ((try simp only [Bool.and_eq_true] at hc); (try (conv => lhs; simp [hc, hw, hx, words, Word.cells])); first | done | exact rfl) | ((try simp [gq] at hc); (try (conv => lhs; simp [gq, hc, hw, hx, words, Word.cells])); first | done | exact rfl)), (by intro hc; first | ((try simp only [Bool.and_eq_true] at hc); (try (conv => lhs; simp [hc, hw, hx, words, Word.cells])); first | done | exact rfl) | ((try simp [gq] at hc); (try (conv => lhs; simp [gq, hc, hw, hx, words, Word.cells])); first | done | exact rfl)), rfl, h2, (by intro hc; (try simp at hc); (repeat' (first | exact DRs.nil | refine DRs.cons ?_ ?_ | exact .int _ _ | exact .bool _ | exact .str _ | exact .nilsl | exact .nilp | exact dr_ints (by simp) _ | exact dr_intss (by simp) _ | refine dr_agg ?_ | refine dr_fn ?_ | refine dr_tptr' (by simp) ?_ | assumption | exact dr_words (by simp) _ | exact dr_ptr0 (r := ⟨0, 4, [m.cells true]⟩) (by simp [Image.cells, words]) rfl rfl (drs_image m (by simp))))), ?_⟩)
      | ((with_reducible refine st_m rfl ?_); (try (conv => arg 1; simp [hw, hx, words, Word.cells])); (with_reducible refine ev2_some ?_))
      | ((with_reducible refine fr_n rfl ?_); (try (conv => arg 1; simp [hw, hx, words, Word.cells])); (with_reducible refine evn_some ?_))
      | ((with_reducible first | refine st_cv ?_ | refine fr_cv ?_); (try (conv => arg 1; simp [hw, hx, words, Word.cells])); (with_reducible refine at_mk ?_); (with_reducible refine fn_mk ?_); (try (conv => arg 1; simp [hw, hx, words, Word.cells])); (with_reducible refine at_mk ?_))
      | ((with_reducible refine fr_a ?_); (try (conv => arg 1; simp [hw, hx, words, Word.cells])); (with_reducible refine at_mk ?_); (try (conv => arg 1; simp [hw, hx, words, Word.cells])); (with_reducible refine at_mk ?_); refine ⟨?names, ?_⟩; (case names => (simp [appNames, ints, intss] <;> first | kernel_rfl | (refine ⟨?_, ?_⟩ <;> kernel_rfl))); (try (conv => arg 1; simp [hw, hx, words, Word.cells])); (with_reducible refine ev2_some ?_))
      | ((with_reducible first | refine st_q ?_ | refine fr_q ?_ | refine st_res ?_); (try (conv => arg 1; simp [hw, hx, words, Word.cells])); (with_reducible refine ev_some ?_))
      | ((with_reducible refine st_if ?_); (try (conv => arg 1; simp [hw, hx, words, Word.cells])); (with_reducible refine at_mk ?_); with_reducible first | refine br_t ?_ | refine br_f ?_)
      | ((with_reducible refine ct_id ?_); refine st_tree rfl (h2) (by (repeat' (first | exact DRs.nil | refine DRs.cons ?_ ?_ | exact .int _ _ | exact .bool _ | exact .str _ | exact .nilsl | exact .nilp | exact dr_ints (by simp) _ | exact dr_intss (by simp) _ | refine dr_agg ?_ | refine dr_fn ?_ | refine dr_tptr' (by simp) ?_ | assumption | exact dr_words (by simp) _ | exact dr_ptr0 (r := ⟨0, 4, [m.cells true]⟩) (by simp [Image.cells, words]) rfl rfl (drs_image m (by simp))))) ?_)
      | ((with_reducible refine tw_id ?_); refine treeW_pure (h2) (by (repeat' (first | exact DRs.nil | refine DRs.cons ?_ ?_ | exact .int _ _ | exact .bool _ | exact .str _ | exact .nilsl | exact .nilp | exact dr_ints (by simp) _ | exact dr_intss (by simp) _ | refine dr_agg ?_ | refine dr_fn ?_ | refine dr_tptr' (by simp) ?_ | assumption | exact dr_words (by simp) _ | exact dr_ptr0 (r := ⟨0, 4, [m.cells true]⟩) (by simp [Image.cells, words]) rfl rfl (drs_image m (by simp))))) ?_))
    refine dr_bool ?_
    have e1 : (!m.Code.any fun w => !wordOk m w) = m.Code.all (wordOk m) := by rw [List.all_eq_not_any_not]
    have e2 : (m.Sizes.all fun n => inB n 1 16) = true := List.all_eq_true.2 c2
    rw [e1]
    simp only [imageOk, c1, e2, c3, c4, c5, Bool.true_and, lastOk, hlast]
end Go.Proofs.YtmcmgeedhbgglaaGreatDoor.AM

namespace Go.Proofs.YtmcmgeedhbgglaaGreatDoor.AM
open Go.RowKit

private def ME2 : FuncId → Mode := fun f => .tree

def nameL : List (List UInt8) := [[108, 105], [108, 100], [115, 100], [97, 108, 117], [108, 120], [115, 120], [105, 110], [111, 117, 116], [106, 109, 112], [106, 122], [114, 101, 116], [109, 118]]
def formL : List (List UInt8) := [[114, 110], [114, 115], [114, 115], [114, 97, 103, 98], [114, 109, 97], [114, 109, 97], [114], [114], [119], [114, 119], [114], [114, 97]]
def signL : List (List UInt8) := [[43], [45], [42], [38], [61, 61], [60]]
def nameOf (op : Nat) : List UInt8 := nameL.getD op []
def formOf (op : Nat) : List UInt8 := formL.getD op []
def signOf (n : Nat) : List UInt8 := signL.getD n []
/-- A part of a word. -/
def partT (w : Word) (b : UInt8) : List UInt8 := if b = 114 then 114 :: dg w.R else if b = 97 then 114 :: dg w.A else if b = 98 then 114 :: dg w.B else if b = 110 then dg w.N else if b = 103 then signOf w.N.toNat else b :: dg w.N
/-- A word's line. -/
def wordT (w : Word) : List UInt8 := nameOf w.Op.toNat ++ sp ((formOf w.Op.toNat).map (partT w))
structure Word.Txt (w : Word) : Prop where
  op : 0 ≤ w.Op ∧ w.Op ≤ 11
  r : I64 w.R
  a : I64 w.A
  b : I64 w.B
  n : I64 w.N
  sg : w.Op = 3 → 0 ≤ w.N ∧ w.N ≤ 5
theorem form_sign (op : Nat) (h : op < 12) : 103 ∈ formOf op → op = 3 := by
  have : ∀ o : Fin 12, 103 ∈ formOf o → o.val = 3 := by decide +kernel
  exact this ⟨op, h⟩
theorem form_len (op : Nat) : (formOf op).length ≤ 4 := by
  by_cases h : op < 12
  · have : ∀ o : Fin 12, (formOf o).length ≤ 4 := by decide +kernel
    exact this ⟨op, h⟩
  · have : formOf op = [] := by unfold formOf; rw [List.getD_eq_getElem?_getD, List.getElem?_eq_none (by simp [formL]; omega)]; rfl
    rw [this]; decide
theorem name_len (op : Nat) : (nameOf op).length ≤ 3 := by
  by_cases h : op < 12
  · have : ∀ o : Fin 12, (nameOf o).length ≤ 3 := by decide +kernel
    exact this ⟨op, h⟩
  · have : nameOf op = [] := by unfold nameOf; rw [List.getD_eq_getElem?_getD, List.getElem?_eq_none (by simp [nameL]; omega)]; rfl
    rw [this]; decide
theorem sign_len (n : Nat) : (signOf n).length ≤ 2 := by
  by_cases h : n < 6
  · have : ∀ o : Fin 6, (signOf o).length ≤ 2 := by decide +kernel
    exact this ⟨n, h⟩
  · have : signOf n = [] := by unfold signOf; rw [List.getD_eq_getElem?_getD, List.getElem?_eq_none (by simp [signL]; omega)]; rfl
    rw [this]; decide
theorem part_len {w : Word} (d : w.Txt) (b : UInt8) : (partT w b).length ≤ 21 := by
  have h1 := dg_len d.r
  have h2 := dg_len d.a
  have h3 := dg_len d.b
  have h4 := dg_len d.n
  have h5 := sign_len w.N.toNat
  unfold partT
  split
  · simp; omega
  · split
    · simp; omega
    · split
      · simp; omega
      · split
        · omega
        · split
          · omega
          · simp; omega
/-- A line's first parts. -/
def lineT (w : Word) (i : Nat) : List UInt8 := nameOf w.Op.toNat ++ sp (((formOf w.Op.toNat).take i).map (partT w))
theorem lineT_zero (w : Word) : lineT w 0 = nameOf w.Op.toNat := by simp [lineT, sp_nil]
theorem lineT_all (w : Word) : lineT w (formOf w.Op.toNat).length = wordT w := by simp [lineT, wordT]
theorem lineT_succ (w : Word) {i : Nat} (h : i < (formOf w.Op.toNat).length) : lineT w (i + 1) = lineT w i ++ 32 :: partT w (formOf w.Op.toNat)[i] := by
  unfold lineT
  rw [List.take_add_one, List.getElem?_eq_getElem h, List.map_append, sp_app]
  simp [sp_cons, sp_nil]
theorem lineT_len {w : Word} (d : w.Txt) (i : Nat) : (lineT w i).length ≤ 200 := by
  have h1 := name_len w.Op.toNat
  have h2 := form_len w.Op.toNat
  have h3 := sp_len (xs := ((formOf w.Op.toNat).take i).map (partT w)) (k := 21) (fun x hx => by
    obtain ⟨y, _, rfl⟩ := List.mem_map.1 hx
    exact part_len d y)
  simp only [List.length_map, List.length_take] at h3
  have h4 : min i (formOf w.Op.toNat).length ≤ (formOf w.Op.toNat).length := Nat.min_le_right _ _
  unfold lineT
  rw [List.length_append]
  omega
theorem slice_one {P : Program} {rows : Nm → Option Row} {t : TypeId} {l : List UInt8} {i : Nat} {b : UInt8} (hu : P.underlying t = some .string) (h : l[i]? = some b) : sliceA P rows t (.str (bs l)) (some (.int .i64 i)) (some (.int .i64 (i + 1))) false = some (.str (bs [b])) := by
  obtain ⟨hi, rfl⟩ := List.getElem?_eq_some_iff.1 h
  rw [slice_ft hu (by omega) (by omega) (by omega)]
  congr 3
  rw [show ((i : Int) + 1).toNat - (i : Int).toNat = 1 by omega, show (i : Int).toNat = i by omega, List.drop_eq_getElem_cons hi]
  rfl

set_option maxHeartbeats 2000000 in
theorem l17Form (op : Nat) (h : op < 12) : Pure Tryz.prog 74 [.int .i64 op] (.tup [.str (bs (nameOf op)), .str (bs (formOf op))]) := by
  intro T
  have h1 : ¬ T + 1 = T + 1 + 1 + 1 := by omega
  have h2 : ¬ T + 1 + 1 = T + 1 + 1 + 1 := by omega
  have h3 : ¬ T = T + 1 + 1 := by omega
  have h4 : ¬ T = T + 1 := by omega
  have hop : op = 0 ∨ op = 1 ∨ op = 2 ∨ op = 3 ∨ op = 4 ∨ op = 5 ∨ op = 6 ∨ op = 7 ∨ op = 8 ∨ op = 9 ∨ op = 10 ∨ op = 11 := by omega
  refine enter mixed ME2 Tryz.func74 rfl (by kernel_rfl) rfl ?_
  rcases hop with rfl | rfl | rfl | rfl | rfl | rfl | rfl | rfl | rfl | rfl | rfl | rfl
  all_goals
    repeat' (first | (with_reducible first | refine stp ?_ | refine k_blk_o rfl ?_ | refine k_seq_n ?_) | ((try (conv => arg 1; simp [rg12, bs_mk, bs_empty])); with_reducible refine evp ?_) | fail)
    repeat (with_reducible first | refine stp ?_ | refine k_seq_n ?_)
    refine st_draw 10 (fun _ => false) (by kernel_rfl) ?_
    simp only [List.take_succ_cons, List.take_zero, List.drop_succ_cons, List.drop_zero, List.take_nil, List.drop_nil]
    repeat' (first | (with_reducible first | refine stp ?_ | refine k_blk_o rfl ?_ | refine k_seq_n ?_) | ((try (conv => arg 1; simp [rg12, bs_mk, maskR, h1, h2, h3, h4])); with_reducible refine evp ?_) | ((with_reducible refine apn ?na ?_); (case na => simp [appNames, ints, intss] <;> first | kernel_rfl | (refine ⟨?_, ?_⟩ <;> kernel_rfl))) | fail)
    exact dr_tup2 (.str _) (.str _)
theorem l17Signs : Pure Tryz.prog 77 [] (strs false (signL.map bs)) := by
  intro T
  refine enter mixed ME2 Tryz.func77 rfl (by kernel_rfl) rfl ?_
  repeat' (first | (with_reducible first | refine stp ?_ | refine k_blk_o rfl ?_ | refine k_seq_n ?_) | ((try (conv => arg 1; simp [rg6, bs_mk])); with_reducible refine evp ?_) | fail)
  exact dr_strs_sl (l := signL.map bs) (by simp [signL])
theorem implSigns : Pure Tryz.prog 120 [] (strs false (signL.map bs)) := by
  intro T
  refine enter mixed ME2 Tryz.func120 rfl (by kernel_rfl) rfl ?_
  repeat' (first | (with_reducible first | refine stp ?_ | refine k_blk_o rfl ?_ | refine k_seq_n ?_) | ((try (conv => arg 1; simp [rg6, bs_mk])); with_reducible refine evp ?_) | fail)
  exact dr_strs_sl (l := signL.map bs) (by simp [signL])
theorem sign_get {n : Nat} (h : n < 6) : signL[n]? = some (signOf n) := by
  have : ∀ o : Fin 6, signL[o.val]? = some (signOf o) := by decide +kernel
  exact this ⟨n, h⟩
end Go.Proofs.YtmcmgeedhbgglaaGreatDoor.AM

namespace Go.Proofs.YtmcmgeedhbgglaaGreatDoor.AM
open Go.RowKit

private def ME22 : FuncId → Mode := fun f => .tree

/-- The first place of a text, or -1. -/
def findI (L : List (List UInt8)) (s : List UInt8) : Int := match L.findIdx? (fun x => decide (x = s)) with
  | some i => (i : Int)
  | none => -1
theorem findI_some {L : List (List UInt8)} {s : List UInt8} {i : Nat} (hi : i < L.length) (h : L[i] = s) (hn : ∀ j (hj : j < L.length), j < i → ¬ L[j] = s) : findI L s = i := by
  unfold findI
  have : L.findIdx? (fun x => decide (x = s)) = some i := by
    rw [List.findIdx?_eq_some_iff_getElem]
    exact ⟨hi, by simp [h], fun j hj => by simp [hn j (by omega) hj]⟩
  rw [this]
theorem findI_none {L : List (List UInt8)} {s : List UInt8} (hn : ∀ j (hj : j < L.length), ¬ L[j] = s) : findI L s = -1 := by
  unfold findI
  have : L.findIdx? (fun x => decide (x = s)) = none := by
    rw [List.findIdx?_eq_none_iff]
    intro x hx
    obtain ⟨j, hj, rfl⟩ := List.getElem_of_mem hx
    simp [hn j hj]
  rw [this]
theorem findI_lt (L : List (List UInt8)) (s : List UInt8) : -1 ≤ findI L s ∧ findI L s < L.length := by
  unfold findI
  split
  · rename_i i h
    have := (List.findIdx?_eq_some_iff_getElem.1 h).1
    omega
  · omega
/-- A number behind a letter. -/
def npR (c : UInt8) (s : List UInt8) : Int × Bool := match s with
  | [] => (0, false)
  | x :: r => if x = c then readR r else (0, false)
theorem npR_in (c : UInt8) (s : List UInt8) : I64 (npR c s).1 := by
  unfold npR
  split
  · exact ⟨by decide, by decide⟩
  · split
    · exact readR_in _
    · exact ⟨by decide, by decide⟩
/-- One part, read into a word. -/
def oneR (w : Word) (b : UInt8) (s : List UInt8) : Word × Bool :=
  if b = 114 then ({ w with R := (npR 114 s).1 }, (npR 114 s).2)
  else if b = 97 then ({ w with A := (npR 114 s).1 }, (npR 114 s).2)
  else if b = 98 then ({ w with B := (npR 114 s).1 }, (npR 114 s).2)
  else if b = 110 then ({ w with N := (readR s).1 }, (readR s).2)
  else if b = 103 then ({ w with N := findI signL s }, decide (0 ≤ findI signL s))
  else ({ w with N := (npR b s).1 }, (npR b s).2)

set_option maxHeartbeats 1000000 in
theorem l02Place (L : List (List UInt8)) (s : List UInt8) (hl : L.length ≤ 2 ^ 40) : Pure Tryz.prog 115 [strs true (L.map bs), .str (bs s)] (.int .i64 (findI L s)) := by
  intro T
  refine enter mixed ME22 Tryz.func115 rfl (by kernel_rfl) rfl ?_
  repeat' (first | (with_reducible first | refine stp ?_ | refine k_blk_o rfl ?_ | refine k_seq_n ?_) | ((try (conv => arg 1; simp [bs_mk])); with_reducible refine evp ?_) | fail)
  refine st_loop (fun (i : Nat) σ h => i ≤ L.length ∧ (∀ j (hj : j < L.length), j < i → ¬ L[j] = s) ∧ σ 0 = strs true (L.map bs) ∧ σ 1 = .str (bs s) ∧ σ 5 = .int .i64 i) (fun i => L.length - i) 0 ?init ?step
  case init =>
    exact ⟨Nat.zero_le _, fun j _ h => by omega, by simp, by simp, by simp⟩
  case step =>
    rintro i σ h ⟨hi, hn, s0, s1, s5⟩
    by_cases hlt : i < L.length
    · have hlt2 : (i : Int) < L.length := by omega
      have hw : IntKind.i64.wrap (i + 1) = i + 1 := wrap_id (by omega) (by omega)
      by_cases he : L[i] = s
      · have hR := findI_some hlt he hn
        have heb : (L[i] == s) = true := by simp [he]
        repeat' (first | (with_reducible first | refine stp ?_ | refine k_blk_o rfl ?_ | refine k_seq_n ?_) | ((try (conv => arg 1; simp [strs, s0, s1, s5, hlt, hlt2, heb, bs_toList])); with_reducible refine evp ?_) | fail)
        rw [hR]
        exact .int _ _
      · have heb : (L[i] == s) = false := by simp [he]
        repeat' (first | (with_reducible first | refine stp ?_ | refine k_blk_o rfl ?_ | refine k_seq_n ?_) | ((try (conv => arg 1; simp [strs, s0, s1, s5, hlt, hlt2, heb, hw, bs_toList])); with_reducible refine evp ?_) | fail)
        refine k_lp_n (i + 1) (by omega) ⟨by omega, fun j hj hji => ?_, by simp [s0, strs], by simp [s1], by simp⟩
        by_cases e : j = i
        · subst e; exact he
        · exact hn j hj (by omega)
    · have hge : i = L.length := by omega
      subst hge
      have hR := findI_none fun j hj => hn j hj hj
      repeat' (first | (with_reducible first | refine stp ?_ | refine k_blk_o rfl ?_ | refine k_seq_n ?_) | ((try (conv => arg 1; simp [strs, s0, s1, s5])); with_reducible refine evp ?_) | fail)
      rw [hR]
      exact .int _ _

theorem l17Part (s : List UInt8) (c : UInt8) (hl : s.length ≤ 2 ^ 40) : Pure Tryz.prog 114 [.str (bs s), .int .u8 c.toNat] (.tup [.int .i64 (npR c s).1, .bool (npR c s).2]) := by
  intro T
  have hz := bs_size s
  refine enter mixed ME22 Tryz.func114 rfl (by kernel_rfl) rfl ?_
  cases s with
  | nil =>
    repeat' (first | (with_reducible first | refine stp ?_ | refine k_blk_o rfl ?_ | refine k_seq_n ?_) | ((try (conv => arg 1; simp [bs_mk, bs_toList])); with_reducible refine evp ?_) | fail)
    exact dr_tup2 (.int _ _) (.bool _)
  | cons x r =>
    have hb0 : (x :: r == []) = false := by simp
    by_cases hx : x = c
    · subst hx
      have K := specReadNum' r (by simp at hl; omega)
      have hR : npR x (x :: r) = readR r := by simp [npR]
      have esl : ∀ rows, sliceA Tryz.prog rows 9 (.str (bs (x :: r))) (some (.int .i64 1)) none false = some (.str (bs r)) := fun rows => slice_fr und_9 (by omega) (by simp; omega)
      rw [hR]
      repeat' (first | (with_reducible first | refine stp ?_ | refine k_blk_o rfl ?_ | refine k_seq_n ?_) | ((try (conv => arg 1; simp [bs_mk, bs_toList, hb0, hz, bs_getE, esl])); with_reducible refine evp ?_) | ((with_reducible refine tcl ?_); first | ((apply tg (K)); (case e => rfl); (case d => (refine dq ?_); (repeat' (first | ((refine Da.mk ?_); first | assumption) | constructor))))) | fail)
      exact dr_tup2 (.int _ _) (.bool _)
    · have hR : npR c (x :: r) = (0, false) := by simp [npR, hx]
      have hx2 : ¬ (x.toNat : Int) = (c.toNat : Int) := fun e => hx (UInt8.toNat_inj.1 (by omega))
      have hx3 : ¬ x.toNat = c.toNat := fun e => hx (UInt8.toNat_inj.1 e)
      rw [hR]
      repeat' (first | (with_reducible first | refine stp ?_ | refine k_blk_o rfl ?_ | refine k_seq_n ?_) | ((try (conv => arg 1; simp [bs_mk, bs_toList, hb0, hz, bs_getE, hx2, hx3])); with_reducible refine evp ?_) | fail)
      exact dr_tup2 (.int _ _) (.bool _)

set_option maxHeartbeats 4000000 in
theorem l17One (w : Word) (b : UInt8) (s : List UInt8) (hl : s.length ≤ 2 ^ 40) : Pure Tryz.prog 75 [.agg w.cells, .int .u8 b.toNat, .str (bs s)] (.tup [.agg (oneR w b s).1.cells, .bool (oneR w b s).2]) := by
  intro T
  have KR : Pure Tryz.prog 114 [.str (bs s), .int .u8 114] (.tup [.int .i64 (npR 114 s).1, .bool (npR 114 s).2]) := l17Part s 114 hl
  have KB := l17Part s b hl
  have KN := specReadNum' s hl
  have KS := l17Signs
  have KP := l02Place signL s (by decide)
  obtain ⟨Op, R, A, B, N⟩ := w
  refine enter mixed ME22 Tryz.func75 rfl (by kernel_rfl) rfl ?_
  by_cases c1 : b = 114
  · subst c1
    repeat' (first | (with_reducible first | refine stp ?_ | refine k_blk_o rfl ?_ | refine k_seq_n ?_) | ((try (conv => arg 1; simp [Word.cells, bs_mk])); with_reducible refine evp ?_) | ((with_reducible refine tcl ?_); first | ((apply tg (KR)); (case e => rfl); (case d => (refine dq ?_); (repeat' (first | ((refine Da.mk ?_); first | assumption) | constructor))))) | fail)
    simp only [oneR, if_pos]
    exact dr_tup2 (dr_agg (.cons (.int _ _) (.cons (.int _ _) (.cons (.int _ _) (.cons (.int _ _) (.cons (.int _ _) .nil)))))) (.bool _)
  have d1 : ¬ (b.toNat : Int) = 114 := fun e => c1 (UInt8.toNat_inj.1 (by show b.toNat = 114; omega))
  by_cases c2 : b = 97
  · subst c2
    repeat' (first | (with_reducible first | refine stp ?_ | refine k_blk_o rfl ?_ | refine k_seq_n ?_) | ((try (conv => arg 1; simp [Word.cells, bs_mk])); with_reducible refine evp ?_) | ((with_reducible refine tcl ?_); first | ((apply tg (KR)); (case e => rfl); (case d => (refine dq ?_); (repeat' (first | ((refine Da.mk ?_); first | assumption) | constructor))))) | fail)
    simp only [oneR]
    exact dr_tup2 (dr_agg (.cons (.int _ _) (.cons (.int _ _) (.cons (.int _ _) (.cons (.int _ _) (.cons (.int _ _) .nil)))))) (.bool _)
  have d2 : ¬ (b.toNat : Int) = 97 := fun e => c2 (UInt8.toNat_inj.1 (by show b.toNat = 97; omega))
  by_cases c3 : b = 98
  · subst c3
    repeat' (first | (with_reducible first | refine stp ?_ | refine k_blk_o rfl ?_ | refine k_seq_n ?_) | ((try (conv => arg 1; simp [Word.cells, bs_mk])); with_reducible refine evp ?_) | ((with_reducible refine tcl ?_); first | ((apply tg (KR)); (case e => rfl); (case d => (refine dq ?_); (repeat' (first | ((refine Da.mk ?_); first | assumption) | constructor))))) | fail)
    simp only [oneR]
    exact dr_tup2 (dr_agg (.cons (.int _ _) (.cons (.int _ _) (.cons (.int _ _) (.cons (.int _ _) (.cons (.int _ _) .nil)))))) (.bool _)
  have d3 : ¬ (b.toNat : Int) = 98 := fun e => c3 (UInt8.toNat_inj.1 (by show b.toNat = 98; omega))
  by_cases c4 : b = 110
  · subst c4
    repeat' (first | (with_reducible first | refine stp ?_ | refine k_blk_o rfl ?_ | refine k_seq_n ?_) | ((try (conv => arg 1; simp [Word.cells, bs_mk])); with_reducible refine evp ?_) | ((with_reducible refine tcl ?_); first | ((apply tg (KN)); (case e => rfl); (case d => (refine dq ?_); (repeat' (first | ((refine Da.mk ?_); first | assumption) | constructor))))) | fail)
    simp only [oneR]
    exact dr_tup2 (dr_agg (.cons (.int _ _) (.cons (.int _ _) (.cons (.int _ _) (.cons (.int _ _) (.cons (.int _ _) .nil)))))) (.bool _)
  have d4 : ¬ (b.toNat : Int) = 110 := fun e => c4 (UInt8.toNat_inj.1 (by show b.toNat = 110; omega))
  by_cases c5 : b = 103
  · subst c5
    repeat' (first | (with_reducible first | refine stp ?_ | refine k_blk_o rfl ?_ | refine k_seq_n ?_) | ((try (conv => arg 1; simp [Word.cells, bs_mk])); with_reducible refine evp ?_) | ((with_reducible refine tcl ?_); first | ((apply tg (KS)); (case e => rfl); (case d => (refine dq ?_); (repeat' (first | ((refine Da.mk ?_); first | exact dr_strs (by simp) _ | assumption) | constructor)))) | ((apply tg (KP)); (case e => rfl); (case d => (refine dq ?_); (repeat' (first | ((refine Da.mk ?_); first | exact dr_strs (by simp) _ | assumption) | constructor))))) | fail)
    simp only [oneR]
    exact dr_tup2 (dr_agg (.cons (.int _ _) (.cons (.int _ _) (.cons (.int _ _) (.cons (.int _ _) (.cons (.int _ _) .nil)))))) (.bool _)
  have d5 : ¬ (b.toNat : Int) = 103 := fun e => c5 (UInt8.toNat_inj.1 (by show b.toNat = 103; omega))
  repeat' (first | (with_reducible first | refine stp ?_ | refine k_blk_o rfl ?_ | refine k_seq_n ?_) | ((try (conv => arg 1; simp [Word.cells, d1, d2, d3, d4, d5, bs_mk])); with_reducible refine evp ?_) | ((with_reducible refine tcl ?_); first | ((apply tg (KB)); (case e => rfl); (case d => (refine dq ?_); (repeat' (first | ((refine Da.mk ?_); first | assumption) | constructor))))) | fail)
  simp only [oneR, if_neg c1, if_neg c2, if_neg c3, if_neg c4, if_neg c5]
  exact dr_tup2 (dr_agg (.cons (.int _ _) (.cons (.int _ _) (.cons (.int _ _) (.cons (.int _ _) (.cons (.int _ _) .nil)))))) (.bool _)
end Go.Proofs.YtmcmgeedhbgglaaGreatDoor.AM

namespace Go.Proofs.YtmcmgeedhbgglaaGreatDoor.AM
open Go.RowKit Go.Shelf

/-- A call of the library that lays one new row of texts, and leaves all that was there as it was: the row is a tree. -/
theorem sound_strs {P : Program} {f : FuncId} {args : List AV} {h : Hp} {fn : Func} {xs : List ByteArray} (h1 : P.funcs[f]? = some fn) (h2 : fn.body.isNone = false) (h3 : (fn.name == "runtime.NumGoroutine") = false)
    (hc : ∀ (mu : Nm → Nat → Option Loc) (pr : Bool → Nat → Prop) (w : World) (vs : List Value), Rel mu pr h w → VRs mu pr w.heap args vs → Calls P f vs.toArray w fun e w' => ∃ N cap ty fr, e = .returned (.slice (some ⟨N, 0, none⟩) xs.length cap) ∧ xs.length ≤ cap ∧ w.heap.size ≤ N ∧ w'.heap[N]? = some (.cells (xs.map Value.string).toArray ty fr) ∧ Below w.heap.size w w') :
    Sound P f args h fun v h' => v = strs false xs ∧ h' = h := by
  refine ⟨⟨fn, h1, h2, h3⟩, fun mu pr w vs R hv => (hc mu pr w vs R hv).mono ?_⟩
  rintro e w' ⟨N, cap, ty, fr, rfl, hcap, hN, hb, B⟩
  have A := After.below R B
  have hx : Ext mu pr w.heap mu (fun c b => pr c b ∨ (c = false ∧ b = N)) w'.heap := ⟨A.ext.names, fun c b hb => .inl hb, A.ext.same, A.ext.size⟩
  have hNs : N < w'.heap.size := (Array.getElem?_eq_some_iff.1 hb).1
  refine ⟨_, strs false xs, h, mu, fun c b => pr c b ∨ (c = false ∧ b = N), rfl, ⟨rfl, rfl⟩, ?_, ⟨fun n r hr => ?_, A.rel.inj, A.rel.fresh, A.rel.vers, fun c b hb' => ?_, R.tab.ext hx⟩, hx, A.fr, fun b hb' => ?_, fun b hb' => ?_, A.names, A.tick⟩
  · have := VR.tr (mu := mu) (pr := fun c b => pr c b ∨ (c = false ∧ b = N)) (hp := w'.heap) false N 0 cap 1 (xs.map Value.string).toArray ty fr (xs.map fun x => [AV.str x]) (fun i _ => .string (xs.getD i ByteArray.empty)) (.inr ⟨rfl, rfl⟩) hb (by simpa using hcap)
      (fun i e he => by simp at he; obtain ⟨a, _, rfl⟩ := he; rfl)
      (fun i e j c he hj => by
        simp at he; obtain ⟨a, ha, rfl⟩ := he
        match j, hj with
        | 0, hj => simp [ha])
      (fun i e j c he hj => by
        simp at he; obtain ⟨a, ha, rfl⟩ := he
        match j, hj with
        | 0, hj => simp at hj; subst hj; rfl)
      (fun i e j c he hj => by
        simp at he; obtain ⟨a, ha, rfl⟩ := he
        match j, hj with
        | 0, hj => simp at hj; subst hj; simp [ha]; exact .str _)
    simpa [strs] using this
  · obtain ⟨l, arr, ty', g1, g2, g3, g4, g5, g6⟩ := A.rel.row n r hr
    refine ⟨l, arr, ty', g1, fun c hc => ?_, g3, g4, g5, g6.mono ⟨fun _ _ _ h => h, fun c b hb => .inl hb, fun _ _ _ => rfl, fun b arr ty fr h => ⟨arr, fr, h, rfl⟩⟩⟩
    rcases hc with hc | ⟨_, hc⟩
    · exact g2 c hc
    · obtain ⟨l', _, _, k1, _, k3, _⟩ := R.row n r hr
      rw [g1] at k1
      cases k1
      have := (Array.getElem?_eq_some_iff.1 k3).1
      omega
  · rcases hb' with hb' | ⟨_, rfl⟩
    · exact A.rel.lt c b hb'
    · exact hNs
  · rcases hb' with hb' | ⟨_, rfl⟩
    · exact .inl hb'
    · exact .inr hN
  · rcases hb' with hb' | ⟨hc, _⟩
    · exact hb'
    · cases hc
theorem pure_strs {P : Program} {f : FuncId} {args : List AV} {fn : Func} {xs : List ByteArray} (h1 : P.funcs[f]? = some fn) (h2 : fn.body.isNone = false) (h3 : (fn.name == "runtime.NumGoroutine") = false)
    (hc : ∀ (mu : Nm → Nat → Option Loc) (pr : Bool → Nat → Prop) (h : Hp) (w : World) (vs : List Value), Rel mu pr h w → VRs mu pr w.heap args vs → Calls P f vs.toArray w fun e w' => ∃ N cap ty fr, e = .returned (.slice (some ⟨N, 0, none⟩) xs.length cap) ∧ xs.length ≤ cap ∧ w.heap.size ≤ N ∧ w'.heap[N]? = some (.cells (xs.map Value.string).toArray ty fr) ∧ Below w.heap.size w w') :
    Pure P f args (strs false xs) := fun T => (sound_strs (h := .mt T) h1 h2 h3 fun mu pr w vs => hc mu pr _ w vs).mono fun v h' ⟨e, _⟩ => by rw [e]; exact dr_strs (by simp) _

/-- The kit's numbers, led to this program's. -/
def laysSplit_ren : Go.Shelf.Ren := ⟨fun | 146 => 43 | 221 => 78 | 268 => 116 | 138 => 117 | 143 => 118 | 195 => 145 | 197 => 146 | 218 => 147 | 219 => 148 | 260 => 159 | 217 => 137 | 225 => 160 | 224 => 161 | 267 => 162 | 266 => 157 | 314 => 171 | n => n, fun | 9 => 9 | 31 => 38 | 3 => 3 | 4 => 4 | 0 => 0 | 105 => 162 | 21 => 21 | 5 => 5 | 46 => 173 | 119 => 186 | 139 => 189 | 138 => 188 | 146 => 191 | 51 => 190 | n => n, fun | 1 => 0 | 3 => 3 | 4 => 4 | n => n⟩
theorem laysSplit : Lays.n146 Tryz.prog laysSplit_ren where
  mixed := by kernel_rfl
  f138 := Tryz.func117.trans (congrArg some (by kernel_rfl))
  f143 := Tryz.func118.trans (congrArg some (by kernel_rfl))
  f146 := Tryz.func43.trans (congrArg some (by kernel_rfl))
  f195 := Tryz.func145.trans (congrArg some (by kernel_rfl))
  f197 := Tryz.func146.trans (congrArg some (by kernel_rfl))
  f217 := Tryz.func137.trans (congrArg some (by kernel_rfl))
  f218 := Tryz.func147.trans (congrArg some (by kernel_rfl))
  f219 := Tryz.func148.trans (congrArg some (by kernel_rfl))
  f221 := Tryz.func78.trans (congrArg some (by kernel_rfl))
  f224 := Tryz.func161.trans (congrArg some (by kernel_rfl))
  f225 := Tryz.func160.trans (congrArg some (by kernel_rfl))
  f260 := Tryz.func159.trans (congrArg some (by kernel_rfl))
  f266 := Tryz.func157.trans (congrArg some (by kernel_rfl))
  f267 := Tryz.func162.trans (congrArg some (by kernel_rfl))
  f268 := Tryz.func116.trans (congrArg some (by kernel_rfl))
  f314 := Tryz.func171.trans (congrArg some (by kernel_rfl))
  t0 := Tryz.underlying0
  a0 := Tryz.isAgg0
  z0 := Tryz.sizeOf0
  v0 := Tryz.zeroValue0
  t3 := Tryz.underlying3
  a3 := Tryz.isAgg3
  z3 := Tryz.sizeOf3
  v3 := Tryz.zeroValue3
  t4 := Tryz.underlying4
  a4 := Tryz.isAgg4
  z4 := Tryz.sizeOf4
  v4 := Tryz.zeroValue4
  t5 := Tryz.underlying5
  a5 := Tryz.isAgg5
  z5 := Tryz.sizeOf5
  v5 := Tryz.zeroValue5
  t9 := Tryz.underlying9
  a9 := Tryz.isAgg9
  z9 := Tryz.sizeOf9
  v9 := Tryz.zeroValue9
  t21 := Tryz.underlying21
  a21 := Tryz.isAgg21
  z21 := Tryz.sizeOf21
  v21 := Tryz.zeroValue21
  t31 := Tryz.underlying38
  a31 := Tryz.isAgg38
  z31 := Tryz.sizeOf38
  v31 := Tryz.zeroValue38
  t46 := Tryz.underlying173
  a46 := Tryz.isAgg173
  z46 := Tryz.sizeOf173
  v46 := Tryz.zeroValue173
  t51 := Tryz.underlying190
  a51 := Tryz.isAgg190
  z51 := Tryz.sizeOf190
  v51 := Tryz.zeroValue190
  t105 := Tryz.underlying162
  a105 := Tryz.isAgg162
  z105 := Tryz.sizeOf162
  v105 := Tryz.zeroValue162
  t119 := Tryz.underlying186
  a119 := Tryz.isAgg186
  z119 := Tryz.sizeOf186
  t138 := Tryz.underlying188
  a138 := Tryz.isAgg188
  z138 := Tryz.sizeOf188
  v138 := Tryz.zeroValue188
  t139 := Tryz.underlying189
  a139 := Tryz.isAgg189
  z139 := Tryz.sizeOf189
  v139 := Tryz.zeroValue189
  t146 := Tryz.underlying191
  a146 := Tryz.isAgg191
  z146 := Tryz.sizeOf191
  v146 := Tryz.zeroValue191
  g1 := by kernel_rfl
  g3 := by kernel_rfl
  g4 := by kernel_rfl
end Go.Proofs.YtmcmgeedhbgglaaGreatDoor.AM
