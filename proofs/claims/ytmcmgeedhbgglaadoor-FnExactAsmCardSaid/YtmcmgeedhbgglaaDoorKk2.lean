/- Lemmas: an abstract machine over named rows, and what single functions compute (parts U0, D2, U1, GK, D4, D5, GR, D7, U2, U3, U4, U5, U6, U7, U8, U9, U10, U11, U12, W0, D6, W1, W2, W3, W4, W5, W6, W7). -/
import Derived.Test.YtmcmgeedhbgglaaDoorKk1
import Derived.Test.YtmcmgeedhbgglaaDoorRows
import Derived.Shelf.LaysM
import Derived.Shelf.Strconv.Itoa3
import Derived.Lib.Strings
namespace Go.Proofs.YtmcmgeedhbgglaaDoor.AM
open Go.RowKit
@[simp] theorem tk_2 : tk Tryd.prog 2 = some (1, false) := by kernel_rfl
@[simp] theorem tsz_2 : tsz Tryd.prog 2 = some 1 := by kernel_rfl
@[simp] theorem tzero_2 : tzero Tryd.prog 2 = some [.int .i64 0] := by kernel_rfl
@[simp] theorem tby_2 : tby Tryd.prog 2 = some 8 := by kernel_rfl
@[simp] theorem und_2 : Tryd.prog.underlying 2 = some (.int .i64) := by kernel_rfl
@[simp] theorem tk_3 : tk Tryd.prog 3 = some (1, false) := by kernel_rfl
@[simp] theorem tsz_3 : tsz Tryd.prog 3 = some 1 := by kernel_rfl
@[simp] theorem tzero_3 : tzero Tryd.prog 3 = some [.int .i64 0] := by kernel_rfl
@[simp] theorem tby_3 : tby Tryd.prog 3 = some 8 := by kernel_rfl
@[simp] theorem und_3 : Tryd.prog.underlying 3 = some (.int .i64) := by kernel_rfl
@[simp] theorem tk_4 : tk Tryd.prog 4 = some (1, false) := by kernel_rfl
@[simp] theorem tsz_4 : tsz Tryd.prog 4 = some 1 := by kernel_rfl
@[simp] theorem tzero_4 : tzero Tryd.prog 4 = some [.bool false] := by kernel_rfl
@[simp] theorem tby_4 : tby Tryd.prog 4 = some 1 := by kernel_rfl
@[simp] theorem und_4 : Tryd.prog.underlying 4 = some .bool := by kernel_rfl
@[simp] theorem tk_5 : tk Tryd.prog 5 = some (1, false) := by kernel_rfl
@[simp] theorem tsz_5 : tsz Tryd.prog 5 = some 1 := by kernel_rfl
@[simp] theorem tzero_5 : tzero Tryd.prog 5 = some [.int .u8 0] := by kernel_rfl
@[simp] theorem tby_5 : tby Tryd.prog 5 = some 1 := by kernel_rfl
@[simp] theorem und_5 : Tryd.prog.underlying 5 = some (.int .u8) := by kernel_rfl
@[simp] theorem tk_6 : tk Tryd.prog 6 = some (1, false) := by kernel_rfl
@[simp] theorem tsz_6 : tsz Tryd.prog 6 = some 1 := by kernel_rfl
@[simp] theorem tzero_6 : tzero Tryd.prog 6 = some [.int .u8 0] := by kernel_rfl
@[simp] theorem tby_6 : tby Tryd.prog 6 = some 1 := by kernel_rfl
@[simp] theorem und_6 : Tryd.prog.underlying 6 = some (.int .u8) := by kernel_rfl
@[simp] theorem tk_7 : tk Tryd.prog 7 = some (4, true) := by kernel_rfl
@[simp] theorem tsz_7 : tsz Tryd.prog 7 = some 4 := by kernel_rfl
@[simp] theorem tzero_7 : tzero Tryd.prog 7 = some [.int .i64 0, .int .i64 0, .bool false, .int .u8 0] := by kernel_rfl
@[simp] theorem tby_7 : tby Tryd.prog 7 = some 24 := by kernel_rfl
@[simp] theorem tfld_7_0 : tfld Tryd.prog 7 0 = some (0, 1, 2) := by kernel_rfl
@[simp] theorem tfld_7_1 : tfld Tryd.prog 7 1 = some (1, 1, 3) := by kernel_rfl
@[simp] theorem tfld_7_2 : tfld Tryd.prog 7 2 = some (2, 1, 4) := by kernel_rfl
@[simp] theorem tfld_7_3 : tfld Tryd.prog 7 3 = some (3, 1, 6) := by kernel_rfl
@[simp] theorem tbuild_7 : tbuild Tryd.prog 7 = some ([.int .i64 0, .int .i64 0, .bool false, .int .u8 0], [(0, 1), (1, 1), (2, 1), (3, 1)]) := by kernel_rfl
@[simp] theorem tkinds_7 : tkinds Tryd.prog 7 = some [.i, .i, .b, .i] := by kernel_rfl
@[simp] theorem tk_8 : tk Tryd.prog 8 = some (4, true) := by kernel_rfl
@[simp] theorem tsz_8 : tsz Tryd.prog 8 = some 4 := by kernel_rfl
@[simp] theorem tzero_8 : tzero Tryd.prog 8 = some [.int .i64 0, .int .i64 0, .bool false, .int .u8 0] := by kernel_rfl
@[simp] theorem tby_8 : tby Tryd.prog 8 = some 24 := by kernel_rfl
@[simp] theorem tfld_8_0 : tfld Tryd.prog 8 0 = some (0, 1, 2) := by kernel_rfl
@[simp] theorem tfld_8_1 : tfld Tryd.prog 8 1 = some (1, 1, 3) := by kernel_rfl
@[simp] theorem tfld_8_2 : tfld Tryd.prog 8 2 = some (2, 1, 4) := by kernel_rfl
@[simp] theorem tfld_8_3 : tfld Tryd.prog 8 3 = some (3, 1, 6) := by kernel_rfl
@[simp] theorem tbuild_8 : tbuild Tryd.prog 8 = some ([.int .i64 0, .int .i64 0, .bool false, .int .u8 0], [(0, 1), (1, 1), (2, 1), (3, 1)]) := by kernel_rfl
@[simp] theorem tkinds_8 : tkinds Tryd.prog 8 = some [.i, .i, .b, .i] := by kernel_rfl
@[simp] theorem tk_9 : tk Tryd.prog 9 = some (1, false) := by kernel_rfl
@[simp] theorem tsz_9 : tsz Tryd.prog 9 = some 1 := by kernel_rfl
@[simp] theorem tzero_9 : tzero Tryd.prog 9 = some [.str ByteArray.empty] := by kernel_rfl
@[simp] theorem tby_9 : tby Tryd.prog 9 = some 16 := by kernel_rfl
@[simp] theorem und_9 : Tryd.prog.underlying 9 = some .string := by kernel_rfl
@[simp] theorem tk_10 : tk Tryd.prog 10 = some (1, false) := by kernel_rfl
@[simp] theorem tsz_10 : tsz Tryd.prog 10 = some 1 := by kernel_rfl
@[simp] theorem tzero_10 : tzero Tryd.prog 10 = some [.str ByteArray.empty] := by kernel_rfl
@[simp] theorem tby_10 : tby Tryd.prog 10 = some 16 := by kernel_rfl
@[simp] theorem und_10 : Tryd.prog.underlying 10 = some .string := by kernel_rfl
@[simp] theorem tk_11 : tk Tryd.prog 11 = some (1, false) := by kernel_rfl
@[simp] theorem tsz_11 : tsz Tryd.prog 11 = some 1 := by kernel_rfl
@[simp] theorem tzero_11 : tzero Tryd.prog 11 = some [.str ByteArray.empty] := by kernel_rfl
@[simp] theorem tby_11 : tby Tryd.prog 11 = some 16 := by kernel_rfl
@[simp] theorem und_11 : Tryd.prog.underlying 11 = some .string := by kernel_rfl
@[simp] theorem tk_12 : tk Tryd.prog 12 = some (1, false) := by kernel_rfl
@[simp] theorem tsz_12 : tsz Tryd.prog 12 = some 1 := by kernel_rfl
@[simp] theorem tzero_12 : tzero Tryd.prog 12 = some [.int .u64 0] := by kernel_rfl
@[simp] theorem tby_12 : tby Tryd.prog 12 = some 8 := by kernel_rfl
@[simp] theorem und_12 : Tryd.prog.underlying 12 = some (.int .u64) := by kernel_rfl
@[simp] theorem tk_13 : tk Tryd.prog 13 = some (2, true) := by kernel_rfl
@[simp] theorem tsz_13 : tsz Tryd.prog 13 = some 2 := by kernel_rfl
@[simp] theorem tzero_13 : tzero Tryd.prog 13 = some [.str ByteArray.empty, .int .u64 0] := by kernel_rfl
@[simp] theorem tby_13 : tby Tryd.prog 13 = some 24 := by kernel_rfl
@[simp] theorem tfld_13_0 : tfld Tryd.prog 13 0 = some (0, 1, 9) := by kernel_rfl
@[simp] theorem tfld_13_1 : tfld Tryd.prog 13 1 = some (1, 1, 12) := by kernel_rfl
@[simp] theorem tbuild_13 : tbuild Tryd.prog 13 = some ([.str ByteArray.empty, .int .u64 0], [(0, 1), (1, 1)]) := by kernel_rfl
@[simp] theorem tk_14 : tk Tryd.prog 14 = some (2, true) := by kernel_rfl
@[simp] theorem tsz_14 : tsz Tryd.prog 14 = some 2 := by kernel_rfl
@[simp] theorem tzero_14 : tzero Tryd.prog 14 = some [.str ByteArray.empty, .int .u64 0] := by kernel_rfl
@[simp] theorem tby_14 : tby Tryd.prog 14 = some 24 := by kernel_rfl
@[simp] theorem tfld_14_0 : tfld Tryd.prog 14 0 = some (0, 1, 9) := by kernel_rfl
@[simp] theorem tfld_14_1 : tfld Tryd.prog 14 1 = some (1, 1, 12) := by kernel_rfl
@[simp] theorem tbuild_14 : tbuild Tryd.prog 14 = some ([.str ByteArray.empty, .int .u64 0], [(0, 1), (1, 1)]) := by kernel_rfl
@[simp] theorem tk_15 : tk Tryd.prog 15 = some (1, false) := by kernel_rfl
@[simp] theorem tsz_15 : tsz Tryd.prog 15 = some 1 := by kernel_rfl
@[simp] theorem tzero_15 : tzero Tryd.prog 15 = some [.nilp] := by kernel_rfl
@[simp] theorem tby_15 : tby Tryd.prog 15 = some 8 := by kernel_rfl
@[simp] theorem tk_16 : tk Tryd.prog 16 = some (1, false) := by kernel_rfl
@[simp] theorem tsz_16 : tsz Tryd.prog 16 = some 1 := by kernel_rfl
@[simp] theorem tzero_16 : tzero Tryd.prog 16 = some [.nilp] := by kernel_rfl
@[simp] theorem tby_16 : tby Tryd.prog 16 = some 8 := by kernel_rfl
@[simp] theorem tk_17 : tk Tryd.prog 17 = some (1, false) := by kernel_rfl
@[simp] theorem tsz_17 : tsz Tryd.prog 17 = some 1 := by kernel_rfl
@[simp] theorem tzero_17 : tzero Tryd.prog 17 = some [.nilp] := by kernel_rfl
@[simp] theorem tby_17 : tby Tryd.prog 17 = some 8 := by kernel_rfl
@[simp] theorem tk_18 : tk Tryd.prog 18 = some (1, true) := by kernel_rfl
@[simp] theorem tsz_18 : tsz Tryd.prog 18 = some 1 := by kernel_rfl
@[simp] theorem tzero_18 : tzero Tryd.prog 18 = some [.nilp] := by kernel_rfl
@[simp] theorem tby_18 : tby Tryd.prog 18 = some 8 := by kernel_rfl
@[simp] theorem tfld_18_0 : tfld Tryd.prog 18 0 = some (0, 1, 17) := by kernel_rfl
@[simp] theorem tbuild_18 : tbuild Tryd.prog 18 = some ([.nilp], [(0, 1)]) := by kernel_rfl
@[simp] theorem tk_19 : tk Tryd.prog 19 = some (1, true) := by kernel_rfl
@[simp] theorem tsz_19 : tsz Tryd.prog 19 = some 1 := by kernel_rfl
@[simp] theorem tzero_19 : tzero Tryd.prog 19 = some [.nilp] := by kernel_rfl
@[simp] theorem tby_19 : tby Tryd.prog 19 = some 8 := by kernel_rfl
@[simp] theorem tfld_19_0 : tfld Tryd.prog 19 0 = some (0, 1, 17) := by kernel_rfl
@[simp] theorem tbuild_19 : tbuild Tryd.prog 19 = some ([.nilp], [(0, 1)]) := by kernel_rfl
@[simp] theorem tk_20 : tk Tryd.prog 20 = some (1, false) := by kernel_rfl
@[simp] theorem tsz_20 : tsz Tryd.prog 20 = some 1 := by kernel_rfl
@[simp] theorem tzero_20 : tzero Tryd.prog 20 = some [.nilif] := by kernel_rfl
@[simp] theorem tby_20 : tby Tryd.prog 20 = some 16 := by kernel_rfl
@[simp] theorem tk_21 : tk Tryd.prog 21 = some (1, false) := by kernel_rfl
@[simp] theorem tsz_21 : tsz Tryd.prog 21 = some 1 := by kernel_rfl
@[simp] theorem tzero_21 : tzero Tryd.prog 21 = some [.int .i32 0] := by kernel_rfl
@[simp] theorem tby_21 : tby Tryd.prog 21 = some 4 := by kernel_rfl
@[simp] theorem und_21 : Tryd.prog.underlying 21 = some (.int .i32) := by kernel_rfl
@[simp] theorem tk_22 : tk Tryd.prog 22 = some (1, false) := by kernel_rfl
@[simp] theorem tsz_22 : tsz Tryd.prog 22 = some 1 := by kernel_rfl
@[simp] theorem tzero_22 : tzero Tryd.prog 22 = some [.nilsl] := by kernel_rfl
@[simp] theorem tby_22 : tby Tryd.prog 22 = some 24 := by kernel_rfl
@[simp] theorem telem_22 : telem Tryd.prog 22 = some 3 := by kernel_rfl
@[simp] theorem und_22 : Tryd.prog.underlying 22 = some (.slice 3) := by kernel_rfl
@[simp] theorem tk_23 : tk Tryd.prog 23 = some (1, false) := by kernel_rfl
@[simp] theorem tsz_23 : tsz Tryd.prog 23 = some 1 := by kernel_rfl
@[simp] theorem tzero_23 : tzero Tryd.prog 23 = some [.nilsl] := by kernel_rfl
@[simp] theorem tby_23 : tby Tryd.prog 23 = some 24 := by kernel_rfl
@[simp] theorem telem_23 : telem Tryd.prog 23 = some 22 := by kernel_rfl
@[simp] theorem und_23 : Tryd.prog.underlying 23 = some (.slice 22) := by kernel_rfl
@[simp] theorem tk_24 : tk Tryd.prog 24 = some (9, true) := by kernel_rfl
@[simp] theorem tsz_24 : tsz Tryd.prog 24 = some 9 := by kernel_rfl
@[simp] theorem tzero_24 : tzero Tryd.prog 24 = some [.int .i64 0, .nilsl, .nilsl, .nilsl, .nilsl, .nilsl, .int .i64 0, .bool false, .int .i64 0] := by kernel_rfl
@[simp] theorem tby_24 : tby Tryd.prog 24 = some 152 := by kernel_rfl
@[simp] theorem tfld_24_0 : tfld Tryd.prog 24 0 = some (0, 1, 3) := by kernel_rfl
@[simp] theorem tfld_24_1 : tfld Tryd.prog 24 1 = some (1, 1, 22) := by kernel_rfl
@[simp] theorem tfld_24_2 : tfld Tryd.prog 24 2 = some (2, 1, 22) := by kernel_rfl
@[simp] theorem tfld_24_3 : tfld Tryd.prog 24 3 = some (3, 1, 23) := by kernel_rfl
@[simp] theorem tfld_24_4 : tfld Tryd.prog 24 4 = some (4, 1, 22) := by kernel_rfl
@[simp] theorem tfld_24_5 : tfld Tryd.prog 24 5 = some (5, 1, 22) := by kernel_rfl
@[simp] theorem tfld_24_6 : tfld Tryd.prog 24 6 = some (6, 1, 3) := by kernel_rfl
@[simp] theorem tfld_24_7 : tfld Tryd.prog 24 7 = some (7, 1, 4) := by kernel_rfl
@[simp] theorem tfld_24_8 : tfld Tryd.prog 24 8 = some (8, 1, 3) := by kernel_rfl
@[simp] theorem tbuild_24 : tbuild Tryd.prog 24 = some ([.int .i64 0, .nilsl, .nilsl, .nilsl, .nilsl, .nilsl, .int .i64 0, .bool false, .int .i64 0], [(0, 1), (1, 1), (2, 1), (3, 1), (4, 1), (5, 1), (6, 1), (7, 1), (8, 1)]) := by kernel_rfl
@[simp] theorem tk_25 : tk Tryd.prog 25 = some (9, true) := by kernel_rfl
@[simp] theorem tsz_25 : tsz Tryd.prog 25 = some 9 := by kernel_rfl
@[simp] theorem tzero_25 : tzero Tryd.prog 25 = some [.int .i64 0, .nilsl, .nilsl, .nilsl, .nilsl, .nilsl, .int .i64 0, .bool false, .int .i64 0] := by kernel_rfl
@[simp] theorem tby_25 : tby Tryd.prog 25 = some 152 := by kernel_rfl
@[simp] theorem tfld_25_0 : tfld Tryd.prog 25 0 = some (0, 1, 3) := by kernel_rfl
@[simp] theorem tfld_25_1 : tfld Tryd.prog 25 1 = some (1, 1, 22) := by kernel_rfl
@[simp] theorem tfld_25_2 : tfld Tryd.prog 25 2 = some (2, 1, 22) := by kernel_rfl
@[simp] theorem tfld_25_3 : tfld Tryd.prog 25 3 = some (3, 1, 23) := by kernel_rfl
@[simp] theorem tfld_25_4 : tfld Tryd.prog 25 4 = some (4, 1, 22) := by kernel_rfl
@[simp] theorem tfld_25_5 : tfld Tryd.prog 25 5 = some (5, 1, 22) := by kernel_rfl
@[simp] theorem tfld_25_6 : tfld Tryd.prog 25 6 = some (6, 1, 3) := by kernel_rfl
@[simp] theorem tfld_25_7 : tfld Tryd.prog 25 7 = some (7, 1, 4) := by kernel_rfl
@[simp] theorem tfld_25_8 : tfld Tryd.prog 25 8 = some (8, 1, 3) := by kernel_rfl
@[simp] theorem tbuild_25 : tbuild Tryd.prog 25 = some ([.int .i64 0, .nilsl, .nilsl, .nilsl, .nilsl, .nilsl, .int .i64 0, .bool false, .int .i64 0], [(0, 1), (1, 1), (2, 1), (3, 1), (4, 1), (5, 1), (6, 1), (7, 1), (8, 1)]) := by kernel_rfl
@[simp] theorem tk_28 : tk Tryd.prog 28 = some (9, true) := by kernel_rfl
@[simp] theorem tsz_28 : tsz Tryd.prog 28 = some 9 := by kernel_rfl
@[simp] theorem tzero_28 : tzero Tryd.prog 28 = some [.int .i64 0, .nilsl, .nilsl, .nilsl, .nilsl, .nilsl, .int .i64 0, .bool false, .int .i64 0] := by kernel_rfl
@[simp] theorem tby_28 : tby Tryd.prog 28 = some 152 := by kernel_rfl
@[simp] theorem tfld_28_0 : tfld Tryd.prog 28 0 = some (0, 1, 3) := by kernel_rfl
@[simp] theorem tfld_28_1 : tfld Tryd.prog 28 1 = some (1, 1, 22) := by kernel_rfl
@[simp] theorem tfld_28_2 : tfld Tryd.prog 28 2 = some (2, 1, 22) := by kernel_rfl
@[simp] theorem tfld_28_3 : tfld Tryd.prog 28 3 = some (3, 1, 23) := by kernel_rfl
@[simp] theorem tfld_28_4 : tfld Tryd.prog 28 4 = some (4, 1, 22) := by kernel_rfl
@[simp] theorem tfld_28_5 : tfld Tryd.prog 28 5 = some (5, 1, 22) := by kernel_rfl
@[simp] theorem tfld_28_6 : tfld Tryd.prog 28 6 = some (6, 1, 3) := by kernel_rfl
@[simp] theorem tfld_28_7 : tfld Tryd.prog 28 7 = some (7, 1, 4) := by kernel_rfl
@[simp] theorem tfld_28_8 : tfld Tryd.prog 28 8 = some (8, 1, 3) := by kernel_rfl
@[simp] theorem tbuild_28 : tbuild Tryd.prog 28 = some ([.int .i64 0, .nilsl, .nilsl, .nilsl, .nilsl, .nilsl, .int .i64 0, .bool false, .int .i64 0], [(0, 1), (1, 1), (2, 1), (3, 1), (4, 1), (5, 1), (6, 1), (7, 1), (8, 1)]) := by kernel_rfl
@[simp] theorem tk_35 : tk Tryd.prog 35 = some (1, false) := by kernel_rfl
@[simp] theorem tsz_35 : tsz Tryd.prog 35 = some 1 := by kernel_rfl
@[simp] theorem tzero_35 : tzero Tryd.prog 35 = some [.nilsl] := by kernel_rfl
@[simp] theorem tby_35 : tby Tryd.prog 35 = some 24 := by kernel_rfl
@[simp] theorem telem_35 : telem Tryd.prog 35 = some 93 := by kernel_rfl
@[simp] theorem und_35 : Tryd.prog.underlying 35 = some (.slice 93) := by kernel_rfl
@[simp] theorem tk_36 : tk Tryd.prog 36 = some (4, true) := by kernel_rfl
@[simp] theorem tsz_36 : tsz Tryd.prog 36 = some 4 := by kernel_rfl
@[simp] theorem tzero_36 : tzero Tryd.prog 36 = some [.nilsl, .int .i64 0, .int .i64 0, .nilsl] := by kernel_rfl
@[simp] theorem tby_36 : tby Tryd.prog 36 = some 64 := by kernel_rfl
@[simp] theorem tfld_36_0 : tfld Tryd.prog 36 0 = some (0, 1, 22) := by kernel_rfl
@[simp] theorem tfld_36_1 : tfld Tryd.prog 36 1 = some (1, 1, 3) := by kernel_rfl
@[simp] theorem tfld_36_2 : tfld Tryd.prog 36 2 = some (2, 1, 3) := by kernel_rfl
@[simp] theorem tfld_36_3 : tfld Tryd.prog 36 3 = some (3, 1, 35) := by kernel_rfl
@[simp] theorem tbuild_36 : tbuild Tryd.prog 36 = some ([.nilsl, .int .i64 0, .int .i64 0, .nilsl], [(0, 1), (1, 1), (2, 1), (3, 1)]) := by kernel_rfl
@[simp] theorem tk_37 : tk Tryd.prog 37 = some (4, true) := by kernel_rfl
@[simp] theorem tsz_37 : tsz Tryd.prog 37 = some 4 := by kernel_rfl
@[simp] theorem tzero_37 : tzero Tryd.prog 37 = some [.nilsl, .int .i64 0, .int .i64 0, .nilsl] := by kernel_rfl
@[simp] theorem tby_37 : tby Tryd.prog 37 = some 64 := by kernel_rfl
@[simp] theorem tfld_37_0 : tfld Tryd.prog 37 0 = some (0, 1, 22) := by kernel_rfl
@[simp] theorem tfld_37_1 : tfld Tryd.prog 37 1 = some (1, 1, 3) := by kernel_rfl
@[simp] theorem tfld_37_2 : tfld Tryd.prog 37 2 = some (2, 1, 3) := by kernel_rfl
@[simp] theorem tfld_37_3 : tfld Tryd.prog 37 3 = some (3, 1, 35) := by kernel_rfl
@[simp] theorem tbuild_37 : tbuild Tryd.prog 37 = some ([.nilsl, .int .i64 0, .int .i64 0, .nilsl], [(0, 1), (1, 1), (2, 1), (3, 1)]) := by kernel_rfl
@[simp] theorem tk_40 : tk Tryd.prog 40 = some (1, false) := by kernel_rfl
@[simp] theorem tsz_40 : tsz Tryd.prog 40 = some 1 := by kernel_rfl
@[simp] theorem tzero_40 : tzero Tryd.prog 40 = some [.nilsl] := by kernel_rfl
@[simp] theorem tby_40 : tby Tryd.prog 40 = some 24 := by kernel_rfl
@[simp] theorem telem_40 : telem Tryd.prog 40 = some 74 := by kernel_rfl
@[simp] theorem und_40 : Tryd.prog.underlying 40 = some (.slice 74) := by kernel_rfl
@[simp] theorem tk_41 : tk Tryd.prog 41 = some (4, true) := by kernel_rfl
@[simp] theorem tsz_41 : tsz Tryd.prog 41 = some 4 := by kernel_rfl
@[simp] theorem tzero_41 : tzero Tryd.prog 41 = some [.nilsl, .int .i64 0, .int .i64 0, .nilsl] := by kernel_rfl
@[simp] theorem tby_41 : tby Tryd.prog 41 = some 64 := by kernel_rfl
@[simp] theorem tfld_41_0 : tfld Tryd.prog 41 0 = some (0, 1, 22) := by kernel_rfl
@[simp] theorem tfld_41_1 : tfld Tryd.prog 41 1 = some (1, 1, 3) := by kernel_rfl
@[simp] theorem tfld_41_2 : tfld Tryd.prog 41 2 = some (2, 1, 3) := by kernel_rfl
@[simp] theorem tfld_41_3 : tfld Tryd.prog 41 3 = some (3, 1, 40) := by kernel_rfl
@[simp] theorem tbuild_41 : tbuild Tryd.prog 41 = some ([.nilsl, .int .i64 0, .int .i64 0, .nilsl], [(0, 1), (1, 1), (2, 1), (3, 1)]) := by kernel_rfl
@[simp] theorem tk_42 : tk Tryd.prog 42 = some (4, true) := by kernel_rfl
@[simp] theorem tsz_42 : tsz Tryd.prog 42 = some 4 := by kernel_rfl
@[simp] theorem tzero_42 : tzero Tryd.prog 42 = some [.nilsl, .int .i64 0, .int .i64 0, .nilsl] := by kernel_rfl
@[simp] theorem tby_42 : tby Tryd.prog 42 = some 64 := by kernel_rfl
@[simp] theorem tfld_42_0 : tfld Tryd.prog 42 0 = some (0, 1, 22) := by kernel_rfl
@[simp] theorem tfld_42_1 : tfld Tryd.prog 42 1 = some (1, 1, 3) := by kernel_rfl
@[simp] theorem tfld_42_2 : tfld Tryd.prog 42 2 = some (2, 1, 3) := by kernel_rfl
@[simp] theorem tfld_42_3 : tfld Tryd.prog 42 3 = some (3, 1, 40) := by kernel_rfl
@[simp] theorem tbuild_42 : tbuild Tryd.prog 42 = some ([.nilsl, .int .i64 0, .int .i64 0, .nilsl], [(0, 1), (1, 1), (2, 1), (3, 1)]) := by kernel_rfl
@[simp] theorem tk_53 : tk Tryd.prog 53 = some (3, true) := by kernel_rfl
@[simp] theorem tsz_53 : tsz Tryd.prog 53 = some 3 := by kernel_rfl
@[simp] theorem tzero_53 : tzero Tryd.prog 53 = some [.int .i64 0, .int .i64 0, .nilsl] := by kernel_rfl
@[simp] theorem tby_53 : tby Tryd.prog 53 = some 40 := by kernel_rfl
@[simp] theorem tfld_53_0 : tfld Tryd.prog 53 0 = some (0, 1, 3) := by kernel_rfl
@[simp] theorem tfld_53_1 : tfld Tryd.prog 53 1 = some (1, 1, 3) := by kernel_rfl
@[simp] theorem tfld_53_2 : tfld Tryd.prog 53 2 = some (2, 1, 22) := by kernel_rfl
@[simp] theorem tbuild_53 : tbuild Tryd.prog 53 = some ([.int .i64 0, .int .i64 0, .nilsl], [(0, 1), (1, 1), (2, 1)]) := by kernel_rfl
@[simp] theorem tk_54 : tk Tryd.prog 54 = some (3, true) := by kernel_rfl
@[simp] theorem tsz_54 : tsz Tryd.prog 54 = some 3 := by kernel_rfl
@[simp] theorem tzero_54 : tzero Tryd.prog 54 = some [.int .i64 0, .int .i64 0, .nilsl] := by kernel_rfl
@[simp] theorem tby_54 : tby Tryd.prog 54 = some 40 := by kernel_rfl
@[simp] theorem tfld_54_0 : tfld Tryd.prog 54 0 = some (0, 1, 3) := by kernel_rfl
@[simp] theorem tfld_54_1 : tfld Tryd.prog 54 1 = some (1, 1, 3) := by kernel_rfl
@[simp] theorem tfld_54_2 : tfld Tryd.prog 54 2 = some (2, 1, 22) := by kernel_rfl
@[simp] theorem tbuild_54 : tbuild Tryd.prog 54 = some ([.int .i64 0, .int .i64 0, .nilsl], [(0, 1), (1, 1), (2, 1)]) := by kernel_rfl
@[simp] theorem tk_58 : tk Tryd.prog 58 = some (1, false) := by kernel_rfl
@[simp] theorem tsz_58 : tsz Tryd.prog 58 = some 1 := by kernel_rfl
@[simp] theorem tzero_58 : tzero Tryd.prog 58 = some [.nilsl] := by kernel_rfl
@[simp] theorem tby_58 : tby Tryd.prog 58 = some 24 := by kernel_rfl
@[simp] theorem telem_58 : telem Tryd.prog 58 = some 9 := by kernel_rfl
@[simp] theorem und_58 : Tryd.prog.underlying 58 = some (.slice 9) := by kernel_rfl
@[simp] theorem tk_65 : tk Tryd.prog 65 = some (1, false) := by kernel_rfl
@[simp] theorem tsz_65 : tsz Tryd.prog 65 = some 1 := by kernel_rfl
@[simp] theorem tzero_65 : tzero Tryd.prog 65 = some [.nilif] := by kernel_rfl
@[simp] theorem tby_65 : tby Tryd.prog 65 = some 16 := by kernel_rfl
@[simp] theorem tk_66 : tk Tryd.prog 66 = some (1, false) := by kernel_rfl
@[simp] theorem tsz_66 : tsz Tryd.prog 66 = some 1 := by kernel_rfl
@[simp] theorem tzero_66 : tzero Tryd.prog 66 = some [.nilif] := by kernel_rfl
@[simp] theorem tby_66 : tby Tryd.prog 66 = some 16 := by kernel_rfl
@[simp] theorem tk_73 : tk Tryd.prog 73 = some (5, true) := by kernel_rfl
@[simp] theorem tsz_73 : tsz Tryd.prog 73 = some 5 := by kernel_rfl
@[simp] theorem tzero_73 : tzero Tryd.prog 73 = some [.int .i64 0, .int .i64 0, .int .i64 0, .int .i64 0, .int .i64 0] := by kernel_rfl
@[simp] theorem tby_73 : tby Tryd.prog 73 = some 40 := by kernel_rfl
@[simp] theorem tfld_73_0 : tfld Tryd.prog 73 0 = some (0, 1, 3) := by kernel_rfl
@[simp] theorem tfld_73_1 : tfld Tryd.prog 73 1 = some (1, 1, 3) := by kernel_rfl
@[simp] theorem tfld_73_2 : tfld Tryd.prog 73 2 = some (2, 1, 3) := by kernel_rfl
@[simp] theorem tfld_73_3 : tfld Tryd.prog 73 3 = some (3, 1, 3) := by kernel_rfl
@[simp] theorem tfld_73_4 : tfld Tryd.prog 73 4 = some (4, 1, 3) := by kernel_rfl
@[simp] theorem tbuild_73 : tbuild Tryd.prog 73 = some ([.int .i64 0, .int .i64 0, .int .i64 0, .int .i64 0, .int .i64 0], [(0, 1), (1, 1), (2, 1), (3, 1), (4, 1)]) := by kernel_rfl
@[simp] theorem tkinds_73 : tkinds Tryd.prog 73 = some [.i, .i, .i, .i, .i] := by kernel_rfl
@[simp] theorem tk_74 : tk Tryd.prog 74 = some (5, true) := by kernel_rfl
@[simp] theorem tsz_74 : tsz Tryd.prog 74 = some 5 := by kernel_rfl
@[simp] theorem tzero_74 : tzero Tryd.prog 74 = some [.int .i64 0, .int .i64 0, .int .i64 0, .int .i64 0, .int .i64 0] := by kernel_rfl
@[simp] theorem tby_74 : tby Tryd.prog 74 = some 40 := by kernel_rfl
@[simp] theorem tfld_74_0 : tfld Tryd.prog 74 0 = some (0, 1, 3) := by kernel_rfl
@[simp] theorem tfld_74_1 : tfld Tryd.prog 74 1 = some (1, 1, 3) := by kernel_rfl
@[simp] theorem tfld_74_2 : tfld Tryd.prog 74 2 = some (2, 1, 3) := by kernel_rfl
@[simp] theorem tfld_74_3 : tfld Tryd.prog 74 3 = some (3, 1, 3) := by kernel_rfl
@[simp] theorem tfld_74_4 : tfld Tryd.prog 74 4 = some (4, 1, 3) := by kernel_rfl
@[simp] theorem tbuild_74 : tbuild Tryd.prog 74 = some ([.int .i64 0, .int .i64 0, .int .i64 0, .int .i64 0, .int .i64 0], [(0, 1), (1, 1), (2, 1), (3, 1), (4, 1)]) := by kernel_rfl
@[simp] theorem tkinds_74 : tkinds Tryd.prog 74 = some [.i, .i, .i, .i, .i] := by kernel_rfl
@[simp] theorem tk_79 : tk Tryd.prog 79 = some (1, false) := by kernel_rfl
@[simp] theorem tsz_79 : tsz Tryd.prog 79 = some 1 := by kernel_rfl
@[simp] theorem tzero_79 : tzero Tryd.prog 79 = some [.nilp] := by kernel_rfl
@[simp] theorem tby_79 : tby Tryd.prog 79 = some 8 := by kernel_rfl
@[simp] theorem tk_81 : tk Tryd.prog 81 = some (1, false) := by kernel_rfl
@[simp] theorem tsz_81 : tsz Tryd.prog 81 = some 1 := by kernel_rfl
@[simp] theorem tzero_81 : tzero Tryd.prog 81 = some [.nilp] := by kernel_rfl
@[simp] theorem tby_81 : tby Tryd.prog 81 = some 8 := by kernel_rfl
@[simp] theorem tk_82 : tk Tryd.prog 82 = some (1, false) := by kernel_rfl
@[simp] theorem tsz_82 : tsz Tryd.prog 82 = some 1 := by kernel_rfl
@[simp] theorem tzero_82 : tzero Tryd.prog 82 = some [.nilsl] := by kernel_rfl
@[simp] theorem tby_82 : tby Tryd.prog 82 = some 24 := by kernel_rfl
@[simp] theorem telem_82 : telem Tryd.prog 82 = some 5 := by kernel_rfl
@[simp] theorem und_82 : Tryd.prog.underlying 82 = some (.slice 5) := by kernel_rfl
@[simp] theorem tk_83 : tk Tryd.prog 83 = some (2, true) := by kernel_rfl
@[simp] theorem tsz_83 : tsz Tryd.prog 83 = some 2 := by kernel_rfl
@[simp] theorem tzero_83 : tzero Tryd.prog 83 = some [.nilp, .nilsl] := by kernel_rfl
@[simp] theorem tby_83 : tby Tryd.prog 83 = some 32 := by kernel_rfl
@[simp] theorem tfld_83_0 : tfld Tryd.prog 83 0 = some (0, 1, 81) := by kernel_rfl
@[simp] theorem tfld_83_1 : tfld Tryd.prog 83 1 = some (1, 1, 82) := by kernel_rfl
@[simp] theorem tbuild_83 : tbuild Tryd.prog 83 = some ([.nilp, .nilsl], [(0, 1), (1, 1)]) := by kernel_rfl
@[simp] theorem tk_84 : tk Tryd.prog 84 = some (2, true) := by kernel_rfl
@[simp] theorem tsz_84 : tsz Tryd.prog 84 = some 2 := by kernel_rfl
@[simp] theorem tzero_84 : tzero Tryd.prog 84 = some [.nilp, .nilsl] := by kernel_rfl
@[simp] theorem tby_84 : tby Tryd.prog 84 = some 32 := by kernel_rfl
@[simp] theorem tfld_84_0 : tfld Tryd.prog 84 0 = some (0, 1, 81) := by kernel_rfl
@[simp] theorem tfld_84_1 : tfld Tryd.prog 84 1 = some (1, 1, 82) := by kernel_rfl
@[simp] theorem tbuild_84 : tbuild Tryd.prog 84 = some ([.nilp, .nilsl], [(0, 1), (1, 1)]) := by kernel_rfl
@[simp] theorem tk_93 : tk Tryd.prog 93 = some (5, true) := by kernel_rfl
@[simp] theorem tsz_93 : tsz Tryd.prog 93 = some 5 := by kernel_rfl
@[simp] theorem tzero_93 : tzero Tryd.prog 93 = some [.int .i64 0, .int .i64 0, .int .i64 0, .int .i64 0, .int .i64 0] := by kernel_rfl
@[simp] theorem tby_93 : tby Tryd.prog 93 = some 40 := by kernel_rfl
@[simp] theorem tfld_93_0 : tfld Tryd.prog 93 0 = some (0, 1, 3) := by kernel_rfl
@[simp] theorem tfld_93_1 : tfld Tryd.prog 93 1 = some (1, 1, 3) := by kernel_rfl
@[simp] theorem tfld_93_2 : tfld Tryd.prog 93 2 = some (2, 1, 3) := by kernel_rfl
@[simp] theorem tfld_93_3 : tfld Tryd.prog 93 3 = some (3, 1, 3) := by kernel_rfl
@[simp] theorem tfld_93_4 : tfld Tryd.prog 93 4 = some (4, 1, 3) := by kernel_rfl
@[simp] theorem tbuild_93 : tbuild Tryd.prog 93 = some ([.int .i64 0, .int .i64 0, .int .i64 0, .int .i64 0, .int .i64 0], [(0, 1), (1, 1), (2, 1), (3, 1), (4, 1)]) := by kernel_rfl
@[simp] theorem tkinds_93 : tkinds Tryd.prog 93 = some [.i, .i, .i, .i, .i] := by kernel_rfl
@[simp] theorem tk_95 : tk Tryd.prog 95 = some (1, false) := by kernel_rfl
@[simp] theorem tsz_95 : tsz Tryd.prog 95 = some 1 := by kernel_rfl
@[simp] theorem tzero_95 : tzero Tryd.prog 95 = some [.nilsl] := by kernel_rfl
@[simp] theorem tby_95 : tby Tryd.prog 95 = some 24 := by kernel_rfl
@[simp] theorem telem_95 : telem Tryd.prog 95 = some 136 := by kernel_rfl
@[simp] theorem und_95 : Tryd.prog.underlying 95 = some (.slice 136) := by kernel_rfl
@[simp] theorem tk_96 : tk Tryd.prog 96 = some (4, true) := by kernel_rfl
@[simp] theorem tsz_96 : tsz Tryd.prog 96 = some 4 := by kernel_rfl
@[simp] theorem tzero_96 : tzero Tryd.prog 96 = some [.nilsl, .int .i64 0, .int .i64 0, .nilsl] := by kernel_rfl
@[simp] theorem tby_96 : tby Tryd.prog 96 = some 64 := by kernel_rfl
@[simp] theorem tfld_96_0 : tfld Tryd.prog 96 0 = some (0, 1, 22) := by kernel_rfl
@[simp] theorem tfld_96_1 : tfld Tryd.prog 96 1 = some (1, 1, 3) := by kernel_rfl
@[simp] theorem tfld_96_2 : tfld Tryd.prog 96 2 = some (2, 1, 3) := by kernel_rfl
@[simp] theorem tfld_96_3 : tfld Tryd.prog 96 3 = some (3, 1, 95) := by kernel_rfl
@[simp] theorem tbuild_96 : tbuild Tryd.prog 96 = some ([.nilsl, .int .i64 0, .int .i64 0, .nilsl], [(0, 1), (1, 1), (2, 1), (3, 1)]) := by kernel_rfl
@[simp] theorem tk_97 : tk Tryd.prog 97 = some (4, true) := by kernel_rfl
@[simp] theorem tsz_97 : tsz Tryd.prog 97 = some 4 := by kernel_rfl
@[simp] theorem tzero_97 : tzero Tryd.prog 97 = some [.nilsl, .int .i64 0, .int .i64 0, .nilsl] := by kernel_rfl
@[simp] theorem tby_97 : tby Tryd.prog 97 = some 64 := by kernel_rfl
@[simp] theorem tfld_97_0 : tfld Tryd.prog 97 0 = some (0, 1, 22) := by kernel_rfl
@[simp] theorem tfld_97_1 : tfld Tryd.prog 97 1 = some (1, 1, 3) := by kernel_rfl
@[simp] theorem tfld_97_2 : tfld Tryd.prog 97 2 = some (2, 1, 3) := by kernel_rfl
@[simp] theorem tfld_97_3 : tfld Tryd.prog 97 3 = some (3, 1, 95) := by kernel_rfl
@[simp] theorem tbuild_97 : tbuild Tryd.prog 97 = some ([.nilsl, .int .i64 0, .int .i64 0, .nilsl], [(0, 1), (1, 1), (2, 1), (3, 1)]) := by kernel_rfl
@[simp] theorem tk_104 : tk Tryd.prog 104 = some (1, false) := by kernel_rfl
@[simp] theorem tsz_104 : tsz Tryd.prog 104 = some 1 := by kernel_rfl
@[simp] theorem tzero_104 : tzero Tryd.prog 104 = some [.nilp] := by kernel_rfl
@[simp] theorem tby_104 : tby Tryd.prog 104 = some 8 := by kernel_rfl
@[simp] theorem tk_105 : tk Tryd.prog 105 = some (1, false) := by kernel_rfl
@[simp] theorem tsz_105 : tsz Tryd.prog 105 = some 1 := by kernel_rfl
@[simp] theorem tzero_105 : tzero Tryd.prog 105 = some [.int .i64 0] := by kernel_rfl
@[simp] theorem tby_105 : tby Tryd.prog 105 = some 8 := by kernel_rfl
@[simp] theorem und_105 : Tryd.prog.underlying 105 = some (.int .i64) := by kernel_rfl
@[simp] theorem tk_108 : tk Tryd.prog 108 = some (1, false) := by kernel_rfl
@[simp] theorem tsz_108 : tsz Tryd.prog 108 = some 1 := by kernel_rfl
@[simp] theorem tzero_108 : tzero Tryd.prog 108 = some [.nilp] := by kernel_rfl
@[simp] theorem tby_108 : tby Tryd.prog 108 = some 8 := by kernel_rfl
@[simp] theorem tk_117 : tk Tryd.prog 117 = some (24, true) := by kernel_rfl
@[simp] theorem tsz_117 : tsz Tryd.prog 117 = some 24 := by kernel_rfl
@[simp] theorem tzero_117 : tzero Tryd.prog 117 = some [.int .u8 0, .int .u8 0, .int .u8 0, .int .u8 0, .int .u8 0, .int .u8 0, .int .u8 0, .int .u8 0, .int .u8 0, .int .u8 0, .int .u8 0, .int .u8 0, .int .u8 0, .int .u8 0, .int .u8 0, .int .u8 0, .int .u8 0, .int .u8 0, .int .u8 0, .int .u8 0, .int .u8 0, .int .u8 0, .int .u8 0, .int .u8 0] := by kernel_rfl
@[simp] theorem tby_117 : tby Tryd.prog 117 = some 24 := by kernel_rfl
@[simp] theorem tk_118 : tk Tryd.prog 118 = some (1, false) := by kernel_rfl
@[simp] theorem tsz_118 : tsz Tryd.prog 118 = some 1 := by kernel_rfl
@[simp] theorem tzero_118 : tzero Tryd.prog 118 = some [.int .u64 0] := by kernel_rfl
@[simp] theorem tby_118 : tby Tryd.prog 118 = some 8 := by kernel_rfl
@[simp] theorem und_118 : Tryd.prog.underlying 118 = some (.int .u64) := by kernel_rfl
@[simp] theorem tk_123 : tk Tryd.prog 123 = some (1, false) := by kernel_rfl
@[simp] theorem tsz_123 : tsz Tryd.prog 123 = some 1 := by kernel_rfl
@[simp] theorem tzero_123 : tzero Tryd.prog 123 = some [.nilp] := by kernel_rfl
@[simp] theorem tby_123 : tby Tryd.prog 123 = some 8 := by kernel_rfl
@[simp] theorem tk_128 : tk Tryd.prog 128 = some (1, false) := by kernel_rfl
@[simp] theorem tsz_128 : tsz Tryd.prog 128 = some 1 := by kernel_rfl
@[simp] theorem tzero_128 : tzero Tryd.prog 128 = some [.int .u64 0] := by kernel_rfl
@[simp] theorem tby_128 : tby Tryd.prog 128 = some 8 := by kernel_rfl
@[simp] theorem und_128 : Tryd.prog.underlying 128 = some (.int .u64) := by kernel_rfl
@[simp] theorem tk_130 : tk Tryd.prog 130 = some (3, true) := by kernel_rfl
@[simp] theorem tsz_130 : tsz Tryd.prog 130 = some 3 := by kernel_rfl
@[simp] theorem tzero_130 : tzero Tryd.prog 130 = some [.str ByteArray.empty, .str ByteArray.empty, .nilif] := by kernel_rfl
@[simp] theorem tby_130 : tby Tryd.prog 130 = some 48 := by kernel_rfl
@[simp] theorem tfld_130_0 : tfld Tryd.prog 130 0 = some (0, 1, 9) := by kernel_rfl
@[simp] theorem tfld_130_1 : tfld Tryd.prog 130 1 = some (1, 1, 9) := by kernel_rfl
@[simp] theorem tfld_130_2 : tfld Tryd.prog 130 2 = some (2, 1, 66) := by kernel_rfl
@[simp] theorem tbuild_130 : tbuild Tryd.prog 130 = some ([.str ByteArray.empty, .str ByteArray.empty, .nilif], [(0, 1), (1, 1), (2, 1)]) := by kernel_rfl
@[simp] theorem tk_131 : tk Tryd.prog 131 = some (3, true) := by kernel_rfl
@[simp] theorem tsz_131 : tsz Tryd.prog 131 = some 3 := by kernel_rfl
@[simp] theorem tzero_131 : tzero Tryd.prog 131 = some [.str ByteArray.empty, .str ByteArray.empty, .nilif] := by kernel_rfl
@[simp] theorem tby_131 : tby Tryd.prog 131 = some 48 := by kernel_rfl
@[simp] theorem tfld_131_0 : tfld Tryd.prog 131 0 = some (0, 1, 9) := by kernel_rfl
@[simp] theorem tfld_131_1 : tfld Tryd.prog 131 1 = some (1, 1, 9) := by kernel_rfl
@[simp] theorem tfld_131_2 : tfld Tryd.prog 131 2 = some (2, 1, 66) := by kernel_rfl
@[simp] theorem tbuild_131 : tbuild Tryd.prog 131 = some ([.str ByteArray.empty, .str ByteArray.empty, .nilif], [(0, 1), (1, 1), (2, 1)]) := by kernel_rfl
@[simp] theorem tk_134 : tk Tryd.prog 134 = some (1, false) := by kernel_rfl
@[simp] theorem tsz_134 : tsz Tryd.prog 134 = some 1 := by kernel_rfl
@[simp] theorem tzero_134 : tzero Tryd.prog 134 = some [.nilsl] := by kernel_rfl
@[simp] theorem tby_134 : tby Tryd.prog 134 = some 24 := by kernel_rfl
@[simp] theorem telem_134 : telem Tryd.prog 134 = some 140 := by kernel_rfl
@[simp] theorem und_134 : Tryd.prog.underlying 134 = some (.slice 140) := by kernel_rfl
@[simp] theorem tk_135 : tk Tryd.prog 135 = some (6, true) := by kernel_rfl
@[simp] theorem tsz_135 : tsz Tryd.prog 135 = some 6 := by kernel_rfl
@[simp] theorem tzero_135 : tzero Tryd.prog 135 = some [.int .i64 0, .int .i64 0, .int .i64 0, .nilsl, .nilsl, .nilsl] := by kernel_rfl
@[simp] theorem tby_135 : tby Tryd.prog 135 = some 96 := by kernel_rfl
@[simp] theorem tfld_135_0 : tfld Tryd.prog 135 0 = some (0, 1, 3) := by kernel_rfl
@[simp] theorem tfld_135_1 : tfld Tryd.prog 135 1 = some (1, 1, 3) := by kernel_rfl
@[simp] theorem tfld_135_2 : tfld Tryd.prog 135 2 = some (2, 1, 3) := by kernel_rfl
@[simp] theorem tfld_135_3 : tfld Tryd.prog 135 3 = some (3, 1, 134) := by kernel_rfl
@[simp] theorem tfld_135_4 : tfld Tryd.prog 135 4 = some (4, 1, 95) := by kernel_rfl
@[simp] theorem tfld_135_5 : tfld Tryd.prog 135 5 = some (5, 1, 95) := by kernel_rfl
@[simp] theorem tbuild_135 : tbuild Tryd.prog 135 = some ([.int .i64 0, .int .i64 0, .int .i64 0, .nilsl, .nilsl, .nilsl], [(0, 1), (1, 1), (2, 1), (3, 1), (4, 1), (5, 1)]) := by kernel_rfl
@[simp] theorem tk_136 : tk Tryd.prog 136 = some (6, true) := by kernel_rfl
@[simp] theorem tsz_136 : tsz Tryd.prog 136 = some 6 := by kernel_rfl
@[simp] theorem tzero_136 : tzero Tryd.prog 136 = some [.int .i64 0, .int .i64 0, .int .i64 0, .nilsl, .nilsl, .nilsl] := by kernel_rfl
@[simp] theorem tby_136 : tby Tryd.prog 136 = some 96 := by kernel_rfl
@[simp] theorem tfld_136_0 : tfld Tryd.prog 136 0 = some (0, 1, 3) := by kernel_rfl
@[simp] theorem tfld_136_1 : tfld Tryd.prog 136 1 = some (1, 1, 3) := by kernel_rfl
@[simp] theorem tfld_136_2 : tfld Tryd.prog 136 2 = some (2, 1, 3) := by kernel_rfl
@[simp] theorem tfld_136_3 : tfld Tryd.prog 136 3 = some (3, 1, 134) := by kernel_rfl
@[simp] theorem tfld_136_4 : tfld Tryd.prog 136 4 = some (4, 1, 95) := by kernel_rfl
@[simp] theorem tfld_136_5 : tfld Tryd.prog 136 5 = some (5, 1, 95) := by kernel_rfl
@[simp] theorem tbuild_136 : tbuild Tryd.prog 136 = some ([.int .i64 0, .int .i64 0, .int .i64 0, .nilsl, .nilsl, .nilsl], [(0, 1), (1, 1), (2, 1), (3, 1), (4, 1), (5, 1)]) := by kernel_rfl
@[simp] theorem tk_139 : tk Tryd.prog 139 = some (5, true) := by kernel_rfl
@[simp] theorem tsz_139 : tsz Tryd.prog 139 = some 5 := by kernel_rfl
@[simp] theorem tzero_139 : tzero Tryd.prog 139 = some [.int .i64 0, .int .i64 0, .int .i64 0, .str ByteArray.empty, .nilsl] := by kernel_rfl
@[simp] theorem tby_139 : tby Tryd.prog 139 = some 64 := by kernel_rfl
@[simp] theorem tfld_139_0 : tfld Tryd.prog 139 0 = some (0, 1, 3) := by kernel_rfl
@[simp] theorem tfld_139_1 : tfld Tryd.prog 139 1 = some (1, 1, 3) := by kernel_rfl
@[simp] theorem tfld_139_2 : tfld Tryd.prog 139 2 = some (2, 1, 3) := by kernel_rfl
@[simp] theorem tfld_139_3 : tfld Tryd.prog 139 3 = some (3, 1, 9) := by kernel_rfl
@[simp] theorem tfld_139_4 : tfld Tryd.prog 139 4 = some (4, 1, 134) := by kernel_rfl
@[simp] theorem tbuild_139 : tbuild Tryd.prog 139 = some ([.int .i64 0, .int .i64 0, .int .i64 0, .str ByteArray.empty, .nilsl], [(0, 1), (1, 1), (2, 1), (3, 1), (4, 1)]) := by kernel_rfl
@[simp] theorem tk_140 : tk Tryd.prog 140 = some (5, true) := by kernel_rfl
@[simp] theorem tsz_140 : tsz Tryd.prog 140 = some 5 := by kernel_rfl
@[simp] theorem tzero_140 : tzero Tryd.prog 140 = some [.int .i64 0, .int .i64 0, .int .i64 0, .str ByteArray.empty, .nilsl] := by kernel_rfl
@[simp] theorem tby_140 : tby Tryd.prog 140 = some 64 := by kernel_rfl
@[simp] theorem tfld_140_0 : tfld Tryd.prog 140 0 = some (0, 1, 3) := by kernel_rfl
@[simp] theorem tfld_140_1 : tfld Tryd.prog 140 1 = some (1, 1, 3) := by kernel_rfl
@[simp] theorem tfld_140_2 : tfld Tryd.prog 140 2 = some (2, 1, 3) := by kernel_rfl
@[simp] theorem tfld_140_3 : tfld Tryd.prog 140 3 = some (3, 1, 9) := by kernel_rfl
@[simp] theorem tfld_140_4 : tfld Tryd.prog 140 4 = some (4, 1, 134) := by kernel_rfl
@[simp] theorem tbuild_140 : tbuild Tryd.prog 140 = some ([.int .i64 0, .int .i64 0, .int .i64 0, .str ByteArray.empty, .nilsl], [(0, 1), (1, 1), (2, 1), (3, 1), (4, 1)]) := by kernel_rfl
@[simp] theorem tk_147 : tk Tryd.prog 147 = some (20, true) := by kernel_rfl
@[simp] theorem tsz_147 : tsz Tryd.prog 147 = some 20 := by kernel_rfl
@[simp] theorem tzero_147 : tzero Tryd.prog 147 = some [.int .u64 0, .int .u64 0, .int .u64 0, .int .u64 0, .int .u64 0, .int .u64 0, .int .u64 0, .int .u64 0, .int .u64 0, .int .u64 0, .int .u64 0, .int .u64 0, .int .u64 0, .int .u64 0, .int .u64 0, .int .u64 0, .int .u64 0, .int .u64 0, .int .u64 0, .int .u64 0] := by kernel_rfl
@[simp] theorem tby_147 : tby Tryd.prog 147 = some 160 := by kernel_rfl
@[simp] theorem tk_148 : tk Tryd.prog 148 = some (1, false) := by kernel_rfl
@[simp] theorem tsz_148 : tsz Tryd.prog 148 = some 1 := by kernel_rfl
@[simp] theorem tzero_148 : tzero Tryd.prog 148 = some [.int .u32 0] := by kernel_rfl
@[simp] theorem tby_148 : tby Tryd.prog 148 = some 4 := by kernel_rfl
@[simp] theorem und_148 : Tryd.prog.underlying 148 = some (.int .u32) := by kernel_rfl
@[simp] theorem tk_149 : tk Tryd.prog 149 = some (65, true) := by kernel_rfl
@[simp] theorem tsz_149 : tsz Tryd.prog 149 = some 65 := by kernel_rfl
@[simp] theorem tzero_149 : tzero Tryd.prog 149 = some [.int .u8 0, .int .u8 0, .int .u8 0, .int .u8 0, .int .u8 0, .int .u8 0, .int .u8 0, .int .u8 0, .int .u8 0, .int .u8 0, .int .u8 0, .int .u8 0, .int .u8 0, .int .u8 0, .int .u8 0, .int .u8 0, .int .u8 0, .int .u8 0, .int .u8 0, .int .u8 0, .int .u8 0, .int .u8 0, .int .u8 0, .int .u8 0, .int .u8 0, .int .u8 0, .int .u8 0, .int .u8 0, .int .u8 0, .int .u8 0, .int .u8 0, .int .u8 0, .int .u8 0, .int .u8 0, .int .u8 0, .int .u8 0, .int .u8 0, .int .u8 0, .int .u8 0, .int .u8 0, .int .u8 0, .int .u8 0, .int .u8 0, .int .u8 0, .int .u8 0, .int .u8 0, .int .u8 0, .int .u8 0, .int .u8 0, .int .u8 0, .int .u8 0, .int .u8 0, .int .u8 0, .int .u8 0, .int .u8 0, .int .u8 0, .int .u8 0, .int .u8 0, .int .u8 0, .int .u8 0, .int .u8 0, .int .u8 0, .int .u8 0, .int .u8 0, .int .u8 0] := by kernel_rfl
@[simp] theorem tby_149 : tby Tryd.prog 149 = some 65 := by kernel_rfl
@[simp] theorem tk_152 : tk Tryd.prog 152 = some (1, false) := by kernel_rfl
@[simp] theorem tsz_152 : tsz Tryd.prog 152 = some 1 := by kernel_rfl
@[simp] theorem tzero_152 : tzero Tryd.prog 152 = some [.nilp] := by kernel_rfl
@[simp] theorem tby_152 : tby Tryd.prog 152 = some 8 := by kernel_rfl
@[simp] theorem tk_153 : tk Tryd.prog 153 = some (1, true) := by kernel_rfl
@[simp] theorem tsz_153 : tsz Tryd.prog 153 = some 1 := by kernel_rfl
@[simp] theorem tzero_153 : tzero Tryd.prog 153 = some [.str ByteArray.empty] := by kernel_rfl
@[simp] theorem tby_153 : tby Tryd.prog 153 = some 16 := by kernel_rfl
@[simp] theorem tfld_153_0 : tfld Tryd.prog 153 0 = some (0, 1, 9) := by kernel_rfl
@[simp] theorem tbuild_153 : tbuild Tryd.prog 153 = some ([.str ByteArray.empty], [(0, 1)]) := by kernel_rfl
@[simp] theorem tkinds_153 : tkinds Tryd.prog 153 = some [.s] := by kernel_rfl
@[simp] theorem tk_154 : tk Tryd.prog 154 = some (1, true) := by kernel_rfl
@[simp] theorem tsz_154 : tsz Tryd.prog 154 = some 1 := by kernel_rfl
@[simp] theorem tzero_154 : tzero Tryd.prog 154 = some [.str ByteArray.empty] := by kernel_rfl
@[simp] theorem tby_154 : tby Tryd.prog 154 = some 16 := by kernel_rfl
@[simp] theorem tfld_154_0 : tfld Tryd.prog 154 0 = some (0, 1, 9) := by kernel_rfl
@[simp] theorem tbuild_154 : tbuild Tryd.prog 154 = some ([.str ByteArray.empty], [(0, 1)]) := by kernel_rfl
@[simp] theorem tkinds_154 : tkinds Tryd.prog 154 = some [.s] := by kernel_rfl
@[simp] theorem tk_162 : tk Tryd.prog 162 = some (32, true) := by kernel_rfl
@[simp] theorem tsz_162 : tsz Tryd.prog 162 = some 32 := by kernel_rfl
@[simp] theorem tzero_162 : tzero Tryd.prog 162 = some [.int .u8 0, .int .u8 0, .int .u8 0, .int .u8 0, .int .u8 0, .int .u8 0, .int .u8 0, .int .u8 0, .int .u8 0, .int .u8 0, .int .u8 0, .int .u8 0, .int .u8 0, .int .u8 0, .int .u8 0, .int .u8 0, .int .u8 0, .int .u8 0, .int .u8 0, .int .u8 0, .int .u8 0, .int .u8 0, .int .u8 0, .int .u8 0, .int .u8 0, .int .u8 0, .int .u8 0, .int .u8 0, .int .u8 0, .int .u8 0, .int .u8 0, .int .u8 0] := by kernel_rfl
@[simp] theorem tby_162 : tby Tryd.prog 162 = some 32 := by kernel_rfl
@[simp] theorem tk_163 : tk Tryd.prog 163 = some (64, true) := by kernel_rfl
@[simp] theorem tsz_163 : tsz Tryd.prog 163 = some 64 := by kernel_rfl
@[simp] theorem tzero_163 : tzero Tryd.prog 163 = some [.int .u8 0, .int .u8 0, .int .u8 0, .int .u8 0, .int .u8 0, .int .u8 0, .int .u8 0, .int .u8 0, .int .u8 0, .int .u8 0, .int .u8 0, .int .u8 0, .int .u8 0, .int .u8 0, .int .u8 0, .int .u8 0, .int .u8 0, .int .u8 0, .int .u8 0, .int .u8 0, .int .u8 0, .int .u8 0, .int .u8 0, .int .u8 0, .int .u8 0, .int .u8 0, .int .u8 0, .int .u8 0, .int .u8 0, .int .u8 0, .int .u8 0, .int .u8 0, .int .u8 0, .int .u8 0, .int .u8 0, .int .u8 0, .int .u8 0, .int .u8 0, .int .u8 0, .int .u8 0, .int .u8 0, .int .u8 0, .int .u8 0, .int .u8 0, .int .u8 0, .int .u8 0, .int .u8 0, .int .u8 0, .int .u8 0, .int .u8 0, .int .u8 0, .int .u8 0, .int .u8 0, .int .u8 0, .int .u8 0, .int .u8 0, .int .u8 0, .int .u8 0, .int .u8 0, .int .u8 0, .int .u8 0, .int .u8 0, .int .u8 0, .int .u8 0] := by kernel_rfl
@[simp] theorem tby_163 : tby Tryd.prog 163 = some 64 := by kernel_rfl
@[simp] theorem tk_165 : tk Tryd.prog 165 = some (256, true) := by kernel_rfl
@[simp] theorem tsz_165 : tsz Tryd.prog 165 = some 256 := by kernel_rfl
@[simp] theorem tzero_165 : tzero Tryd.prog 165 = some [.int .u8 0, .int .u8 0, .int .u8 0, .int .u8 0, .int .u8 0, .int .u8 0, .int .u8 0, .int .u8 0, .int .u8 0, .int .u8 0, .int .u8 0, .int .u8 0, .int .u8 0, .int .u8 0, .int .u8 0, .int .u8 0, .int .u8 0, .int .u8 0, .int .u8 0, .int .u8 0, .int .u8 0, .int .u8 0, .int .u8 0, .int .u8 0, .int .u8 0, .int .u8 0, .int .u8 0, .int .u8 0, .int .u8 0, .int .u8 0, .int .u8 0, .int .u8 0, .int .u8 0, .int .u8 0, .int .u8 0, .int .u8 0, .int .u8 0, .int .u8 0, .int .u8 0, .int .u8 0, .int .u8 0, .int .u8 0, .int .u8 0, .int .u8 0, .int .u8 0, .int .u8 0, .int .u8 0, .int .u8 0, .int .u8 0, .int .u8 0, .int .u8 0, .int .u8 0, .int .u8 0, .int .u8 0, .int .u8 0, .int .u8 0, .int .u8 0, .int .u8 0, .int .u8 0, .int .u8 0, .int .u8 0, .int .u8 0, .int .u8 0, .int .u8 0, .int .u8 0, .int .u8 0, .int .u8 0, .int .u8 0, .int .u8 0, .int .u8 0, .int .u8 0, .int .u8 0, .int .u8 0, .int .u8 0, .int .u8 0, .int .u8 0, .int .u8 0, .int .u8 0, .int .u8 0, .int .u8 0, .int .u8 0, .int .u8 0, .int .u8 0, .int .u8 0, .int .u8 0, .int .u8 0, .int .u8 0, .int .u8 0, .int .u8 0, .int .u8 0, .int .u8 0, .int .u8 0, .int .u8 0, .int .u8 0, .int .u8 0, .int .u8 0, .int .u8 0, .int .u8 0, .int .u8 0, .int .u8 0, .int .u8 0, .int .u8 0, .int .u8 0, .int .u8 0, .int .u8 0, .int .u8 0, .int .u8 0, .int .u8 0, .int .u8 0, .int .u8 0, .int .u8 0, .int .u8 0, .int .u8 0, .int .u8 0, .int .u8 0, .int .u8 0, .int .u8 0, .int .u8 0, .int .u8 0, .int .u8 0, .int .u8 0, .int .u8 0, .int .u8 0, .int .u8 0, .int .u8 0, .int .u8 0, .int .u8 0, .int .u8 0, .int .u8 0, .int .u8 0, .int .u8 0, .int .u8 0, .int .u8 0, .int .u8 0, .int .u8 0, .int .u8 0, .int .u8 0, .int .u8 0, .int .u8 0, .int .u8 0, .int .u8 0, .int .u8 0, .int .u8 0, .int .u8 0, .int .u8 0, .int .u8 0, .int .u8 0, .int .u8 0, .int .u8 0, .int .u8 0, .int .u8 0, .int .u8 0, .int .u8 0, .int .u8 0, .int .u8 0, .int .u8 0, .int .u8 0, .int .u8 0, .int .u8 0, .int .u8 0, .int .u8 0, .int .u8 0, .int .u8 0, .int .u8 0, .int .u8 0, .int .u8 0, .int .u8 0, .int .u8 0, .int .u8 0, .int .u8 0, .int .u8 0, .int .u8 0, .int .u8 0, .int .u8 0, .int .u8 0, .int .u8 0, .int .u8 0, .int .u8 0, .int .u8 0, .int .u8 0, .int .u8 0, .int .u8 0, .int .u8 0, .int .u8 0, .int .u8 0, .int .u8 0, .int .u8 0, .int .u8 0, .int .u8 0, .int .u8 0, .int .u8 0, .int .u8 0, .int .u8 0, .int .u8 0, .int .u8 0, .int .u8 0, .int .u8 0, .int .u8 0, .int .u8 0, .int .u8 0, .int .u8 0, .int .u8 0, .int .u8 0, .int .u8 0, .int .u8 0, .int .u8 0, .int .u8 0, .int .u8 0, .int .u8 0, .int .u8 0, .int .u8 0, .int .u8 0, .int .u8 0, .int .u8 0, .int .u8 0, .int .u8 0, .int .u8 0, .int .u8 0, .int .u8 0, .int .u8 0, .int .u8 0, .int .u8 0, .int .u8 0, .int .u8 0, .int .u8 0, .int .u8 0, .int .u8 0, .int .u8 0, .int .u8 0, .int .u8 0, .int .u8 0, .int .u8 0, .int .u8 0, .int .u8 0, .int .u8 0, .int .u8 0, .int .u8 0, .int .u8 0, .int .u8 0, .int .u8 0, .int .u8 0, .int .u8 0, .int .u8 0, .int .u8 0, .int .u8 0, .int .u8 0, .int .u8 0, .int .u8 0, .int .u8 0, .int .u8 0, .int .u8 0, .int .u8 0, .int .u8 0, .int .u8 0, .int .u8 0, .int .u8 0] := by kernel_rfl
@[simp] theorem tby_165 : tby Tryd.prog 165 = some 256 := by kernel_rfl
@[simp] theorem tk_166 : tk Tryd.prog 166 = some (2, true) := by kernel_rfl
@[simp] theorem tsz_166 : tsz Tryd.prog 166 = some 2 := by kernel_rfl
@[simp] theorem tzero_166 : tzero Tryd.prog 166 = some [.int .u8 0, .int .u8 0] := by kernel_rfl
@[simp] theorem tby_166 : tby Tryd.prog 166 = some 2 := by kernel_rfl
@[simp] theorem tfld_166_0 : tfld Tryd.prog 166 0 = some (0, 1, 5) := by kernel_rfl
@[simp] theorem tfld_166_1 : tfld Tryd.prog 166 1 = some (1, 1, 5) := by kernel_rfl
@[simp] theorem tbuild_166 : tbuild Tryd.prog 166 = some ([.int .u8 0, .int .u8 0], [(0, 1), (1, 1)]) := by kernel_rfl
@[simp] theorem tkinds_166 : tkinds Tryd.prog 166 = some [.i, .i] := by kernel_rfl
@[simp] theorem tk_167 : tk Tryd.prog 167 = some (2, true) := by kernel_rfl
@[simp] theorem tsz_167 : tsz Tryd.prog 167 = some 2 := by kernel_rfl
@[simp] theorem tzero_167 : tzero Tryd.prog 167 = some [.int .u8 0, .int .u8 0] := by kernel_rfl
@[simp] theorem tby_167 : tby Tryd.prog 167 = some 2 := by kernel_rfl
@[simp] theorem tfld_167_0 : tfld Tryd.prog 167 0 = some (0, 1, 5) := by kernel_rfl
@[simp] theorem tfld_167_1 : tfld Tryd.prog 167 1 = some (1, 1, 5) := by kernel_rfl
@[simp] theorem tbuild_167 : tbuild Tryd.prog 167 = some ([.int .u8 0, .int .u8 0], [(0, 1), (1, 1)]) := by kernel_rfl
@[simp] theorem tkinds_167 : tkinds Tryd.prog 167 = some [.i, .i] := by kernel_rfl
@[simp] theorem tk_168 : tk Tryd.prog 168 = some (32, true) := by kernel_rfl
@[simp] theorem tsz_168 : tsz Tryd.prog 168 = some 32 := by kernel_rfl
@[simp] theorem tzero_168 : tzero Tryd.prog 168 = some [.int .u8 0, .int .u8 0, .int .u8 0, .int .u8 0, .int .u8 0, .int .u8 0, .int .u8 0, .int .u8 0, .int .u8 0, .int .u8 0, .int .u8 0, .int .u8 0, .int .u8 0, .int .u8 0, .int .u8 0, .int .u8 0, .int .u8 0, .int .u8 0, .int .u8 0, .int .u8 0, .int .u8 0, .int .u8 0, .int .u8 0, .int .u8 0, .int .u8 0, .int .u8 0, .int .u8 0, .int .u8 0, .int .u8 0, .int .u8 0, .int .u8 0, .int .u8 0] := by kernel_rfl
@[simp] theorem tby_168 : tby Tryd.prog 168 = some 32 := by kernel_rfl
@[simp] theorem tk_171 : tk Tryd.prog 171 = some (4, true) := by kernel_rfl
@[simp] theorem tsz_171 : tsz Tryd.prog 171 = some 4 := by kernel_rfl
@[simp] theorem tzero_171 : tzero Tryd.prog 171 = some [.nilp, .nilp, .nilp, .str ByteArray.empty] := by kernel_rfl
@[simp] theorem tby_171 : tby Tryd.prog 171 = some 40 := by kernel_rfl
@[simp] theorem tfld_171_0 : tfld Tryd.prog 171 0 = some (0, 1, 17) := by kernel_rfl
@[simp] theorem tfld_171_1 : tfld Tryd.prog 171 1 = some (1, 1, 17) := by kernel_rfl
@[simp] theorem tfld_171_2 : tfld Tryd.prog 171 2 = some (2, 1, 17) := by kernel_rfl
@[simp] theorem tfld_171_3 : tfld Tryd.prog 171 3 = some (3, 1, 9) := by kernel_rfl
@[simp] theorem tbuild_171 : tbuild Tryd.prog 171 = some ([.nilp, .nilp, .nilp, .str ByteArray.empty], [(0, 1), (1, 1), (2, 1), (3, 1)]) := by kernel_rfl
@[simp] theorem tk_172 : tk Tryd.prog 172 = some (4, true) := by kernel_rfl
@[simp] theorem tsz_172 : tsz Tryd.prog 172 = some 4 := by kernel_rfl
@[simp] theorem tzero_172 : tzero Tryd.prog 172 = some [.nilp, .nilp, .nilp, .str ByteArray.empty] := by kernel_rfl
@[simp] theorem tby_172 : tby Tryd.prog 172 = some 40 := by kernel_rfl
@[simp] theorem tfld_172_0 : tfld Tryd.prog 172 0 = some (0, 1, 17) := by kernel_rfl
@[simp] theorem tfld_172_1 : tfld Tryd.prog 172 1 = some (1, 1, 17) := by kernel_rfl
@[simp] theorem tfld_172_2 : tfld Tryd.prog 172 2 = some (2, 1, 17) := by kernel_rfl
@[simp] theorem tfld_172_3 : tfld Tryd.prog 172 3 = some (3, 1, 9) := by kernel_rfl
@[simp] theorem tbuild_172 : tbuild Tryd.prog 172 = some ([.nilp, .nilp, .nilp, .str ByteArray.empty], [(0, 1), (1, 1), (2, 1), (3, 1)]) := by kernel_rfl
@[simp] theorem tk_173 : tk Tryd.prog 173 = some (0, true) := by kernel_rfl
@[simp] theorem tsz_173 : tsz Tryd.prog 173 = some 0 := by kernel_rfl
@[simp] theorem tzero_173 : tzero Tryd.prog 173 = some [] := by kernel_rfl
@[simp] theorem tby_173 : tby Tryd.prog 173 = some 0 := by kernel_rfl
@[simp] theorem tk_174 : tk Tryd.prog 174 = some (0, true) := by kernel_rfl
@[simp] theorem tsz_174 : tsz Tryd.prog 174 = some 0 := by kernel_rfl
@[simp] theorem tzero_174 : tzero Tryd.prog 174 = some [] := by kernel_rfl
@[simp] theorem tby_174 : tby Tryd.prog 174 = some 0 := by kernel_rfl
@[simp] theorem tfld_174_0 : tfld Tryd.prog 174 0 = some (0, 0, 173) := by kernel_rfl
@[simp] theorem tbuild_174 : tbuild Tryd.prog 174 = some ([], [(0, 0)]) := by kernel_rfl
@[simp] theorem tk_175 : tk Tryd.prog 175 = some (0, true) := by kernel_rfl
@[simp] theorem tsz_175 : tsz Tryd.prog 175 = some 0 := by kernel_rfl
@[simp] theorem tzero_175 : tzero Tryd.prog 175 = some [] := by kernel_rfl
@[simp] theorem tby_175 : tby Tryd.prog 175 = some 0 := by kernel_rfl
@[simp] theorem tfld_175_0 : tfld Tryd.prog 175 0 = some (0, 0, 173) := by kernel_rfl
@[simp] theorem tbuild_175 : tbuild Tryd.prog 175 = some ([], [(0, 0)]) := by kernel_rfl
@[simp] theorem tk_177 : tk Tryd.prog 177 = some (1, false) := by kernel_rfl
@[simp] theorem tsz_177 : tsz Tryd.prog 177 = some 1 := by kernel_rfl
@[simp] theorem tzero_177 : tzero Tryd.prog 177 = some [.int .u8 0] := by kernel_rfl
@[simp] theorem tby_177 : tby Tryd.prog 177 = some 1 := by kernel_rfl
@[simp] theorem und_177 : Tryd.prog.underlying 177 = some (.int .u8) := by kernel_rfl
@[simp] theorem tk_178 : tk Tryd.prog 178 = some (1, false) := by kernel_rfl
@[simp] theorem tsz_178 : tsz Tryd.prog 178 = some 1 := by kernel_rfl
@[simp] theorem tzero_178 : tzero Tryd.prog 178 = some [.int .u8 0] := by kernel_rfl
@[simp] theorem tby_178 : tby Tryd.prog 178 = some 1 := by kernel_rfl
@[simp] theorem und_178 : Tryd.prog.underlying 178 = some (.int .u8) := by kernel_rfl
@[simp] theorem tk_180 : tk Tryd.prog 180 = some (1, false) := by kernel_rfl
@[simp] theorem tsz_180 : tsz Tryd.prog 180 = some 1 := by kernel_rfl
@[simp] theorem tzero_180 : tzero Tryd.prog 180 = some [.int .i32 0] := by kernel_rfl
@[simp] theorem tby_180 : tby Tryd.prog 180 = some 4 := by kernel_rfl
@[simp] theorem und_180 : Tryd.prog.underlying 180 = some (.int .i32) := by kernel_rfl
@[simp] theorem tk_181 : tk Tryd.prog 181 = some (1, false) := by kernel_rfl
@[simp] theorem tsz_181 : tsz Tryd.prog 181 = some 1 := by kernel_rfl
@[simp] theorem tzero_181 : tzero Tryd.prog 181 = some [.int .i32 0] := by kernel_rfl
@[simp] theorem tby_181 : tby Tryd.prog 181 = some 4 := by kernel_rfl
@[simp] theorem und_181 : Tryd.prog.underlying 181 = some (.int .i32) := by kernel_rfl
theorem mixed : Tryd.prog.follows .mixedOrders = true := by kernel_rfl
theorem laid : laidOutB Tryd.prog = true := by kernel_rfl
end Go.Proofs.YtmcmgeedhbgglaaDoor.AM

set_option linter.unusedVariables false
set_option linter.unusedSimpArgs false
set_option maxRecDepth 4000
namespace Go.Proofs.YtmcmgeedhbgglaaDoor.AM
open Go.RowKit Go.Shelf

/-- The kit's numbers, led to this program's. -/
def laysItoa_ren : Go.Shelf.Ren := ⟨fun | 171 => 29 | 243 => 50 | 246 => 69 | 283 => 84 | 284 => 85 | 285 => 86 | 286 => 87 | 129 => 102 | 317 => 101 | 318 => 103 | 319 => 104 | 320 => 105 | 337 => 115 | 338 => 116 | n => n, fun | 3 => 3 | 9 => 9 | 2 => 2 | 4 => 4 | 171 => 117 | 0 => 0 | 53 => 118 | 37 => 82 | 5 => 5 | 173 => 121 | 212 => 147 | 51 => 148 | 20 => 20 | 213 => 149 | 46 => 128 | 232 => 162 | 233 => 163 | n => n, fun | 17 => 2 | 18 => 4 | 19 => 5 | n => n⟩
theorem laysItoa : LaysM.n171 Tryd.prog laysItoa_ren where
  mixed := by kernel_rfl
  f129 := Tryd.func102.trans (congrArg some (by kernel_rfl))
  f171 := Tryd.func29.trans (congrArg some (by kernel_rfl))
  f243 := Tryd.func50.trans (congrArg some (by kernel_rfl))
  f246 := Tryd.func69.trans (congrArg some (by kernel_rfl))
  f283 := Tryd.func84.trans (congrArg some (by kernel_rfl))
  f284 := Tryd.func85.trans (congrArg some (by kernel_rfl))
  f285 := Tryd.func86.trans (congrArg some (by kernel_rfl))
  f286 := Tryd.func87.trans (congrArg some (by kernel_rfl))
  f317 := Tryd.func101.trans (congrArg some (by kernel_rfl))
  f318 := Tryd.func103.trans (congrArg some (by kernel_rfl))
  f319 := Tryd.func104.trans (congrArg some (by kernel_rfl))
  f320 := Tryd.func105.trans (congrArg some (by kernel_rfl))
  f337 := Tryd.func115.trans (congrArg some (by kernel_rfl))
  f338 := Tryd.func116.trans (congrArg some (by kernel_rfl))
  t0 := Tryd.underlying0
  a0 := Tryd.isAgg0
  z0 := Tryd.sizeOf0
  v0 := Tryd.zeroValue0
  t2 := Tryd.underlying2
  a2 := Tryd.isAgg2
  z2 := Tryd.sizeOf2
  v2 := Tryd.zeroValue2
  t3 := Tryd.underlying3
  a3 := Tryd.isAgg3
  z3 := Tryd.sizeOf3
  v3 := Tryd.zeroValue3
  t4 := Tryd.underlying4
  a4 := Tryd.isAgg4
  z4 := Tryd.sizeOf4
  v4 := Tryd.zeroValue4
  t5 := Tryd.underlying5
  a5 := Tryd.isAgg5
  z5 := Tryd.sizeOf5
  v5 := Tryd.zeroValue5
  t9 := Tryd.underlying9
  a9 := Tryd.isAgg9
  z9 := Tryd.sizeOf9
  v9 := Tryd.zeroValue9
  t20 := Tryd.underlying20
  a20 := Tryd.isAgg20
  z20 := Tryd.sizeOf20
  v20 := Tryd.zeroValue20
  t37 := Tryd.underlying82
  a37 := Tryd.isAgg82
  z37 := Tryd.sizeOf82
  v37 := Tryd.zeroValue82
  t46 := Tryd.underlying128
  a46 := Tryd.isAgg128
  z46 := Tryd.sizeOf128
  v46 := Tryd.zeroValue128
  t51 := Tryd.underlying148
  a51 := Tryd.isAgg148
  z51 := Tryd.sizeOf148
  v51 := Tryd.zeroValue148
  t53 := Tryd.underlying118
  a53 := Tryd.isAgg118
  z53 := Tryd.sizeOf118
  v53 := Tryd.zeroValue118
  t171 := Tryd.underlying117
  a171 := Tryd.isAgg117
  z171 := Tryd.sizeOf117
  v171 := Tryd.zeroValue117
  t173 := Tryd.underlying121
  a173 := Tryd.isAgg121
  z173 := Tryd.sizeOf121
  v173 := Tryd.zeroValue121
  t212 := Tryd.underlying147
  a212 := Tryd.isAgg147
  z212 := Tryd.sizeOf147
  v212 := Tryd.zeroValue147
  t213 := Tryd.underlying149
  a213 := Tryd.isAgg149
  z213 := Tryd.sizeOf149
  t232 := Tryd.underlying162
  a232 := Tryd.isAgg162
  z232 := Tryd.sizeOf162
  v232 := Tryd.zeroValue162
  t233 := Tryd.underlying163
  a233 := Tryd.isAgg163
  z233 := Tryd.sizeOf163
  v233 := Tryd.zeroValue163
  g17 := by kernel_rfl
  g18 := by kernel_rfl
  g19 := by kernel_rfl
  i0 := by kernel_rfl
  i2 := by kernel_rfl
  i3 := by kernel_rfl
  i4 := by kernel_rfl
  i5 := by kernel_rfl
  i9 := by kernel_rfl
  i20 := by kernel_rfl
  i37 := by kernel_rfl
  i46 := by kernel_rfl
  i51 := by kernel_rfl
  i53 := by kernel_rfl
  i171 := by kernel_rfl
  i173 := by kernel_rfl
  i212 := by kernel_rfl
  i232 := by kernel_rfl
  i233 := by kernel_rfl
  m17 := by kernel_rfl
  m18 := by kernel_rfl
  m19 := by kernel_rfl

theorem tab_pow {mu : Nm → Nat → Option Loc} {pr : Bool → Nat → Prop} {h : Hp} {w : World} (R : Rel mu pr h w) : Go.Lib.TabIs Tryd.prog w "internal/strconv.uint64pow10" .u64 Go.Lib.pow10Tab := by
  obtain ⟨_, arr, ty, fr, hb, ha⟩ := R.tab 2 _ (by simp only [tabs]; exact List.mem_cons_self ..)
  subst ha
  have hg : Tryd.prog.globalNamed "internal/strconv.uint64pow10" = some 2 := by kernel_rfl
  simp only [Go.Lib.TabIs, World.var?, hg]
  simp [hb]
theorem below_grow {w : World} (k : Nat) (os : Array Obj) : Below w.heap.size w (Sort.grow (w.drewN k) os) :=
  ⟨rfl, rfl, rfl, by show w.heap.size ≤ (w.heap ++ os).size; simp, fun i hi => by
    show (w.heap ++ os)[i]? = _
    rw [Array.getElem?_append_left hi]⟩
/-- strconv.Itoa: the decimal numeral, for every number. -/
theorem itoaS (n : Int) (h0 : -9223372036854775808 ≤ n) (h1 : n ≤ 9223372036854775807) (h : Hp) : Sound Tryd.prog 29 [.int .i64 n] h fun v h' => v = .str (itoaT n) ∧ h' = h := by
  refine sound_lib Tryd.func29 rfl rfl fun mu pr w vs R hv => ?_
  obtain ⟨u, rfl⟩ : ∃ u, vs = [u] := by
    match vs, hv.1 with
    | [u], _ => exact ⟨u, rfl⟩
  obtain rfl : u = .int .i64 n := by
    obtain ⟨u', h1, h2⟩ := hv.2 0 _ rfl
    simp at h1
    subst h1
    cases h2
    rfl
  have C := Any.strconv_Itoa laysItoa n h0 h1 w (tab_pow R)
  refine Calls.mono (R := _) C ?_
  rintro e w' ⟨rfl, k, os, rfl⟩
  exact ⟨_, rfl, fun pr' hp => .str _, below_grow k os⟩
theorem itoaP (n : Int) (h0 : -9223372036854775808 ≤ n) (h1 : n ≤ 9223372036854775807) : Pure Tryd.prog 29 [.int .i64 n] (.str (itoaT n)) := fun T =>
  (itoaS n h0 h1 _).mono fun v h' ⟨e, _⟩ => by rw [e]; exact .str _
end Go.Proofs.YtmcmgeedhbgglaaDoor.AM

namespace Go.Proofs.YtmcmgeedhbgglaaDoor.AM
open Go.RowKit

private def MU1 : FuncId → Mode := fun f => if f = 27 then .fresh else if f = 999999 then .heap else .tree

theorem wrap_id {n : Int} (h1 : -9223372036854775808 ≤ n) (h2 : n ≤ 9223372036854775807) : IntKind.i64.wrap n = n := by
  simp [IntKind.wrap, IntKind.bits, IntKind.signed]
  omega
def marks (k : Int) (n : Nat) : List Int := (List.range n).map fun (i : Nat) => k + (i : Int)
theorem marks_length (k : Int) (n : Nat) : (marks k n).length = n := by simp [marks]
theorem marks_get {k : Int} {n i : Nat} (h : i < n) : (marks k n)[i]? = some (k + i) := by simp [marks, h]

theorem szIntS (xs : List Int) (left : Int) (h1 : 0 ≤ left) (h2 : left ≤ 2 ^ 20) (hm : xs.length ≤ maxLen) : Pure Tryd.prog 21 [ints true xs, .int .i64 left] (.int .i64 (if left < xs.length then -1 else left - xs.length)) := by
  intro T
  have hw : IntKind.i64.wrap (left - xs.length) = left - xs.length := wrap_id (by simp [maxLen] at hm; omega) (by omega)
  refine enter mixed MU1 Tryd.func21 rfl (by kernel_rfl) rfl ?_
  repeat' (first | (with_reducible first | refine stp ?_ | refine k_blk_o rfl ?_ | refine k_seq_n ?_) | ((try (conv => arg 1; simp [ints, hw])); with_reducible refine evp ?_) | ((with_reducible first | refine gd_b (fun hb => ?_) (fun hb => ?_) | refine br_b (fun hb => ?_) (fun hb => ?_)) <;> ((try simp only [Bool.not_eq_eq_eq_not, Bool.not_true, Bool.not_false] at hb); (try simp only [hb]); (try simp at hb))) | fail)
  · have : left < xs.length := by omega
    rw [if_pos this]; exact .int _ _
  · have : ¬ left < xs.length := by omega
    rw [if_neg this]; exact .int _ _

theorem toIntS (xs : List Int) (hl : xs.length ≤ 2 ^ 20) : Fresh Tryd.prog 27 [ints true xs] (fun c => ints c xs) := by
  intro T
  have hl2 : (xs.length : Int) ≤ 4294967296 := by omega
  refine enter mixed MU1 Tryd.func27 rfl (by kernel_rfl) rfl ?_
  repeat' (first | (with_reducible first | refine stp ?_ | refine k_blk_o rfl ?_ | refine k_seq_n ?_) | ((try (conv => arg 1; simp [ints, hl2])); with_reducible refine evp ?_) | fail)
  refine st_loop (fun (i : Nat) σ h => i ≤ xs.length ∧ σ 0 = ints true xs ∧ σ 3 = .sl (T + 1, 2, 0) 0 0 xs.length ∧ σ 4 = .int .i64 i ∧ T + 1 < h.tick ∧ ∃ ys : List Int, ys.length = xs.length ∧ ys.take i = xs.take i ∧ h.rows (T + 1, 2, 0) = some ⟨0, 1, ys.map fun n => [.int .i64 n]⟩) (fun i => xs.length - i) 0 ?init ?step
  case init =>
    simp [putA_get, envOf_0, hp_next_tick, hp_next_rows, hp_put_tick, hp_mt_tick, hp_rows_put]
    exact ⟨List.replicate xs.length 0, by simp, by simp⟩
  case step =>
    rintro i σ h ⟨hi, h0, h3, h4, ht, ys, hy, hyi, hr⟩
    repeat' (first | (with_reducible first | refine stp ?_ | refine k_blk_o rfl ?_ | refine k_seq_n ?_) | ((try (conv => arg 1; simp [ints, h0, h3, h4, hr])); with_reducible refine evp ?_) | fail)
    (try with_reducible refine st_if ?_)
    (try (conv => arg 1; simp [h0]))
    (try with_reducible refine at_mk ?_)
    refine ⟨fun hb => ?_, fun hb => ?_⟩
    · have hlt : i < xs.length := by simpa using hb
      have hx : xs[i]? = some (xs[i]) := by simp
      have hy2 : ys[i]? = some (ys[i]'(by omega)) := by simp
      have ht2 : T + 1 < h.tick + 1 + 1 := by omega
      have hw : IntKind.i64.wrap (i + 1) = i + 1 := wrap_id (by omega) (by omega)
      repeat' (first | (with_reducible first | refine stp ?_ | refine k_blk_o rfl ?_ | refine k_seq_n ?_) | ((try (conv => arg 1; simp [ints, h0, h3, h4, hr, hlt, hx, hy2, ht2, hw])); with_reducible refine evp ?_) | fail)
      refine k_lp_n (i + 1) (by omega) ⟨by omega, by simp [putA_get, putA_none, h0], by simp [putA_get, putA_none, h3], by simp [putA_get, putA_none, h4], by simp [hp_next_tick, hp_put_tick, hp_mt_tick]; omega, ys.set i xs[i], by simp [hy], ?_, ?_⟩
      · rw [List.take_add_one, List.take_add_one]
        simp [hyi, hy, hlt, List.take_set_of_le]
      · simp [hp_next_rows, hp_rows_put]
    · have hge : i = xs.length := by simp at hb; omega
      repeat' (first | (with_reducible first | refine stp ?_ | refine k_blk_o rfl ?_ | refine k_seq_n ?_) | ((try (conv => arg 1; simp [h0, h3, h4, hr])); with_reducible refine evp ?_) | fail)
      refine ⟨by simp [hp_next_tick]; omega, [(T + 1, 2, 0)], fun c => .one ?_, by simp, by simp [hp_next_tick]; omega⟩
      simp [resV]
      refine own_ints (by simpa [hp_next_rows] using hr) ?_ rfl
      subst hge
      rw [hyi]; simp

theorem eqIntS (xs : List Int) (hl : xs.length ≤ 2 ^ 62) : Pure Tryd.prog 34 [ints true xs, ints true xs] (.bool true) := by
  intro T
  refine enter mixed MU1 Tryd.func34 rfl (by kernel_rfl) rfl ?_
  repeat' (first | (with_reducible first | refine stp ?_ | refine k_blk_o rfl ?_ | refine k_seq_n ?_) | ((try (conv => arg 1; simp [ints])); with_reducible refine evp ?_) | fail)
  repeat' (first | (with_reducible first | refine stp ?_ | refine k_blk_o rfl ?_ | refine k_seq_n ?_) | ((try (conv => arg 1; simp [ints])); with_reducible refine evp ?_) | fail)
  refine st_loop (fun (i : Nat) σ h => i ≤ xs.length ∧ σ 0 = ints true xs ∧ σ 1 = ints true xs ∧ σ 5 = .int .i64 i) (fun i => xs.length - i) 0 ?init ?step
  case init =>
    simp [putA_get, envOf_0, envOf_1]
  case step =>
    rintro i σ h ⟨hi, h0, h1, h5⟩
    repeat' (first | (with_reducible first | refine stp ?_ | refine k_blk_o rfl ?_ | refine k_seq_n ?_) | ((try (conv => arg 1; simp [ints, h0, h5])); with_reducible refine evp ?_) | fail)
    (try with_reducible refine st_if ?_)
    (try (conv => arg 1; simp [ints]))
    (try with_reducible refine at_mk ?_)
    refine ⟨fun hb => ?_, fun hb => ?_⟩
    · have hlt : i < xs.length := by simpa using hb
      have hx : xs[i]? = some (xs[i]) := by simp
      have hw : IntKind.i64.wrap (i + 1) = i + 1 := wrap_id (by omega) (by omega)
      repeat' (first | (with_reducible first | refine stp ?_ | refine k_blk_o rfl ?_ | refine k_seq_n ?_) | ((try (conv => arg 1; simp [ints])); with_reducible refine evp ?_) | fail)
      repeat (with_reducible first | refine stp ?_ | refine k_seq_n ?_)
      refine st_draw 9 (fun _ => false) (by kernel_rfl) ?_
      simp only [List.take_succ_cons, List.take_zero, List.drop_succ_cons, List.drop_zero, List.take_nil, List.drop_nil]
      repeat' (first | (with_reducible first | refine stp ?_ | refine k_blk_o rfl ?_ | refine k_seq_n ?_) | ((try (conv => arg 1; simp [ints, h0, h1, h5, hx, hw])); with_reducible refine evp ?_) | ((with_reducible refine apn ?na ?_); (case na => simp [appNames, ints, intss] <;> first | kernel_rfl | (refine ⟨?_, ?_⟩ <;> kernel_rfl))) | fail)
      repeat' (first | (with_reducible first | refine stp ?_ | refine k_blk_o rfl ?_ | refine k_seq_n ?_) | ((try (conv => arg 1; simp [h5, hw])); with_reducible refine evp ?_) | ((with_reducible refine apn ?na ?_); (case na => simp [appNames, ints, intss] <;> first | kernel_rfl | (refine ⟨?_, ?_⟩ <;> kernel_rfl))) | fail)
      refine k_lp_n (i + 1) (by omega) ⟨by omega, by simp [putA_get, putA_none, h0], by simp [putA_get, putA_none, h1], by simp [putA_get, putA_none, h5]⟩
    · skip
      repeat' (first | (with_reducible first | refine stp ?_ | refine k_blk_o rfl ?_ | refine k_seq_n ?_) | ((try (conv => arg 1; simp [ints])); with_reducible refine evp ?_) | ((with_reducible refine apn ?na ?_); (case na => simp [appNames, ints, intss] <;> first | kernel_rfl | (refine ⟨?_, ?_⟩ <;> kernel_rfl))) | fail)
      exact .bool true

/-- What owns a slice of whole numbers. -/
theorem own_ints_inv {rows : Nm → Option Row} {a : AV} {xs : List Int} {ns : List Nm} (h : Own rows true [a] [ints true xs] ns) :
    (xs = [] ∧ (∀ c, Own rows c [a] [ints c []] ns) ∧ ((a = .nilsl ∧ ns = []) ∨ ∃ n ver off, a = .sl n ver off 0 ∧ ns = [n])) ∨
    (∃ n ver pre sp, a = .sl n ver pre.length xs.length ∧ ns = [n] ∧ rows n = some ⟨ver, 1, pre ++ ((xs.map fun x => [.int .i64 x]) ++ sp)⟩ ∧ (∀ e ∈ pre, e.length = 1) ∧ (∀ e ∈ sp, e.length = 1) ∧ ClRow ⟨ver, 1, pre⟩ ∧ ClRow ⟨ver, 1, sp⟩) := by
  unfold ints at h
  generalize hm : (xs.map fun n => [AV.int .i64 n]) = tm at h
  cases h with
  | nilsl h =>
    cases h
    exact .inl ⟨by simpa using hm, fun c => .nilsl .nil, .inl ⟨rfl, rfl⟩⟩
  | @sl _ _ ns1 ns2 n ver len s r _ h1 h2 h3 h4 h5 h6 h7 h8 h9 h10 =>
    cases h10
    have flat : ∀ (ys : List Int) (bs : List AV) (ns : List Nm), Own rows true bs (ys.map fun n => [AV.int .i64 n]).flatten ns → ns = [] ∧ bs = (ys.map fun n => [AV.int .i64 n]).flatten := by
      intro ys
      induction ys with
      | nil => intro bs ns h; cases h; exact ⟨rfl, rfl⟩
      | cons y ys ih =>
        intro bs ns h
        simp only [List.map_cons, List.flatten_cons, List.cons_append, List.nil_append] at h
        cases h with
        | int _ _ h => obtain ⟨e1, e2⟩ := ih _ _ h; exact ⟨e1, by simp [e2]⟩
    subst hm
    obtain ⟨e1, e2⟩ := flat xs _ _ h9
    subst e1
    have hlen : xs.length = len := by simpa using h7
    cases xs with
    | nil =>
      left
      simp at hlen
      subst hlen
      exact ⟨rfl, fun c => .sl n ver 0 s r [] h1 h2 h3 h4 h5 h6 rfl (by simp) (by simpa using Own.nil) .nil, .inr ⟨n, ver, 0, rfl, by simp⟩⟩
    | cons x xs =>
      right
      have hs : s = 1 := by
        have := h8 [.int .i64 x] (by simp)
        simpa using this.symm
      subst hs
      have key : ∀ (l : List (List AV)) (ys : List Int), (∀ e ∈ l, e.length = 1) → l.flatten = (ys.map fun n => [AV.int .i64 n]).flatten → l = ys.map fun n => [AV.int .i64 n] := by
        intro l
        induction l with
        | nil => intro ys _ he; cases ys with
          | nil => rfl
          | cons _ _ => simp at he
        | cons e l ih =>
          intro ys hl he
          have h1 := hl e (by simp)
          match e, h1 with
          | [v], _ =>
            cases ys with
            | nil => simp at he
            | cons y ys =>
              simp only [List.flatten_cons, List.map_cons, List.cons_append, List.nil_append, List.cons.injEq] at he
              rw [he.1, ih ys (fun e he => hl e (by simp [he])) he.2]
              rfl
      have e3 := key _ (x :: xs) (fun e he => h6 e (List.mem_of_mem_take he)) e2
      obtain ⟨ver', esz', elems⟩ := r
      simp only at h2 h3 e3 h6 h4 h5
      subst h2 h3
      refine ⟨n, ver', [], elems.drop len, by rw [hlen]; rfl, by simp, ?_, by simp, fun e he => h6 e (List.mem_of_mem_drop he), fun i e j x he hx => by simp at he, fun i e j x he hx => ?_⟩
      · rw [h1, List.nil_append, ← e3, List.take_append_drop]
      · refine h4 (len + i) e j x ?_ hx
        simpa [List.getElem?_drop] using he
  | slo n ver pre sp ys h1 h2 h3 h4 h5 h6 =>
    cases h6
    have hxy : ys = xs := by
      have h7 := congrArg (List.map fun l : List AV => match l with | [AV.int _ z] => z | _ => 0) hm
      simp only [List.map_map] at h7
      have e : ((fun l : List AV => match l with | [AV.int _ z] => z | _ => 0) ∘ fun n : Int => [AV.int IntKind.i64 n]) = id := funext fun z => rfl
      rw [e, List.map_id, List.map_id] at h7
      exact h7.symm
    subst hxy
    cases ys with
    | nil => exact .inl ⟨rfl, fun c => .slo n ver pre sp [] h1 h2 h3 h4 h5 .nil, .inr ⟨n, ver, _, rfl, rfl⟩⟩
    | cons y ys => exact .inr ⟨n, ver, pre, sp, rfl, rfl, h1, h4, h5, h2, h3⟩

theorem own_ints_mk {rows : Nm → Option Row} {n : Nm} {ver : Nat} {xs : List Int} {pre sp : List (List AV)} (h : rows n = some ⟨ver, 1, pre ++ ((xs.map fun x => [.int .i64 x]) ++ sp)⟩) (h0 : ∀ e ∈ pre, e.length = 1) (h1 : ∀ e ∈ sp, e.length = 1) (h3 : ClRow ⟨ver, 1, pre⟩) (h2 : ClRow ⟨ver, 1, sp⟩) {c : Bool} : Own rows c [.sl n ver pre.length xs.length] [ints c xs] [n] :=
  .slo n ver pre sp xs h h3 h2 h0 h1 .nil

theorem mid_get {α : Type} {pre l sp : List α} {i : Nat} (hi : i < l.length) : (pre ++ (l ++ sp))[pre.length + i]? = l[i]? := by
  rw [List.getElem?_append_right (by omega), Nat.add_sub_cancel_left, List.getElem?_append_left hi]
theorem mid_set {α : Type} {pre l sp : List α} {i : Nat} {e : α} (hi : i < l.length) : (pre ++ (l ++ sp)).set (pre.length + i) e = pre ++ (l.set i e ++ sp) := by
  rw [List.set_append, if_neg (by omega), Nat.add_sub_cancel_left, List.set_append, if_pos hi]

end Go.Proofs.YtmcmgeedhbgglaaDoor.AM

namespace Go.Proofs.YtmcmgeedhbgglaaDoor.AM
open Go.RowKit

theorem own_one {rows : Nm → Option Row} {c : Bool} {v t : AV} {ns : List Nm} (h : Own rows c [v] [t] ns) : v.one = true ∧ v.stored = true ∧ v.cells = [v] := by
  cases h <;> exact ⟨rfl, rfl, rfl⟩

theorem ownV_ints {rows : Nm → Option Row} {c : Bool} {v : AV} {xs : List Int} {ns : List Nm} (h : OwnV rows c v (ints c xs) ns) : Own rows c [v] [ints c xs] ns := by
  cases h with
  | one h => exact h

theorem dr_agg {c : Bool} {rows : Nm → Option Row} {as' ts : List AV} (h : DRs c rows as' ts) : DR c rows (.agg as') (.agg ts) := .agg _ _ h.1 h.2

theorem dr_ptr0 {c : Bool} {rows : Nm → Option Row} {n : Nm} {ver : Nat} {r : Row} {cs ts : List AV} (h1 : rows n = some r) (h2 : r.ver = ver) (h3 : r.elems[0]? = some cs) (h : DRs c rows cs ts) : DR c rows (.ptr n ver 0 0) (.tptr c ts) :=
  .ptr n ver 0 0 r cs ts h1 h2 h3 (by simpa using h.1) (fun j x y hx hy => h.2 j x y (by simpa using hx) hy)

theorem own_cons1 {rows : Nm → Option Row} {b : Bool} {l ts : List AV} {t : AV} {ns : List Nm} (h : Own rows b l (t :: ts) ns) : ∃ w l' n1 n2, l = w :: l' ∧ ns = n1 ++ n2 ∧ Own rows b [w] [t] n1 ∧ Own rows b l' ts n2 := by
  have hl := h.length
  match l, hl, h with
  | w :: l', hl, h =>
    obtain ⟨n1, n2, e, o1, o2⟩ := Own.split (as1 := [w]) (ts1 := [t]) (as2 := l') (ts2 := ts) h rfl
    exact ⟨w, l', n1, n2, rfl, e, o1, o2⟩

def cl1 (xs : List Int) : List (List AV) := xs.map fun x => [.int .i64 x]

section
variable {h h' : Hp} {bs bs' : Bx} {os : Ox} {n : Nm} {r r' : Row}
theorem Cx.box_drop {x : Nm × Row} (c : Cx h (x :: bs) os) : Cx h bs os := by
  refine ⟨fun y hy => c.box y (by simp [hy]), c.own, ?_, fun m hm => c.lt m ?_⟩
  · have := c.nd
    rw [show x = (x.1, x.2) from rfl, nms_box] at this
    exact (List.nodup_cons.1 this).2
  · rw [show x = (x.1, x.2) from rfl, nms_box]
    exact List.mem_cons_of_mem _ hm
end

/-- Whole numbers in a row, with what lies ahead and behind. -/
def ir (ver : Nat) (pre : List (List AV)) (xs : List Int) (sp : List (List AV)) : Row := ⟨ver, 1, pre ++ (cl1 xs ++ sp)⟩
structure IrOk (ver : Nat) (pre sp : List (List AV)) : Prop where
  h0 : ∀ e ∈ pre, e.length = 1
  h1 : ∀ e ∈ sp, e.length = 1
  h2 : ClRow ⟨ver, 1, pre⟩
  h3 : ClRow ⟨ver, 1, sp⟩
theorem ir_get {pre sp : List (List AV)} {xs : List Int} {i : Nat} (hi : i < xs.length) : (pre ++ (cl1 xs ++ sp))[pre.length + i]? = some [.int .i64 xs[i]] := by
  rw [mid_get (by simpa [cl1] using hi)]
  simp [cl1, hi]
theorem ir_set {pre sp : List (List AV)} {xs : List Int} {i : Nat} {y : Int} (hi : i < xs.length) : (pre ++ (cl1 xs ++ sp)).set (pre.length + i) [.int .i64 y] = pre ++ (cl1 (xs.set i y) ++ sp) := by
  rw [mid_set (by simpa [cl1] using hi)]
  simp [cl1, List.map_set]
theorem ir_ver {ver : Nat} {pre sp : List (List AV)} {xs : List Int} : (ir ver pre xs sp).ver = ver := Eq.refl _
theorem ir_esz {ver : Nat} {pre sp : List (List AV)} {xs : List Int} : (ir ver pre xs sp).esz = 1 := Eq.refl _
theorem ir_elems {ver : Nat} {pre sp : List (List AV)} {xs : List Int} : (ir ver pre xs sp).elems = pre ++ (cl1 xs ++ sp) := Eq.refl _
theorem ir_mk {ver : Nat} {pre sp : List (List AV)} {xs : List Int} : (⟨ver, 1, pre ++ (cl1 xs ++ sp)⟩ : Row) = ir ver pre xs sp := Eq.refl _

section
variable {h h' : Hp} {bs bs' : Bx} {os : Ox} {n k : Nm} {r r2 : Row} {T i j : Nat} {v w : AV} {ns : List Nm}
theorem Cx.open_ints {xs : List Int} (x : Cx h bs ((w, (fun b => ints b xs), ns) :: os)) (hx : 0 < xs.length) : ∃ k ver pre sp, w = .sl k ver pre.length xs.length ∧ ns = [k] ∧ IrOk ver pre sp ∧ Cx h ((k, ir ver pre xs sp) :: bs) os := by
  rcases own_ints_inv (own_of (x.o0 true) rfl) with ⟨rfl, _, _⟩ | ⟨k, ver, pre, sp, rfl, rfl, hr, h1, h2, h3, h4⟩
  · simp at hx
  · refine ⟨k, ver, pre, sp, rfl, rfl, ⟨h1, h2, h3, h4⟩, ?_, fun y hy => x.own y (by simp [hy]), ?_, fun m hm => x.lt m ?_⟩
    · intro y hy
      simp only [List.mem_cons] at hy
      rcases hy with rfl | hy
      · exact hr
      · exact x.box y hy
    · have := x.nd
      simp only [nms, List.map_cons, List.flatten_cons] at this ⊢
      exact (List.Perm.nodup_iff (by simp)).1 this
    · simp only [nms, List.map_cons, List.flatten_cons, List.mem_append, List.mem_cons] at hm ⊢
      rcases hm with (rfl | hm) | hm
      · simp
      · exact .inl hm
      · exact .inr (.inr hm)
theorem Cx.close_ints {ver : Nat} {pre sp : List (List AV)} {xs : List Int} (x : Cx h ((k, ir ver pre xs sp) :: bs) os) (q : IrOk ver pre sp) : Cx h bs ((.sl k ver pre.length xs.length, (fun b => ints b xs), [k]) :: os) := by
  refine ⟨fun y hy => x.box y (by simp [hy]), fun y hy b => ?_, ?_, fun m hm => x.lt m ?_⟩
  · simp only [List.mem_cons] at hy
    rcases hy with rfl | hy
    · exact .one (own_ints_mk x.b0 q.h0 q.h1 q.h2 q.h3)
    · exact x.own y hy b
  · have := x.nd
    simp only [nms, List.map_cons, List.flatten_cons] at this ⊢
    exact (List.Perm.nodup_iff (by simp)).2 this
  · simp only [nms, List.map_cons, List.flatten_cons, List.mem_append, List.mem_cons] at hm ⊢
    rcases hm with hm | (hm | hm) | hm
    · exact .inl (.inr hm)
    · exact .inl (.inl hm)
    · simp at hm
    · exact .inr hm

/-- A tick not below another one. -/
class GeT (t T : Nat) : Prop where
  le : t ≤ T
instance : GeT T T := ⟨Nat.le_refl _⟩
instance {t T : Nat} [g : GeT t T] : GeT t (T + 1) := ⟨Nat.le_succ_of_le g.le⟩
/-- What of a context is left behind a run. -/
class CxE (h : Hp) (bs : Bx) (os : Ox) (h' : Hp) (bs' : outParam Bx) : Prop where
  cx : Cx h bs os → Cx h' bs' os
  nm : bs'.map (·.1) = bs.map (·.1)
  tk : h.tick ≤ h'.tick
theorem Cx.to (x : Cx h bs os) [e : CxE h bs os h' bs'] : Cx h' bs' os := e.cx x
instance (priority := low) : CxE h bs os h bs := ⟨id, rfl, Nat.le_refl _⟩
instance [e : CxE h bs os h' bs'] : CxE h bs os h'.next bs' := ⟨fun x => (e.cx x).next, e.nm, by rw [hp_next_tick]; exact Nat.le_succ_of_le e.tk⟩
instance [g : GeT h.tick T] [e : CxE h bs os h' bs'] : CxE h bs os (h'.put (T, i, j) r) bs' := ⟨fun x => (e.cx x).put_junk (fun hm => by
    have hl := x.lt (T, i, j) (by
      simp only [nms, List.mem_append] at hm ⊢
      rw [← e.nm]
      exact hm)
    have := g.le
    simp only at hl
    omega), e.nm, by rw [hp_put_tick]; exact e.tk⟩
instance [e : CxE h bs os h' ((n, r) :: bs')] : CxE h bs os (h'.put n r2) ((n, r2) :: bs') := ⟨fun x => (e.cx x).box_set, e.nm, by rw [hp_put_tick]; exact e.tk⟩
instance {a : Nm × Row} [e : CxE h bs os h' (a :: (n, r) :: bs')] : CxE h bs os (h'.put n r2) (a :: (n, r2) :: bs') := ⟨fun x => (e.cx x).box_set1, e.nm, by rw [hp_put_tick]; exact e.tk⟩
instance {a b : Nm × Row} [e : CxE h bs os h' (a :: b :: (n, r) :: bs')] : CxE h bs os (h'.put n r2) (a :: b :: (n, r2) :: bs') := ⟨fun x => (e.cx x).box_set2, e.nm, by rw [hp_put_tick]; exact e.tk⟩
theorem Cx.box_set3 {a b c : Nm × Row} (x : Cx h (a :: b :: c :: (n, r) :: bs) os) : Cx (h.put n r2) (a :: b :: c :: (n, r2) :: bs) os := ((x.bperm (List.perm_middle (l₁ := [a, b, c]))).box_set (r' := r2)).bperm (List.perm_middle (l₁ := [a, b, c])).symm
theorem Cx.box_set4 {a b c d : Nm × Row} (x : Cx h (a :: b :: c :: d :: (n, r) :: bs) os) : Cx (h.put n r2) (a :: b :: c :: d :: (n, r2) :: bs) os := ((x.bperm (List.perm_middle (l₁ := [a, b, c, d]))).box_set (r' := r2)).bperm (List.perm_middle (l₁ := [a, b, c, d])).symm
instance {a b c : Nm × Row} [e : CxE h bs os h' (a :: b :: c :: (n, r) :: bs')] : CxE h bs os (h'.put n r2) (a :: b :: c :: (n, r2) :: bs') := ⟨fun x => (e.cx x).box_set3, e.nm, by rw [hp_put_tick]; exact e.tk⟩
instance {a b c d : Nm × Row} [e : CxE h bs os h' (a :: b :: c :: d :: (n, r) :: bs')] : CxE h bs os (h'.put n r2) (a :: b :: c :: d :: (n, r2) :: bs') := ⟨fun x => (e.cx x).box_set4, e.nm, by rw [hp_put_tick]; exact e.tk⟩

/-- The boxes, one by one. -/
def Bxs (h : Hp) : Bx → Prop
  | [] => True
  | (n, r) :: bs => h.rows n = some r ∧ n.1 < h.tick ∧ Bxs h bs
theorem Bxs.of : ∀ {bs : Bx}, (∀ y ∈ bs, h.rows y.1 = some y.2 ∧ y.1.1 < h.tick) → Bxs h bs
  | [], _ => trivial
  | (n, r) :: bs, p => ⟨(p (n, r) (by simp)).1, (p (n, r) (by simp)).2, Bxs.of fun y hy => p y (by simp [hy])⟩
theorem Cx.bxs (x : Cx h bs os) : Bxs h bs := Bxs.of fun y hy => ⟨x.box y hy, x.lt _ (mem_box hy)⟩
/-- Names apart. -/
def Aps : List Nm → Prop
  | [] => True
  | n :: l => (∀ m ∈ l, n ≠ m ∧ m ≠ n) ∧ Aps l
theorem Aps.of : ∀ {l : List Nm}, l.Nodup → Aps l
  | [], _ => trivial
  | n :: l, p => ⟨fun m hm => ⟨fun e => (List.nodup_cons.1 p).1 (e ▸ hm), fun e => (List.nodup_cons.1 p).1 (e ▸ hm)⟩, Aps.of (List.nodup_cons.1 p).2⟩
theorem Cx.aps (x : Cx h bs os) : Aps (bs.map (·.1)) := Aps.of (List.nodup_append.1 x.nd).1
end
theorem nm_ne {n : Nm} {t i j : Nat} (h : n.1 < t) : (n = (t, i, j)) = False := eq_false fun e => by rw [e] at h; exact Nat.lt_irrefl _ h
theorem nm_ne' {n : Nm} {t i j : Nat} (h : n.1 < t) : ((t, i, j) = n) = False := eq_false fun e => by rw [← e] at h; exact Nat.lt_irrefl _ h
theorem tk_ne {a t : Nat} (h : a < t) : (a = t) = False := eq_false (Nat.ne_of_lt h)
theorem tk_ne' {a t : Nat} (h : a < t) : (t = a) = False := eq_false (Nat.ne_of_gt h)

theorem cx_kg {P : Program} {M : FuncId → Mode} {C : CS} {D : Array Oper → (Nat → AV) → Hp → ((Nat → AV) → Hp → Prop) → Prop} {σ : Nat → AV} {K : Ex → (Nat → AV) → Hp → Prop} {h : Hp} {bs : Bx} {os : Ox} (F : Hp → Prop) {b : Code} (c : Cx h bs os) (f : F h) (k : ∀ h', Cx h' bs os → F h' → wpC P M C D b σ h' K) : KSeq P M C D b K .normal σ h := k h c f

/-- A row keeps its elements' size. -/
def Eszs (h h' : Hp) : Prop := ∀ n r r', h.rows n = some r → h'.rows n = some r' → r'.ver = r.ver → r'.esz = r.esz

theorem Sound.esz {P : Program} {f : FuncId} {args : List AV} {h : Hp} {K : AV → Hp → Prop} (s : Sound P f args h K) : Sound P f args h fun v h' => K v h' ∧ Eszs h h' := by
  refine ⟨s.1, fun mu pr w vs R hv => (s.2 mu pr w vs R hv).mono fun e w' ⟨z, v, h', mu', pr', e1, k, r, A⟩ => ⟨z, v, h', mu', pr', e1, ⟨k, fun n r1 r2 g1 g2 g3 => ?_⟩, r, A⟩⟩
  obtain ⟨l, arr, ty, m1, _, _, z1, _⟩ := R.row n r1 g1
  obtain ⟨l', arr', ty', m2, _, _, z2, _⟩ := A.rel.row n r2 g2
  have := A.ext.names _ _ _ m1
  rw [g3, this] at m2
  cases m2
  omega

theorem Sound.tk {P : Program} {f : FuncId} {args : List AV} {h : Hp} {K : AV → Hp → Prop} (s : Sound P f args h K) : Sound P f args h fun v h' => K v h' ∧ h.tick ≤ h'.tick :=
  ⟨s.1, fun mu pr w vs R hv => (s.2 mu pr w vs R hv).mono fun e w' ⟨z, v, h', mu', pr', e1, k, r, A⟩ => ⟨z, v, h', mu', pr', e1, ⟨k, A.tick⟩, r, A⟩⟩

def zeros (n : Nat) : List Int := List.replicate n 0

theorem zeros_succ (n : Nat) : zeros (n + 1) = zeros n ++ [0] := by simp [zeros, List.replicate_succ']

/-- Onto a row that ends where the slice ends. -/
theorem appendA_ext {P : Program} {t : TypeId} {m n : Nm} {v len s : Nat} {x : AV} {h : Hp} {l : List (List AV)} (es : List (List AV)) (h0 : ((telem P t).bind fun e => (tsz P e).bind fun s => (tby P e).bind fun bb => (tzero P e).bind fun z => some (s, decide (0 < s ∧ bb ≤ 32768 ∧ z.length = s))) = some (s, true))
    (hr : h.rows m = some ⟨v, s, l⟩) (hlen : l.length = len) (hx : srcElems h.rows x = some es) (hes : ∀ e ∈ es, e.length = s) (hl : len + es.length ≤ 4294967296) (hm : decide (m.1 < h.tick) = true) :
    appendA P t (.sl m v 0 len) x h n = some (.sl m (v + if es = [] then 0 else 1) 0 (len + es.length), h.put m ⟨v + if es = [] then 0 else 1, s, l ++ es⟩) := by
  simp only [Option.bind_eq_some_iff] at h0
  obtain ⟨e', he', s', hs, bb, hb, z, hz, hd⟩ := h0
  simp only [Option.some.injEq, Prod.mk.injEq, decide_eq_true_eq] at hd
  obtain ⟨e1, hd1, hd2, hd3⟩ := hd
  rw [e1] at hs hd1 hd3
  subst hlen
  have hall : es.all (fun e => e.length == s) = true := by
    rw [List.all_eq_true]
    intro e he
    simpa using hes e he
  unfold appendA
  simp only [he', hx, hs, hb, hz]
  rw [if_pos ⟨hd1, hd2, hd3, hall⟩]
  simp only [hr]
  rw [if_pos ⟨trivial, trivial, by omega, hl, of_decide_eq_true hm⟩]
  cases es with
  | nil =>
    simp only [if_true, List.length_nil, Nat.add_zero, List.append_nil]
    congr 2
    obtain ⟨rows, tick⟩ := h
    simp only [Hp.put]
    congr 1
    funext k
    by_cases hk : k = m
    · rw [if_pos hk, hk]; exact hr
    · rw [if_neg hk]
  | cons e es =>
    have hnot : ¬ 0 + (l.length + (e :: es).length) ≤ l.length := by simp
    rw [if_neg (by simp), if_neg hnot]
    simp

/-- Onto nothing: a new row. -/
theorem appendA_nil1 {P : Program} {t : TypeId} {n k : Nm} {vk s : Nat} {h : Hp} {e : List AV} (h0 : ((telem P t).bind fun e => (tsz P e).bind fun s => (tby P e).bind fun bb => (tzero P e).bind fun z => some (s, decide (0 < s ∧ bb ≤ 32768 ∧ z.length = s))) = some (s, true))
    (hk : h.rows k = some ⟨vk, s, [e]⟩) (he : e.length = s) :
    appendA P t .nilsl (.sl k vk 0 1) h n = some (.sl n 0 0 1, h.put n ⟨0, s, [e]⟩) := by
  simp only [Option.bind_eq_some_iff] at h0
  obtain ⟨e', he', s', hs, bb, hb, z, hz, hd⟩ := h0
  simp only [Option.some.injEq, Prod.mk.injEq, decide_eq_true_eq] at hd
  obtain ⟨e1, hd1, hd2, hd3⟩ := hd
  rw [e1] at hs hd1 hd3
  unfold appendA
  have hsrc : srcElems h.rows (.sl k vk 0 1) = some [e] := by simp [srcElems, hk]
  rw [he', hsrc]
  simp only [hs, hb, hz]
  simp [he, hd1, hd2, hd3]

theorem own_src {rows : Nm → Option Row} {w : AV} {xs : List Int} {ns : List Nm} (o : Own rows true [w] [ints true xs] ns) : srcElems rows w = some (xs.map fun n => [.int .i64 n]) := by
  rcases own_ints_inv o with ⟨rfl, _, hx⟩ | ⟨n, ver, pre, sp, rfl, rfl, hr, h1, h2, h3, h4⟩
  · rcases hx with ⟨rfl, hns⟩ | ⟨n, ver, off, rfl, hns⟩
    · rfl
    · generalize ht : ints true [] = t at o
      generalize hv : AV.sl n ver off 0 = v at o
      cases o with
      | int => cases hv
      | bool => cases hv
      | str => cases hv
      | nilsl => cases hv
      | sl n' ver' len s r ts' g1 g2 g3 g4 g5 g6 g7 g8 g9 g10 => injection hv with e1 e2 e3 e4; subst e1 e2 e3 e4; simp [srcElems, g1, g2]
      | slo n' ver' pre sp zs g1 =>
        injection hv with e1 e2 e3 e4
        have hz : zs = [] := by cases zs with | nil => rfl | cons => simp at e4
        subst e1 e2 e3 hz
        simp [srcElems, g1]
  · simp [srcElems, hr]

theorem hp_put_same {h : Hp} {m : Nm} {r : Row} (hr : h.rows m = some r) : h.put m r = h := by
  obtain ⟨rows, tick⟩ := h
  simp only [Hp.put]
  congr 1
  funext k
  by_cases hk : k = m
  · rw [if_pos hk, hk]; exact hr.symm
  · rw [if_neg hk]

/-- Over the first places of a row of zeros. -/
theorem copyA_zeros {P : Program} {t : TypeId} {n : Nm} {v s : Nat} {h : Hp} {A : List Int} (h0 : ((telem P t).bind fun e => tsz P e) = some 1) (hr : h.rows n = some ⟨v, 1, cl1 (zeros s)⟩) (hA : A.length ≤ s) (hm : n.1 < h.tick) :
    copyA P t (.sl n v 0 s) (ints true A) h = some (.int .i64 A.length, h.put n ⟨v, 1, cl1 (A ++ zeros (s - A.length))⟩) := by
  simp only [Option.bind_eq_some_iff] at h0
  obtain ⟨e, he, hs⟩ := h0
  have hl : (A.map fun n => [AV.int .i64 n]).length = A.length := by simp
  have ht : (A.map fun n => [AV.int .i64 n]).take s = A.map fun n => [AV.int .i64 n] := List.take_of_length_le (by simpa using hA)
  have hall : (A.map fun n => [AV.int .i64 n]).all (fun e => e.length == 1) = true := by simp
  unfold copyA
  simp only [he, srcElems_ints, lenOfA, hs]
  rw [if_pos ⟨hall, Nat.one_pos⟩, ht]
  by_cases hA0 : A = []
  · subst hA0
    rw [if_pos (by simp)]
    have : h.put n ⟨v, 1, cl1 ([] ++ zeros (s - 0))⟩ = h := hp_put_same (by simpa using hr)
    simp only [List.length_nil]
    rw [this]
    rfl
  · rw [if_neg (by simpa using hA0)]
    have e2 : (cl1 (zeros s)).drop A.length = cl1 (zeros (s - A.length)) := by simp [cl1, zeros]
    simp only [overA, hr]
    rw [if_pos ⟨trivial, trivial, by simp [cl1, zeros], by simpa using hA, hm⟩]
    have e3 : (List.map (fun n => [AV.int IntKind.i64 n]) (zeros s)).drop A.length = List.map (fun n => [AV.int IntKind.i64 n]) (zeros (s - A.length)) := e2
    simp [e3, cl1]

def inB (n lo hi : Int) : Bool := decide (lo ≤ n) && decide (n ≤ hi)

theorem inB_nat {x k : Int} (h : inB x 0 k = true) : ∃ n : Nat, x = (n : Int) ∧ (n : Int) ≤ k := by
  simp only [inB, Bool.and_eq_true, decide_eq_true_eq] at h
  exact ⟨x.toNat, by omega, by omega⟩

theorem cx_kf {h : Hp} {bs : Bx} {os : Ox} {P : Program} {M : FuncId → Mode} {C : CS} {D : Array Oper → (Nat → AV) → Hp → ((Nat → AV) → Hp → Prop) → Prop} {σ : Nat → AV} {K : Ex → (Nat → AV) → Hp → Prop} (F : Hp → Prop) {b : Code} (c : Cx h bs os) (f : F h) (k : ∀ h', Cx h' bs os → F h' → wpC P M C D b σ h' K) : KSeq P M C D b K .normal σ h := k h c f
theorem dr_tup2 {c : Bool} {rows : Nm → Option Row} {a b t u : AV} (h1 : DR c rows a t) (h2 : DR c rows b u) : DR c rows (.tup [a, b]) (.tup [t, u]) := have h : DRs c rows [a, b] [t, u] := .cons h1 (.cons h2 .nil); .tup _ _ h.1 h.2
theorem av_oneX {P : Program} {t : TypeId} {d : TypeDesc} (h : P.underlying t = some d) (hd : (match d with | .struct _ => false | _ => true) = true) (c : AV) : avOf P t [c] = c := by
  unfold avOf
  rw [h]
  cases d <;> first | rfl | cases hd
end Go.Proofs.YtmcmgeedhbgglaaDoor.AM

namespace Go.Proofs.YtmcmgeedhbgglaaDoor.AM
open Go.RowKit

/-- A text by its bytes. -/
def bs (l : List UInt8) : ByteArray := ⟨l.toArray⟩
theorem bs_mk (a : Array UInt8) : (⟨a⟩ : ByteArray) = bs a.toList := Eq.refl _
theorem bs_app (a b : List UInt8) : bs a ++ bs b = bs (a ++ b) := by
  apply ByteArray.ext
  simp [bs]
theorem bs_size (l : List UInt8) : (bs l).size = l.length := by simp [bs, ByteArray.size]
theorem bs_empty : ByteArray.empty = bs [] := Eq.refl _
theorem bs_extract (l : List UInt8) (i j : Nat) : (bs l).extract i j = bs ((l.drop i).take (j - i)) := by
  apply ByteArray.ext
  simp [bs, ByteArray.data_extract]
theorem bs_toList (l : List UInt8) : (bs l).toList = l := by
  rw [ByteArray.toList_eq]
  simp [bs]
theorem bs_get (l : List UInt8) (k : Nat) : (bs l)[k]? = l[k]? := by
  by_cases h : k < l.length
  · have : k < (bs l).size := by rw [bs_size]; exact h
    rw [getElem?_pos (bs l) k this, getElem?_pos l k h]
    rfl
  · have : ¬ k < (bs l).size := by rw [bs_size]; exact h
    rw [getElem?_neg (bs l) k this, getElem?_neg l k h]
theorem bs_of (s : ByteArray) : ∃ l, s = bs l := ⟨s.data.toList, rfl⟩
theorem bs_inj {a b : List UInt8} (h : bs a = bs b) : a = b := by
  have := congrArg (fun s => s.data.toList) h
  simpa [bs] using this
theorem bs_data (l : List UInt8) : (bs l).data.toList = l := by simp [bs]
/-- A bound on a text's length, by its form. -/
class Bd (l : List UInt8) (n : outParam Nat) : Prop where
  le : l.length ≤ n
instance : Bd [] 0 := ⟨Nat.le_refl _⟩
instance {x : UInt8} {l : List UInt8} {n : Nat} [h : Bd l n] : Bd (x :: l) (n + 1) := ⟨Nat.succ_le_succ h.le⟩
instance {a b : List UInt8} {n m : Nat} [h : Bd a n] [k : Bd b m] : Bd (a ++ b) (n + m) := ⟨by rw [List.length_append]; exact Nat.add_le_add h.le k.le⟩
theorem cat_le {a b : List UInt8} {n m : Nat} [h : Bd a n] [k : Bd b m] (hs : n + m ≤ 4611686018427387904) : (9223372036854775807 < ((bs a).size : Int) + ((bs b).size : Int)) = False := by
  have := h.le; have := k.le
  rw [bs_size, bs_size]
  exact eq_false (by omega)
section
variable {P : Program} {rows : Nm → Option Row} {t : TypeId} {l : List UInt8} {k k' : IntKind}
theorem slice_fr {i : Int} (hu : P.underlying t = some .string) (h0 : 0 ≤ i) (h1 : i ≤ l.length) : sliceA P rows t (.str (bs l)) (some (.int k i)) none false = some (.str (bs (l.drop i.toNat))) := by
  simp only [sliceA, hu, bnd, if_pos h0, bs_size]
  rw [if_neg (by simp), if_pos (by omega), bs_extract, List.take_of_length_le (by simp)]
theorem slice_to {j : Int} (hu : P.underlying t = some .string) (h0 : 0 ≤ j) (h1 : j ≤ l.length) : sliceA P rows t (.str (bs l)) none (some (.int k j)) false = some (.str (bs (l.take j.toNat))) := by
  simp only [sliceA, hu, bnd, if_pos h0, bs_size]
  rw [if_neg (by simp), if_pos (by omega), bs_extract]
  simp
theorem slice_ft {i j : Int} (hu : P.underlying t = some .string) (h0 : 0 ≤ i) (h1 : i ≤ j) (h2 : j ≤ l.length) : sliceA P rows t (.str (bs l)) (some (.int k i)) (some (.int k' j)) false = some (.str (bs ((l.drop i.toNat).take (j.toNat - i.toNat)))) := by
  simp only [sliceA, hu, bnd, if_pos h0, if_pos (show 0 ≤ j by omega), bs_size]
  rw [if_neg (by simp), if_pos (by omega), bs_extract]
theorem index_bs {i : Int} (hu : P.underlying t = some .string) (h0 : 0 ≤ i) (h1 : i.toNat < l.length) : indexA P t (.str (bs l)) (.int k i) = some (.int .u8 l[i.toNat].toNat) := by
  simp [indexA, hu, if_pos h0, bs_get, h1]
end
/-- A number's decimal numeral, byte by byte. -/
def dg (n : Int) : List UInt8 := Go.Lib.itoa n
theorem itoaT_dg (n : Int) : itoaT n = bs (dg n) := rfl
theorem dg_len {n : Int} (h : I64 n) : (dg n).length ≤ 20 := by
  have := itoa_size h.1 h.2
  rwa [itoaT_dg, bs_size] at this
theorem bd_dg {n : Int} (h : I64 n) : Bd (dg n) 20 := ⟨dg_len h⟩
theorem itoaB (n : Int) (h : I64 n) : Pure Tryd.prog 29 [.int .i64 n] (.str (bs (dg n))) := itoaP n h.1 h.2
/-- Words with a blank ahead of each. -/
def sp (xs : List (List UInt8)) : List UInt8 := xs.flatMap fun x => 32 :: x
theorem sp_nil : sp [] = [] := rfl
theorem sp_cons (x : List UInt8) (xs : List (List UInt8)) : sp (x :: xs) = 32 :: (x ++ sp xs) := by simp [sp]
theorem sp_app (a b : List (List UInt8)) : sp (a ++ b) = sp a ++ sp b := by simp [sp]
theorem sp_len {xs : List (List UInt8)} {k : Nat} (h : ∀ x ∈ xs, x.length ≤ k) : (sp xs).length ≤ xs.length * (k + 1) := by
  induction xs with
  | nil => simp [sp]
  | cons x xs ih =>
    have h1 := h x (by simp)
    have h2 := ih fun y hy => h y (by simp [hy])
    rw [sp_cons, List.length_cons, List.length_append, List.length_cons, Nat.succ_mul]
    omega
end Go.Proofs.YtmcmgeedhbgglaaDoor.AM

namespace Go.Proofs.YtmcmgeedhbgglaaDoor.AM
open Go.RowKit

private def MD5 : FuncId → Mode := fun f => .tree

theorem dec_slice {P : Program} {rows : Nm → Option Row} {t : TypeId} {d : Nat} (hu : P.underlying t = some .string) (h : d < 10) : sliceA P rows t (.str (bs [48, 49, 50, 51, 52, 53, 54, 55, 56, 57])) (some (.int .i64 d)) (some (.int .i64 (d + 1))) false = some (.str (bs [UInt8.ofNat (48 + d)])) := by
  have : ∀ d : Fin 10, (([48, 49, 50, 51, 52, 53, 54, 55, 56, 57] : List UInt8).drop d).take 1 = [UInt8.ofNat (48 + d)] := by decide +kernel
  rw [slice_ft hu (by omega) (by omega) (by simp; omega), ← this ⟨d, h⟩]
  congr 4
  omega
/-- A number of a sign. -/
def sg (n : Int) (u : Nat) : Int := if n < 0 then -(u : Int) else u
theorem sg_self (n : Int) : sg n n.natAbs = n := by unfold sg; split <;> omega
theorem sg_quo (n : Int) (u : Nat) : (sg n u).tdiv 10 = sg n (u / 10) := by
  unfold sg
  split
  · rw [Int.neg_tdiv]
    congr 1
  · rfl
theorem sg_rem (n : Int) (u : Nat) : (sg n u).tmod 10 = sg n (u % 10) := by
  unfold sg
  split
  · rw [Int.neg_tmod]
    congr 1
  · rfl
theorem sg_zero (n : Int) (u : Nat) : sg n u = 0 ↔ u = 0 := by unfold sg; split <;> omega
theorem dg_dd {n : Int} (h : n ≠ 0) : dg n = (if n < 0 then [45] else []) ++ dd n.natAbs := by
  unfold dg
  rcases Int.lt_trichotomy n 0 with h1 | h1 | h1
  · rw [itoa_neg h1, if_pos h1]; rfl
  · exact absurd h1 h
  · rw [itoa_pos h1, if_neg (by omega)]; rfl
theorem dg_zero : dg 0 = [48] := bs_inj (by rw [← itoaT_dg, itoa_zero]; rfl)

theorem specDecText (n : Int) (h : I64 n) : Pure Tryd.prog 23 [.int .i64 n] (.str (bs (dg n))) := by
  intro T
  obtain ⟨hb1, hb2⟩ := h
  refine enter mixed MD5 Tryd.func23 rfl (by kernel_rfl) rfl ?_
  by_cases hz : n = 0
  · subst hz
    repeat' (first | (with_reducible first | refine stp ?_ | refine k_blk_o rfl ?_ | refine k_seq_n ?_) | ((try (conv => arg 1; simp [bs_mk])); with_reducible refine evp ?_) | fail)
    rw [dg_zero]
    exact .str _
  have hnd : (dd n.natAbs).length ≤ 19 := dd_len 19 _ (by omega)
  repeat' (first | (with_reducible first | refine stp ?_ | refine k_blk_o rfl ?_ | refine k_seq_n ?_) | ((try (conv => arg 1; simp [bs_mk, hz])); with_reducible refine evp ?_) | fail)
  refine st_loop (fun (u : Nat) σ h => ∃ out, dd n.natAbs = dd u ++ out ∧ u ≤ n.natAbs ∧ σ 0 = .int .i64 n ∧ σ 3 = .str (bs out) ∧ σ 4 = .int .i64 (sg n u)) (fun u => u) n.natAbs ?init ?step
  case init =>
    exact ⟨[], by simp, Nat.le_refl _, by simp [putA_get, envOf_0], by simp [putA_get, envOf_0, opd, avc, avc1, bs_empty, bs_mk], by simp [putA_get, envOf_0, opd, avc, avc1, sg_self]⟩
  case step =>
    rintro u σ h ⟨out, ho, hu, s0, s3, s4⟩
    by_cases hu0 : u = 0
    · subst hu0
      have e0 : sg n 0 = 0 := (sg_zero n 0).2 rfl
      rw [dd_zero, List.nil_append] at ho
      haveI : Bd out 19 := ⟨by rw [← ho]; exact hnd⟩
      by_cases hneg : n < 0
      · skip
        repeat' (first | (with_reducible first | refine stp ?_ | refine k_blk_o rfl ?_ | refine k_seq_n ?_) | ((try (conv => arg 1; simp [s0, s3, s4, e0, hneg, bs_mk, cat_le, bs_app])); with_reducible refine evp ?_) | fail)
        rw [dg_dd hz, if_pos hneg, ho]
        exact .str _
      · skip
        repeat' (first | (with_reducible first | refine stp ?_ | refine k_blk_o rfl ?_ | refine k_seq_n ?_) | ((try (conv => arg 1; simp [s0, s3, s4, e0, hneg, bs_mk, cat_le, bs_app])); with_reducible refine evp ?_) | fail)
        rw [dg_dd hz, if_neg hneg, ho]
        exact .str _
    · have hs0 : ¬ sg n u = 0 := fun e => hu0 ((sg_zero n u).1 e)
      have hd : u % 10 < 10 := Nat.mod_lt _ (by decide)
      have er := sg_rem n u
      have eq := sg_quo n u
      have ho2 : dd n.natAbs = dd (u / 10) ++ (UInt8.ofNat (48 + u % 10) :: out) := by rw [ho, dd_pos hu0]; simp
      haveI : Bd out 19 := ⟨by have := congrArg List.length ho; rw [List.length_append] at this; omega⟩
      have hwq : IntKind.i64.wrap (sg n (u / 10)) = sg n (u / 10) := wrap_id (by unfold sg; split <;> omega) (by unfold sg; split <;> omega)
      generalize hdd : u % 10 = d at *
      have hw1 : IntKind.i64.wrap ((d : Int) + 1) = (d : Int) + 1 := wrap_id (by omega) (by omega)
      have hw2 : IntKind.i64.wrap (d : Int) = d := wrap_id (by omega) (by omega)
      have hnn : ¬ (d : Int) < 0 := by omega
      by_cases hneg : sg n d < 0
      · have hw3 : IntKind.i64.wrap (-(sg n d)) = d := by rw [wrap_id (by unfold sg; split <;> omega) (by unfold sg; split <;> omega)]; unfold sg at hneg ⊢; split at hneg <;> split <;> omega
        repeat' (first | (with_reducible first | refine stp ?_ | refine k_blk_o rfl ?_ | refine k_seq_n ?_) | ((try (conv => arg 1; simp [s0, s3, s4, hs0, er, eq, hneg, hw1, hw2, hw3, hwq,  bs_mk, hd, dec_slice, cat_le, bs_app])); with_reducible refine evp ?_) | fail)
        refine k_lp_n (u / 10) (by omega) ⟨_, ho2, by omega, by simp [s0], by simp, by simp⟩
      · have es : sg n d = d := by unfold sg at hneg ⊢; split at hneg <;> split <;> omega
        rw [es] at er
        repeat' (first | (with_reducible first | refine stp ?_ | refine k_blk_o rfl ?_ | refine k_seq_n ?_) | ((try (conv => arg 1; simp [s0, s3, s4, hs0, er, eq, hnn, hw1, hw2, hwq, bs_mk, hd, dec_slice, cat_le, bs_app])); with_reducible refine evp ?_) | fail)
        refine k_lp_n (u / 10) (by omega) ⟨_, ho2, by omega, by simp [s0], by simp, by simp⟩
end Go.Proofs.YtmcmgeedhbgglaaDoor.AM

namespace Go.Proofs.YtmcmgeedhbgglaaDoor.AM
open Go.RowKit

theorem own_nil_inv {rows : Nm → Option Row} {c : Bool} {ns : List Nm} (h : Own rows c [] [] ns) : ns = [] := by cases h; rfl
theorem ownV_agg_inv {rows : Nm → Option Row} {c : Bool} {l ts : List AV} {ns : List Nm} (h : OwnV rows c (.agg l) (.agg ts) ns) : Own rows c l ts ns := by
  cases h with
  | one h => cases h
  | agg h => exact h

theorem own_ints_flat {rows : Nm → Option Row} {c : Bool} : ∀ {xs : List Int} {ts : List AV} {ns : List Nm}, Own rows c (xs.map fun x => [AV.int .i64 x]).flatten ts ns → ns = []
  | [], ts, ns, h => by
    generalize hl : (([] : List Int).map fun x => [AV.int .i64 x]).flatten = l at h
    cases h <;> first | rfl | cases hl
  | x :: xs, ts, ns, h => by
    generalize hl : ((x :: xs).map fun x => [AV.int .i64 x]).flatten = l at h
    simp only [List.map_cons, List.flatten_cons, List.singleton_append] at hl
    cases h with
    | int _ _ h => injection hl with _ hl; subst hl; exact own_ints_flat h
    | _ => cases hl
/-- The names do not hang on the trees. -/
theorem Own.det {rows : Nm → Option Row} {c : Bool} {as1 ts : List AV} {ns : List Nm} (h : Own rows c as1 ts ns) : ∀ {c' : Bool} {ts' : List AV} {ns' : List Nm}, Own rows c' as1 ts' ns' → ns' = ns := by
  induction h with
  | nil => intro c' ts' ns' h'; cases h'; rfl
  | int _ _ _ ih => intro c' ts' ns' h'; cases h' with | int _ _ h' => exact ih h'
  | bool _ _ ih => intro c' ts' ns' h'; cases h' with | bool _ h' => exact ih h'
  | str _ _ ih => intro c' ts' ns' h'; cases h' with | str _ h' => exact ih h'
  | nilsl _ ih => intro c' ts' ns' h'; cases h' with | nilsl h' => exact ih h'
  | @sl as1 ts ns1 ns2 n ver len s r ts' h1 h2 h3 h4 h5 h6 h7 h8 h9 h10 ih1 ih2 =>
    intro c' ts' ns' h'
    generalize hl : AV.sl n ver 0 len :: as1 = l at h'
    cases h' with
    | sl n' ver' len' s' r' ts2 q1 q2 q3 q4 q5 q6 q7 q8 q9 q10 =>
      injection hl with hl e
      injection hl with e1 e2 _ e4
      subst e e1 e2 e4
      rw [h1] at q1
      cases q1
      rw [ih1 q9, ih2 q10]
    | slo n' ver' pre sp xs q1 q2 q3 q4 q5 q6 =>
      injection hl with hl e
      injection hl with e1 e2 e3 e4
      subst e e1 e2 e4
      have hp : pre = [] := List.eq_nil_of_length_eq_zero e3.symm
      subst hp
      rw [h1] at q1
      cases q1
      simp only [List.nil_append] at h9
      rw [List.take_left' (by simp)] at h9
      rw [own_ints_flat h9, ih2 q6]
      rfl
    | _ => cases hl
  | @slo as1 ts ns n ver pre sp xs h1 h2 h3 h4 h5 h6 ih =>
    intro c' ts' ns' h'
    generalize hl : AV.sl n ver pre.length xs.length :: as1 = l at h'
    cases h' with
    | sl n' ver' len' s' r' ts2 q1 q2 q3 q4 q5 q6 q7 q8 q9 q10 =>
      injection hl with hl e
      injection hl with e1 e2 e3 e4
      subst e e1 e2 e4
      have hp : pre = [] := List.eq_nil_of_length_eq_zero e3
      subst hp
      rw [h1] at q1
      cases q1
      simp only [List.nil_append] at q9
      rw [List.take_left' (by simp)] at q9
      rw [own_ints_flat q9, ih q10]
      rfl
    | slo n' ver' pre' sp' xs' q1 q2 q3 q4 q5 q6 =>
      injection hl with hl e
      injection hl with e1 e2 e3 e4
      subst e e1
      rw [ih q6]
    | _ => cases hl

section
variable {h h' : Hp} {bs : Bx} {os : Ox} {k : Nm} {ns ns1 ns2 : List Nm} {s ver : Nat} {w : AV} {es sp : List (List AV)} {ts : Bool → List (List AV)}
/-- What is owned, side by side. -/
theorem Cx.agg_app {l1 l2 : List AV} {t1 t2 : Bool → List AV} (x : Cx h bs ((.agg l2, (fun b => .agg (t2 b)), ns2) :: (.agg l1, (fun b => .agg (t1 b)), ns1) :: os)) : Cx h bs ((.agg (l1 ++ l2), (fun b => .agg (t1 b ++ t2 b)), ns1 ++ ns2) :: os) := by
  refine ⟨x.box, fun y hy b => ?_, ?_, fun m hm => x.lt m ?_⟩
  · simp only [List.mem_cons] at hy
    rcases hy with rfl | hy
    · exact .agg (Own.append (ownV_agg_inv (x.o1 b)) (ownV_agg_inv (x.o0 b)))
    · exact x.own y (by simp [hy]) b
  · have nd := x.nd
    simp only [nms, List.map_cons, List.flatten_cons] at nd ⊢
    refine (List.Perm.nodup_iff ?_).1 nd
    rw [← List.append_assoc ns2 ns1 _]
    exact List.Perm.append_left _ (List.Perm.append_right _ List.perm_append_comm)
  · simp only [nms, List.map_cons, List.flatten_cons, List.mem_append] at hm ⊢
    rcases hm with hm | (hm | hm) | hm
    · exact .inl hm
    · exact .inr (.inr (.inl hm))
    · exact .inr (.inl hm)
    · exact .inr (.inr (.inr hm))
theorem Cx.agg_split {l1 l2 : List AV} {t1 t2 : Bool → List AV} (hl : ∀ b, (t1 b).length = l1.length) (x : Cx h bs ((.agg (l1 ++ l2), (fun b => .agg (t1 b ++ t2 b)), ns) :: os)) : ∃ ns1 ns2, ns = ns1 ++ ns2 ∧ Cx h bs ((.agg l2, (fun b => .agg (t2 b)), ns2) :: (.agg l1, (fun b => .agg (t1 b)), ns1) :: os) := by
  obtain ⟨ns1, ns2, e, o1, o2⟩ := Own.split (ownV_agg_inv (x.o0 true)) (hl true)
  refine ⟨ns1, ns2, e, x.box, fun y hy b => ?_, ?_, fun m hm => x.lt m ?_⟩
  · obtain ⟨ns1', ns2', e', o1', o2'⟩ := Own.split (ownV_agg_inv (x.o0 b)) (hl b)
    simp only [List.mem_cons] at hy
    rcases hy with rfl | rfl | hy
    · rw [o2.det o2'] at o2'; exact .agg o2'
    · rw [o1.det o1'] at o1'; exact .agg o1'
    · exact x.own y (by simp [hy]) b
  · have nd := x.nd
    rw [e] at nd
    simp only [nms, List.map_cons, List.flatten_cons] at nd ⊢
    refine (List.Perm.nodup_iff ?_).1 nd
    rw [← List.append_assoc ns2 ns1 _]
    exact List.Perm.append_left _ (List.Perm.append_right _ List.perm_append_comm)
  · rw [e]
    simp only [nms, List.map_cons, List.flatten_cons, List.mem_append] at hm ⊢
    rcases hm with hm | hm | hm | hm
    · exact .inl hm
    · exact .inr (.inl (.inr hm))
    · exact .inr (.inl (.inl hm))
    · exact .inr (.inr hm)
/-- A value alone out of what is owned. -/
theorem Cx.agg_one {t : Bool → AV} (x : Cx h bs ((.agg [w], (fun b => .agg [t b]), ns) :: os)) : Cx h bs ((w, t, ns) :: os) :=
  ⟨x.box, fun y hy b => by
    simp only [List.mem_cons] at hy
    rcases hy with rfl | hy
    · exact .one (ownV_agg_inv (x.o0 b))
    · exact x.own y (by simp [hy]) b, x.nd, x.lt⟩
theorem Cx.agg_mk {t : Bool → AV} (x : Cx h bs ((w, t, ns) :: os)) (ht : ∀ b, (t b).one = true) : Cx h bs ((.agg [w], (fun b => .agg [t b]), ns) :: os) :=
  ⟨x.box, fun y hy b => by
    simp only [List.mem_cons] at hy
    rcases hy with rfl | hy
    · exact .agg (own_of (x.o0 b) (ht b))
    · exact x.own y (by simp [hy]) b, x.nd, x.lt⟩
/-- Other plain cells in the same place. -/
theorem Cx.agg_map {l l' : List AV} {t t' : Bool → List AV} (x : Cx h bs ((.agg l, (fun b => .agg (t b)), ns) :: os)) (f : ∀ b, Own h.rows b l (t b) ns → Own h.rows b l' (t' b) ns) : Cx h bs ((.agg l', (fun b => .agg (t' b)), ns) :: os) :=
  ⟨x.box, fun y hy b => by
    simp only [List.mem_cons] at hy
    rcases hy with rfl | hy
    · exact .agg (f b (ownV_agg_inv (x.o0 b)))
    · exact x.own y (by simp [hy]) b, x.nd, x.lt⟩
theorem Cx.close_row (x : Cx h ((k, ⟨ver, s, es ++ sp⟩) :: bs) ((.agg es.flatten, (fun b => .agg (ts b).flatten), ns) :: os)) (h1 : ∀ e ∈ es, e.length = s) (h2 : ∀ b, (ts b).length = es.length) (h3 : ∀ b, ∀ t ∈ ts b, t.length = s) (h4 : ∀ e ∈ sp, e.length = s) (h5 : ClRow ⟨ver, s, sp⟩) :
    Cx h bs ((.sl k ver 0 es.length, (fun b => .tr b (ts b)), k :: (ns ++ [])) :: os) := by
  have hcl : ClRow ⟨ver, s, es ++ sp⟩ := by
    intro i e j y he hy
    simp only at he
    by_cases hi : i < es.length
    · rw [List.getElem?_append_left hi] at he
      have hm : y ∈ es.flatten := List.mem_flatten.2 ⟨e, List.mem_of_getElem? he, List.mem_of_getElem? hy⟩
      obtain ⟨n, hn⟩ := List.mem_iff_getElem?.1 hm
      exact (ownV_agg_inv (x.o0 true)).cl n y hn
    · rw [List.getElem?_append_right (by omega)] at he
      exact h5 _ e j y he hy
  refine ⟨fun y hy => x.box y (by simp [hy]), fun y hy b => ?_, ?_, fun m hm => x.lt m ?_⟩
  · simp only [List.mem_cons] at hy
    rcases hy with rfl | hy
    · refine .one (.sl k ver es.length s _ (ts b) x.b0 rfl rfl hcl (by simp) (fun e he => ?_) (h2 b) (h3 b) ?_ .nil)
      · simp only [List.mem_append] at he
        exact he.elim (h1 e) (h4 e)
      · simpa using ownV_agg_inv (x.o0 b)
    · exact x.own y (by simp [hy]) b
  · have := x.nd
    simp only [nms, List.map_cons, List.flatten_cons, List.append_nil] at this ⊢
    exact (List.Perm.nodup_iff (by simp)).2 this
  · simp only [nms, List.map_cons, List.flatten_cons, List.append_nil, List.mem_append, List.mem_cons] at hm ⊢
    rcases hm with hm | (hm | hm) | hm
    · exact .inl (.inr hm)
    · exact .inl (.inl hm)
    · exact .inr (.inl hm)
    · exact .inr (.inr hm)
theorem Cx.open_row (x : Cx h bs ((w, (fun b => .tr b (ts b)), ns) :: os)) (hs : 1 < s) (h3 : ∀ b, ∀ t ∈ ts b, t.length = s) (hne : ts true ≠ []) :
    ∃ k ver es sp ns1, w = .sl k ver 0 es.length ∧ ns = k :: (ns1 ++ []) ∧ es.length = (ts true).length ∧ (∀ e ∈ es, e.length = s) ∧ (∀ e ∈ sp, e.length = s) ∧ ClRow ⟨ver, s, sp⟩ ∧ Cx h ((k, ⟨ver, s, es ++ sp⟩) :: bs) ((.agg es.flatten, (fun b => .agg (ts b).flatten), ns1) :: os) := by
  have o := own_of (x.o0 true) rfl
  have o' : ∀ b, Own h.rows b [w] [.tr b (ts b)] ns := fun b => own_of (x.o0 b) rfl
  generalize hw : w = w0 at o
  generalize ht : AV.tr true (ts true) = t0 at o
  cases o with
  | int => cases ht
  | bool => cases ht
  | str => cases ht
  | nilsl => injection ht with _ ht; exact absurd ht hne
  | slo n v pre sp xs =>
    exfalso
    injection ht with _ ht
    have hx : xs ≠ [] := fun e => hne (by rw [ht, e]; rfl)
    obtain ⟨a, l, rfl⟩ := List.exists_cons_of_ne_nil hx
    have := h3 true [.int .i64 a] (by rw [ht]; simp)
    simp at this
    omega
  | @sl _ _ ns1 ns2 n v len s' r ts' g1 g2 g3 g4 g5 g6 g7 g8 g9 g10 =>
    cases g10
    injection ht with _ ht
    subst hw ht
    obtain ⟨v', s2, l⟩ := r
    subst g2 g3
    have hss : s2 = s := by
      obtain ⟨a, l', e⟩ := List.exists_cons_of_ne_nil hne
      have a1 := h3 true a (by rw [e]; simp)
      have a2 := g8 a (by rw [e]; simp)
      simp only at a2
      omega
    subst hss
    have g5' : len ≤ l.length := g5
    have hlen : (l.take len).length = len := by simp only [List.length_take]; omega
    refine ⟨n, v', l.take len, l.drop len, ns1, by rw [hlen], rfl, by rw [hlen]; exact g7.symm, fun e he => g6 e (List.mem_of_mem_take he), fun e he => g6 e (List.mem_of_mem_drop he), fun i e j y he hy => ?_, ?_⟩
    · simp only [List.getElem?_drop] at he
      exact g4 _ e j y he hy
    · rw [List.take_append_drop]
      refine ⟨fun y hy => ?_, fun y hy b => ?_, ?_, fun m hm => x.lt m ?_⟩
      · simp only [List.mem_cons] at hy
        rcases hy with rfl | hy
        · exact g1
        · exact x.box y hy
      · simp only [List.mem_cons] at hy
        rcases hy with rfl | hy
        · refine .agg ?_
          have ob := o' b
          generalize ht2 : AV.tr b (ts b) = t2 at ob
          generalize hn2 : n :: (ns1 ++ []) = nn at ob
          generalize hw2 : AV.sl n v' 0 len = w2 at ob
          cases ob with
          | int => cases hw2
          | bool => cases hw2
          | str => cases hw2
          | nilsl => cases hw2
          | slo n2 v2 pre2 sp2 xs2 q1 q2 q3 q4 q5 q6 =>
            exfalso
            injection hw2 with e1 e2 e3 e4
            subst e1
            rw [g1] at q1
            injection q1 with q1
            injection q1 with _ q1 _
            omega
          | @sl _ _ m1 m2 n2 v2 len2 s2' r2 ts2 q1 q2 q3 q4 q5 q6 q7 q8 q9 q10 =>
            cases q10
            injection ht2 with _ ht2
            injection hw2 with e1 e2 e3 e4
            subst ht2 e1 e4
            rw [g1] at q1
            cases q1
            injection hn2 with _ hn2
            simp only [List.append_nil] at hn2
            subst hn2
            exact q9
        · exact x.own y (by simp [hy]) b
      · have := x.nd
        simp only [nms, List.map_cons, List.flatten_cons, List.append_nil] at this ⊢
        exact (List.Perm.nodup_iff (by simp)).1 this
      · simp only [nms, List.map_cons, List.flatten_cons, List.append_nil, List.mem_append, List.mem_cons] at hm ⊢
        rcases hm with (hm | hm) | hm | hm
        · exact .inr (.inl (.inl hm))
        · exact .inl hm
        · exact .inr (.inl (.inr hm))
        · exact .inr (.inr hm)
/-- A row of plain cells. -/
theorem Cx.open_flat {l : List (List AV)} (x : Cx h bs ((w, (fun b => .tr b l), ns) :: os)) (hf : ∀ e ∈ l, e.length = s ∧ ∀ x ∈ e, flatc x = true) (hs : 1 < s) (hne : l ≠ []) :
    ∃ k ver sp, w = .sl k ver 0 l.length ∧ ns = [k] ∧ (∀ e ∈ sp, e.length = s) ∧ ClRow ⟨ver, s, sp⟩ ∧ Cx h ((k, ⟨ver, s, l ++ sp⟩) :: bs) os := by
  rcases own_row_inv hf hs (own_of (x.o0 true) rfl) with ⟨h0, _⟩ | ⟨n, ver, sp, rfl, rfl, hr, h1, h2⟩
  · exact absurd h0 hne
  · refine ⟨n, ver, sp, rfl, rfl, h1, h2, ?_, fun y hy => x.own y (by simp [hy]), ?_, fun m hm => x.lt m ?_⟩
    · intro y hy
      simp only [List.mem_cons] at hy
      rcases hy with rfl | hy
      · exact hr
      · exact x.box y hy
    · have := x.nd
      simp only [nms, List.map_cons, List.flatten_cons] at this ⊢
      exact (List.Perm.nodup_iff (by simp)).1 this
    · simp only [nms, List.map_cons, List.flatten_cons, List.mem_append, List.mem_cons] at hm ⊢
      rcases hm with (rfl | hm) | hm
      · simp
      · exact .inl hm
      · exact .inr (.inr hm)
theorem Cx.close_flat {l : List (List AV)} (x : Cx h ((k, ⟨ver, s, l ++ sp⟩) :: bs) os) (hf : ∀ e ∈ l, e.length = s ∧ ∀ x ∈ e, flatc x = true) (h1 : ∀ e ∈ sp, e.length = s) (h2 : ClRow ⟨ver, s, sp⟩) :
    Cx h bs ((.sl k ver 0 l.length, (fun b => .tr b l), [k]) :: os) := by
  refine ⟨fun y hy => x.box y (by simp [hy]), fun y hy b => ?_, ?_, fun m hm => x.lt m ?_⟩
  · simp only [List.mem_cons] at hy
    rcases hy with rfl | hy
    · exact .one (own_row_mk x.b0 hf h1 h2)
    · exact x.own y (by simp [hy]) b
  · have := x.nd
    simp only [nms, List.map_cons, List.flatten_cons] at this ⊢
    exact (List.Perm.nodup_iff (by simp)).2 this
  · simp only [nms, List.map_cons, List.flatten_cons, List.mem_append, List.mem_cons] at hm ⊢
    rcases hm with hm | (hm | hm) | hm
    · exact .inl (.inr hm)
    · exact .inl (.inl hm)
    · simp at hm
    · exact .inr hm
theorem fin_own {t : Bool → AV} (x : Cx h' bs ((w, t, ns) :: os)) : ∃ ns, (∀ c, OwnV h'.rows c w (t c) ns) ∧ ns.Nodup ∧ ∀ n ∈ ns, n.1 < h'.tick := ⟨ns, x.o0, x.nodup, x.lts⟩
end
end Go.Proofs.YtmcmgeedhbgglaaDoor.AM

namespace Go.Proofs.YtmcmgeedhbgglaaDoor.AM
open Go.RowKit

theorem rg2 : List.range 2 = [0, 1] := by decide
theorem rg3 : List.range 3 = [0, 1, 2] := by decide
theorem rg4 : List.range 4 = [0, 1, 2, 3] := by decide
theorem rg6 : List.range 6 = [0, 1, 2, 3, 4, 5] := by decide
theorem rg12 : List.range 12 = [0, 1, 2, 3, 4, 5, 6, 7, 8, 9, 10, 11] := by decide
/-- Texts in a slice. -/
def strs (b : Bool) (l : List ByteArray) : AV := .tr b (l.map fun x => [.str x])
@[simp] theorem one_strs (b : Bool) (xs : List ByteArray) : (strs b xs).one = true := rfl
@[simp] theorem stored_strs (b : Bool) (xs : List ByteArray) : (strs b xs).stored = true := rfl
@[simp] theorem cells_strs (b : Bool) (xs : List ByteArray) : (strs b xs).cells = [strs b xs] := rfl
theorem lenA_strs {P : Program} {t : TypeId} (b : Bool) (xs : List ByteArray) (h : (telem P t).isSome = true) : lenA P t (strs b xs) = some (.int .i64 xs.length) := by
  unfold strs
  rw [lenA_tr b _ h]
  simp
attribute [simp] lenA_strs
theorem dr_strs {c b : Bool} {rows : Nm → Option Row} (hb : b = true → c = true) (l : List ByteArray) : DR c rows (strs b l) (strs c l) := dr_trflat hb fun e he x hx => by
  simp at he; obtain ⟨a, _, rfl⟩ := he; simp at hx; subst hx; rfl
theorem dr_strs_sl {c : Bool} {rows : Nm → Option Row} {n : Nm} {l : List ByteArray} (h : rows n = some ⟨0, 1, l.map fun x => [.str x]⟩) : DR c rows (.sl n 0 0 l.length) (strs c l) := by
  refine .sl n 0 0 l.length _ _ h rfl (by simp) (by simp) (fun i e t he ht => ?_) (fun i e t j x y he ht hx hy => ?_)
  · simp only [Nat.zero_add] at he
    rw [he] at ht; cases ht; rfl
  · simp only [Nat.zero_add] at he
    rw [he] at ht; cases ht
    rw [hx] at hy; cases hy
    simp at he; obtain ⟨a, _, rfl⟩ := he
    match j, hx with
    | 0, hx => simp at hx; subst hx; exact .str _

theorem take_snoc {α : Type} {l : List α} {i : Nat} (hi : i < l.length) : l.take (i + 1) = l.take i ++ [l[i]] := by
  rw [List.take_add_one, List.getElem?_eq_getElem hi]; rfl
/-- A row of plain cells, read as data. -/
theorem dr_flat_sl {c : Bool} {rows : Nm → Option Row} {n : Nm} {ver s : Nat} {l : List (List AV)} {sp : List (List AV)} (h : rows n = some ⟨ver, s, l ++ sp⟩) (hf : ∀ e ∈ l, ∀ x ∈ e, flatc x = true) : DR c rows (.sl n ver 0 l.length) (.tr c l) := by
  have hg : ∀ i, i < l.length → (l ++ sp)[0 + i]? = l[i]? := fun i hi => by rw [Nat.zero_add, List.getElem?_append_left hi]
  refine .sl n ver 0 l.length _ _ h rfl (by simp) rfl (fun i e t he ht => ?_) (fun i e t j x y he ht hx hy => ?_)
  · have hi : i < l.length := (List.getElem?_eq_some_iff.1 ht).1
    rw [hg i hi] at he
    rw [he] at ht; cases ht; rfl
  · have hi : i < l.length := (List.getElem?_eq_some_iff.1 ht).1
    rw [hg i hi] at he
    rw [he] at ht; cases ht
    rw [hx] at hy; cases hy
    exact dr_flatc (hf e (List.mem_of_getElem? he) x (List.mem_of_getElem? hx))
def FL (s : Nat) (l : List (List AV)) (w : AV) (b : Bx) : Prop :=
  (w = .nilsl ∧ l = [] ∧ b = []) ∨ ∃ k ver sp, w = .sl k ver 0 l.length ∧ (∀ e ∈ sp, e.length = s ∧ ∀ x ∈ e, flatc x = true) ∧ b = [(k, ⟨ver, s, l ++ sp⟩)]
theorem FL.one {s : Nat} {l : List (List AV)} {w : AV} {b : Bx} (f : FL s l w b) : w.one = true ∧ w.stored = true ∧ w.cells = [w] := by
  rcases f with ⟨rfl, _, _⟩ | ⟨k, ver, sp, rfl, _, _⟩ <;> exact ⟨rfl, rfl, rfl⟩
theorem FL.nil {s : Nat} : FL s [] .nilsl [] := .inl ⟨rfl, rfl, rfl⟩
theorem FL.mt {s : Nat} {k : Nm} {ver : Nat} : FL s [] (.sl k ver 0 0) [(k, ⟨ver, s, []⟩)] := .inr ⟨k, ver, [], rfl, by simp, rfl⟩
theorem FL.dr {s : Nat} {l : List (List AV)} {w : AV} {b : Bx} {h : Hp} {c : Bool} (f : FL s l w b) (hf : ∀ e ∈ l, ∀ x ∈ e, flatc x = true) (x : ∀ y ∈ b, h.rows y.1 = some y.2) : DR c h.rows w (.tr c l) := by
  rcases f with ⟨rfl, rfl, rfl⟩ | ⟨k, ver, sp, rfl, _, rfl⟩
  · exact .nilsl
  · exact dr_flat_sl (s := s) (x (k, _) (List.mem_singleton.2 rfl)) hf
theorem appendA_room {P : Program} {t : TypeId} {m n k : Nm} {v vk s len : Nat} {h : Hp} {l sp : List (List AV)} {e e0 : List AV} (h0 : ((telem P t).bind fun e => (tsz P e).bind fun s => (tby P e).bind fun bb => (tzero P e).bind fun z => some (s, decide (0 < s ∧ bb ≤ 32768 ∧ z.length = s))) = some (s, true))
    (hr : h.rows m = some ⟨v, s, l ++ e0 :: sp⟩) (hlen : l.length = len) (hk : h.rows k = some ⟨vk, s, [e]⟩) (he : e.length = s) (hl : len + 1 ≤ 4294967296) (hm : m.1 < h.tick) :
    appendA P t (.sl m v 0 len) (.sl k vk 0 1) h n = some (.sl m v 0 (len + 1), h.put m ⟨v, s, (l ++ [e]) ++ sp⟩) := by
  simp only [Option.bind_eq_some_iff] at h0
  obtain ⟨e', he', s', hs, bb, hb, z, hz, hd⟩ := h0
  simp only [Option.some.injEq, Prod.mk.injEq, decide_eq_true_eq] at hd
  obtain ⟨e1, hd1, hd2, hd3⟩ := hd
  rw [e1] at hs hd1 hd3
  subst hlen
  unfold appendA
  have hsrc : srcElems h.rows (.sl k vk 0 1) = some [e] := by simp [srcElems, hk]
  rw [he', hsrc]
  simp only [hs, hb, hz]
  have a1 : (l ++ e0 :: sp).take l.length = l := by simp
  have a2 : (l ++ e0 :: sp).drop (l.length + 1) = sp := by rw [show l ++ e0 :: sp = (l ++ [e0]) ++ sp by simp]; exact List.drop_left' (by simp)
  have a3 : l.length ≤ (l ++ e0 :: sp).length := by simp
  have a4 : l.length + 1 ≤ (l ++ e0 :: sp).length := by simp
  simp only [List.length_append, List.length_cons] at a3 a4
  simp [he, hd1, hd2, hd3, hr, hl, hm, a1, a2, a3, a4]
theorem Cx.to_front {h : Hp} {fs b bs : Bx} {os : Ox} (x : Cx h (fs ++ (b ++ bs)) os) : Cx h (b ++ (fs ++ bs)) os := x.bperm (List.perm_append_comm_assoc fs b bs)
theorem FL.app {P : Program} {t : TypeId} {s : Nat} {l : List (List AV)} {w : AV} {b bs : Bx} {os : Ox} {h : Hp} {k n : Nm} {vk : Nat} {e : List AV} (h0 : ((telem P t).bind fun e => (tsz P e).bind fun s => (tby P e).bind fun bb => (tzero P e).bind fun z => some (s, decide (0 < s ∧ bb ≤ 32768 ∧ z.length = s))) = some (s, true))
    (f : FL s l w b) (x : Cx h (b ++ bs) os) (hk : h.rows k = some ⟨vk, s, [e]⟩) (he : e.length = s) (hl : l.length + 1 ≤ 4294967296) (hn : n ∉ nms (b ++ bs) os) (ht : n.1 < h.tick) :
    ∃ w' b' h', appendA P t w (.sl k vk 0 1) h n = some (w', h') ∧ FL s (l ++ [e]) w' b' ∧ Cx h' (b' ++ bs) os ∧ h'.tick = h.tick ∧ (w'.one = true ∧ w'.stored = true ∧ w'.cells = [w']) := by
  rcases f with ⟨rfl, rfl, rfl⟩ | ⟨m, ver, sp, rfl, hsp, rfl⟩
  · exact ⟨_, [(n, ⟨0, s, [e]⟩)], _, appendA_nil1 h0 hk he, .inr ⟨n, 0, [], rfl, fun e he => by (cases he), rfl⟩, x.box_add hn ht, rfl, rfl, rfl, rfl⟩
  · have ltm := x.lt m (mem_box (x := (m, _)) (List.mem_cons_self ..))
    cases sp with
    | nil =>
      refine ⟨_, [(m, ⟨ver + 1, s, l ++ [e]⟩)], _, appendA_snoc h0 (by simpa using x.b0) rfl hk he hl (decide_eq_true ltm), .inr ⟨m, ver + 1, [], by simp, fun e he => by (cases he), by simp⟩, x.box_set, rfl, rfl, rfl, rfl⟩
    | cons e0 sp =>
      exact ⟨_, [(m, ⟨ver, s, (l ++ [e]) ++ sp⟩)], _, appendA_room h0 x.b0 rfl hk he hl ltm, .inr ⟨m, ver, sp, by simp, fun e he => hsp e (by simp [he]), rfl⟩, x.box_set, rfl, rfl, rfl, rfl⟩
/-- The step of an append. -/
theorem ev2_app {P : Program} {t : TypeId} {s : Nat} {l : List (List AV)} {w : AV} {fs b bs : Bx} {os : Ox} {h : Hp} {k n : Nm} {vk : Nat} {e : List AV} {N : AV → Hp → Prop} (h0 : ((telem P t).bind fun e => (tsz P e).bind fun s => (tby P e).bind fun bb => (tzero P e).bind fun z => some (s, decide (0 < s ∧ bb ≤ 32768 ∧ z.length = s))) = some (s, true))
    (f : FL s l w b) (x : Cx h (fs ++ (b ++ bs)) os) (hk : h.rows k = some ⟨vk, s, [e]⟩) (he : e.length = s) (hl : l.length + 1 ≤ 4294967296) (hn : n ∉ nms (fs ++ (b ++ bs)) os) (ht : n.1 < h.tick)
    (kk : ∀ w' b' h', FL s (l ++ [e]) w' b' → Cx h' (fs ++ (b' ++ bs)) os → h'.tick = h.tick → (w'.one = true ∧ w'.stored = true ∧ w'.cells = [w']) → N w' h') : Ev2 (appendA P t w (.sl k vk 0 1) h n) N := by
  have y := x.to_front
  obtain ⟨w', b', h', ea, fl, z, tk, q⟩ := FL.app (n := n) h0 f y hk he hl (fun e => hn (by
    simp only [nms, List.map_append, List.mem_append] at e ⊢
    rcases e with (e | e | e) | e
    · exact .inl (.inr (.inl e))
    · exact .inl (.inl e)
    · exact .inl (.inr (.inr e))
    · exact .inr e)) ht
  rw [ea]
  exact kk w' b' h' fl z.to_front tk q
theorem Cx.new_nin {h : Hp} {bs : Bx} {os : Ox} {T i : Nat} (x : Cx h bs os) (hT : h.tick ≤ T) : (T, i, 0) ∉ nms bs os := fun e => by
  have := x.lt _ e
  simp only at this
  omega
theorem FL.own {s : Nat} {l : List (List AV)} {w : AV} {b bs : Bx} {os : Ox} {h : Hp} (f : FL s l w b) (hf : ∀ e ∈ l, e.length = s ∧ ∀ x ∈ e, flatc x = true) (x : Cx h (b ++ bs) os) : ∃ ns, Cx h bs ((w, (fun c => .tr c l), ns) :: os) := by
  rcases f with ⟨rfl, rfl, rfl⟩ | ⟨k, ver, sp, rfl, hsp, rfl⟩
  · exact ⟨[], x.add_own (fun b => .one (.nilsl .nil)) .nil (fun n hn => by cases hn) (fun n _ => rfl) (Nat.le_refl _)⟩
  · exact ⟨[k], Cx.close_flat x hf (fun e he => (hsp e he).1) (clRow_flat fun e he => (hsp e he).2)⟩
/-- What a piece of code brings about, and no more of it. -/
theorem st_cut {P : Program} {M : FuncId → Mode} {σ : Nat → AV} {h : Hp} {K : Ex → (Nat → AV) → Hp → Prop} {a : Code} (R : (Nat → AV) → Hp → Prop) (w : wpC P M (Sound P) (drawW2 P M (Sound P)) a σ h (fun e σ' h' => e = .normal ∧ R σ' h')) (k : ∀ σ' h', R σ' h' → K .normal σ' h') : wpC P M (Sound P) (drawW2 P M (Sound P)) a σ h K :=
  wpC_mono Sound.le drawW_le a σ h _ _ (fun e σ' h' hr => by obtain ⟨rfl, hr⟩ := hr; exact k _ _ hr) w
theorem clearA_at {P : Program} {t : TypeId} {n : Nm} {v off len s : Nat} {h : Hp} {pre mid post : List (List AV)} {z : List AV} (h0 : ((telem P t).bind fun e => (tsz P e).bind fun s => (tzero P e).bind fun z => some (s, z, decide (z.length = s ∧ 0 < s ∧ ones z = true))) = some (s, z, true))
    (hr : h.rows n = some ⟨v, s, pre ++ (mid ++ post)⟩) (hp : pre.length = off) (hm : mid.length = len) (ht : n.1 < h.tick) : clearA P t (.sl n v off len) h = some (h.put n ⟨v, s, pre ++ (List.replicate len z ++ post)⟩) := by
  simp only [Option.bind_eq_some_iff] at h0
  obtain ⟨e, he, s', hs, z', hz, hd⟩ := h0
  simp only [Option.some.injEq, Prod.mk.injEq, decide_eq_true_eq] at hd
  obtain ⟨rfl, rfl, hd⟩ := hd
  unfold clearA
  simp only [he, lenOfA, hs, hz]
  subst hp hm
  by_cases h0 : mid.length = 0
  · rw [if_pos h0]
    have : mid = [] := List.eq_nil_of_length_eq_zero h0
    subst this
    congr 1
    exact (hp_put_same (by simpa using hr)).symm
  · rw [if_neg h0, if_pos hd]
    have e1 : (pre ++ (mid ++ post)).take pre.length = pre := by simp
    have e2 : (pre ++ (mid ++ post)).drop (pre.length + mid.length) = post := by rw [← List.append_assoc]; exact List.drop_left' (by simp)
    simp only [overA, hr]
    rw [if_pos ⟨trivial, trivial, by simp, by simp, ht⟩]
    simp only [e1, List.length_replicate, e2, List.append_assoc]
end Go.Proofs.YtmcmgeedhbgglaaDoor.AM

namespace Go.Proofs.YtmcmgeedhbgglaaDoor.AM
open Go.RowKit

private def MU2 : FuncId → Mode := fun f => if f = 27 then .fresh else if f = 999999 then .heap else .tree

def psum (xs : List (List Int)) (i : Nat) : Nat := ((List.take i xs).map List.length).sum
def wtSS (l : List (List Int)) : Nat := l.length + psum l l.length
theorem psum_zero (xs : List (List Int)) : psum xs 0 = 0 := by simp [psum]
theorem psum_succ (l : List (List Int)) (i : Nat) (h : i < l.length) : psum l (i + 1) = psum l i + l[i].length := by
  unfold psum
  rw [List.take_add_one, List.map_append, List.sum_append]
  simp [h]
theorem psum_le (l : List (List Int)) (i : Nat) : psum l i ≤ psum l l.length := by
  unfold psum
  rw [List.take_length, ← List.take_append_drop i (l.map List.length), List.sum_append, List.map_take]
  omega

theorem szIntSS (xs : List (List Int)) (left : Int) (h1 : 0 ≤ left) (h2 : left ≤ 2 ^ 20) (hm : xs.length ≤ maxLen) (hm2 : ∀ x ∈ xs, x.length ≤ maxLen) : Pure Tryd.prog 22 [intss true xs, .int .i64 left] (.int .i64 (if left < wtSS xs then -1 else left - wtSS xs)) := by
  intro T
  have hw : IntKind.i64.wrap (left - xs.length) = left - xs.length := wrap_id (by simp [maxLen] at hm; omega) (by omega)
  refine enter mixed MU2 Tryd.func22 rfl (by kernel_rfl) rfl ?_
  repeat' (first | (with_reducible first | refine stp ?_ | refine k_blk_o rfl ?_ | refine k_seq_n ?_) | ((try (conv => arg 1; simp [intss, hw])); with_reducible refine evp ?_) | fail)
  (try with_reducible refine st_if ?_)
  (try (conv => arg 1; simp [intss]))
  (try with_reducible refine at_mk ?_)
  refine ⟨fun hb => ?_, fun hb => ?_⟩
  · have : left < wtSS xs := by simp at hb; simp [wtSS]; omega
    repeat' (first | (with_reducible first | refine stp ?_ | refine k_blk_o rfl ?_ | refine k_seq_n ?_) | ((try (conv => arg 1; simp [intss])); with_reducible refine evp ?_) | fail)
    rw [if_pos this]; exact .int _ _
  have hle : (xs.length : Int) ≤ left := by simp at hb; omega
  repeat' (first | (with_reducible first | refine stp ?_ | refine k_blk_o rfl ?_ | refine k_seq_n ?_) | ((try (conv => arg 1; simp [intss])); with_reducible refine evp ?_) | fail)
  refine st_loop (fun (i : Nat) σ h => i ≤ xs.length ∧ σ 0 = intss true xs ∧ σ 1 = .int .i64 (left - xs.length - psum xs i) ∧ σ 5 = .int .i64 i ∧ xs.length + psum xs i ≤ left) (fun i => xs.length - i) 0 ?init ?step
  case init =>
    simp [putA_get, envOf_0, opd, avc, avc1, psum_zero]
    exact hle
  case step =>
    rintro i σ h ⟨hi, h0, h1', h5, hs⟩
    repeat' (first | (with_reducible first | refine stp ?_ | refine k_blk_o rfl ?_ | refine k_seq_n ?_) | ((try (conv => arg 1; simp [intss, h0, h5])); with_reducible refine evp ?_) | fail)
    (try with_reducible refine st_if ?_)
    (try (conv => arg 1; simp [intss]))
    (try with_reducible refine at_mk ?_)
    refine ⟨fun hb => ?_, fun hb => ?_⟩
    · have hlt : i < xs.length := by simpa using hb
      have hx : xs[i]? = some (xs[i]) := by simp
      have hw2 : IntKind.i64.wrap (i + 1) = i + 1 := wrap_id (by omega) (by simp [maxLen] at hm; omega)
      repeat' (first | (with_reducible first | refine stp ?_ | refine k_blk_o rfl ?_ | refine k_seq_n ?_) | ((try (conv => arg 1; simp [intss, h0, h1', h5, hx])); with_reducible refine evp ?_) | fail)
      refine st_tree rfl (szIntS xs[i] _ (by omega) (by omega) (hm2 _ (List.getElem_mem hlt))) (.cons (dr_ints (by simp) _) (.cons (.int _ _) .nil)) ?_
      repeat' (first | (with_reducible first | refine stp ?_ | refine k_blk_o rfl ?_ | refine k_seq_n ?_) | ((try (conv => arg 1; simp [h0])); with_reducible refine evp ?_) | fail)
      (try with_reducible refine st_if ?_)
      (try (conv => arg 1; simp [h0]))
      (try with_reducible refine at_mk ?_)
      refine ⟨fun hb => ?_, fun hb => ?_⟩
      · have hlt2 : left < wtSS xs := by
          have a1 := psum_succ xs i hlt
          have a2 := psum_le xs (i + 1)
          simp only [wtSS]
          simp at hb
          split at hb <;> omega
        repeat' (first | (with_reducible first | refine stp ?_ | refine k_blk_o rfl ?_ | refine k_seq_n ?_) | ((try (conv => arg 1; simp [h0])); with_reducible refine evp ?_) | fail)
        rw [if_pos hlt2]; exact .int _ _
      · have hge : ¬ (left - xs.length - psum xs i < xs[i].length) := by
          intro hh
          rw [if_pos hh] at hb
          simp at hb
        repeat' (first | (with_reducible first | refine stp ?_ | refine k_blk_o rfl ?_ | refine k_seq_n ?_) | ((try (conv => arg 1; simp [h0, h5, hw2])); with_reducible refine evp ?_) | fail)
        refine k_lp_n (i + 1) (by omega) ⟨by omega, by simp [putA_get, putA_none, h0], ?_, by simp [putA_get, putA_none, h5], ?_⟩
        · rw [psum_succ xs i hlt]
          simp [putA_get, if_neg hge]
          omega
        · rw [psum_succ xs i hlt]
          omega
    · have hge : i = xs.length := by simp at hb; omega
      subst hge
      have : ¬ left < wtSS xs := by simp only [wtSS]; omega
      repeat' (first | (with_reducible first | refine stp ?_ | refine k_blk_o rfl ?_ | refine k_seq_n ?_) | ((try (conv => arg 1; simp [h0, h1'])); with_reducible refine evp ?_) | fail)
      rw [if_neg this]
      have e : left - xs.length - (psum xs xs.length : Nat) = left - (wtSS xs : Nat) := by simp only [wtSS]; omega
      simp only [resV]
      rw [e]
      exact .int _ _

theorem eqIntSS (xs : List (List Int)) (hl : xs.length ≤ 2 ^ 62) (hl2 : ∀ x ∈ xs, x.length ≤ 2 ^ 62) : Pure Tryd.prog 35 [intss true xs, intss true xs] (.bool true) := by
  intro T
  refine enter mixed MU2 Tryd.func35 rfl (by kernel_rfl) rfl ?_
  repeat' (first | (with_reducible first | refine stp ?_ | refine k_blk_o rfl ?_ | refine k_seq_n ?_) | ((try (conv => arg 1; simp [intss])); with_reducible refine evp ?_) | fail)
  repeat' (first | (with_reducible first | refine stp ?_ | refine k_blk_o rfl ?_ | refine k_seq_n ?_) | ((try (conv => arg 1; simp [intss])); with_reducible refine evp ?_) | fail)
  refine st_loop (fun (i : Nat) σ h => i ≤ xs.length ∧ σ 0 = intss true xs ∧ σ 1 = intss true xs ∧ σ 5 = .int .i64 i) (fun i => xs.length - i) 0 ?init ?step
  case init =>
    simp [putA_get, envOf_0, envOf_1]
  case step =>
    rintro i σ h ⟨hi, h0, h1, h5⟩
    repeat' (first | (with_reducible first | refine stp ?_ | refine k_blk_o rfl ?_ | refine k_seq_n ?_) | ((try (conv => arg 1; simp [intss, h0, h5])); with_reducible refine evp ?_) | fail)
    (try with_reducible refine st_if ?_)
    (try (conv => arg 1; simp [intss]))
    (try with_reducible refine at_mk ?_)
    refine ⟨fun hb => ?_, fun hb => ?_⟩
    · have hlt : i < xs.length := by simpa using hb
      have hx : xs[i]? = some (xs[i]) := by simp
      have hw : IntKind.i64.wrap (i + 1) = i + 1 := wrap_id (by omega) (by omega)
      repeat' (first | (with_reducible first | refine stp ?_ | refine k_blk_o rfl ?_ | refine k_seq_n ?_) | ((try (conv => arg 1; simp [intss])); with_reducible refine evp ?_) | fail)
      repeat (with_reducible first | refine stp ?_ | refine k_seq_n ?_)
      refine st_draw 10 (fun _ => false) (by kernel_rfl) ?_
      simp only [List.take_succ_cons, List.take_zero, List.drop_succ_cons, List.drop_zero, List.take_nil, List.drop_nil]
      repeat' (first | (with_reducible first | refine stp ?_ | refine k_blk_o rfl ?_ | refine k_seq_n ?_) | ((try (conv => arg 1; simp [intss, h0, h1, h5, hx])); with_reducible refine evp ?_) | ((with_reducible refine apn ?na ?_); (case na => simp [appNames, ints, intss] <;> first | kernel_rfl | (refine ⟨?_, ?_⟩ <;> kernel_rfl))) | fail)
      refine treeW_pure (eqIntS xs[i] (hl2 _ (List.getElem_mem hlt))) (.cons (dr_ints (by simp) _) (.cons (dr_ints (by simp) _) .nil)) ?_
      repeat' (first | (with_reducible first | refine stp ?_ | refine k_blk_o rfl ?_ | refine k_seq_n ?_) | ((try (conv => arg 1; simp [h0])); with_reducible refine evp ?_) | ((with_reducible refine apn ?na ?_); (case na => simp [appNames, ints, intss] <;> first | kernel_rfl | (refine ⟨?_, ?_⟩ <;> kernel_rfl))) | fail)
      repeat' (first | (with_reducible first | refine stp ?_ | refine k_blk_o rfl ?_ | refine k_seq_n ?_) | ((try (conv => arg 1; simp [h5, hw])); with_reducible refine evp ?_) | ((with_reducible refine apn ?na ?_); (case na => simp [appNames, ints, intss] <;> first | kernel_rfl | (refine ⟨?_, ?_⟩ <;> kernel_rfl))) | fail)
      refine k_lp_n (i + 1) (by omega) ⟨by omega, by simp [putA_get, putA_none, h0], by simp [putA_get, putA_none, h1], by simp [putA_get, putA_none, h5]⟩
    · skip
      repeat' (first | (with_reducible first | refine stp ?_ | refine k_blk_o rfl ?_ | refine k_seq_n ?_) | ((try (conv => arg 1; simp [ints])); with_reducible refine evp ?_) | ((with_reducible refine apn ?na ?_); (case na => simp [appNames, ints, intss] <;> first | kernel_rfl | (refine ⟨?_, ?_⟩ <;> kernel_rfl))) | fail)
      exact .bool true

theorem ownV_intss {rows : Nm → Option Row} {c : Bool} {v : AV} {xs : List (List Int)} {ns : List Nm} (h : OwnV rows c v (intss c xs) ns) : Own rows c [v] [intss c xs] ns := by
  cases h with
  | one h => exact h

theorem flat1 {α : Type} : ∀ l : List α, (l.map fun v => [v]).flatten = l
  | [] => rfl
  | a :: l => by simp [flat1 l]

/-- Rows of slices, the first 'i' of them there already. -/
theorem toIntSS (xs : List (List Int)) (hl : xs.length ≤ 2 ^ 20) (hl2 : ∀ x ∈ xs, x.length ≤ 2 ^ 20) : Fresh Tryd.prog 28 [intss true xs] (fun c => intss c xs) := by
  intro T
  have hln : (xs.length : Int) ≤ 4294967296 := by omega
  refine enter mixed MU2 Tryd.func28 rfl (by kernel_rfl) rfl ?_
  repeat' (first | (with_reducible first | refine stp ?_ | refine k_blk_o rfl ?_ | refine k_seq_n ?_) | ((try (conv => arg 1; simp [intss, hln])); with_reducible refine evp ?_) | fail)
  refine st_loop (fun (i : Nat) σ h => i ≤ xs.length ∧ σ 0 = intss true xs ∧ σ 3 = .sl (T + 1, 2, 0) 0 0 xs.length ∧ σ 4 = .int .i64 i ∧ T + 1 < h.tick ∧ ∃ (vs : List AV) (ns : List Nm), vs.length = i ∧ h.rows (T + 1, 2, 0) = some ⟨0, 1, vs.map (fun v => [v]) ++ List.replicate (xs.length - i) [.nilsl]⟩ ∧
    (∀ c, Own h.rows c vs ((xs.take i).map (ints c)) ns) ∧ ns.Nodup ∧ ∀ n ∈ ns, T + 1 < n.1 ∧ n.1 < h.tick) (fun i => xs.length - i) 0 ?init ?step
  case init =>
    exact ⟨Nat.zero_le _, by simp [putA_get, envOf_0], by simp [putA_get, opd], by simp [putA_get, opd, avc, avc1], by simp [hp_next_tick, hp_put_tick, hp_mt_tick], [], [], rfl, by simp [hp_next_rows, hp_rows_put], fun c => .nil, by simp, by simp⟩
  case step =>
    rintro i σ h ⟨hi, h0, h3, h4, ht, vs, ns, hv, hr, ho, hnd, hns⟩
    repeat' (first | (with_reducible first | refine stp ?_ | refine k_blk_o rfl ?_ | refine k_seq_n ?_) | ((try (conv => arg 1; simp [intss, h0, h3, h4, hr])); with_reducible refine evp ?_) | fail)
    (try with_reducible refine st_if ?_)
    (try (conv => arg 1; simp [h0]))
    (try with_reducible refine at_mk ?_)
    refine ⟨fun hb => ?_, fun hb => ?_⟩
    · have hlt : i < xs.length := by simpa using hb
      have hx : xs[i]? = some (xs[i]) := by simp
      have hw : IntKind.i64.wrap (i + 1) = i + 1 := wrap_id (by omega) (by omega)
      repeat' (first | (with_reducible first | refine stp ?_ | refine k_blk_o rfl ?_ | refine k_seq_n ?_) | ((try (conv => arg 1; simp [intss, h0, h3, h4, hr, hlt, hx])); with_reducible refine evp ?_) | fail)
      refine st_fresh rfl (toIntS xs[i] (hl2 _ (List.getElem_mem hlt))) (.cons (dr_ints (by simp) _) .nil) ?_
      intro v h' ns' o1 d1 f1 p1 t1
      have q := own_one (ownV_ints (o1 true))
      have t2 : h.tick + 1 + 1 ≤ h'.tick := t1
      have hr' : h'.rows (T + 1, 2, 0) = some ⟨0, 1, vs.map (fun v => [v]) ++ List.replicate (xs.length - i) [.nilsl]⟩ := by
        rw [p1 _ (show T + 1 < h.tick + 1 + 1 by omega)]
        exact hr
      have hel : (vs.map (fun v => [v]) ++ List.replicate (xs.length - i) [AV.nilsl])[i]? = some [.nilsl] := by
        rw [List.getElem?_append_right (by simp [hv]), show xs.length - i = (xs.length - i - 1) + 1 by omega, List.replicate_succ]
        simp [hv]
      have ht2 : T + 1 < h'.tick := by omega
      repeat' (first | (with_reducible first | refine stp ?_ | refine k_blk_o rfl ?_ | refine k_seq_n ?_) | ((try (conv => arg 1; simp [h3, h4, hr', hlt, hel, ht2, q.2.1, q.2.2, hw])); with_reducible refine evp ?_) | fail)
      refine k_lp_n (i + 1) (by omega) ⟨by omega, by simp [putA_get, putA_none, h0], by simp [putA_get, putA_none, h3], by simp [putA_get, putA_none, h4], by simp [hp_next_tick, hp_put_tick, hp_mt_tick]; omega, vs ++ [v], ns ++ ns', by simp [hv], ?_, fun c => ?_, ?_, ?_⟩
      · simp only [hp_next_rows, hp_rows_put, if_true, List.map_append, List.map_cons, List.map_nil, List.append_assoc]
        congr 2
        rw [List.set_append_right _ _ (by simp [hv])]
        simp only [List.length_map, hv, Nat.sub_self]
        congr 1
        rw [show xs.length - i = (xs.length - (i + 1)) + 1 by omega, List.replicate_succ]
        rfl
      · rw [List.take_add_one, hx]
        simp only [Option.toList_some, List.map_append, List.map_cons, List.map_nil]
        refine Own.append ((ho c).congr fun n hn => ?_) ((ownV_ints (o1 c)).congr fun n hn => ?_)
        · have a := hns n hn
          have hne : n ≠ (T + 1, 2, 0) := fun e => by rw [e] at a; exact absurd a.1 (Nat.lt_irrefl _)
          simp only [hp_next_rows, hp_rows_put, if_neg hne]
          exact p1 n (show n.1 < h.tick + 1 + 1 by omega)
        · have a : h.tick + 1 + 1 ≤ n.1 := (f1 n hn).1
          have hne : n ≠ (T + 1, 2, 0) := fun e => by rw [e] at a; simp at a; omega
          simp only [hp_next_rows, hp_rows_put, if_neg hne]
      · refine List.nodup_append.2 ⟨hnd, d1, fun a ha b hb e => ?_⟩
        subst e
        have a1 := hns a ha
        have a2 : h.tick + 1 + 1 ≤ a.1 := (f1 a hb).1
        omega
      · intro n hn
        simp only [hp_next_tick, hp_put_tick, hp_mt_tick]
        rcases List.mem_append.1 hn with h1 | h1
        · have := hns n h1; omega
        · have a2 : h.tick + 1 + 1 ≤ n.1 := (f1 n h1).1
          have := (f1 n h1).2
          omega
    · have hge : i = xs.length := by simp at hb; omega
      repeat' (first | (with_reducible first | refine stp ?_ | refine k_blk_o rfl ?_ | refine k_seq_n ?_) | ((try (conv => arg 1; simp [h0, h3, h4, hr])); with_reducible refine evp ?_) | fail)
      subst hge
      refine ⟨by simp [hp_next_tick]; omega, (T + 1, 2, 0) :: (ns ++ []), fun c => .one ?_, ?_, ?_⟩
      · simp only [resV, intss]
        refine .sl (T + 1, 2, 0) 0 xs.length 1 _ _ (by simpa [hp_next_rows] using hr) rfl rfl (fun i e j x he hx => ?_) (by simp [hv]) (fun e he => ?_) (by simp) (fun e he => ?_) ?_ .nil
        · simp at he
          obtain ⟨a, h1, rfl⟩ := he
          match j, hx with
          | 0, hx => simp at hx; subst hx; exact (ho true).cl i a h1
        · simp at he; obtain ⟨a, _, rfl⟩ := he; rfl
        · simp at he; obtain ⟨a, _, rfl⟩ := he; rfl
        · have e1 : (List.take xs.length (vs.map (fun v => [v]) ++ List.replicate (xs.length - xs.length) [AV.nilsl])).flatten = vs := by
            simp [List.take_of_length_le (Nat.le_of_eq (show (vs.map fun v => [v]).length = xs.length by simp [hv]))]
            exact flat1 vs
          have e2 : (xs.map fun x => [ints c x]).flatten = (xs.take xs.length).map (ints c) := by
            rw [List.take_of_length_le (Nat.le_refl _), ← flat1 (xs.map (ints c)), List.map_map]
            rfl
          rw [e2]
          have e3 := (ho c).congr (rows' := h.next.next.rows) fun n _ => by simp [hp_next_rows]
          rw [← e1] at e3
          simpa using e3
      · simp only [List.append_nil]
        refine List.nodup_cons.2 ⟨fun hm => ?_, hnd⟩
        have a := (hns _ hm).1
        exact absurd a (Nat.lt_irrefl _)
      · intro n hn
        simp only [List.append_nil, List.mem_cons] at hn
        simp only [hp_next_tick]
        rcases hn with rfl | hn
        · simp; omega
        · have := hns n hn; omega
end Go.Proofs.YtmcmgeedhbgglaaDoor.AM

namespace Go.Proofs.YtmcmgeedhbgglaaDoor.AM
open Go.RowKit

private def MU3 : FuncId → Mode := fun f => if f = 999999 then .heap else .tree

def marksSS : Int → List (List Int) → List (List Int)
  | _, [] => []
  | k, x :: xs => marks k x.length :: marksSS (k + x.length) xs
theorem marksSS_length : ∀ (k : Int) (xs : List (List Int)), (marksSS k xs).length = xs.length
  | _, [] => rfl
  | k, x :: xs => by simp [marksSS, marksSS_length]
theorem psum_cons (x : List Int) (xs : List (List Int)) (i : Nat) : psum (x :: xs) (i + 1) = x.length + psum xs i := by simp [psum]
theorem marksSS_get : ∀ (k : Int) (xs : List (List Int)) (i : Nat) (h : i < xs.length), (marksSS k xs)[i]? = some (marks (k + psum xs i) xs[i].length)
  | k, x :: xs, 0, h => by simp [marksSS, psum_zero]
  | k, x :: xs, i + 1, h => by
    simp only [marksSS, List.getElem?_cons_succ, List.getElem_cons_succ]
    rw [marksSS_get _ xs i (by simpa using h), psum_cons]
    congr 2
    simp
    omega

theorem own_intss_inv {rows : Nm → Option Row} {a : AV} {xs : List (List Int)} {ns : List Nm} (h : Own rows true [a] [intss true xs] ns) :
    (xs = [] ∧ (∀ c, Own rows c [a] [intss c []] ns) ∧ ((a = .nilsl ∧ ns = []) ∨ ∃ n ver off, a = .sl n ver off 0 ∧ ns = [n])) ∨
    (∃ n ver vs sp ns1, a = .sl n ver 0 xs.length ∧ ns = n :: ns1 ∧ rows n = some ⟨ver, 1, vs.map (fun v => [v]) ++ sp⟩ ∧ vs.length = xs.length ∧ (∀ e ∈ sp, e.length = 1) ∧ ClRow ⟨ver, 1, sp⟩ ∧ Own rows true vs (xs.map (ints true)) ns1) := by
  unfold intss at h
  generalize hm : (xs.map fun x => [ints true x]) = tm at h
  cases h with
  | nilsl h =>
    cases h
    exact .inl ⟨by simpa using hm, fun c => .nilsl .nil, .inl ⟨rfl, rfl⟩⟩
  | @sl _ _ ns1 ns2 n ver len s r _ h1 h2 h3 h4 h5 h6 h7 h8 h9 h10 =>
    cases h10
    subst hm
    have hlen : xs.length = len := by simpa using h7
    cases xs with
    | nil =>
      left
      simp at hlen
      subst hlen
      have h9' : Own rows true [] [] ns1 := by simpa using h9
      cases h9'
      exact ⟨rfl, fun c => .sl n ver 0 s r [] h1 h2 h3 h4 h5 h6 rfl (by simp) (by simpa using Own.nil) .nil, .inr ⟨n, ver, 0, rfl, by simp⟩⟩
    | cons x xs =>
      right
      have hs : s = 1 := by
        have := h8 [ints true x] (by simp)
        simpa using this.symm
      subst hs
      have key : ∀ (l : List (List AV)), (∀ e ∈ l, e.length = 1) → l = l.flatten.map fun v => [v] := by
        intro l
        induction l with
        | nil => intro _; rfl
        | cons e l ih =>
          intro hl
          have h1 := hl e (by simp)
          match e, h1 with
          | [v], _ =>
            simp only [List.flatten_cons, List.cons_append, List.nil_append, List.map_cons]
            rw [← ih fun e he => hl e (by simp [he])]
      obtain ⟨ver', esz', elems⟩ := r
      simp only at h2 h3 h6 h4 h5 h9
      subst h2 h3
      have e3 := key (elems.take len) (fun e he => h6 e (List.mem_of_mem_take he))
      have h9' : Own rows true (elems.take len).flatten ((x :: xs).map (ints true)) ns1 := by
        rw [← flat1 ((x :: xs).map (ints true)), List.map_map]
        exact h9
      refine ⟨n, ver', (elems.take len).flatten, elems.drop len, ns1, by rw [hlen], by simp, ?_, ?_, fun e he => h6 e (List.mem_of_mem_drop he), fun i e j x he hx => ?_, h9'⟩
      · rw [← e3, List.take_append_drop]
        exact h1
      · have := h9'.length
        simpa using this.symm
      · refine h4 (len + i) e j x ?_ hx
        simpa [List.getElem?_drop] using he
  | slo n ver pre sp ys h1 h2 h3 h4 h5 h6 =>
    cases h6
    cases xs with
    | nil =>
      obtain rfl : ys = [] := by simpa using hm
      exact .inl ⟨rfl, fun c => .slo n ver pre sp [] h1 h2 h3 h4 h5 .nil, .inr ⟨n, ver, _, rfl, rfl⟩⟩
    | cons x xs =>
      exfalso
      cases ys with
      | nil => simp at hm
      | cons y ys => simp [ints] at hm

theorem own_intss_mk {rows : Nm → Option Row} {n : Nm} {ver : Nat} {xs : List (List Int)} {vs : List AV} {sp : List (List AV)} {ns : List Nm} {c : Bool} (h : rows n = some ⟨ver, 1, vs.map (fun v => [v]) ++ sp⟩) (h1 : ∀ e ∈ sp, e.length = 1) (h2 : ClRow ⟨ver, 1, sp⟩)
    (ho : Own rows c vs (xs.map (ints c)) ns) : Own rows c [.sl n ver 0 xs.length] [intss c xs] (n :: ns) := by
  have hl : vs.length = xs.length := by have := ho.length; simpa using this.symm
  have := @Own.sl rows c [] [] ns [] n ver xs.length 1 _ (xs.map fun x => [ints c x]) h rfl rfl (fun i e j x he hx => by
      simp only at he
      by_cases hi : i < vs.length
      · rw [List.getElem?_append_left (by simpa using hi)] at he
        simp at he
        obtain ⟨y, h3, rfl⟩ := he
        match j, hx with
        | 0, hx => simp at hx; subst hx; exact ho.cl i y h3
      · rw [List.getElem?_append_right (by simpa using hi)] at he
        exact h2 _ e j x he hx) (by simp [hl]) (fun e he => by
      simp only [List.mem_append] at he
      rcases he with he | he
      · simp at he; obtain ⟨a, _, rfl⟩ := he; rfl
      · exact h1 e he) (by simp) (fun e he => by simp at he; obtain ⟨a, _, rfl⟩ := he; rfl)
    (by
      rw [List.take_append_of_le_length (by simp [hl]), List.take_of_length_le (by simp [hl]), flat1, show (xs.map fun x => [ints c x]) = (xs.map (ints c)).map fun v => [v] by simp, flat1]
      exact ho) .nil
  simpa [intss] using this

end Go.Proofs.YtmcmgeedhbgglaaDoor.AM

namespace Go.Proofs.YtmcmgeedhbgglaaDoor.AM
open Go.RowKit

private def MU4 : FuncId → Mode := fun f => if f = 27 ∨ f = 28 ∨ f = 32 then .fresh else if f = 999999 ∨ f = 999999 then .heap else .tree

structure Cpu where
  At : Int
  Regs : List Int
  Slots : List Int
  Mem : List (List Int)
  Input : List Int
  Out : List Int
  Code : Int
  Over : Bool
  Val : Int
def Cpu.cells (b : Bool) (c : Cpu) : List AV := [.int .i64 c.At, ints b c.Regs, ints b c.Slots, intss b c.Mem, ints b c.Input, ints b c.Out, .int .i64 c.Code, .bool c.Over, .int .i64 c.Val]
structure EndV where
  Code : Int
  Val : Int
  Out : List Int
def EndV.cells (b : Bool) (c : EndV) : List AV := [.int .i64 c.Code, .int .i64 c.Val, ints b c.Out]
def endOf (c : Cpu) : EndV := { Code := if c.Code = 0 ∧ c.Over = false then 2 else c.Code, Val := if c.Over = true ∧ c.Code = 0 then c.Val else 0, Out := c.Out }

theorem drs_cpu (c : Cpu) {b b' : Bool} (hb : b = true → b' = true) {rows : Nm → Option Row} : DRs b' rows (c.cells b) (c.cells b') :=
  .cons (.int _ _) (.cons (dr_ints hb _) (.cons (dr_ints hb _) (.cons (dr_intss hb _) (.cons (dr_ints hb _) (.cons (dr_ints hb _) (.cons (.int _ _) (.cons (.bool _) (.cons (.int _ _) .nil))))))))
theorem drs_end (c : EndV) {b b' : Bool} (hb : b = true → b' = true) {rows : Nm → Option Row} : DRs b' rows (c.cells b) (c.cells b') :=
  .cons (.int _ _) (.cons (.int _ _) (.cons (dr_ints hb _) .nil))

theorem l15Runs (c : Cpu) : Pure Tryd.prog 49 [.agg (c.cells true)] (.bool (decide (c.Code = 0) && !c.Over)) := by
  intro T
  refine enter mixed MU4 Tryd.func49 rfl (by kernel_rfl) rfl ?_
  by_cases hz : c.Code = 0
  · skip
    repeat' (first | (with_reducible first | refine stp ?_ | refine k_blk_o rfl ?_ | refine k_seq_n ?_) | ((try (conv => arg 1; simp [Cpu.cells, hz])); with_reducible refine evp ?_) | fail)
    simp [resV, hz]; exact .bool _
  · skip
    repeat' (first | (with_reducible first | refine stp ?_ | refine k_blk_o rfl ?_ | refine k_seq_n ?_) | ((try (conv => arg 1; simp [Cpu.cells, hz])); with_reducible refine evp ?_) | fail)
    simp [resV, hz]; exact .bool _

theorem runs (c : Cpu) : Pure Tryd.prog 51 [.tptr true (c.cells true)] (.bool (decide (c.Code = 0) && !c.Over)) := by
  intro T
  refine enter mixed MU4 Tryd.func51 rfl (by kernel_rfl) rfl ?_
  by_cases hz : c.Code = 0
  · skip
    repeat' (first | (with_reducible first | refine stp ?_ | refine k_blk_o rfl ?_ | refine k_seq_n ?_) | ((try (conv => arg 1; simp [Cpu.cells, hz])); with_reducible refine evp ?_) | fail)
    simp [resV, hz]; exact .bool _
  · skip
    repeat' (first | (with_reducible first | refine stp ?_ | refine k_blk_o rfl ?_ | refine k_seq_n ?_) | ((try (conv => arg 1; simp [Cpu.cells, hz])); with_reducible refine evp ?_) | fail)
    simp [resV, hz]; exact .bool _

theorem specCpuEnd (c : Cpu) (hl : c.Out.length ≤ 2 ^ 20) : Pure Tryd.prog 26 [.agg (c.cells true)] (.agg ((endOf c).cells false)) := by
  obtain ⟨At, Regs, Slots, Mem, Input, Out, Code, Over, Val⟩ := c
  simp only at hl
  intro T
  have hl2 : Out.length ≤ 4294967296 := by omega
  refine enter mixed MU4 Tryd.func26 rfl (by kernel_rfl) rfl ?_
  by_cases hz : Code = 0
  all_goals try subst hz
  all_goals cases Over
  all_goals
    repeat' (first | (with_reducible first | refine stp ?_ | refine k_blk_o rfl ?_ | refine k_seq_n ?_) | ((try (conv => arg 1; simp [Cpu.cells, *])); with_reducible refine evp ?_) | fail)
    refine st_tree rfl (l15Runs ⟨At, Regs, Slots, Mem, Input, Out, _, _, Val⟩) (.cons (dr_agg (drs_cpu _ (fun _ => rfl))) .nil) ?_
    repeat' (first | (with_reducible first | refine stp ?_ | refine k_blk_o rfl ?_ | refine k_seq_n ?_) | ((try (conv => arg 1; simp [Cpu.cells, *])); with_reducible refine evp ?_) | fail)
    conv => arg 4; simp [endOf, EndV.cells, *]
    refine dr_agg (.cons (.int _ _) (.cons (.int _ _) (.cons ?_ .nil)))
    refine (own_ints (ys := Out) ?_ List.take_length rfl).dr 0 _ _ rfl rfl
    simp [hp_next_rows, hp_rows_put]
end Go.Proofs.YtmcmgeedhbgglaaDoor.AM

namespace Go.Proofs.YtmcmgeedhbgglaaDoor.AM
open Go.RowKit

private def MU5 : FuncId → Mode := fun f => if f = 32 then .fresh else .tree

theorem dr_tptr {rows : Nm → Option Row} {cs ts : List AV} (h : DRs true rows cs ts) : DR true rows (.tptr true cs) (.tptr true ts) := .tptr true cs ts (fun h => h) h.1 h.2

theorem cpuEnd (c : Cpu) (hl : c.Out.length ≤ 2 ^ 20) : Fresh Tryd.prog 32 [.tptr true (c.cells true)] (fun b => .agg ((endOf c).cells b)) := by
  obtain ⟨At, Regs, Slots, Mem, Input, Out, Code, Over, Val⟩ := c
  simp only at hl
  intro T
  have hl2 : Out.length ≤ 4294967296 := by omega
  refine enter mixed MU5 Tryd.func32 rfl (by kernel_rfl) rfl ?_
  by_cases hz : Code = 0
  all_goals try subst hz
  all_goals cases Over
  all_goals
    repeat' (first | (with_reducible first | refine stp ?_ | refine k_blk_o rfl ?_ | refine k_seq_n ?_) | ((try (conv => arg 1; simp [Cpu.cells, *])); with_reducible refine evp ?_) | fail)
    repeat (with_reducible first | refine stp ?_ | refine k_seq_n ?_)
    refine st_draw 12 (fun _ => false) (by kernel_rfl) ?_
    simp only [List.take_succ_cons, List.take_zero, List.drop_succ_cons, List.drop_zero, List.take_nil, List.drop_nil]
    repeat' (first | (with_reducible first | refine stp ?_ | refine k_blk_o rfl ?_ | refine k_seq_n ?_) | ((try (conv => arg 1; simp [Cpu.cells, *])); with_reducible refine evp ?_) | ((with_reducible refine apn ?na ?_); (case na => simp [appNames, ints, intss] <;> first | kernel_rfl | (refine ⟨?_, ?_⟩ <;> kernel_rfl))) | fail)
    refine st_tree rfl (runs ⟨At, Regs, Slots, Mem, Input, Out, _, _, Val⟩) (.cons (dr_tptr (drs_cpu _ (fun _ => rfl))) .nil) ?_
    repeat' (first | (with_reducible first | refine stp ?_ | refine k_blk_o rfl ?_ | refine k_seq_n ?_) | ((try (conv => arg 1; simp [Cpu.cells, *])); with_reducible refine evp ?_) | ((with_reducible refine apn ?na ?_); (case na => simp [appNames, ints, intss] <;> first | kernel_rfl | (refine ⟨?_, ?_⟩ <;> kernel_rfl))) | fail)
    refine ⟨by simp [hp_next_tick, hp_put_tick, hp_mt_tick] <;> omega, [(T + 1, 4, 0)], fun b => ?_, by simp, by simp [hp_next_tick, hp_put_tick, hp_mt_tick] <;> omega⟩
    simp only [resV]
    conv => arg 4; simp [endOf, EndV.cells, *]
    refine .agg (.int _ _ (.int _ _ ?_))
    refine own_ints (ys := Out) ?_ List.take_length rfl
    simp [hp_next_rows, hp_rows_put]
end Go.Proofs.YtmcmgeedhbgglaaDoor.AM

namespace Go.Proofs.YtmcmgeedhbgglaaDoor.AM
open Go.RowKit

private def MU6 : FuncId → Mode := fun f => if f = 32 then .fresh else if f = 999999 then .heap else .tree

theorem ownV_end {rows : Nm → Option Row} {b : Bool} {v : AV} {e : EndV} {ns : List Nm} (h : OwnV rows b v (.agg (e.cells b)) ns) : ∃ w, v = .agg [.int .i64 e.Code, .int .i64 e.Val, w] ∧ Own rows b [w] [ints b e.Out] ns := by
  generalize ht : AV.agg (e.cells b) = t at h
  cases h with
  | one h => subst ht; unfold EndV.cells at h; cases h
  | @agg l _ _ h =>
    cases ht
    unfold EndV.cells at h
    have hl := h.length
    match l, hl, h with
    | [a1, a2, w], _, h =>
      cases h with
      | int _ _ h => cases h with
        | int _ _ h => exact ⟨w, rfl, h⟩
  | tup2 => cases ht

end Go.Proofs.YtmcmgeedhbgglaaDoor.AM

namespace Go.Proofs.YtmcmgeedhbgglaaDoor.AM
open Go.RowKit

private def MU7 : FuncId → Mode := fun f => if f = 999999 then .heap else .tree

end Go.Proofs.YtmcmgeedhbgglaaDoor.AM

namespace Go.Proofs.YtmcmgeedhbgglaaDoor.AM
open Go.RowKit

private def MU8 : FuncId → Mode := fun f => if f = 27 ∨ f = 28 then .fresh else if f = 999999 ∨ f = 999999 then .heap else .tree

structure Cpu.Small (c : Cpu) : Prop where
  regs : c.Regs.length ≤ 2 ^ 20
  slots : c.Slots.length ≤ 2 ^ 20
  mem : wtSS c.Mem ≤ 2 ^ 20
  input : c.Input.length ≤ 2 ^ 20
  out : c.Out.length ≤ 2 ^ 20

theorem mem_small {xs : List (List Int)} {n : Nat} (h : wtSS xs ≤ n) : xs.length ≤ n ∧ ∀ x ∈ xs, x.length ≤ n := by
  simp only [wtSS] at h
  refine ⟨by omega, fun x hx => ?_⟩
  obtain ⟨i, hi, rfl⟩ := List.getElem_of_mem hx
  have a1 := psum_succ xs i hi
  have a2 := psum_le xs (i + 1)
  omega

theorem eqCpu (c : Cpu) (hs : c.Small) : Pure Tryd.prog 11 [.agg (c.cells true), .agg (c.cells true)] (.bool true) := by
  intro T
  have k1 := eqIntS c.Regs (by have := hs.regs; omega)
  have k2 := eqIntS c.Slots (by have := hs.slots; omega)
  have k3 := eqIntSS c.Mem (by have := (mem_small hs.mem).1; omega) (fun x hx => by have := (mem_small hs.mem).2 x hx; omega)
  have k4 := eqIntS c.Input (by have := hs.input; omega)
  have k5 := eqIntS c.Out (by have := hs.out; omega)
  refine enter mixed MU8 Tryd.func11 rfl (by kernel_rfl) rfl ?_
  repeat' (first | (with_reducible first | refine stp ?_ | refine k_blk_o rfl ?_ | refine k_seq_n ?_) | ((try (conv => arg 1; simp [Cpu.cells])); with_reducible refine evp ?_) | fail)
  refine st_tree rfl k1 (.cons (dr_ints (fun h => h) _) (.cons (dr_ints (fun h => h) _) .nil)) ?_
  repeat' (first | (with_reducible first | refine stp ?_ | refine k_blk_o rfl ?_ | refine k_seq_n ?_) | ((try (conv => arg 1; simp [Cpu.cells])); with_reducible refine evp ?_) | fail)
  refine st_tree rfl k2 (.cons (dr_ints (fun h => h) _) (.cons (dr_ints (fun h => h) _) .nil)) ?_
  repeat' (first | (with_reducible first | refine stp ?_ | refine k_blk_o rfl ?_ | refine k_seq_n ?_) | ((try (conv => arg 1; simp [Cpu.cells])); with_reducible refine evp ?_) | fail)
  refine st_tree rfl k3 (.cons (dr_intss (fun h => h) _) (.cons (dr_intss (fun h => h) _) .nil)) ?_
  repeat' (first | (with_reducible first | refine stp ?_ | refine k_blk_o rfl ?_ | refine k_seq_n ?_) | ((try (conv => arg 1; simp [Cpu.cells])); with_reducible refine evp ?_) | fail)
  refine st_tree rfl k4 (.cons (dr_ints (fun h => h) _) (.cons (dr_ints (fun h => h) _) .nil)) ?_
  repeat' (first | (with_reducible first | refine stp ?_ | refine k_blk_o rfl ?_ | refine k_seq_n ?_) | ((try (conv => arg 1; simp [Cpu.cells])); with_reducible refine evp ?_) | fail)
  refine st_tree rfl k5 (.cons (dr_ints (fun h => h) _) (.cons (dr_ints (fun h => h) _) .nil)) ?_
  by_cases ho : c.Over = true
  all_goals
    repeat' (first | (with_reducible first | refine stp ?_ | refine k_blk_o rfl ?_ | refine k_seq_n ?_) | ((try (conv => arg 1; simp [Cpu.cells, ho])); with_reducible refine evp ?_) | fail)
    exact .bool true
end Go.Proofs.YtmcmgeedhbgglaaDoor.AM

namespace Go.Proofs.YtmcmgeedhbgglaaDoor.AM
open Go.RowKit

private def MU9 : FuncId → Mode := fun f => if f = 27 ∨ f = 28 then .fresh else if f = 999999 ∨ f = 999999 then .heap else .tree

theorem szCpu (c : Cpu) (left : Int) (l0 : 0 ≤ left) (l1 : left ≤ 2 ^ 20) (m1 : c.Regs.length ≤ maxLen) (m2 : c.Slots.length ≤ maxLen) (m3 : c.Mem.length ≤ maxLen) (m3' : ∀ x ∈ c.Mem, x.length ≤ maxLen) (m4 : c.Input.length ≤ maxLen) (m5 : c.Out.length ≤ maxLen) :
    ∃ r : Int, Pure Tryd.prog 7 [.agg (c.cells true), .int .i64 left] (.int .i64 r) ∧ (r < 0 ∨ c.Small) := by
  by_cases h1 : left < (c.Regs.length : Int)
  · refine ⟨-1, ?_, .inl (by omega)⟩
    intro T
    refine enter mixed MU9 Tryd.func7 rfl (by kernel_rfl) rfl ?_
    repeat' (first | (with_reducible first | refine stp ?_ | refine k_blk_o rfl ?_ | refine k_seq_n ?_) | ((try (conv => arg 1; simp [Cpu.cells])); with_reducible refine evp ?_) | fail)
    refine st_tree rfl (szIntS c.Regs (left) (by omega) (by omega) m1) (.cons (dr_ints (fun h => h) _) (.cons (.int _ _) .nil)) ?_
    rw [if_pos h1]
    repeat' (first | (with_reducible first | refine stp ?_ | refine k_blk_o rfl ?_ | refine k_seq_n ?_) | ((try (conv => arg 1; simp [Cpu.cells])); with_reducible refine evp ?_) | fail)
    exact .int _ _
  by_cases h2 : left - (c.Regs.length : Int) < (c.Slots.length : Int)
  · refine ⟨-1, ?_, .inl (by omega)⟩
    intro T
    refine enter mixed MU9 Tryd.func7 rfl (by kernel_rfl) rfl ?_
    repeat' (first | (with_reducible first | refine stp ?_ | refine k_blk_o rfl ?_ | refine k_seq_n ?_) | ((try (conv => arg 1; simp [Cpu.cells])); with_reducible refine evp ?_) | fail)
    refine st_tree rfl (szIntS c.Regs (left) (by omega) (by omega) m1) (.cons (dr_ints (fun h => h) _) (.cons (.int _ _) .nil)) ?_
    rw [if_neg h1]
    have e1 : ¬ left - (c.Regs.length : Int) < 0 := by omega
    repeat' (first | (with_reducible first | refine stp ?_ | refine k_blk_o rfl ?_ | refine k_seq_n ?_) | ((try (conv => arg 1; simp [Cpu.cells, e1])); with_reducible refine evp ?_) | fail)
    refine st_tree rfl (szIntS c.Slots (left - (c.Regs.length : Int)) (by omega) (by omega) m2) (.cons (dr_ints (fun h => h) _) (.cons (.int _ _) .nil)) ?_
    rw [if_pos h2]
    repeat' (first | (with_reducible first | refine stp ?_ | refine k_blk_o rfl ?_ | refine k_seq_n ?_) | ((try (conv => arg 1; simp [Cpu.cells])); with_reducible refine evp ?_) | fail)
    exact .int _ _
  by_cases h3 : left - (c.Regs.length : Int) - (c.Slots.length : Int) < (wtSS c.Mem : Int)
  · refine ⟨-1, ?_, .inl (by omega)⟩
    intro T
    refine enter mixed MU9 Tryd.func7 rfl (by kernel_rfl) rfl ?_
    repeat' (first | (with_reducible first | refine stp ?_ | refine k_blk_o rfl ?_ | refine k_seq_n ?_) | ((try (conv => arg 1; simp [Cpu.cells])); with_reducible refine evp ?_) | fail)
    refine st_tree rfl (szIntS c.Regs (left) (by omega) (by omega) m1) (.cons (dr_ints (fun h => h) _) (.cons (.int _ _) .nil)) ?_
    rw [if_neg h1]
    have e1 : ¬ left - (c.Regs.length : Int) < 0 := by omega
    repeat' (first | (with_reducible first | refine stp ?_ | refine k_blk_o rfl ?_ | refine k_seq_n ?_) | ((try (conv => arg 1; simp [Cpu.cells, e1])); with_reducible refine evp ?_) | fail)
    refine st_tree rfl (szIntS c.Slots (left - (c.Regs.length : Int)) (by omega) (by omega) m2) (.cons (dr_ints (fun h => h) _) (.cons (.int _ _) .nil)) ?_
    rw [if_neg h2]
    have e2 : ¬ left - (c.Regs.length : Int) - (c.Slots.length : Int) < 0 := by omega
    repeat' (first | (with_reducible first | refine stp ?_ | refine k_blk_o rfl ?_ | refine k_seq_n ?_) | ((try (conv => arg 1; simp [Cpu.cells, e2])); with_reducible refine evp ?_) | fail)
    refine st_tree rfl (szIntSS c.Mem (left - (c.Regs.length : Int) - (c.Slots.length : Int)) (by omega) (by omega) m3 m3') (.cons (dr_intss (fun h => h) _) (.cons (.int _ _) .nil)) ?_
    rw [if_pos h3]
    repeat' (first | (with_reducible first | refine stp ?_ | refine k_blk_o rfl ?_ | refine k_seq_n ?_) | ((try (conv => arg 1; simp [Cpu.cells])); with_reducible refine evp ?_) | fail)
    exact .int _ _
  by_cases h4 : left - (c.Regs.length : Int) - (c.Slots.length : Int) - (wtSS c.Mem : Int) < (c.Input.length : Int)
  · refine ⟨-1, ?_, .inl (by omega)⟩
    intro T
    refine enter mixed MU9 Tryd.func7 rfl (by kernel_rfl) rfl ?_
    repeat' (first | (with_reducible first | refine stp ?_ | refine k_blk_o rfl ?_ | refine k_seq_n ?_) | ((try (conv => arg 1; simp [Cpu.cells])); with_reducible refine evp ?_) | fail)
    refine st_tree rfl (szIntS c.Regs (left) (by omega) (by omega) m1) (.cons (dr_ints (fun h => h) _) (.cons (.int _ _) .nil)) ?_
    rw [if_neg h1]
    have e1 : ¬ left - (c.Regs.length : Int) < 0 := by omega
    repeat' (first | (with_reducible first | refine stp ?_ | refine k_blk_o rfl ?_ | refine k_seq_n ?_) | ((try (conv => arg 1; simp [Cpu.cells, e1])); with_reducible refine evp ?_) | fail)
    refine st_tree rfl (szIntS c.Slots (left - (c.Regs.length : Int)) (by omega) (by omega) m2) (.cons (dr_ints (fun h => h) _) (.cons (.int _ _) .nil)) ?_
    rw [if_neg h2]
    have e2 : ¬ left - (c.Regs.length : Int) - (c.Slots.length : Int) < 0 := by omega
    repeat' (first | (with_reducible first | refine stp ?_ | refine k_blk_o rfl ?_ | refine k_seq_n ?_) | ((try (conv => arg 1; simp [Cpu.cells, e2])); with_reducible refine evp ?_) | fail)
    refine st_tree rfl (szIntSS c.Mem (left - (c.Regs.length : Int) - (c.Slots.length : Int)) (by omega) (by omega) m3 m3') (.cons (dr_intss (fun h => h) _) (.cons (.int _ _) .nil)) ?_
    rw [if_neg h3]
    have e3 : ¬ left - (c.Regs.length : Int) - (c.Slots.length : Int) - (wtSS c.Mem : Int) < 0 := by omega
    repeat' (first | (with_reducible first | refine stp ?_ | refine k_blk_o rfl ?_ | refine k_seq_n ?_) | ((try (conv => arg 1; simp [Cpu.cells, e3])); with_reducible refine evp ?_) | fail)
    refine st_tree rfl (szIntS c.Input (left - (c.Regs.length : Int) - (c.Slots.length : Int) - (wtSS c.Mem : Int)) (by omega) (by omega) m4) (.cons (dr_ints (fun h => h) _) (.cons (.int _ _) .nil)) ?_
    rw [if_pos h4]
    repeat' (first | (with_reducible first | refine stp ?_ | refine k_blk_o rfl ?_ | refine k_seq_n ?_) | ((try (conv => arg 1; simp [Cpu.cells])); with_reducible refine evp ?_) | fail)
    exact .int _ _
  by_cases h5 : left - (c.Regs.length : Int) - (c.Slots.length : Int) - (wtSS c.Mem : Int) - (c.Input.length : Int) < (c.Out.length : Int)
  · refine ⟨-1, ?_, .inl (by omega)⟩
    intro T
    refine enter mixed MU9 Tryd.func7 rfl (by kernel_rfl) rfl ?_
    repeat' (first | (with_reducible first | refine stp ?_ | refine k_blk_o rfl ?_ | refine k_seq_n ?_) | ((try (conv => arg 1; simp [Cpu.cells])); with_reducible refine evp ?_) | fail)
    refine st_tree rfl (szIntS c.Regs (left) (by omega) (by omega) m1) (.cons (dr_ints (fun h => h) _) (.cons (.int _ _) .nil)) ?_
    rw [if_neg h1]
    have e1 : ¬ left - (c.Regs.length : Int) < 0 := by omega
    repeat' (first | (with_reducible first | refine stp ?_ | refine k_blk_o rfl ?_ | refine k_seq_n ?_) | ((try (conv => arg 1; simp [Cpu.cells, e1])); with_reducible refine evp ?_) | fail)
    refine st_tree rfl (szIntS c.Slots (left - (c.Regs.length : Int)) (by omega) (by omega) m2) (.cons (dr_ints (fun h => h) _) (.cons (.int _ _) .nil)) ?_
    rw [if_neg h2]
    have e2 : ¬ left - (c.Regs.length : Int) - (c.Slots.length : Int) < 0 := by omega
    repeat' (first | (with_reducible first | refine stp ?_ | refine k_blk_o rfl ?_ | refine k_seq_n ?_) | ((try (conv => arg 1; simp [Cpu.cells, e2])); with_reducible refine evp ?_) | fail)
    refine st_tree rfl (szIntSS c.Mem (left - (c.Regs.length : Int) - (c.Slots.length : Int)) (by omega) (by omega) m3 m3') (.cons (dr_intss (fun h => h) _) (.cons (.int _ _) .nil)) ?_
    rw [if_neg h3]
    have e3 : ¬ left - (c.Regs.length : Int) - (c.Slots.length : Int) - (wtSS c.Mem : Int) < 0 := by omega
    repeat' (first | (with_reducible first | refine stp ?_ | refine k_blk_o rfl ?_ | refine k_seq_n ?_) | ((try (conv => arg 1; simp [Cpu.cells, e3])); with_reducible refine evp ?_) | fail)
    refine st_tree rfl (szIntS c.Input (left - (c.Regs.length : Int) - (c.Slots.length : Int) - (wtSS c.Mem : Int)) (by omega) (by omega) m4) (.cons (dr_ints (fun h => h) _) (.cons (.int _ _) .nil)) ?_
    rw [if_neg h4]
    have e4 : ¬ left - (c.Regs.length : Int) - (c.Slots.length : Int) - (wtSS c.Mem : Int) - (c.Input.length : Int) < 0 := by omega
    repeat' (first | (with_reducible first | refine stp ?_ | refine k_blk_o rfl ?_ | refine k_seq_n ?_) | ((try (conv => arg 1; simp [Cpu.cells, e4])); with_reducible refine evp ?_) | fail)
    refine st_tree rfl (szIntS c.Out (left - (c.Regs.length : Int) - (c.Slots.length : Int) - (wtSS c.Mem : Int) - (c.Input.length : Int)) (by omega) (by omega) m5) (.cons (dr_ints (fun h => h) _) (.cons (.int _ _) .nil)) ?_
    rw [if_pos h5]
    repeat' (first | (with_reducible first | refine stp ?_ | refine k_blk_o rfl ?_ | refine k_seq_n ?_) | ((try (conv => arg 1; simp [Cpu.cells])); with_reducible refine evp ?_) | fail)
    exact .int _ _
  refine ⟨left - (c.Regs.length : Int) - (c.Slots.length : Int) - (wtSS c.Mem : Int) - (c.Input.length : Int) - (c.Out.length : Int), ?_, .inr ⟨by omega, by omega, by omega, by omega, by omega⟩⟩
  intro T
  refine enter mixed MU9 Tryd.func7 rfl (by kernel_rfl) rfl ?_
  repeat' (first | (with_reducible first | refine stp ?_ | refine k_blk_o rfl ?_ | refine k_seq_n ?_) | ((try (conv => arg 1; simp [Cpu.cells])); with_reducible refine evp ?_) | fail)
  refine st_tree rfl (szIntS c.Regs (left) (by omega) (by omega) m1) (.cons (dr_ints (fun h => h) _) (.cons (.int _ _) .nil)) ?_
  rw [if_neg h1]
  have e1 : ¬ left - (c.Regs.length : Int) < 0 := by omega
  repeat' (first | (with_reducible first | refine stp ?_ | refine k_blk_o rfl ?_ | refine k_seq_n ?_) | ((try (conv => arg 1; simp [Cpu.cells, e1])); with_reducible refine evp ?_) | fail)
  refine st_tree rfl (szIntS c.Slots (left - (c.Regs.length : Int)) (by omega) (by omega) m2) (.cons (dr_ints (fun h => h) _) (.cons (.int _ _) .nil)) ?_
  rw [if_neg h2]
  have e2 : ¬ left - (c.Regs.length : Int) - (c.Slots.length : Int) < 0 := by omega
  repeat' (first | (with_reducible first | refine stp ?_ | refine k_blk_o rfl ?_ | refine k_seq_n ?_) | ((try (conv => arg 1; simp [Cpu.cells, e2])); with_reducible refine evp ?_) | fail)
  refine st_tree rfl (szIntSS c.Mem (left - (c.Regs.length : Int) - (c.Slots.length : Int)) (by omega) (by omega) m3 m3') (.cons (dr_intss (fun h => h) _) (.cons (.int _ _) .nil)) ?_
  rw [if_neg h3]
  have e3 : ¬ left - (c.Regs.length : Int) - (c.Slots.length : Int) - (wtSS c.Mem : Int) < 0 := by omega
  repeat' (first | (with_reducible first | refine stp ?_ | refine k_blk_o rfl ?_ | refine k_seq_n ?_) | ((try (conv => arg 1; simp [Cpu.cells, e3])); with_reducible refine evp ?_) | fail)
  refine st_tree rfl (szIntS c.Input (left - (c.Regs.length : Int) - (c.Slots.length : Int) - (wtSS c.Mem : Int)) (by omega) (by omega) m4) (.cons (dr_ints (fun h => h) _) (.cons (.int _ _) .nil)) ?_
  rw [if_neg h4]
  have e4 : ¬ left - (c.Regs.length : Int) - (c.Slots.length : Int) - (wtSS c.Mem : Int) - (c.Input.length : Int) < 0 := by omega
  repeat' (first | (with_reducible first | refine stp ?_ | refine k_blk_o rfl ?_ | refine k_seq_n ?_) | ((try (conv => arg 1; simp [Cpu.cells, e4])); with_reducible refine evp ?_) | fail)
  refine st_tree rfl (szIntS c.Out (left - (c.Regs.length : Int) - (c.Slots.length : Int) - (wtSS c.Mem : Int) - (c.Input.length : Int)) (by omega) (by omega) m5) (.cons (dr_ints (fun h => h) _) (.cons (.int _ _) .nil)) ?_
  rw [if_neg h5]
  have e5 : ¬ left - (c.Regs.length : Int) - (c.Slots.length : Int) - (wtSS c.Mem : Int) - (c.Input.length : Int) - (c.Out.length : Int) < 0 := by omega
  repeat' (first | (with_reducible first | refine stp ?_ | refine k_blk_o rfl ?_ | refine k_seq_n ?_) | ((try (conv => arg 1; simp [Cpu.cells, e5])); with_reducible refine evp ?_) | fail)
  exact .int _ _
end Go.Proofs.YtmcmgeedhbgglaaDoor.AM

namespace Go.Proofs.YtmcmgeedhbgglaaDoor.AM
open Go.RowKit

private def MU10 : FuncId → Mode := fun f => if f = 27 ∨ f = 28 then .fresh else .tree

theorem toCpu (c : Cpu) (hs : c.Small) : Fresh Tryd.prog 9 [.agg (c.cells true)] (fun b => .agg (c.cells b)) := by
  intro T
  refine enter mixed MU10 Tryd.func9 rfl (by kernel_rfl) rfl ?_
  repeat' (first | (with_reducible first | refine stp ?_ | refine k_blk_o rfl ?_ | refine k_seq_n ?_) | ((try (conv => arg 1; simp [Cpu.cells])); with_reducible refine evp ?_) | fail)
  refine st_fresh rfl (toIntS c.Regs hs.regs) (.cons (dr_ints (fun h => h) _) .nil) ?_
  intro v1 h1 ns1 o1 d1 f1 p1 t1
  have q1 := own_one (ownV_ints (o1 true))
  simp only [hp_next_tick, hp_put_tick, hp_mt_tick] at f1 p1 t1
  have ra1 : h1.rows (T, 0, 0) = some ⟨0, 9, [c.cells true]⟩ := by
    rw [p1 (T, 0, 0) (by simp <;> omega)]
    simp [hp_next_rows, hp_rows_put, Cpu.cells]
  have rb1 : h1.rows (T, 1, 0) = some ⟨0, 9, [[.int .i64 0, .nilsl, .nilsl, .nilsl, .nilsl, .nilsl, .int .i64 0, .bool false, .int .i64 0]]⟩ := by
    rw [p1 (T, 1, 0) (by simp <;> omega)]
    simp [hp_next_rows, hp_rows_put]
  have rc1 : h1.rows (T + 1, 0, 0) = some ⟨0, 9, [[.int .i64 c.At, .nilsl, .nilsl, .nilsl, .nilsl, .nilsl, .int .i64 0, .bool false, .int .i64 0]]⟩ := by
    rw [p1 (T + 1, 0, 0) (by simp <;> omega)]
    simp [hp_next_rows, hp_rows_put]
  have tt1 : T + 1 < h1.tick := by omega
  have tu1 : T < h1.tick := by omega
  repeat' (first | (with_reducible first | refine stp ?_ | refine k_blk_o rfl ?_ | refine k_seq_n ?_) | ((try (conv => arg 1; simp [Cpu.cells, ra1, rb1, rc1, tt1, tu1, q1.1, q1.2.1, q1.2.2, q1.1])); with_reducible refine evp ?_) | fail)
  refine st_fresh rfl (toIntS c.Slots hs.slots) (.cons (dr_ints (fun h => h) _) .nil) ?_
  intro v2 h2 ns2 o2 d2 f2 p2 t2
  have q2 := own_one (ownV_ints (o2 true))
  simp only [hp_next_tick, hp_put_tick, hp_mt_tick] at f2 p2 t2
  have ra2 : h2.rows (T, 0, 0) = some ⟨0, 9, [c.cells true]⟩ := by
    rw [p2 (T, 0, 0) (by simp <;> omega)]
    simp [hp_next_rows, hp_rows_put, ra1, rb1, rc1, Cpu.cells]
  have rb2 : h2.rows (T, 1, 0) = some ⟨0, 9, [[.int .i64 0, .nilsl, .nilsl, .nilsl, .nilsl, .nilsl, .int .i64 0, .bool false, .int .i64 0]]⟩ := by
    rw [p2 (T, 1, 0) (by simp <;> omega)]
    simp [hp_next_rows, hp_rows_put, ra1, rb1, rc1]
  have rc2 : h2.rows (T + 1, 0, 0) = some ⟨0, 9, [[.int .i64 c.At, v1, .nilsl, .nilsl, .nilsl, .nilsl, .int .i64 0, .bool false, .int .i64 0]]⟩ := by
    rw [p2 (T + 1, 0, 0) (by simp <;> omega)]
    simp [hp_next_rows, hp_rows_put, ra1, rb1, rc1]
  have tt2 : T + 1 < h2.tick := by omega
  have tu2 : T < h2.tick := by omega
  have c1_2 : ∀ n ∈ ns1, h2.rows n = h1.rows n := fun n hn => by
    have b1 := f1 n hn
    have hne : n ≠ (T + 1, 0, 0) := fun e => by rw [e] at b1; simp at b1; omega
    rw [p2 n (by omega)]
    simp [hp_next_rows, hp_rows_put, hne]
  repeat' (first | (with_reducible first | refine stp ?_ | refine k_blk_o rfl ?_ | refine k_seq_n ?_) | ((try (conv => arg 1; simp [Cpu.cells, ra2, rb2, rc2, tt2, tu2, q2.1, q2.2.1, q2.2.2, q1.1, q2.1])); with_reducible refine evp ?_) | fail)
  refine st_fresh rfl (toIntSS c.Mem (mem_small hs.mem).1 (mem_small hs.mem).2) (.cons (dr_intss (fun h => h) _) .nil) ?_
  intro v3 h3 ns3 o3 d3 f3 p3 t3
  have q3 := own_one (ownV_intss (o3 true))
  simp only [hp_next_tick, hp_put_tick, hp_mt_tick] at f3 p3 t3
  have ra3 : h3.rows (T, 0, 0) = some ⟨0, 9, [c.cells true]⟩ := by
    rw [p3 (T, 0, 0) (by simp <;> omega)]
    simp [hp_next_rows, hp_rows_put, ra2, rb2, rc2, Cpu.cells]
  have rb3 : h3.rows (T, 1, 0) = some ⟨0, 9, [[.int .i64 0, .nilsl, .nilsl, .nilsl, .nilsl, .nilsl, .int .i64 0, .bool false, .int .i64 0]]⟩ := by
    rw [p3 (T, 1, 0) (by simp <;> omega)]
    simp [hp_next_rows, hp_rows_put, ra2, rb2, rc2]
  have rc3 : h3.rows (T + 1, 0, 0) = some ⟨0, 9, [[.int .i64 c.At, v1, v2, .nilsl, .nilsl, .nilsl, .int .i64 0, .bool false, .int .i64 0]]⟩ := by
    rw [p3 (T + 1, 0, 0) (by simp <;> omega)]
    simp [hp_next_rows, hp_rows_put, ra2, rb2, rc2]
  have tt3 : T + 1 < h3.tick := by omega
  have tu3 : T < h3.tick := by omega
  have c1_3 : ∀ n ∈ ns1, h3.rows n = h2.rows n := fun n hn => by
    have b1 := f1 n hn
    have hne : n ≠ (T + 1, 0, 0) := fun e => by rw [e] at b1; simp at b1; omega
    rw [p3 n (by omega)]
    simp [hp_next_rows, hp_rows_put, hne]
  have c2_3 : ∀ n ∈ ns2, h3.rows n = h2.rows n := fun n hn => by
    have b1 := f2 n hn
    have hne : n ≠ (T + 1, 0, 0) := fun e => by rw [e] at b1; simp at b1; omega
    rw [p3 n (by omega)]
    simp [hp_next_rows, hp_rows_put, hne]
  repeat' (first | (with_reducible first | refine stp ?_ | refine k_blk_o rfl ?_ | refine k_seq_n ?_) | ((try (conv => arg 1; simp [Cpu.cells, ra3, rb3, rc3, tt3, tu3, q3.1, q3.2.1, q3.2.2, q1.1, q2.1, q3.1])); with_reducible refine evp ?_) | fail)
  refine st_fresh rfl (toIntS c.Input hs.input) (.cons (dr_ints (fun h => h) _) .nil) ?_
  intro v4 h4 ns4 o4 d4 f4 p4 t4
  have q4 := own_one (ownV_ints (o4 true))
  simp only [hp_next_tick, hp_put_tick, hp_mt_tick] at f4 p4 t4
  have ra4 : h4.rows (T, 0, 0) = some ⟨0, 9, [c.cells true]⟩ := by
    rw [p4 (T, 0, 0) (by simp <;> omega)]
    simp [hp_next_rows, hp_rows_put, ra3, rb3, rc3, Cpu.cells]
  have rb4 : h4.rows (T, 1, 0) = some ⟨0, 9, [[.int .i64 0, .nilsl, .nilsl, .nilsl, .nilsl, .nilsl, .int .i64 0, .bool false, .int .i64 0]]⟩ := by
    rw [p4 (T, 1, 0) (by simp <;> omega)]
    simp [hp_next_rows, hp_rows_put, ra3, rb3, rc3]
  have rc4 : h4.rows (T + 1, 0, 0) = some ⟨0, 9, [[.int .i64 c.At, v1, v2, v3, .nilsl, .nilsl, .int .i64 0, .bool false, .int .i64 0]]⟩ := by
    rw [p4 (T + 1, 0, 0) (by simp <;> omega)]
    simp [hp_next_rows, hp_rows_put, ra3, rb3, rc3]
  have tt4 : T + 1 < h4.tick := by omega
  have tu4 : T < h4.tick := by omega
  have c1_4 : ∀ n ∈ ns1, h4.rows n = h3.rows n := fun n hn => by
    have b1 := f1 n hn
    have hne : n ≠ (T + 1, 0, 0) := fun e => by rw [e] at b1; simp at b1; omega
    rw [p4 n (by omega)]
    simp [hp_next_rows, hp_rows_put, hne]
  have c2_4 : ∀ n ∈ ns2, h4.rows n = h3.rows n := fun n hn => by
    have b1 := f2 n hn
    have hne : n ≠ (T + 1, 0, 0) := fun e => by rw [e] at b1; simp at b1; omega
    rw [p4 n (by omega)]
    simp [hp_next_rows, hp_rows_put, hne]
  have c3_4 : ∀ n ∈ ns3, h4.rows n = h3.rows n := fun n hn => by
    have b1 := f3 n hn
    have hne : n ≠ (T + 1, 0, 0) := fun e => by rw [e] at b1; simp at b1; omega
    rw [p4 n (by omega)]
    simp [hp_next_rows, hp_rows_put, hne]
  repeat' (first | (with_reducible first | refine stp ?_ | refine k_blk_o rfl ?_ | refine k_seq_n ?_) | ((try (conv => arg 1; simp [Cpu.cells, ra4, rb4, rc4, tt4, tu4, q4.1, q4.2.1, q4.2.2, q1.1, q2.1, q3.1, q4.1])); with_reducible refine evp ?_) | fail)
  refine st_fresh rfl (toIntS c.Out hs.out) (.cons (dr_ints (fun h => h) _) .nil) ?_
  intro v5 h5 ns5 o5 d5 f5 p5 t5
  have q5 := own_one (ownV_ints (o5 true))
  simp only [hp_next_tick, hp_put_tick, hp_mt_tick] at f5 p5 t5
  have ra5 : h5.rows (T, 0, 0) = some ⟨0, 9, [c.cells true]⟩ := by
    rw [p5 (T, 0, 0) (by simp <;> omega)]
    simp [hp_next_rows, hp_rows_put, ra4, rb4, rc4, Cpu.cells]
  have rb5 : h5.rows (T, 1, 0) = some ⟨0, 9, [[.int .i64 0, .nilsl, .nilsl, .nilsl, .nilsl, .nilsl, .int .i64 0, .bool false, .int .i64 0]]⟩ := by
    rw [p5 (T, 1, 0) (by simp <;> omega)]
    simp [hp_next_rows, hp_rows_put, ra4, rb4, rc4]
  have rc5 : h5.rows (T + 1, 0, 0) = some ⟨0, 9, [[.int .i64 c.At, v1, v2, v3, v4, .nilsl, .int .i64 0, .bool false, .int .i64 0]]⟩ := by
    rw [p5 (T + 1, 0, 0) (by simp <;> omega)]
    simp [hp_next_rows, hp_rows_put, ra4, rb4, rc4]
  have tt5 : T + 1 < h5.tick := by omega
  have tu5 : T < h5.tick := by omega
  have c1_5 : ∀ n ∈ ns1, h5.rows n = h4.rows n := fun n hn => by
    have b1 := f1 n hn
    have hne : n ≠ (T + 1, 0, 0) := fun e => by rw [e] at b1; simp at b1; omega
    rw [p5 n (by omega)]
    simp [hp_next_rows, hp_rows_put, hne]
  have c2_5 : ∀ n ∈ ns2, h5.rows n = h4.rows n := fun n hn => by
    have b1 := f2 n hn
    have hne : n ≠ (T + 1, 0, 0) := fun e => by rw [e] at b1; simp at b1; omega
    rw [p5 n (by omega)]
    simp [hp_next_rows, hp_rows_put, hne]
  have c3_5 : ∀ n ∈ ns3, h5.rows n = h4.rows n := fun n hn => by
    have b1 := f3 n hn
    have hne : n ≠ (T + 1, 0, 0) := fun e => by rw [e] at b1; simp at b1; omega
    rw [p5 n (by omega)]
    simp [hp_next_rows, hp_rows_put, hne]
  have c4_5 : ∀ n ∈ ns4, h5.rows n = h4.rows n := fun n hn => by
    have b1 := f4 n hn
    have hne : n ≠ (T + 1, 0, 0) := fun e => by rw [e] at b1; simp at b1; omega
    rw [p5 n (by omega)]
    simp [hp_next_rows, hp_rows_put, hne]
  repeat' (first | (with_reducible first | refine stp ?_ | refine k_blk_o rfl ?_ | refine k_seq_n ?_) | ((try (conv => arg 1; simp [Cpu.cells, ra5, rb5, rc5, tt5, tu5, q5.1, q5.2.1, q5.2.2, q1.1, q2.1, q3.1, q4.1, q5.1])); with_reducible refine evp ?_) | fail)
  refine ⟨by simp [hp_next_tick, hp_put_tick, hp_mt_tick] <;> omega, ns1 ++ (ns2 ++ (ns3 ++ (ns4 ++ (ns5 ++ [])))), fun b => ?_, ?_, ?_⟩
  · simp only [resV]
    refine .agg (.int _ _ ?_)
    refine @Own.append _ b [v1] [ints b c.Regs] _ _ _ _ ((ownV_ints (o1 b)).congr fun n hn => ?_) ?_
    · have b1 := f1 n hn
      have hne : n ≠ (T + 1, 0, 0) := fun e => by rw [e] at b1; simp at b1; omega
      have hne2 : n ≠ (T, 1, 0) := fun e => by rw [e] at b1; simp at b1; omega
      simp only [hp_next_rows, hp_rows_put, if_neg hne, if_neg hne2]
      rw [c1_5 n hn, c1_4 n hn, c1_3 n hn, c1_2 n hn]
    refine @Own.append _ b [v2] [ints b c.Slots] _ _ _ _ ((ownV_ints (o2 b)).congr fun n hn => ?_) ?_
    · have b1 := f2 n hn
      have hne : n ≠ (T + 1, 0, 0) := fun e => by rw [e] at b1; simp at b1; omega
      have hne2 : n ≠ (T, 1, 0) := fun e => by rw [e] at b1; simp at b1; omega
      simp only [hp_next_rows, hp_rows_put, if_neg hne, if_neg hne2]
      rw [c2_5 n hn, c2_4 n hn, c2_3 n hn]
    refine @Own.append _ b [v3] [intss b c.Mem] _ _ _ _ ((ownV_intss (o3 b)).congr fun n hn => ?_) ?_
    · have b1 := f3 n hn
      have hne : n ≠ (T + 1, 0, 0) := fun e => by rw [e] at b1; simp at b1; omega
      have hne2 : n ≠ (T, 1, 0) := fun e => by rw [e] at b1; simp at b1; omega
      simp only [hp_next_rows, hp_rows_put, if_neg hne, if_neg hne2]
      rw [c3_5 n hn, c3_4 n hn]
    refine @Own.append _ b [v4] [ints b c.Input] _ _ _ _ ((ownV_ints (o4 b)).congr fun n hn => ?_) ?_
    · have b1 := f4 n hn
      have hne : n ≠ (T + 1, 0, 0) := fun e => by rw [e] at b1; simp at b1; omega
      have hne2 : n ≠ (T, 1, 0) := fun e => by rw [e] at b1; simp at b1; omega
      simp only [hp_next_rows, hp_rows_put, if_neg hne, if_neg hne2]
      rw [c4_5 n hn]
    refine @Own.append _ b [v5] [ints b c.Out] _ _ _ _ ((ownV_ints (o5 b)).congr fun n hn => ?_) ?_
    · have b1 := f5 n hn
      have hne : n ≠ (T + 1, 0, 0) := fun e => by rw [e] at b1; simp at b1; omega
      have hne2 : n ≠ (T, 1, 0) := fun e => by rw [e] at b1; simp at b1; omega
      simp only [hp_next_rows, hp_rows_put, if_neg hne, if_neg hne2]
    exact .int _ _ (.bool _ (.int _ _ .nil))
  · have D : ∀ {l m : List Nm} {B : Nat}, l.Nodup → m.Nodup → (∀ n ∈ l, n.1 < B) → (∀ n ∈ m, B ≤ n.1) → (l ++ m).Nodup := fun h1 h2 h3 h4 => List.nodup_append.2 ⟨h1, h2, fun a ha b hb e => by subst e; have := h3 a ha; have := h4 a hb; omega⟩
    refine D d1 (D d2 (D d3 (D d4 (D d5 (by simp) (B := h5.tick) (fun n hn => (f5 n hn).2) (by simp)) (B := h4.tick) (fun n hn => (f4 n hn).2) ?_) (B := h3.tick) (fun n hn => (f3 n hn).2) ?_) (B := h2.tick) (fun n hn => (f2 n hn).2) ?_) (B := h1.tick) (fun n hn => (f1 n hn).2) ?_
    all_goals
      intro n hn
      simp only [List.append_nil, List.mem_append] at hn
      have g2 := f2 n
      have g3 := f3 n
      have g4 := f4 n
      have g5 := f5 n
      iterate 4 (all_goals (try (refine Or.elim hn (fun hn => ?_) (fun hn => ?_))))
      all_goals first | (have := (g2 hn).1; omega) | (have := (g3 hn).1; omega) | (have := (g4 hn).1; omega) | (have := (g5 hn).1; omega)
  · intro n hn
    simp only [List.mem_append, List.not_mem_nil, or_false] at hn
    simp only [hp_next_tick, hp_put_tick, hp_mt_tick]
    rcases hn with hn | hn | hn | hn | hn
    all_goals first | (have := f1 n hn; omega) | (have := f2 n hn; omega) | (have := f3 n hn; omega) | (have := f4 n hn; omega) | (have := f5 n hn; omega)
end Go.Proofs.YtmcmgeedhbgglaaDoor.AM

namespace Go.Proofs.YtmcmgeedhbgglaaDoor.AM
open Go.RowKit

private def MU11 : FuncId → Mode := fun f => if f = 999999 ∨ f = 999999 then .heap else .tree

theorem ownV_cpu {rows : Nm → Option Row} {b : Bool} {v : AV} {c : Cpu} {ns : List Nm} (h : OwnV rows b v (.agg (c.cells b)) ns) : ∃ w1 w2 w3 w4 w5 n1 n2 n3 n4 n5, v = .agg [.int .i64 c.At, w1, w2, w3, w4, w5, .int .i64 c.Code, .bool c.Over, .int .i64 c.Val] ∧ ns = n1 ++ (n2 ++ (n3 ++ (n4 ++ n5))) ∧
    Own rows b [w1] [ints b c.Regs] n1 ∧ Own rows b [w2] [ints b c.Slots] n2 ∧ Own rows b [w3] [intss b c.Mem] n3 ∧ Own rows b [w4] [ints b c.Input] n4 ∧ Own rows b [w5] [ints b c.Out] n5 := by
  generalize ht : AV.agg (c.cells b) = t at h
  cases h with
  | one h => subst ht; unfold Cpu.cells at h; cases h
  | tup2 => cases ht
  | @agg l _ _ h =>
    cases ht
    unfold Cpu.cells at h
    cases h with
    | int _ _ h =>
      obtain ⟨w1, l1, n1, m1, rfl, rfl, o1, h⟩ := own_cons1 h
      obtain ⟨w2, l2, n2, m2, rfl, rfl, o2, h⟩ := own_cons1 h
      obtain ⟨w3, l3, n3, m3, rfl, rfl, o3, h⟩ := own_cons1 h
      obtain ⟨w4, l4, n4, m4, rfl, rfl, o4, h⟩ := own_cons1 h
      obtain ⟨w5, l5, n5, m5, rfl, rfl, o5, h⟩ := own_cons1 h
      cases h with
      | int _ _ h => cases h with
        | bool _ h => cases h with
          | int _ _ h => cases h with
            | nil => exact ⟨w1, w2, w3, w4, w5, n1, n2, n3, n4, n5, rfl, by simp, o1, o2, o3, o4, o5⟩
end Go.Proofs.YtmcmgeedhbgglaaDoor.AM

namespace Go.Proofs.YtmcmgeedhbgglaaDoor.AM
open Go.RowKit

private def MU12 : FuncId → Mode := fun f => if f = 999999 ∨ f = 999999 then .heap else .tree

end Go.Proofs.YtmcmgeedhbgglaaDoor.AM

namespace Go.Proofs.YtmcmgeedhbgglaaDoor.AM
open Go.RowKit

private def MW0 : FuncId → Mode := fun f => .tree

structure Word where
  Op : Int
  R : Int
  A : Int
  B : Int
  N : Int
def Word.cells (w : Word) : List AV := [.int .i64 w.Op, .int .i64 w.R, .int .i64 w.A, .int .i64 w.B, .int .i64 w.N]
def words (b : Bool) (ws : List Word) : AV := .tr b (ws.map Word.cells)
structure Image where
  Sizes : List Int
  Params : Int
  Slots : Int
  Code : List Word
def Image.cells (b : Bool) (m : Image) : List AV := [ints b m.Sizes, .int .i64 m.Params, .int .i64 m.Slots, words b m.Code]
@[simp] theorem one_words (b : Bool) (ws : List Word) : (words b ws).one = true := rfl
@[simp] theorem stored_words (b : Bool) (ws : List Word) : (words b ws).stored = true := rfl
@[simp] theorem cells_words (b : Bool) (ws : List Word) : (words b ws).cells = [words b ws] := rfl


theorem l01In (n lo hi : Int) : Pure Tryd.prog 40 [.int .i64 n, .int .i64 lo, .int .i64 hi] (.bool (inB n lo hi)) := by
  intro T
  refine enter mixed MW0 Tryd.func40 rfl (by kernel_rfl) rfl ?_
  repeat' (first
    | (with_reducible first | refine st_seq ?_ | refine st_reg ?_ | refine st_block ?_ | refine st_nil ?_ | refine st_skip ?_ | refine st_ret ?_ | refine st_exit ?_ | refine fr_nil ?_ | refine k_seq_n ?_ | refine k_seq_r ?_ | refine k_seq_e ?_ | refine k_blk_n ?_ | refine k_blk_r ?_ | refine k_blk_s ?_ | refine k_blk_o rfl ?_ | refine k_fn_r ?_ | refine k_fn_n ?_ | refine k_lp_r ?_ | refine k_lp_e ?_)
    | ((with_reducible first | refine st_move ?_ | refine st_asg ?_ | refine st_c ?_ | refine fr_c ?_); (try (conv => arg 1; simp)); (with_reducible refine at_mk ?_))
    | ((with_reducible first | refine st_g ?_ | refine fr_g ?_); (try (conv => arg 1; simp)); (with_reducible refine at_mk ?_); with_reducible first | refine gd_tt ?_ | refine gd_ff ?_ | refine gd_tf ?_ | refine gd_ft ?_ | refine gd_no ?_)
    | ((with_reducible first | refine st_gm ?_ | refine fr_gm ?_); (try (conv => arg 1; simp)); (with_reducible refine at_mk ?_); (with_reducible first | refine gm_bool ?_ | refine gm_gv ?_); refine ⟨_, (by intro hc; first | ((try simp only [Bool.and_eq_true] at hc); (try (conv => lhs; simp [hc])); first | done | exact rfl) | ((try simp [gq] at hc); (try (conv => lhs; simp [gq, hc])); first | done | exact rfl)), ?_⟩)
    | ((with_reducible refine st_m rfl ?_); (try (conv => arg 1; simp)); (with_reducible refine ev2_some ?_))
    | ((with_reducible refine fr_n rfl ?_); (try (conv => arg 1; simp)); (with_reducible refine evn_some ?_))
    | ((with_reducible first | refine st_cv ?_ | refine fr_cv ?_); (try (conv => arg 1; simp)); (with_reducible refine at_mk ?_); (with_reducible refine fn_mk ?_); (try (conv => arg 1; simp)); (with_reducible refine at_mk ?_))
    | ((with_reducible refine fr_a ?_); (try (conv => arg 1; simp)); (with_reducible refine at_mk ?_); (try (conv => arg 1; simp)); (with_reducible refine at_mk ?_); refine ⟨?names, ?_⟩; (case names => (simp [appNames, ints, intss] <;> first | kernel_rfl | (refine ⟨?_, ?_⟩ <;> kernel_rfl))); (try (conv => arg 1; simp)); (with_reducible refine ev2_some ?_))
    | ((with_reducible first | refine st_q ?_ | refine fr_q ?_ | refine st_res ?_); (try (conv => arg 1; simp)); (with_reducible refine ev_some ?_))
    | ((with_reducible refine st_if ?_); (try (conv => arg 1; simp)); (with_reducible refine at_mk ?_); with_reducible first | refine br_t ?_ | refine br_f ?_))
  exact dr_bool (by simp [inB])
theorem in_ (n lo hi : Int) : Pure Tryd.prog 44 [.int .i64 n, .int .i64 lo, .int .i64 hi] (.bool (inB n lo hi)) := by
  intro T
  refine enter mixed MW0 Tryd.func44 rfl (by kernel_rfl) rfl ?_
  repeat' (first
    | (with_reducible first | refine st_seq ?_ | refine st_reg ?_ | refine st_block ?_ | refine st_nil ?_ | refine st_skip ?_ | refine st_ret ?_ | refine st_exit ?_ | refine fr_nil ?_ | refine k_seq_n ?_ | refine k_seq_r ?_ | refine k_seq_e ?_ | refine k_blk_n ?_ | refine k_blk_r ?_ | refine k_blk_s ?_ | refine k_blk_o rfl ?_ | refine k_fn_r ?_ | refine k_fn_n ?_ | refine k_lp_r ?_ | refine k_lp_e ?_)
    | ((with_reducible first | refine st_move ?_ | refine st_asg ?_ | refine st_c ?_ | refine fr_c ?_); (try (conv => arg 1; simp)); (with_reducible refine at_mk ?_))
    | ((with_reducible first | refine st_g ?_ | refine fr_g ?_); (try (conv => arg 1; simp)); (with_reducible refine at_mk ?_); with_reducible first | refine gd_tt ?_ | refine gd_ff ?_ | refine gd_tf ?_ | refine gd_ft ?_ | refine gd_no ?_)
    | ((with_reducible first | refine st_gm ?_ | refine fr_gm ?_); (try (conv => arg 1; simp)); (with_reducible refine at_mk ?_); (with_reducible first | refine gm_bool ?_ | refine gm_gv ?_); refine ⟨_, (by intro hc; first | ((try simp only [Bool.and_eq_true] at hc); (try (conv => lhs; simp [hc])); first | done | exact rfl) | ((try simp [gq] at hc); (try (conv => lhs; simp [gq, hc])); first | done | exact rfl)), ?_⟩)
    | ((with_reducible refine st_m rfl ?_); (try (conv => arg 1; simp)); (with_reducible refine ev2_some ?_))
    | ((with_reducible refine fr_n rfl ?_); (try (conv => arg 1; simp)); (with_reducible refine evn_some ?_))
    | ((with_reducible first | refine st_cv ?_ | refine fr_cv ?_); (try (conv => arg 1; simp)); (with_reducible refine at_mk ?_); (with_reducible refine fn_mk ?_); (try (conv => arg 1; simp)); (with_reducible refine at_mk ?_))
    | ((with_reducible refine fr_a ?_); (try (conv => arg 1; simp)); (with_reducible refine at_mk ?_); (try (conv => arg 1; simp)); (with_reducible refine at_mk ?_); refine ⟨?names, ?_⟩; (case names => (simp [appNames, ints, intss] <;> first | kernel_rfl | (refine ⟨?_, ?_⟩ <;> kernel_rfl))); (try (conv => arg 1; simp)); (with_reducible refine ev2_some ?_))
    | ((with_reducible first | refine st_q ?_ | refine fr_q ?_ | refine st_res ?_); (try (conv => arg 1; simp)); (with_reducible refine ev_some ?_))
    | ((with_reducible refine st_if ?_); (try (conv => arg 1; simp)); (with_reducible refine at_mk ?_); with_reducible first | refine br_t ?_ | refine br_f ?_))
  exact dr_bool (by simp [inB])
end Go.Proofs.YtmcmgeedhbgglaaDoor.AM

namespace Go.Proofs.YtmcmgeedhbgglaaDoor.AM
open Go.RowKit

private def MD6 : FuncId → Mode := fun f => .tree

/-- The values of a list that are not 0, each behind a name. -/
def rowI (hd : List UInt8) (l : List Int) : Nat → List (List UInt8)
  | 0 => []
  | i + 1 => rowI hd l i ++ (if l.getD i 0 = 0 then [] else [hd ++ (dg i ++ 61 :: dg (l.getD i 0))])
theorem getD_in {l : List Int} (hx : ∀ x ∈ l, I64 x) (i : Nat) : I64 (l.getD i 0) := by
  by_cases h : i < l.length
  · simp only [List.getD, List.getElem?_eq_getElem h, Option.getD_some]; exact hx _ (List.getElem_mem h)
  · simp only [List.getD, List.getElem?_eq_none (Nat.le_of_not_lt h), Option.getD_none]; exact ⟨by decide, by decide⟩
theorem rowI_succ {hd : List UInt8} {l : List Int} {i : Nat} (h : i < l.length) : rowI hd l (i + 1) = rowI hd l i ++ (if l[i] = 0 then [] else [hd ++ (dg i ++ 61 :: dg l[i])]) := by
  simp [rowI, h]
theorem i64_nat {i : Nat} (h : i ≤ 2 ^ 62) : I64 i := ⟨by omega, by omega⟩
theorem rowI_cnt (hd : List UInt8) (l : List Int) : ∀ i, (rowI hd l i).length ≤ i
  | 0 => Nat.le_refl _
  | i + 1 => by
    have := rowI_cnt hd l i
    simp only [rowI, List.length_append]
    split <;> simp <;> omega
theorem rowI_len {hd : List UInt8} {l : List Int} (hx : ∀ x ∈ l, I64 x) : ∀ i, i ≤ 2 ^ 62 → ∀ x ∈ rowI hd l i, x.length ≤ hd.length + 41
  | 0, _ => fun x h => by simp [rowI] at h
  | i + 1, hi => fun x h => by
    simp only [rowI, List.mem_append] at h
    rcases h with h | h
    · exact rowI_len hx i (by omega) x h
    · split at h
      · simp at h
      · simp only [List.mem_singleton] at h
        subst h
        have a := dg_len (i64_nat (i := i) (by omega))
        have b := dg_len (getD_in hx i)
        simp only [List.length_append, List.length_cons]
        omega
theorem rowI_bd {hd : List UInt8} {l : List Int} (hh : hd.length ≤ 100) (hx : ∀ x ∈ l, I64 x) (i : Nat) (hi : i ≤ 2 ^ 20) : (sp (rowI hd l i)).length ≤ i * 142 := by
  have a := sp_len (k := hd.length + 41) (rowI_len hx i (by omega))
  have b := rowI_cnt hd l i
  refine Nat.le_trans a (Nat.mul_le_mul b (by omega))

set_option maxHeartbeats 1000000 in
theorem l15Row (hd : List UInt8) (l : List Int) (hh : hd.length ≤ 100) (hl : l.length ≤ 2 ^ 20) (hx : ∀ x ∈ l, I64 x) : Pure Tryd.prog 24 [.str (bs hd), ints true l] (.str (bs (sp (rowI hd l l.length)))) := by
  intro T
  refine enter mixed MD6 Tryd.func24 rfl (by kernel_rfl) rfl ?_
  repeat' (first | (with_reducible first | refine stp ?_ | refine k_blk_o rfl ?_ | refine k_seq_n ?_) | ((try (conv => arg 1; simp [bs_mk, bs_empty])); with_reducible refine evp ?_) | fail)
  refine st_loop (fun (i : Nat) σ h => i ≤ l.length ∧ σ 0 = .str (bs hd) ∧ σ 1 = ints true l ∧ σ 5 = .str (bs (sp (rowI hd l i))) ∧ σ 6 = .int .i64 i) (fun i => l.length - i) 0 ?init ?step
  case init =>
    exact ⟨Nat.zero_le _, by simp, by simp, by simp [rowI, sp, bs_empty], by simp⟩
  case step =>
    rintro i σ h ⟨hi, s0, s1, s5, s6⟩
    by_cases hlt : i < l.length
    · have hlt2 : (i : Int) < l.length := by omega
      have hxi : l[i]? = some l[i] := by simp
      have hw : IntKind.i64.wrap (i + 1) = i + 1 := wrap_id (by omega) (by omega)
      haveI : Bd (sp (rowI hd l i)) 4294967296 := ⟨by have := rowI_bd hh hx i (by omega); omega⟩
      haveI : Bd hd 100 := ⟨hh⟩
      by_cases hz : l[i] = 0
      · skip
        repeat' (first | (with_reducible first | refine stp ?_ | refine k_blk_o rfl ?_ | refine k_seq_n ?_) | ((try (conv => arg 1; simp [ints, s0, s1, s5, s6, hlt2, hxi, hz, hw])); with_reducible refine evp ?_) | fail)
        refine k_lp_n (i + 1) (by omega) ⟨by omega, by simp [s0], by simp [s1], by simp [s5, rowI_succ hlt, hz], by simp⟩
      · have K1 := specDecText i (i64_nat (by omega))
        have K2 := specDecText l[i] (hx _ (List.getElem_mem hlt))
        haveI := bd_dg (i64_nat (i := i) (by omega))
        haveI := bd_dg (hx _ (List.getElem_mem hlt))
        repeat' (first | (with_reducible first | refine stp ?_ | refine k_blk_o rfl ?_ | refine k_seq_n ?_) | ((try (conv => arg 1; simp [ints, s0, s1, s5, s6, hlt2, hxi, hz, hw])); with_reducible refine evp ?_) | fail)
        repeat (with_reducible first | refine stp ?_ | refine k_seq_n ?_)
        refine st_draw 15 (fun _ => false) (by kernel_rfl) ?_
        simp only [List.take_succ_cons, List.take_zero, List.drop_succ_cons, List.drop_zero, List.take_nil, List.drop_nil]
        repeat' (first | (with_reducible first | refine stp ?_ | refine k_blk_o rfl ?_ | refine k_seq_n ?_) | ((try (conv => arg 1; simp [ints, s0, s1, s5, s6, hlt2, hxi, hz, hw, bs_mk, cat_le, bs_app])); with_reducible refine evp ?_) | ((with_reducible refine apn ?na ?_); (case na => simp [appNames, ints, intss] <;> first | kernel_rfl | (refine ⟨?_, ?_⟩ <;> kernel_rfl))) | ((with_reducible refine tcl ?_); first | ((apply tg (K1)); (case e => rfl); (case d => (refine dq ?_); (repeat' (first | ((refine Da.mk ?_); first | assumption) | constructor)))) | ((apply tg (K2)); (case e => rfl); (case d => (refine dq ?_); (repeat' (first | ((refine Da.mk ?_); first | assumption) | constructor))))) | fail)
        refine k_lp_n (i + 1) (by omega) ⟨by omega, by simp [s0], by simp [s1], by simp [rowI_succ hlt, hz, sp_app, sp_cons, sp_nil], by simp⟩
    · have hge : i = l.length := by omega
      subst hge
      repeat' (first | (with_reducible first | refine stp ?_ | refine k_blk_o rfl ?_ | refine k_seq_n ?_) | ((try (conv => arg 1; simp [ints, s0, s1, s5, s6])); with_reducible refine evp ?_) | ((with_reducible refine apn ?na ?_); (case na => simp [appNames, ints, intss] <;> first | kernel_rfl | (refine ⟨?_, ?_⟩ <;> kernel_rfl))) | fail)
      exact .str _

def endN (c : Int) : List UInt8 := if c = 0 then [100, 111, 110, 101] else if c = 1 then [116, 114, 97, 112] else if c = 2 then [102, 117, 101, 108] else [110, 111, 110, 101]
/-- How a run ended, as text: its head. -/
def endH (e : EndV) : List UInt8 := if e.Code = 0 then 100 :: 111 :: 110 :: 101 :: 32 :: dg e.Val else endN e.Code
def endT (e : EndV) : List UInt8 := if inB e.Code 0 3 = true then endH e ++ sp (e.Out.map dg) else []
theorem endH_len {e : EndV} (h : I64 e.Val) : (endH e).length ≤ 25 := by
  have := dg_len h
  unfold endH endN
  split
  · simp only [List.length_cons]; omega
  · rename_i h0
    split
    · simp
    · split <;> simp
theorem sp_dg_len {l : List Int} (h : ∀ x ∈ l, I64 x) : (sp (l.map dg)).length ≤ l.length * 21 := by
  have := sp_len (xs := l.map dg) (k := 20) (fun x hx => by
    obtain ⟨y, hy, rfl⟩ := List.mem_map.1 hx
    exact dg_len (h y hy))
  simpa using this
/-- A list's first numbers, a blank ahead of each. -/
def spd (l : List Int) (i : Nat) : List UInt8 := sp ((l.take i).map dg)
theorem spd_zero (l : List Int) : spd l 0 = [] := by simp [spd, sp_nil]
theorem spd_all (l : List Int) : spd l l.length = sp (l.map dg) := by simp [spd]
theorem spd_succ {l : List Int} {i : Nat} (h : i < l.length) : spd l (i + 1) = spd l i ++ 32 :: dg l[i] := by
  unfold spd
  rw [List.take_add_one, List.getElem?_eq_getElem h, List.map_append, sp_app]
  simp [sp_cons, sp_nil]
theorem spd_len {l : List Int} (h : ∀ x ∈ l, I64 x) (i : Nat) (hl : l.length ≤ 2 ^ 20) : (spd l i).length ≤ 4294967296 := by
  have := sp_dg_len (l := l.take i) (fun x hx => h x (List.mem_of_mem_take hx))
  simp only [List.length_take] at this
  have h2 : min i l.length ≤ l.length := Nat.min_le_right _ _
  unfold spd
  omega

set_option maxHeartbeats 1000000 in
theorem specEndText (e : EndV) (hl : e.Out.length ≤ 2 ^ 20) (hv : I64 e.Val) (ho : ∀ x ∈ e.Out, I64 x) : Pure Tryd.prog 25 [.agg (e.cells true)] (.str (bs (endT e))) := by
  intro T
  obtain ⟨Code, Val, Out⟩ := e
  simp only at hl hv ho
  have K0 := l01In Code 0 3
  refine enter mixed MD6 Tryd.func25 rfl (by kernel_rfl) rfl ?_
  cases hin : inB Code 0 3 with
  | false =>
    repeat' (first | (with_reducible first | refine stp ?_ | refine k_blk_o rfl ?_ | refine k_seq_n ?_) | ((try (conv => arg 1; simp [EndV.cells, hin, bs_empty])); with_reducible refine evp ?_) | ((with_reducible refine tcl ?_); first | ((apply tg (K0)); (case e => rfl); (case d => (refine dq ?_); (repeat' (first | ((refine Da.mk ?_); first | assumption) | constructor))))) | fail)
    simp [endT, hin]
    exact .str _
  | true =>
    have hc : Code = 0 ∨ Code = 1 ∨ Code = 2 ∨ Code = 3 := by simp [inB] at hin; omega
    have K1 := specDecText Val hv
    haveI := bd_dg hv
    have hE : endT ⟨Code, Val, Out⟩ = endH ⟨Code, Val, Out⟩ ++ sp (Out.map dg) := by simp [endT, hin]
    have hB := endH_len (e := ⟨Code, Val, Out⟩) hv
    rw [hin] at K0
    rw [hE]
    clear hin hE
    obtain ⟨cd, hcd⟩ : ∃ cd, cd = Code := ⟨_, rfl⟩
    rcases hc with rfl | rfl | rfl | rfl
    all_goals
      repeat' (first | (with_reducible first | refine stp ?_ | refine k_blk_o rfl ?_ | refine k_seq_n ?_) | ((try (conv => arg 1; simp [EndV.cells, rg4, bs_mk, bs_empty, cat_le, bs_app])); with_reducible refine evp ?_) | ((with_reducible refine tcl ?_); first | ((apply tg (K0)); (case e => rfl); (case d => (refine dq ?_); (repeat' (first | ((refine Da.mk ?_); first | assumption) | constructor)))) | ((apply tg (K1)); (case e => rfl); (case d => (refine dq ?_); (repeat' (first | ((refine Da.mk ?_); first | assumption) | constructor))))) | fail)
      refine st_loop (fun (i : Nat) σ h => i ≤ Out.length ∧ σ 1 = .ptr (T, 0, 0) 0 0 0 ∧ h.rows (T, 0, 0) = some ⟨0, 3, [[.int .i64 cd, .int .i64 Val, ints true Out]]⟩ ∧ σ 3 = .str (bs (endH ⟨cd, Val, Out⟩ ++ spd Out i)) ∧ σ 4 = .int .i64 i) (fun i => Out.length - i) 0 ?init ?step
      case init =>
        exact ⟨Nat.zero_le _, by simp, by simp [hcd], by simp [hcd, endH, endN, spd_zero], by simp⟩
      case step =>
        rintro i σ h ⟨hi, s1, hr, s3, s4⟩
        by_cases hlt : i < Out.length
        · have hlt2 : (i : Int) < Out.length := by omega
          have hxi : Out[i]? = some Out[i] := by simp
          have hw : IntKind.i64.wrap (i + 1) = i + 1 := wrap_id (by omega) (by omega)
          have K2 := specDecText Out[i] (ho _ (List.getElem_mem hlt))
          haveI := bd_dg (ho _ (List.getElem_mem hlt))
          haveI : Bd (spd Out i) 4294967296 := ⟨spd_len ho i hl⟩
          rw [← hcd] at hB
          generalize endH _ = E at *
          haveI : Bd E 25 := ⟨hB⟩
          repeat' (first | (with_reducible first | refine stp ?_ | refine k_blk_o rfl ?_ | refine k_seq_n ?_) | ((try (conv => arg 1; simp [ints, s1, hr, s3, s4, hlt2, hxi, hw, bs_mk, cat_le, bs_app])); with_reducible refine evp ?_) | ((with_reducible refine tcl ?_); first | ((apply tg (K2)); (case e => rfl); (case d => (refine dq ?_); (repeat' (first | ((refine Da.mk ?_); first | assumption) | constructor))))) | fail)
          refine k_lp_n (i + 1) (by omega) ⟨by omega, by simp [s1], by simp [hr], by simp [spd_succ hlt], by simp⟩
        · have hge : i = Out.length := by omega
          subst hge
          repeat' (first | (with_reducible first | refine stp ?_ | refine k_blk_o rfl ?_ | refine k_seq_n ?_) | ((try (conv => arg 1; simp [ints, s1, hr, s3, s4])); with_reducible refine evp ?_) | fail)
          rw [spd_all, hcd]
          exact .str _
end Go.Proofs.YtmcmgeedhbgglaaDoor.AM

namespace Go.Proofs.YtmcmgeedhbgglaaDoor.AM
open Go.RowKit

private def MW1 : FuncId → Mode := fun f => .tree

theorem word_flat (w : Word) : w.cells.length = 5 ∧ ∀ x ∈ w.cells, flatc x = true := ⟨rfl, by simp [Word.cells, flatc]⟩
theorem words_flat (ws : List Word) : ∀ e ∈ ws.map Word.cells, e.length = 5 ∧ ∀ x ∈ e, flatc x = true := fun e he => by
  obtain ⟨w, _, rfl⟩ := List.mem_map.1 he
  exact word_flat w
theorem drs_word {c : Bool} {rows : Nm → Option Row} (w : Word) : DRs c rows w.cells w.cells := drs_flat (word_flat w).2
theorem dr_words {c b : Bool} {rows : Nm → Option Row} (hb : b = true → c = true) (ws : List Word) : DR c rows (words b ws) (words c ws) := dr_trflat hb fun e he => (words_flat ws e he).2

theorem szWordS (xs : List Word) (left : Int) (h1 : 0 ≤ left) (h2 : left ≤ 2 ^ 20) (hm : xs.length ≤ maxLen) : Pure Tryd.prog 38 [words true xs, .int .i64 left] (.int .i64 (if left < xs.length then -1 else left - xs.length)) := by
  intro T
  have hw : IntKind.i64.wrap (left - xs.length) = left - xs.length := wrap_id (by simp [maxLen] at hm; omega) (by omega)
  refine enter mixed MW1 Tryd.func38 rfl (by kernel_rfl) rfl ?_
  repeat' (first | (with_reducible first | refine stp ?_ | refine k_blk_o rfl ?_ | refine k_seq_n ?_) | ((try (conv => arg 1; simp [words, hw])); with_reducible refine evp ?_) | ((with_reducible first | refine gd_b (fun hb => ?_) (fun hb => ?_) | refine br_b (fun hb => ?_) (fun hb => ?_)) <;> ((try simp only [Bool.not_eq_eq_eq_not, Bool.not_true, Bool.not_false] at hb); (try simp only [hb]); (try simp at hb))) | fail)
  · exact dr_int (by rw [if_pos (by omega)])
  · exact dr_int (by rw [if_neg (by omega)])

theorem toWord (w : Word) : Pure Tryd.prog 60 [.agg w.cells] (.agg w.cells) := by
  intro T
  refine enter mixed MW1 Tryd.func60 rfl (by kernel_rfl) rfl ?_
  repeat' (first | (with_reducible first | refine stp ?_ | refine k_blk_o rfl ?_ | refine k_seq_n ?_) | ((try (conv => arg 1; simp [Word.cells])); with_reducible refine evp ?_) | fail)
  exact dr_agg (drs_word w)

theorem eqWord (w : Word) : Pure Tryd.prog 68 [.agg w.cells, .agg w.cells] (.bool true) := by
  intro T
  refine enter mixed MW1 Tryd.func68 rfl (by kernel_rfl) rfl ?_
  repeat' (first | (with_reducible first | refine stp ?_ | refine k_blk_o rfl ?_ | refine k_seq_n ?_) | ((try (conv => arg 1; simp [Word.cells])); with_reducible refine evp ?_) | fail)
  exact .bool _
end Go.Proofs.YtmcmgeedhbgglaaDoor.AM

namespace Go.Proofs.YtmcmgeedhbgglaaDoor.AM
open Go.RowKit

private def MW2 : FuncId → Mode := fun f => .tree

theorem toWordS (xs : List Word) (hl : xs.length ≤ 2 ^ 20) : Fresh Tryd.prog 42 [words true xs] (fun c => words c xs) := by
  intro T
  have hl2 : (xs.length : Int) ≤ 4294967296 := by omega
  refine enter mixed MW2 Tryd.func42 rfl (by kernel_rfl) rfl ?_
  repeat' (first | (with_reducible first | refine stp ?_ | refine k_blk_o rfl ?_ | refine k_seq_n ?_) | ((try (conv => arg 1; simp [words, hl2])); with_reducible refine evp ?_) | fail)
  refine st_loop (fun (i : Nat) σ h => i ≤ xs.length ∧ σ 0 = words true xs ∧ σ 3 = .sl (T + 1, 2, 0) 0 0 xs.length ∧ σ 4 = .int .i64 i ∧ T + 1 < h.tick ∧ ∃ ys : List Word, ys.length = xs.length ∧ ys.take i = xs.take i ∧ h.rows (T + 1, 2, 0) = some ⟨0, 5, ys.map Word.cells⟩) (fun i => xs.length - i) 0 ?init ?step
  case init =>
    simp
    exact ⟨List.replicate xs.length ⟨0, 0, 0, 0, 0⟩, by simp, by simp [Word.cells]⟩
  case step =>
    rintro i σ h ⟨hi, h0, h3, h4, ht, ys, hy, hyi, hr⟩
    repeat' (first | (with_reducible first | refine stp ?_ | refine k_blk_o rfl ?_ | refine k_seq_n ?_) | ((try (conv => arg 1; simp [words, h0, h3, h4, hr])); with_reducible refine evp ?_) | fail)
    (try with_reducible refine st_if ?_)
    (try (conv => arg 1; simp [h0]))
    (try with_reducible refine at_mk ?_)
    refine ⟨fun hb => ?_, fun hb => ?_⟩
    · have hlt : i < xs.length := by simpa using hb
      have hx : xs[i]? = some (xs[i]) := by simp
      have hy2 : ys[i]? = some (ys[i]'(by omega)) := by simp
      have hlen : (xs[i]).cells.length = 5 := rfl
      have hlen2 : (ys[i]'(by omega)).cells.length = 5 := rfl
      have ht2 : T + 1 < h.tick + 1 + 1 := by omega
      have hw : IntKind.i64.wrap (i + 1) = i + 1 := wrap_id (by omega) (by omega)
      repeat' (first | (with_reducible first | refine stp ?_ | refine k_blk_o rfl ?_ | refine k_seq_n ?_) | ((try (conv => arg 1; simp [words, h0, h3, h4, hr, hlt, hx, hy2, ht2, hw, hlen, Word.cells])); with_reducible refine evp ?_) | fail)
      refine st_tree rfl (toWord xs[i]) (.cons (dr_agg (drs_word _)) .nil) ?_
      repeat' (first | (with_reducible first | refine stp ?_ | refine k_blk_o rfl ?_ | refine k_seq_n ?_) | ((try (conv => arg 1; simp [h0, h3, h4, hr, hlt, hx, hy2, ht2, hw, hlen, Word.cells])); with_reducible refine evp ?_) | fail)
      refine k_lp_n (i + 1) (by omega) ⟨by omega, by simp [h0], by simp [h3], by simp [h4], by simp; omega, ys.set i xs[i], by simp [hy], ?_, ?_⟩
      · rw [List.take_add_one, List.take_add_one]
        simp [hyi, hy, hlt, List.take_set_of_le]
      · simp [List.map_set, Word.cells]
    · have hge : i = xs.length := by simp at hb; omega
      repeat' (first | (with_reducible first | refine stp ?_ | refine k_blk_o rfl ?_ | refine k_seq_n ?_) | ((try (conv => arg 1; simp [h0, h3, h4, hr])); with_reducible refine evp ?_) | fail)
      refine ⟨by simp; omega, [(T + 1, 2, 0)], fun c => .one ?_, by simp, by simp; omega⟩
      simp [resV]
      refine own_row (s := 5) (ys := ys.map Word.cells) (by simpa using hr) ?_ (by simp) (fun e he => (words_flat ys e he).1) (fun e he => (words_flat xs e he).2) (clRow_flat fun e he => (words_flat ys e he).2)
      subst hge
      rw [← List.map_take, hyi]; simp

theorem eqWordS (xs : List Word) (hl : xs.length ≤ 2 ^ 62) : Pure Tryd.prog 46 [words true xs, words true xs] (.bool true) := by
  intro T
  refine enter mixed MW2 Tryd.func46 rfl (by kernel_rfl) rfl ?_
  repeat' (first | (with_reducible first | refine stp ?_ | refine k_blk_o rfl ?_ | refine k_seq_n ?_) | ((try (conv => arg 1; simp [words])); with_reducible refine evp ?_) | fail)
  refine st_loop (fun (i : Nat) σ h => i ≤ xs.length ∧ σ 0 = words true xs ∧ σ 1 = words true xs ∧ σ 5 = .int .i64 i) (fun i => xs.length - i) 0 ?init ?step
  case init =>
    simp [words]
  case step =>
    rintro i σ h ⟨hi, h0, h1, h5⟩
    repeat' (first | (with_reducible first | refine stp ?_ | refine k_blk_o rfl ?_ | refine k_seq_n ?_) | ((try (conv => arg 1; simp [words, h0, h5])); with_reducible refine evp ?_) | fail)
    (try with_reducible refine st_if ?_)
    (try (conv => arg 1; simp [words]))
    (try with_reducible refine at_mk ?_)
    refine ⟨fun hb => ?_, fun hb => ?_⟩
    · have hlt : i < xs.length := by simpa using hb
      have hx : xs[i]? = some (xs[i]) := by simp
      have hlen : (xs[i]).cells.length = 5 := rfl
      have hw : IntKind.i64.wrap (i + 1) = i + 1 := wrap_id (by omega) (by omega)
      repeat' (first | (with_reducible first | refine stp ?_ | refine k_blk_o rfl ?_ | refine k_seq_n ?_) | ((try (conv => arg 1; simp [words])); with_reducible refine evp ?_) | fail)
      repeat (with_reducible first | refine stp ?_ | refine k_seq_n ?_)
      refine st_draw 10 (fun _ => false) (by kernel_rfl) ?_
      simp only [List.take_succ_cons, List.take_zero, List.drop_succ_cons, List.drop_zero, List.take_nil, List.drop_nil]
      repeat' (first | (with_reducible first | refine stp ?_ | refine k_blk_o rfl ?_ | refine k_seq_n ?_) | ((try (conv => arg 1; simp [words, h0, h1, h5, hx, hlen, Word.cells])); with_reducible refine evp ?_) | ((with_reducible refine apn ?na ?_); (case na => simp [appNames, ints, intss] <;> first | kernel_rfl | (refine ⟨?_, ?_⟩ <;> kernel_rfl))) | fail)
      refine treeW_pure (eqWord xs[i]) (.cons (dr_agg (drs_word _)) (.cons (dr_agg (drs_word _)) .nil)) ?_
      repeat' (first | (with_reducible first | refine stp ?_ | refine k_blk_o rfl ?_ | refine k_seq_n ?_) | ((try (conv => arg 1; simp [words, h0, h1, h5, hx, hw])); with_reducible refine evp ?_) | ((with_reducible refine apn ?na ?_); (case na => simp [appNames, ints, intss] <;> first | kernel_rfl | (refine ⟨?_, ?_⟩ <;> kernel_rfl))) | fail)
      refine k_lp_n (i + 1) (by omega) ⟨by omega, by simp [h0], by simp [h1], by simp [h5]⟩
    · skip
      repeat' (first | (with_reducible first | refine stp ?_ | refine k_blk_o rfl ?_ | refine k_seq_n ?_) | ((try (conv => arg 1; simp [words])); with_reducible refine evp ?_) | ((with_reducible refine apn ?na ?_); (case na => simp [appNames, ints, intss] <;> first | kernel_rfl | (refine ⟨?_, ?_⟩ <;> kernel_rfl))) | fail)
      exact .bool true

def mwords (k : Int) (n : Nat) : List Word := (List.range n).map fun (i : Nat) => ⟨k + 5 * i, k + 5 * i + 1, k + 5 * i + 1 + 1, k + 5 * i + 1 + 1 + 1, k + 5 * i + 1 + 1 + 1 + 1⟩
theorem mwords_length (k : Int) (n : Nat) : (mwords k n).length = n := by simp [mwords]
theorem mwords_get {k : Int} {n i : Nat} (h : i < n) : (mwords k n)[i]? = some ⟨k + 5 * i, k + 5 * i + 1, k + 5 * i + 1 + 1, k + 5 * i + 1 + 1 + 1, k + 5 * i + 1 + 1 + 1 + 1⟩ := by simp [mwords, h]

end Go.Proofs.YtmcmgeedhbgglaaDoor.AM

namespace Go.Proofs.YtmcmgeedhbgglaaDoor.AM
open Go.RowKit

private def MW3 : FuncId → Mode := fun f => if f = 27 ∨ f = 42 then .fresh else if f = 999999 ∨ f = 999999 then .heap else .tree

structure Image.Small (m : Image) : Prop where
  sizes : m.Sizes.length ≤ 2 ^ 20
  code : m.Code.length ≤ 2 ^ 20

theorem drs_image (m : Image) {b b' : Bool} (hb : b = true → b' = true) {rows : Nm → Option Row} : DRs b' rows (m.cells b) (m.cells b') :=
  .cons (dr_ints hb _) (.cons (.int _ _) (.cons (.int _ _) (.cons (dr_words hb _) .nil)))

theorem szImage (m : Image) (left : Int) (l0 : 0 ≤ left) (l1 : left ≤ 2 ^ 20) (m1 : m.Sizes.length ≤ maxLen) (m2 : m.Code.length ≤ maxLen) :
    ∃ r : Int, Pure Tryd.prog 14 [.agg (m.cells true), .int .i64 left] (.int .i64 r) ∧ (r < 0 ∨ (m.Small ∧ 0 ≤ r ∧ r ≤ left)) := by
  by_cases h1 : left < (m.Sizes.length : Int)
  · refine ⟨-1, ?_, .inl (by omega)⟩
    intro T
    refine enter mixed MW3 Tryd.func14 rfl (by kernel_rfl) rfl ?_
    repeat' (first | (with_reducible first | refine stp ?_ | refine k_blk_o rfl ?_ | refine k_seq_n ?_) | ((try (conv => arg 1; simp [Image.cells, h1])); with_reducible refine evp ?_) | ((with_reducible refine tcl ?_); first | ((apply tg (szIntS m.Sizes left l0 l1 m1)); (case e => rfl); (case d => (refine dq ?_); (repeat' (first | ((refine Da.mk ?_); first | assumption) | constructor))))) | fail)
    exact .int _ _
  by_cases h2 : left - (m.Sizes.length : Int) < (m.Code.length : Int)
  · refine ⟨-1, ?_, .inl (by omega)⟩
    intro T
    have e1 : ¬ left - (m.Sizes.length : Int) < 0 := by omega
    refine enter mixed MW3 Tryd.func14 rfl (by kernel_rfl) rfl ?_
    repeat' (first | (with_reducible first | refine stp ?_ | refine k_blk_o rfl ?_ | refine k_seq_n ?_) | ((try (conv => arg 1; simp [Image.cells, h1, e1, h2])); with_reducible refine evp ?_) | ((with_reducible refine tcl ?_); first | ((apply tg (szIntS m.Sizes left l0 l1 m1)); (case e => rfl); (case d => (refine dq ?_); (repeat' (first | ((refine Da.mk ?_); first | exact dr_words (by simp) _ | assumption) | constructor)))) | ((apply tg (szWordS m.Code (left - (m.Sizes.length : Int)) (by omega) (by omega) m2)); (case e => rfl); (case d => (refine dq ?_); (repeat' (first | ((refine Da.mk ?_); first | exact dr_words (by simp) _ | assumption) | constructor))))) | fail)
    exact .int _ _
  refine ⟨left - (m.Sizes.length : Int) - (m.Code.length : Int), ?_, .inr ⟨⟨by omega, by omega⟩, by omega, by omega⟩⟩
  intro T
  have e1 : ¬ left - (m.Sizes.length : Int) < 0 := by omega
  have e2 : ¬ left - (m.Sizes.length : Int) - (m.Code.length : Int) < 0 := by omega
  refine enter mixed MW3 Tryd.func14 rfl (by kernel_rfl) rfl ?_
  repeat' (first | (with_reducible first | refine stp ?_ | refine k_blk_o rfl ?_ | refine k_seq_n ?_) | ((try (conv => arg 1; simp [Image.cells, h1, e1, h2, e2])); with_reducible refine evp ?_) | ((with_reducible refine tcl ?_); first | ((apply tg (szIntS m.Sizes left l0 l1 m1)); (case e => rfl); (case d => (refine dq ?_); (repeat' (first | ((refine Da.mk ?_); first | exact dr_words (by simp) _ | assumption) | constructor)))) | ((apply tg (szWordS m.Code (left - (m.Sizes.length : Int)) (by omega) (by omega) m2)); (case e => rfl); (case d => (refine dq ?_); (repeat' (first | ((refine Da.mk ?_); first | exact dr_words (by simp) _ | assumption) | constructor))))) | fail)
  exact .int _ _

theorem eqImage (m : Image) (hs : m.Small) : Pure Tryd.prog 18 [.agg (m.cells true), .agg (m.cells true)] (.bool true) := by
  intro T
  refine enter mixed MW3 Tryd.func18 rfl (by kernel_rfl) rfl ?_
  repeat' (first | (with_reducible first | refine stp ?_ | refine k_blk_o rfl ?_ | refine k_seq_n ?_) | ((try (conv => arg 1; simp [Image.cells])); with_reducible refine evp ?_) | ((with_reducible refine tcl ?_); first | ((apply tg (eqIntS m.Sizes (by have := hs.sizes; omega))); (case e => rfl); (case d => (refine dq ?_); (repeat' (first | ((refine Da.mk ?_); first | exact dr_words (by simp) _ | assumption) | constructor)))) | ((apply tg (eqWordS m.Code (by have := hs.code; omega))); (case e => rfl); (case d => (refine dq ?_); (repeat' (first | ((refine Da.mk ?_); first | exact dr_words (by simp) _ | assumption) | constructor))))) | fail)
  exact .bool true
end Go.Proofs.YtmcmgeedhbgglaaDoor.AM

namespace Go.Proofs.YtmcmgeedhbgglaaDoor.AM
open Go.RowKit

private def MW4 : FuncId → Mode := fun f => if f = 27 ∨ f = 42 then .fresh else if f = 999999 ∨ f = 999999 then .heap else .tree

theorem toImage (m : Image) (hs : m.Small) : Fresh Tryd.prog 16 [.agg (m.cells true)] (fun b => .agg (m.cells b)) := by
  intro T
  refine enter mixed MW4 Tryd.func16 rfl (by kernel_rfl) rfl ?_
  repeat' (first | (with_reducible first | refine stp ?_ | refine k_blk_o rfl ?_) | ((try (conv => arg 1; simp [Image.cells])); with_reducible refine evp ?_) | fail)
  refine cx_k ((Cx.mt.next.box_one (T := T) (i := 0) Cx.mt.off (by simp)).box_add (n := (T, 1, 0)) (by simp [nms]) (by simp)) ?_
  intro h1 x1
  repeat' (first | (with_reducible first | refine stp ?_ | refine k_blk_o rfl ?_) | ((try (conv => arg 1; simp [hs])); with_reducible refine evp ?_) | fail)
  refine cx_k (x1.next.box_one x1.off (by simp)) ?_
  intro h2 x2
  repeat' (first | (with_reducible first | refine stp ?_ | refine k_blk_o rfl ?_) | ((try (conv => arg 1; simp [x2.b0, x2.b1, x2.b2])); with_reducible refine evp ?_) | fail)
  refine st_fresh rfl (toIntS m.Sizes hs.sizes) (.cons (dr_ints (fun h => h) _) .nil) ?_
  intro v1 h3 n1 o1 d1 f1 p1 t1
  have x3 := x2.next.fresh o1 d1 f1 p1 t1
  have q1 := own_one (ownV_ints (o1 true))
  have z3 : h1.tick < h3.tick := Nat.lt_of_lt_of_le (x2.lt (h1.tick, 0, 0) (by simp [nms])) (by simp at t1; omega)
  repeat' (first | (with_reducible first | refine stp ?_ | refine k_blk_o rfl ?_) | ((try (conv => arg 1; simp [x3.b0, x3.b1, x3.b2, q1.1, q1.2.1, q1.2.2, z3])); with_reducible refine evp ?_) | fail)
  refine cx_k x3.box_set ?_
  intro h4 x4
  have z4 : h1.tick < h4.tick := x4.lt (h1.tick, 0, 0) (by simp [nms])
  repeat' (first | (with_reducible first | refine stp ?_ | refine k_blk_o rfl ?_) | ((try (conv => arg 1; simp [x4.b0, x4.b1, x4.b2, z4, q1.1])); with_reducible refine evp ?_) | fail)
  refine cx_k x4.next.box_set ?_
  intro h5 x5
  have z5 : h1.tick < h5.tick := x5.lt (h1.tick, 0, 0) (by simp [nms])
  repeat' (first | (with_reducible first | refine stp ?_ | refine k_blk_o rfl ?_) | ((try (conv => arg 1; simp [x5.b0, x5.b1, x5.b2, z5, q1.1])); with_reducible refine evp ?_) | fail)
  refine cx_k x5.next.box_set ?_
  intro h6 x6
  repeat' (first | (with_reducible first | refine stp ?_ | refine k_blk_o rfl ?_) | ((try (conv => arg 1; simp [x6.b0, x6.b1, x6.b2])); with_reducible refine evp ?_) | fail)
  refine st_fresh rfl (toWordS m.Code hs.code) (.cons (dr_words (fun h => h) _) .nil) ?_
  intro v2 h7 n2 o2 d2 f2 p2 t2
  have x7 := x6.next.fresh o2 d2 f2 p2 t2
  have q2 := own_one' (own_of (o2 true) rfl)
  have z7 : h1.tick < h7.tick := Nat.lt_of_lt_of_le (x6.lt (h1.tick, 0, 0) (by simp [nms])) (by simp at t2; omega)
  repeat' (first | (with_reducible first | refine stp ?_ | refine k_blk_o rfl ?_) | ((try (conv => arg 1; simp [x7.b0, x7.b1, x7.b2, q1.1, q2.1, q2.2.1, q2.2.2, z7])); with_reducible refine evp ?_) | fail)
  refine cx_k x7.box_set ?_
  intro h8 x8
  have z8 : T < h8.tick := x8.lt (T, 1, 0) (by simp [nms])
  repeat' (first | (with_reducible first | refine stp ?_ | refine k_blk_o rfl ?_ | refine k_seq_n ?_) | ((try (conv => arg 1; simp [x8.b0, x8.b1, x8.b2, q1.1, q2.1, q2.2.1, q2.2.2, z8])); with_reducible refine evp ?_) | fail)
  have x9 := x8.next.box_set1 (r' := ⟨0, 4, [[v1, .int .i64 m.Params, .int .i64 m.Slots, v2]]⟩)
  have b2 : T < h2.tick := x2.lt (T, 1, 0) (by simp [nms])
  have b6 : T < h6.tick := x6.lt (T, 1, 0) (by simp [nms])
  refine ⟨by simp; omega, n1 ++ n2, fun b => .agg (Own.append (own_of (x9.o1 b) rfl) (.int _ _ (.int _ _ (own_of (x9.o0 b) rfl)))), (x9.rot1).nodup2, fun n hn => ⟨?_, x9.lt n ?_⟩⟩
  · simp only [hp_next_tick] at f1 f2
    rcases List.mem_append.1 hn with hn | hn
    · have := (f1 n hn).1; omega
    · have := (f2 n hn).1; omega
  · simp only [nms, List.map_cons, List.flatten_cons, List.mem_append]
    rcases List.mem_append.1 hn with hn | hn
    · exact .inr (.inr (.inl hn))
    · exact .inr (.inl hn)

theorem ownV_image {rows : Nm → Option Row} {b : Bool} {v : AV} {m : Image} {ns : List Nm} (h : OwnV rows b v (.agg (m.cells b)) ns) : ∃ w1 w2 n1 n2, v = .agg [w1, .int .i64 m.Params, .int .i64 m.Slots, w2] ∧ ns = n1 ++ n2 ∧ Own rows b [w1] [ints b m.Sizes] n1 ∧ Own rows b [w2] [words b m.Code] n2 := by
  generalize ht : AV.agg (m.cells b) = t at h
  cases h with
  | one h => subst ht; unfold Image.cells at h; cases h
  | tup2 => cases ht
  | @agg l _ _ h =>
    cases ht
    unfold Image.cells at h
    obtain ⟨w1, l1, n1, m1, rfl, rfl, o1, h⟩ := own_cons1 h
    cases h with
    | int _ _ h => cases h with
      | int _ _ h =>
        obtain ⟨w2, l2, n2, m2, rfl, rfl, o2, h⟩ := own_cons1 h
        cases h with
        | nil => exact ⟨w1, w2, n1, n2, rfl, by simp, o1, o2⟩

end Go.Proofs.YtmcmgeedhbgglaaDoor.AM

namespace Go.Proofs.YtmcmgeedhbgglaaDoor.AM
open Go.RowKit

private def MW5 : FuncId → Mode := fun f => .tree

def wordOk (m : Image) (w : Word) : Bool :=
  if w.Op = 0 then inB w.R 0 15 && (decide (w.A = 0) && decide (w.B = 0))
  else if w.Op = 1 ∨ w.Op = 2 then inB w.R 0 15 && (decide (w.A = 0) && decide (w.B = 0)) && inB w.N 0 (IntKind.i64.wrap (m.Slots - 1))
  else if w.Op = 3 then inB w.R 0 15 && inB w.A 0 15 && inB w.B 0 15 && inB w.N 0 5
  else if w.Op = 4 ∨ w.Op = 5 then inB w.R 0 15 && inB w.A 0 15 && decide (w.B = 0) && inB w.N 0 (IntKind.i64.wrap (m.Sizes.length - 1))
  else if w.Op = 11 then inB w.R 0 15 && inB w.A 0 15 && decide (w.B = 0) && decide (w.N = 0)
  else if w.Op = 6 ∨ w.Op = 7 ∨ w.Op = 10 then inB w.R 0 15 && (decide (w.A = 0) && decide (w.B = 0)) && decide (w.N = 0)
  else if w.Op = 8 then decide (w.R = 0) && (decide (w.A = 0) && decide (w.B = 0)) && inB w.N 0 (IntKind.i64.wrap (m.Code.length - 1))
  else if w.Op = 9 then inB w.R 0 15 && (decide (w.A = 0) && decide (w.B = 0)) && inB w.N 0 (IntKind.i64.wrap (m.Code.length - 1))
  else false

theorem lenA_words {P : Program} {t : TypeId} (b : Bool) (ws : List Word) (h : (telem P t).isSome = true) : lenA P t (words b ws) = some (.int .i64 ws.length) := by
  unfold words
  rw [lenA_tr b _ h]
  simp
attribute [simp] lenA_words

theorem l13WordOk (m : Image) (w : Word) : Pure Tryd.prog 57 [.agg (m.cells true), .agg w.cells] (.bool (wordOk m w)) := by
  intro T
  obtain ⟨Op, R, A, B, N⟩ := w
  obtain ⟨Sizes, Params, Slots, Code⟩ := m
  refine enter mixed MW5 Tryd.func57 rfl (by kernel_rfl) rfl ?_
  repeat' (first
    | (with_reducible first | refine st_seq ?_ | refine st_reg ?_ | refine st_block ?_ | refine st_nil ?_ | refine st_skip ?_ | refine st_ret ?_ | refine st_exit ?_ | refine fr_nil ?_ | refine k_seq_n ?_ | refine k_seq_r ?_ | refine k_seq_e ?_ | refine k_blk_n ?_ | refine k_blk_r ?_ | refine k_blk_s ?_ | refine k_blk_o rfl ?_ | refine k_fn_r ?_ | refine k_fn_n ?_ | refine k_lp_r ?_ | refine k_lp_e ?_)
    | ((with_reducible first | refine st_move ?_ | refine st_asg ?_ | refine st_c ?_ | refine fr_c ?_); (try (conv => arg 1; simp [Image.cells, Word.cells])); (with_reducible refine at_mk ?_))
    | ((with_reducible first | refine st_g ?_ | refine fr_g ?_); (try (conv => arg 1; simp [Image.cells, Word.cells])); (with_reducible refine at_mk ?_); with_reducible first | refine gd_tt ?_ | refine gd_ff ?_ | refine gd_tf ?_ | refine gd_ft ?_ | refine gd_no ?_)
    | ((with_reducible first | refine st_gm ?_ | refine fr_gm ?_); (try (conv => arg 1; simp [Image.cells, Word.cells])); (with_reducible refine at_mk ?_); (with_reducible first | refine gm_bool ?_ | refine gm_gv ?_); refine ⟨_, (by intro hc; first | ((try simp only [Bool.and_eq_true] at hc); (try (conv => lhs; simp [hc, Image.cells, Word.cells])); first | done | exact rfl) | ((try simp [gq] at hc); (try (conv => lhs; simp [gq, hc, Image.cells, Word.cells])); first | done | exact rfl)), ?_⟩)
    | ((with_reducible refine st_gmc ?_); (try (conv => arg 1; simp [Image.cells, Word.cells])); (with_reducible refine at_mk ?_); (with_reducible first | refine gm_bool ?_ | refine gm_gv ?_); refine ⟨_, _, _, (by intro hc; first | ((try simp only [Bool.and_eq_true] at hc); (try (conv => lhs; simp [hc, Image.cells, Word.cells])); first | done | exact rfl) | ((try simp [gq] at hc); (try (conv => lhs; simp [gq, hc, Image.cells, Word.cells])); first | done | exact rfl)), rfl, l01In _ _ _, (by intro hc; (try simp at hc); (repeat' (first | exact DRs.nil | refine DRs.cons ?_ ?_ | exact .int _ _ | exact .bool _ | exact .str _ | exact .nilsl | exact .nilp | exact dr_ints (by simp) _ | exact dr_intss (by simp) _ | refine dr_agg ?_ | refine dr_fn ?_ | refine dr_tptr' (by simp) ?_ | assumption))), ?_⟩)
    | ((with_reducible refine fr_gmc ?_); (try (conv => arg 1; simp [Image.cells, Word.cells])); (with_reducible refine at_mk ?_); (with_reducible first | refine gm_bool ?_ | refine gm_gv ?_); refine ⟨_, _, _, (by intro hc; first | ((try simp only [Bool.and_eq_true] at hc); (try (conv => lhs; simp [hc, Image.cells, Word.cells])); first | done | exact rfl) | ((try simp [gq] at hc); (try (conv => lhs; simp [gq, hc, Image.cells, Word.cells])); first | done | exact rfl)), l01In _ _ _, (by intro hc; (try simp at hc); (repeat' (first | exact DRs.nil | refine DRs.cons ?_ ?_ | exact .int _ _ | exact .bool _ | exact .str _ | exact .nilsl | exact .nilp | exact dr_ints (by simp) _ | exact dr_intss (by simp) _ | refine dr_agg ?_ | refine dr_fn ?_ | refine dr_tptr' (by simp) ?_ | assumption))), ?_⟩)
    | ((with_reducible refine st_gmv ?_); (try (conv => arg 1; simp [Image.cells, Word.cells])); (with_reducible refine at_mk ?_); (with_reducible first | refine gm_bool ?_ | refine gm_gv ?_); refine ⟨_, _, _, _, _, (by intro hc; first | ((try simp only [Bool.and_eq_true] at hc); (try (conv => lhs; simp [hc, Image.cells, Word.cells])); first | done | exact rfl) | ((try simp [gq] at hc); (try (conv => lhs; simp [gq, hc, Image.cells, Word.cells])); first | done | exact rfl)), (by intro hc; first | ((try simp only [Bool.and_eq_true] at hc); (try (conv => lhs; simp [hc, Image.cells, Word.cells])); first | done | exact rfl) | ((try simp [gq] at hc); (try (conv => lhs; simp [gq, hc, Image.cells, Word.cells])); first | done | exact rfl)), rfl, l01In _ _ _, (by intro hc; (try simp at hc); (repeat' (first | exact DRs.nil | refine DRs.cons ?_ ?_ | exact .int _ _ | exact .bool _ | exact .str _ | exact .nilsl | exact .nilp | exact dr_ints (by simp) _ | exact dr_intss (by simp) _ | refine dr_agg ?_ | refine dr_fn ?_ | refine dr_tptr' (by simp) ?_ | assumption))), ?_⟩)
    | ((with_reducible refine st_m rfl ?_); (try (conv => arg 1; simp [Image.cells, Word.cells])); (with_reducible refine ev2_some ?_))
    | ((with_reducible refine fr_n rfl ?_); (try (conv => arg 1; simp [Image.cells, Word.cells])); (with_reducible refine evn_some ?_))
    | ((with_reducible first | refine st_cv ?_ | refine fr_cv ?_); (try (conv => arg 1; simp [Image.cells, Word.cells])); (with_reducible refine at_mk ?_); (with_reducible refine fn_mk ?_); (try (conv => arg 1; simp [Image.cells, Word.cells])); (with_reducible refine at_mk ?_))
    | ((with_reducible refine fr_a ?_); (try (conv => arg 1; simp [Image.cells, Word.cells])); (with_reducible refine at_mk ?_); (try (conv => arg 1; simp [Image.cells, Word.cells])); (with_reducible refine at_mk ?_); refine ⟨?names, ?_⟩; (case names => (simp [appNames, ints, intss] <;> first | kernel_rfl | (refine ⟨?_, ?_⟩ <;> kernel_rfl))); (try (conv => arg 1; simp [Image.cells, Word.cells])); (with_reducible refine ev2_some ?_))
    | ((with_reducible first | refine st_q ?_ | refine fr_q ?_ | refine st_res ?_); (try (conv => arg 1; simp [Image.cells, Word.cells])); (with_reducible refine ev_some ?_))
    | ((with_reducible refine st_if ?_); (try (conv => arg 1; simp [Image.cells, Word.cells])); (with_reducible refine at_mk ?_); with_reducible first | refine br_t ?_ | refine br_f ?_ | (refine br_b (fun hb => ?_) (fun hb => ?_) <;> ((try simp only [Bool.not_eq_eq_eq_not, Bool.not_true, Bool.not_false] at hb); (try simp only [hb]); (try simp at hb))))
    | ((with_reducible refine ct_id ?_); refine st_tree rfl (l01In _ _ _) (by (repeat' (first | exact DRs.nil | refine DRs.cons ?_ ?_ | exact .int _ _ | exact .bool _ | exact .str _ | exact .nilsl | exact .nilp | exact dr_ints (by simp) _ | exact dr_intss (by simp) _ | refine dr_agg ?_ | refine dr_fn ?_ | refine dr_tptr' (by simp) ?_ | assumption))) ?_)
    | ((with_reducible refine tw_id ?_); refine treeW_pure (l01In _ _ _) (by (repeat' (first | exact DRs.nil | refine DRs.cons ?_ ?_ | exact .int _ _ | exact .bool _ | exact .str _ | exact .nilsl | exact .nilp | exact dr_ints (by simp) _ | exact dr_intss (by simp) _ | refine dr_agg ?_ | refine dr_fn ?_ | refine dr_tptr' (by simp) ?_ | assumption))) ?_))
  all_goals exact dr_bool (by simp_all [wordOk])
end Go.Proofs.YtmcmgeedhbgglaaDoor.AM

namespace Go.Proofs.YtmcmgeedhbgglaaDoor.AM
open Go.RowKit

private def MW6 : FuncId → Mode := fun f => .tree

theorem register (n : Int) (has : Bool) : Pure Tryd.prog 81 [.int .i64 n, .bool has] (.bool (inB n 0 15 && (has || decide (n = 0)))) := by
  intro T
  refine enter mixed MW6 Tryd.func81 rfl (by kernel_rfl) rfl ?_
  repeat' (first
    | (with_reducible first | refine st_seq ?_ | refine st_reg ?_ | refine st_block ?_ | refine st_nil ?_ | refine st_skip ?_ | refine st_ret ?_ | refine st_exit ?_ | refine fr_nil ?_ | refine k_seq_n ?_ | refine k_seq_r ?_ | refine k_seq_e ?_ | refine k_blk_n ?_ | refine k_blk_r ?_ | refine k_blk_s ?_ | refine k_blk_o rfl ?_ | refine k_fn_r ?_ | refine k_fn_n ?_ | refine k_lp_r ?_ | refine k_lp_e ?_)
    | ((with_reducible first | refine st_move ?_ | refine st_asg ?_ | refine st_c ?_ | refine fr_c ?_); (try (conv => arg 1; simp)); (with_reducible refine at_mk ?_))
    | ((with_reducible first | refine st_g ?_ | refine fr_g ?_); (try (conv => arg 1; simp)); (with_reducible refine at_mk ?_); with_reducible first | refine gd_tt ?_ | refine gd_ff ?_ | refine gd_tf ?_ | refine gd_ft ?_ | refine gd_no ?_)
    | ((with_reducible first | refine st_gm ?_ | refine fr_gm ?_); (try (conv => arg 1; simp)); (with_reducible refine at_mk ?_); (with_reducible first | refine gm_bool ?_ | refine gm_gv ?_); refine ⟨_, (by intro hc; first | ((try simp only [Bool.and_eq_true] at hc); (try (conv => lhs; simp [hc])); first | done | exact rfl) | ((try simp [gq] at hc); (try (conv => lhs; simp [gq, hc])); first | done | exact rfl)), ?_⟩)
    | ((with_reducible refine st_gmc ?_); (try (conv => arg 1; simp)); (with_reducible refine at_mk ?_); (with_reducible first | refine gm_bool ?_ | refine gm_gv ?_); refine ⟨_, _, _, (by intro hc; first | ((try simp only [Bool.and_eq_true] at hc); (try (conv => lhs; simp [hc])); first | done | exact rfl) | ((try simp [gq] at hc); (try (conv => lhs; simp [gq, hc])); first | done | exact rfl)), rfl, in_ _ _ _, (by intro hc; (try simp at hc); (repeat' (first | exact DRs.nil | refine DRs.cons ?_ ?_ | exact .int _ _ | exact .bool _ | exact .str _ | exact .nilsl | exact .nilp | exact dr_ints (by simp) _ | exact dr_intss (by simp) _ | refine dr_agg ?_ | refine dr_fn ?_ | refine dr_tptr' (by simp) ?_ | assumption))), ?_⟩)
    | ((with_reducible refine fr_gmc ?_); (try (conv => arg 1; simp)); (with_reducible refine at_mk ?_); (with_reducible first | refine gm_bool ?_ | refine gm_gv ?_); refine ⟨_, _, _, (by intro hc; first | ((try simp only [Bool.and_eq_true] at hc); (try (conv => lhs; simp [hc])); first | done | exact rfl) | ((try simp [gq] at hc); (try (conv => lhs; simp [gq, hc])); first | done | exact rfl)), in_ _ _ _, (by intro hc; (try simp at hc); (repeat' (first | exact DRs.nil | refine DRs.cons ?_ ?_ | exact .int _ _ | exact .bool _ | exact .str _ | exact .nilsl | exact .nilp | exact dr_ints (by simp) _ | exact dr_intss (by simp) _ | refine dr_agg ?_ | refine dr_fn ?_ | refine dr_tptr' (by simp) ?_ | assumption))), ?_⟩)
    | ((with_reducible refine st_gmv ?_); (try (conv => arg 1; simp)); (with_reducible refine at_mk ?_); (with_reducible first | refine gm_bool ?_ | refine gm_gv ?_); refine ⟨_, _, _, _, _, (by intro hc; first | ((try simp only [Bool.and_eq_true] at hc); (try (conv => lhs; simp [hc])); first | done | exact rfl) | ((try simp [gq] at hc); (try (conv => lhs; simp [gq, hc])); first | done | exact rfl)), (by intro hc; first | ((try simp only [Bool.and_eq_true] at hc); (try (conv => lhs; simp [hc])); first | done | exact rfl) | ((try simp [gq] at hc); (try (conv => lhs; simp [gq, hc])); first | done | exact rfl)), rfl, in_ _ _ _, (by intro hc; (try simp at hc); (repeat' (first | exact DRs.nil | refine DRs.cons ?_ ?_ | exact .int _ _ | exact .bool _ | exact .str _ | exact .nilsl | exact .nilp | exact dr_ints (by simp) _ | exact dr_intss (by simp) _ | refine dr_agg ?_ | refine dr_fn ?_ | refine dr_tptr' (by simp) ?_ | assumption))), ?_⟩)
    | ((with_reducible refine st_m rfl ?_); (try (conv => arg 1; simp)); (with_reducible refine ev2_some ?_))
    | ((with_reducible refine fr_n rfl ?_); (try (conv => arg 1; simp)); (with_reducible refine evn_some ?_))
    | ((with_reducible first | refine st_cv ?_ | refine fr_cv ?_); (try (conv => arg 1; simp)); (with_reducible refine at_mk ?_); (with_reducible refine fn_mk ?_); (try (conv => arg 1; simp)); (with_reducible refine at_mk ?_))
    | ((with_reducible refine fr_a ?_); (try (conv => arg 1; simp)); (with_reducible refine at_mk ?_); (try (conv => arg 1; simp)); (with_reducible refine at_mk ?_); refine ⟨?names, ?_⟩; (case names => (simp [appNames, ints, intss] <;> first | kernel_rfl | (refine ⟨?_, ?_⟩ <;> kernel_rfl))); (try (conv => arg 1; simp)); (with_reducible refine ev2_some ?_))
    | ((with_reducible first | refine st_q ?_ | refine fr_q ?_ | refine st_res ?_); (try (conv => arg 1; simp)); (with_reducible refine ev_some ?_))
    | ((with_reducible refine st_if ?_); (try (conv => arg 1; simp)); (with_reducible refine at_mk ?_); with_reducible first | refine br_t ?_ | refine br_f ?_)
    | ((with_reducible refine ct_id ?_); refine st_tree rfl (in_ _ _ _) (by (repeat' (first | exact DRs.nil | refine DRs.cons ?_ ?_ | exact .int _ _ | exact .bool _ | exact .str _ | exact .nilsl | exact .nilp | exact dr_ints (by simp) _ | exact dr_intss (by simp) _ | refine dr_agg ?_ | refine dr_fn ?_ | refine dr_tptr' (by simp) ?_ | assumption))) ?_)
    | ((with_reducible refine tw_id ?_); refine treeW_pure (in_ _ _ _) (by (repeat' (first | exact DRs.nil | refine DRs.cons ?_ ?_ | exact .int _ _ | exact .bool _ | exact .str _ | exact .nilsl | exact .nilp | exact dr_ints (by simp) _ | exact dr_intss (by simp) _ | refine dr_agg ?_ | refine dr_fn ?_ | refine dr_tptr' (by simp) ?_ | assumption))) ?_))
  exact .bool _

set_option maxHeartbeats 4000000 in
theorem isWordOf (m : Image) (w : Word) : Pure Tryd.prog 64 [.agg (m.cells true), .agg w.cells] (.bool (wordOk m w)) := by
  intro T
  obtain ⟨Op, R, A, B, N⟩ := w
  obtain ⟨Sizes, Params, Slots, Code⟩ := m
  refine enter mixed MW6 Tryd.func64 rfl (by kernel_rfl) rfl ?_
  repeat' (first
    | (with_reducible first | refine st_seq ?_ | refine st_reg ?_ | refine st_block ?_ | refine st_nil ?_ | refine st_skip ?_ | refine st_ret ?_ | refine st_exit ?_ | refine fr_nil ?_ | refine k_seq_n ?_ | refine k_seq_r ?_ | refine k_seq_e ?_ | refine k_blk_n ?_ | refine k_blk_r ?_ | refine k_blk_s ?_ | refine k_blk_o rfl ?_ | refine k_fn_r ?_ | refine k_fn_n ?_ | refine k_lp_r ?_ | refine k_lp_e ?_)
    | ((with_reducible first | refine st_move ?_ | refine st_asg ?_ | refine st_c ?_ | refine fr_c ?_); (try (conv => arg 1; simp [Image.cells, Word.cells])); (with_reducible refine at_mk ?_))
    | ((with_reducible first | refine st_g ?_ | refine fr_g ?_); (try (conv => arg 1; simp [Image.cells, Word.cells])); (with_reducible refine at_mk ?_); with_reducible first | refine gd_tt ?_ | refine gd_ff ?_ | refine gd_tf ?_ | refine gd_ft ?_ | refine gd_no ?_)
    | ((with_reducible first | refine st_gm ?_ | refine fr_gm ?_); (try (conv => arg 1; simp [Image.cells, Word.cells])); (with_reducible refine at_mk ?_); (with_reducible first | refine gm_bool ?_ | refine gm_gv ?_); refine ⟨_, (by intro hc; first | ((try simp only [Bool.and_eq_true] at hc); (try (conv => lhs; simp [hc, Image.cells, Word.cells])); first | done | exact rfl) | ((try simp [gq] at hc); (try (conv => lhs; simp [gq, hc, Image.cells, Word.cells])); first | done | exact rfl)), ?_⟩)
    | ((with_reducible refine st_gmc ?_); (try (conv => arg 1; simp [Image.cells, Word.cells])); (with_reducible refine at_mk ?_); (with_reducible first | refine gm_bool ?_ | refine gm_gv ?_); refine ⟨_, _, _, (by intro hc; first | ((try simp only [Bool.and_eq_true] at hc); (try (conv => lhs; simp [hc, Image.cells, Word.cells])); first | done | exact rfl) | ((try simp [gq] at hc); (try (conv => lhs; simp [gq, hc, Image.cells, Word.cells])); first | done | exact rfl)), rfl, in_ _ _ _, (by intro hc; (try simp at hc); (repeat' (first | exact DRs.nil | refine DRs.cons ?_ ?_ | exact .int _ _ | exact .bool _ | exact .str _ | exact .nilsl | exact .nilp | exact dr_ints (by simp) _ | exact dr_intss (by simp) _ | refine dr_agg ?_ | refine dr_fn ?_ | refine dr_tptr' (by simp) ?_ | assumption))), ?_⟩)
    | ((with_reducible refine fr_gmc ?_); (try (conv => arg 1; simp [Image.cells, Word.cells])); (with_reducible refine at_mk ?_); (with_reducible first | refine gm_bool ?_ | refine gm_gv ?_); refine ⟨_, _, _, (by intro hc; first | ((try simp only [Bool.and_eq_true] at hc); (try (conv => lhs; simp [hc, Image.cells, Word.cells])); first | done | exact rfl) | ((try simp [gq] at hc); (try (conv => lhs; simp [gq, hc, Image.cells, Word.cells])); first | done | exact rfl)), in_ _ _ _, (by intro hc; (try simp at hc); (repeat' (first | exact DRs.nil | refine DRs.cons ?_ ?_ | exact .int _ _ | exact .bool _ | exact .str _ | exact .nilsl | exact .nilp | exact dr_ints (by simp) _ | exact dr_intss (by simp) _ | refine dr_agg ?_ | refine dr_fn ?_ | refine dr_tptr' (by simp) ?_ | assumption))), ?_⟩)
    | ((with_reducible refine st_gmv ?_); (try (conv => arg 1; simp [Image.cells, Word.cells])); (with_reducible refine at_mk ?_); (with_reducible first | refine gm_bool ?_ | refine gm_gv ?_); refine ⟨_, _, _, _, _, (by intro hc; first | ((try simp only [Bool.and_eq_true] at hc); (try (conv => lhs; simp [hc, Image.cells, Word.cells])); first | done | exact rfl) | ((try simp [gq] at hc); (try (conv => lhs; simp [gq, hc, Image.cells, Word.cells])); first | done | exact rfl)), (by intro hc; first | ((try simp only [Bool.and_eq_true] at hc); (try (conv => lhs; simp [hc, Image.cells, Word.cells])); first | done | exact rfl) | ((try simp [gq] at hc); (try (conv => lhs; simp [gq, hc, Image.cells, Word.cells])); first | done | exact rfl)), rfl, in_ _ _ _, (by intro hc; (try simp at hc); (repeat' (first | exact DRs.nil | refine DRs.cons ?_ ?_ | exact .int _ _ | exact .bool _ | exact .str _ | exact .nilsl | exact .nilp | exact dr_ints (by simp) _ | exact dr_intss (by simp) _ | refine dr_agg ?_ | refine dr_fn ?_ | refine dr_tptr' (by simp) ?_ | assumption))), ?_⟩)
    | ((with_reducible refine st_gmc ?_); (try (conv => arg 1; simp [Image.cells, Word.cells])); (with_reducible refine at_mk ?_); (with_reducible first | refine gm_bool ?_ | refine gm_gv ?_); refine ⟨_, _, _, (by intro hc; first | ((try simp only [Bool.and_eq_true] at hc); (try (conv => lhs; simp [hc, Image.cells, Word.cells])); first | done | exact rfl) | ((try simp [gq] at hc); (try (conv => lhs; simp [gq, hc, Image.cells, Word.cells])); first | done | exact rfl)), rfl, register _ _, (by intro hc; (try simp at hc); (repeat' (first | exact DRs.nil | refine DRs.cons ?_ ?_ | exact .int _ _ | exact .bool _ | exact .str _ | exact .nilsl | exact .nilp | exact dr_ints (by simp) _ | exact dr_intss (by simp) _ | refine dr_agg ?_ | refine dr_fn ?_ | refine dr_tptr' (by simp) ?_ | assumption))), ?_⟩)
    | ((with_reducible refine fr_gmc ?_); (try (conv => arg 1; simp [Image.cells, Word.cells])); (with_reducible refine at_mk ?_); (with_reducible first | refine gm_bool ?_ | refine gm_gv ?_); refine ⟨_, _, _, (by intro hc; first | ((try simp only [Bool.and_eq_true] at hc); (try (conv => lhs; simp [hc, Image.cells, Word.cells])); first | done | exact rfl) | ((try simp [gq] at hc); (try (conv => lhs; simp [gq, hc, Image.cells, Word.cells])); first | done | exact rfl)), register _ _, (by intro hc; (try simp at hc); (repeat' (first | exact DRs.nil | refine DRs.cons ?_ ?_ | exact .int _ _ | exact .bool _ | exact .str _ | exact .nilsl | exact .nilp | exact dr_ints (by simp) _ | exact dr_intss (by simp) _ | refine dr_agg ?_ | refine dr_fn ?_ | refine dr_tptr' (by simp) ?_ | assumption))), ?_⟩)
    | ((with_reducible refine st_gmv ?_); (try (conv => arg 1; simp [Image.cells, Word.cells])); (with_reducible refine at_mk ?_); (with_reducible first | refine gm_bool ?_ | refine gm_gv ?_); refine ⟨_, _, _, _, _, (by intro hc; first | ((try simp only [Bool.and_eq_true] at hc); (try (conv => lhs; simp [hc, Image.cells, Word.cells])); first | done | exact rfl) | ((try simp [gq] at hc); (try (conv => lhs; simp [gq, hc, Image.cells, Word.cells])); first | done | exact rfl)), (by intro hc; first | ((try simp only [Bool.and_eq_true] at hc); (try (conv => lhs; simp [hc, Image.cells, Word.cells])); first | done | exact rfl) | ((try simp [gq] at hc); (try (conv => lhs; simp [gq, hc, Image.cells, Word.cells])); first | done | exact rfl)), rfl, register _ _, (by intro hc; (try simp at hc); (repeat' (first | exact DRs.nil | refine DRs.cons ?_ ?_ | exact .int _ _ | exact .bool _ | exact .str _ | exact .nilsl | exact .nilp | exact dr_ints (by simp) _ | exact dr_intss (by simp) _ | refine dr_agg ?_ | refine dr_fn ?_ | refine dr_tptr' (by simp) ?_ | assumption))), ?_⟩)
    | ((with_reducible refine st_m rfl ?_); (try (conv => arg 1; simp [Image.cells, Word.cells])); (with_reducible refine ev2_some ?_))
    | ((with_reducible refine fr_n rfl ?_); (try (conv => arg 1; simp [Image.cells, Word.cells])); (with_reducible refine evn_some ?_))
    | ((with_reducible first | refine st_cv ?_ | refine fr_cv ?_); (try (conv => arg 1; simp [Image.cells, Word.cells])); (with_reducible refine at_mk ?_); (with_reducible refine fn_mk ?_); (try (conv => arg 1; simp [Image.cells, Word.cells])); (with_reducible refine at_mk ?_))
    | ((with_reducible refine fr_a ?_); (try (conv => arg 1; simp [Image.cells, Word.cells])); (with_reducible refine at_mk ?_); (try (conv => arg 1; simp [Image.cells, Word.cells])); (with_reducible refine at_mk ?_); refine ⟨?names, ?_⟩; (case names => (simp [appNames, ints, intss] <;> first | kernel_rfl | (refine ⟨?_, ?_⟩ <;> kernel_rfl))); (try (conv => arg 1; simp [Image.cells, Word.cells])); (with_reducible refine ev2_some ?_))
    | ((with_reducible first | refine st_q ?_ | refine fr_q ?_ | refine st_res ?_); (try (conv => arg 1; simp [Image.cells, Word.cells])); (with_reducible refine ev_some ?_))
    | ((with_reducible refine st_if ?_); (try (conv => arg 1; simp [Image.cells, Word.cells])); (with_reducible refine at_mk ?_); with_reducible first | refine br_t ?_ | refine br_f ?_ | (refine br_b (fun hb => ?_) (fun hb => ?_) <;> ((try simp only [Bool.not_eq_eq_eq_not, Bool.not_true, Bool.not_false] at hb); (try simp only [hb]); (try simp at hb))))
    | ((with_reducible refine ct_id ?_); refine st_tree rfl (in_ _ _ _) (by (repeat' (first | exact DRs.nil | refine DRs.cons ?_ ?_ | exact .int _ _ | exact .bool _ | exact .str _ | exact .nilsl | exact .nilp | exact dr_ints (by simp) _ | exact dr_intss (by simp) _ | refine dr_agg ?_ | refine dr_fn ?_ | refine dr_tptr' (by simp) ?_ | assumption))) ?_)
    | ((with_reducible refine tw_id ?_); refine treeW_pure (in_ _ _ _) (by (repeat' (first | exact DRs.nil | refine DRs.cons ?_ ?_ | exact .int _ _ | exact .bool _ | exact .str _ | exact .nilsl | exact .nilp | exact dr_ints (by simp) _ | exact dr_intss (by simp) _ | refine dr_agg ?_ | refine dr_fn ?_ | refine dr_tptr' (by simp) ?_ | assumption))) ?_)
    | ((with_reducible refine ct_id ?_); refine st_tree rfl (register _ _) (by (repeat' (first | exact DRs.nil | refine DRs.cons ?_ ?_ | exact .int _ _ | exact .bool _ | exact .str _ | exact .nilsl | exact .nilp | exact dr_ints (by simp) _ | exact dr_intss (by simp) _ | refine dr_agg ?_ | refine dr_fn ?_ | refine dr_tptr' (by simp) ?_ | assumption))) ?_)
    | ((with_reducible refine tw_id ?_); refine treeW_pure (register _ _) (by (repeat' (first | exact DRs.nil | refine DRs.cons ?_ ?_ | exact .int _ _ | exact .bool _ | exact .str _ | exact .nilsl | exact .nilp | exact dr_ints (by simp) _ | exact dr_intss (by simp) _ | refine dr_agg ?_ | refine dr_fn ?_ | refine dr_tptr' (by simp) ?_ | assumption))) ?_))
  all_goals refine dr_bool ?_
  all_goals rw [Bool.eq_iff_iff]
  all_goals (try simp_all [wordOk, inB])
  all_goals (try omega)
end Go.Proofs.YtmcmgeedhbgglaaDoor.AM

namespace Go.Proofs.YtmcmgeedhbgglaaDoor.AM
open Go.RowKit

private def MW7 : FuncId → Mode := fun f => .tree

def idxOf {α : Type} (p : α → Bool) (l : List α) : Int := if l.any p then l.findIdx p else -1
theorem idxOf_hit {α : Type} {p : α → Bool} {l : List α} {i : Nat} (hi : i < l.length) (h : ∀ j (hj : j < l.length), j < i → p l[j] = false) (hp : p l[i] = true) : idxOf p l = i := by
  have h1 : l.any p = true := List.any_eq_true.2 ⟨l[i], List.getElem_mem hi, hp⟩
  have h2 : l.findIdx p = i := (List.findIdx_eq hi).2 ⟨hp, fun j hj => h j (by omega) hj⟩
  simp [idxOf, h1, h2]
theorem idxOf_miss {α : Type} {p : α → Bool} {l : List α} (h : ∀ j (hj : j < l.length), p l[j] = false) : idxOf p l = -1 := by
  have h1 : l.any p = false := by
    rw [List.any_eq_false]
    intro x hx
    obtain ⟨i, hi, rfl⟩ := List.getElem_of_mem hx
    simp [h i hi]
  simp [idxOf, h1]
theorem idxOf_any {α : Type} (p : α → Bool) (l : List α) : decide (0 ≤ idxOf p l) = l.any p := by
  unfold idxOf
  split
  · rename_i h; simp [h]
  · rename_i h; simp at h; simp; exact h

theorem indexFuncW (xs : List Word) (f : FuncId) (cap : List AV) (p : Word → Bool) (hp : ∀ w ∈ xs, Pure Tryd.prog f (.agg w.cells :: cap) (.bool (p w))) (hc : ∀ rows, DRs true rows cap cap) (hl : xs.length ≤ 2 ^ 62) :
    Pure Tryd.prog 80 [words true xs, .fn f cap] (.int .i64 (idxOf p xs)) := by
  intro T
  refine enter mixed MW7 Tryd.func80 rfl (by kernel_rfl) rfl ?_
  repeat' (first | (with_reducible first | refine stp ?_ | refine k_blk_o rfl ?_ | refine k_seq_n ?_) | ((try (conv => arg 1; simp)); with_reducible refine evp ?_) | fail)
  refine st_loop (fun (i : Nat) σ h => i ≤ xs.length ∧ σ 0 = words true xs ∧ σ 1 = .fn f cap ∧ σ 7 = .int .i64 xs.length ∧ σ 8 = .int .i64 i ∧ ∀ j (hj : j < xs.length), j < i → p xs[j] = false) (fun i => xs.length - i) 0 ?init ?step
  case init =>
    simp
  case step =>
    rintro i σ h ⟨hi, h0, h1, h7, h8, hb4⟩
    repeat' (first | (with_reducible first | refine stp ?_ | refine k_blk_o rfl ?_ | refine k_seq_n ?_) | ((try (conv => arg 1; simp [h7, h8])); with_reducible refine evp ?_) | fail)
    (try with_reducible refine st_if ?_)
    (try (conv => arg 1; simp [h7]))
    (try with_reducible refine at_mk ?_)
    refine ⟨fun hb => ?_, fun hb => ?_⟩
    · have hlt : i < xs.length := by simpa using hb
      have hx : xs[i]? = some (xs[i]) := by simp
      have hlen : (xs[i]).cells.length = 5 := rfl
      have hw : IntKind.i64.wrap (i + 1) = i + 1 := wrap_id (by omega) (by omega)
      repeat' (first | (with_reducible first | refine stp ?_ | refine k_blk_o rfl ?_ | refine k_seq_n ?_) | ((try (conv => arg 1; simp [words, h0, h1, h7, h8, hx, hlen, Word.cells])); with_reducible refine evp ?_) | fail)
      refine st_tree rfl (hp xs[i] (List.getElem_mem hlt)) (.cons (dr_agg (drs_word _)) (hc _)) ?_
      repeat' (first | (with_reducible first | refine stp ?_ | refine k_blk_o rfl ?_ | refine k_seq_n ?_) | ((try (conv => arg 1; simp [h0, h1, h7, h8, hw])); with_reducible refine evp ?_) | fail)
      (try with_reducible refine st_if ?_)
      (try (conv => arg 1; simp [h0]))
      (try with_reducible refine at_mk ?_)
      refine ⟨fun hb => ?_, fun hb => ?_⟩
      · have hpt : p xs[i] = true := by simpa using hb
        repeat' (first | (with_reducible first | refine stp ?_ | refine k_blk_o rfl ?_ | refine k_seq_n ?_) | ((try (conv => arg 1; simp [h8])); with_reducible refine evp ?_) | fail)
        exact dr_int (idxOf_hit hlt hb4 hpt).symm
      · have hpf : p xs[i] = false := by simpa using hb
        repeat' (first | (with_reducible first | refine stp ?_ | refine k_blk_o rfl ?_ | refine k_seq_n ?_) | ((try (conv => arg 1; simp [h0, h1, h7, h8, hw])); with_reducible refine evp ?_) | fail)
        refine k_lp_n (i + 1) (by omega) ⟨by omega, by simp [h0], by simp [h1], by simp [h7], by simp [h8], fun j hj hji => ?_⟩
        by_cases e : j = i
        · subst e; exact hpf
        · exact hb4 j hj (by omega)
    · have hge : i = xs.length := by simp at hb; omega
      repeat' (first | (with_reducible first | refine stp ?_ | refine k_blk_o rfl ?_ | refine k_seq_n ?_) | ((try (conv => arg 1; simp [h0])); with_reducible refine evp ?_) | fail)
      exact dr_int (idxOf_miss fun j hj => hb4 j hj (by omega)).symm

theorem containsFuncW (xs : List Word) (f : FuncId) (cap : List AV) (p : Word → Bool) (hp : ∀ w ∈ xs, Pure Tryd.prog f (.agg w.cells :: cap) (.bool (p w))) (hc : ∀ rows, DRs true rows cap cap) (hl : xs.length ≤ 2 ^ 62) :
    Pure Tryd.prog 62 [words true xs, .fn f cap] (.bool (xs.any p)) := by
  intro T
  refine enter mixed MW7 Tryd.func62 rfl (by kernel_rfl) rfl ?_
  repeat' (first | (with_reducible first | refine stp ?_ | refine k_blk_o rfl ?_ | refine k_seq_n ?_) | ((try (conv => arg 1; simp)); with_reducible refine evp ?_) | ((with_reducible refine tcl ?_); first | ((apply tg (indexFuncW xs f cap p hp hc hl)); (case e => rfl); (case d => (refine dq ?_); (repeat' (first | ((refine Da.mk ?_); first | exact dr_words (by simp) _ | exact hc _ | assumption) | constructor))))) | fail)
  exact dr_bool (idxOf_any _ _)

theorem indexFuncI (xs : List Int) (f : FuncId) (cap : List AV) (p : Int → Bool) (hp : ∀ w ∈ xs, Pure Tryd.prog f (.int .i64 w :: cap) (.bool (p w))) (hc : ∀ rows, DRs true rows cap cap) (hl : xs.length ≤ 2 ^ 62) :
    Pure Tryd.prog 93 [ints true xs, .fn f cap] (.int .i64 (idxOf p xs)) := by
  intro T
  refine enter mixed MW7 Tryd.func93 rfl (by kernel_rfl) rfl ?_
  repeat' (first | (with_reducible first | refine stp ?_ | refine k_blk_o rfl ?_ | refine k_seq_n ?_) | ((try (conv => arg 1; simp)); with_reducible refine evp ?_) | fail)
  refine st_loop (fun (i : Nat) σ h => i ≤ xs.length ∧ σ 0 = ints true xs ∧ σ 1 = .fn f cap ∧ σ 7 = .int .i64 xs.length ∧ σ 8 = .int .i64 i ∧ ∀ j (hj : j < xs.length), j < i → p xs[j] = false) (fun i => xs.length - i) 0 ?init ?step
  case init =>
    simp
  case step =>
    rintro i σ h ⟨hi, h0, h1, h7, h8, hb4⟩
    repeat' (first | (with_reducible first | refine stp ?_ | refine k_blk_o rfl ?_ | refine k_seq_n ?_) | ((try (conv => arg 1; simp [h7, h8])); with_reducible refine evp ?_) | fail)
    (try with_reducible refine st_if ?_)
    (try (conv => arg 1; simp [h7]))
    (try with_reducible refine at_mk ?_)
    refine ⟨fun hb => ?_, fun hb => ?_⟩
    · have hlt : i < xs.length := by simpa using hb
      have hx : xs[i]? = some (xs[i]) := by simp
      have hw : IntKind.i64.wrap (i + 1) = i + 1 := wrap_id (by omega) (by omega)
      repeat' (first | (with_reducible first | refine stp ?_ | refine k_blk_o rfl ?_ | refine k_seq_n ?_) | ((try (conv => arg 1; simp [ints, h0, h1, h7, h8, hx])); with_reducible refine evp ?_) | fail)
      refine st_tree rfl (hp xs[i] (List.getElem_mem hlt)) (.cons (.int _ _) (hc _)) ?_
      repeat' (first | (with_reducible first | refine stp ?_ | refine k_blk_o rfl ?_ | refine k_seq_n ?_) | ((try (conv => arg 1; simp [h0, h1, h7, h8, hw])); with_reducible refine evp ?_) | fail)
      (try with_reducible refine st_if ?_)
      (try (conv => arg 1; simp [h0]))
      (try with_reducible refine at_mk ?_)
      refine ⟨fun hb => ?_, fun hb => ?_⟩
      · have hpt : p xs[i] = true := by simpa using hb
        repeat' (first | (with_reducible first | refine stp ?_ | refine k_blk_o rfl ?_ | refine k_seq_n ?_) | ((try (conv => arg 1; simp [h8])); with_reducible refine evp ?_) | fail)
        exact dr_int (idxOf_hit hlt hb4 hpt).symm
      · have hpf : p xs[i] = false := by simpa using hb
        repeat' (first | (with_reducible first | refine stp ?_ | refine k_blk_o rfl ?_ | refine k_seq_n ?_) | ((try (conv => arg 1; simp [h0, h1, h7, h8, hw])); with_reducible refine evp ?_) | fail)
        refine k_lp_n (i + 1) (by omega) ⟨by omega, by simp [h0], by simp [h1], by simp [h7], by simp [h8], fun j hj hji => ?_⟩
        by_cases e : j = i
        · subst e; exact hpf
        · exact hb4 j hj (by omega)
    · have hge : i = xs.length := by simp at hb; omega
      repeat' (first | (with_reducible first | refine stp ?_ | refine k_blk_o rfl ?_ | refine k_seq_n ?_) | ((try (conv => arg 1; simp [h0])); with_reducible refine evp ?_) | fail)
      exact dr_int (idxOf_miss fun j hj => hb4 j hj (by omega)).symm

theorem containsFuncI (xs : List Int) (f : FuncId) (cap : List AV) (p : Int → Bool) (hp : ∀ w ∈ xs, Pure Tryd.prog f (.int .i64 w :: cap) (.bool (p w))) (hc : ∀ rows, DRs true rows cap cap) (hl : xs.length ≤ 2 ^ 62) :
    Pure Tryd.prog 77 [ints true xs, .fn f cap] (.bool (xs.any p)) := by
  intro T
  refine enter mixed MW7 Tryd.func77 rfl (by kernel_rfl) rfl ?_
  repeat' (first | (with_reducible first | refine stp ?_ | refine k_blk_o rfl ?_ | refine k_seq_n ?_) | ((try (conv => arg 1; simp)); with_reducible refine evp ?_) | ((with_reducible refine tcl ?_); first | ((apply tg (indexFuncI xs f cap p hp hc hl)); (case e => rfl); (case d => (refine dq ?_); (repeat' (first | ((refine Da.mk ?_); first | exact hc _ | assumption) | constructor))))) | fail)
  exact dr_bool (idxOf_any _ _)
end Go.Proofs.YtmcmgeedhbgglaaDoor.AM
