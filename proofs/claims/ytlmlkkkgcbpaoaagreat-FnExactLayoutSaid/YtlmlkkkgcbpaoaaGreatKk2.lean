/- Lemmas: an abstract machine over named rows, and what single functions compute (parts U0, U1, GK, G0, G5, G6, G10, G11, G1, G2, GR, G3, G8). -/
import Derived.Test.YtlmlkkkgcbpaoaaGreatKk1
import Derived.Test.YtlmlkkkgcbpaoaaGreatRows
namespace Go.Proofs.YtlmlkkkgcbpaoaaGreat.AM
open Go.RowKit
@[simp] theorem tk_2 : tk Tryz.prog 2 = some (1, false) := by kernel_rfl
@[simp] theorem tsz_2 : tsz Tryz.prog 2 = some 1 := by kernel_rfl
@[simp] theorem tzero_2 : tzero Tryz.prog 2 = some [.int .i64 0] := by kernel_rfl
@[simp] theorem tby_2 : tby Tryz.prog 2 = some 8 := by kernel_rfl
@[simp] theorem und_2 : Tryz.prog.underlying 2 = some (.int .i64) := by kernel_rfl
@[simp] theorem tk_3 : tk Tryz.prog 3 = some (1, false) := by kernel_rfl
@[simp] theorem tsz_3 : tsz Tryz.prog 3 = some 1 := by kernel_rfl
@[simp] theorem tzero_3 : tzero Tryz.prog 3 = some [.int .i64 0] := by kernel_rfl
@[simp] theorem tby_3 : tby Tryz.prog 3 = some 8 := by kernel_rfl
@[simp] theorem und_3 : Tryz.prog.underlying 3 = some (.int .i64) := by kernel_rfl
@[simp] theorem tk_4 : tk Tryz.prog 4 = some (1, false) := by kernel_rfl
@[simp] theorem tsz_4 : tsz Tryz.prog 4 = some 1 := by kernel_rfl
@[simp] theorem tzero_4 : tzero Tryz.prog 4 = some [.bool false] := by kernel_rfl
@[simp] theorem tby_4 : tby Tryz.prog 4 = some 1 := by kernel_rfl
@[simp] theorem und_4 : Tryz.prog.underlying 4 = some .bool := by kernel_rfl
@[simp] theorem tk_5 : tk Tryz.prog 5 = some (1, false) := by kernel_rfl
@[simp] theorem tsz_5 : tsz Tryz.prog 5 = some 1 := by kernel_rfl
@[simp] theorem tzero_5 : tzero Tryz.prog 5 = some [.int .u8 0] := by kernel_rfl
@[simp] theorem tby_5 : tby Tryz.prog 5 = some 1 := by kernel_rfl
@[simp] theorem und_5 : Tryz.prog.underlying 5 = some (.int .u8) := by kernel_rfl
@[simp] theorem tk_6 : tk Tryz.prog 6 = some (1, false) := by kernel_rfl
@[simp] theorem tsz_6 : tsz Tryz.prog 6 = some 1 := by kernel_rfl
@[simp] theorem tzero_6 : tzero Tryz.prog 6 = some [.int .u8 0] := by kernel_rfl
@[simp] theorem tby_6 : tby Tryz.prog 6 = some 1 := by kernel_rfl
@[simp] theorem und_6 : Tryz.prog.underlying 6 = some (.int .u8) := by kernel_rfl
@[simp] theorem tk_7 : tk Tryz.prog 7 = some (4, true) := by kernel_rfl
@[simp] theorem tsz_7 : tsz Tryz.prog 7 = some 4 := by kernel_rfl
@[simp] theorem tzero_7 : tzero Tryz.prog 7 = some [.int .i64 0, .int .i64 0, .bool false, .int .u8 0] := by kernel_rfl
@[simp] theorem tby_7 : tby Tryz.prog 7 = some 24 := by kernel_rfl
@[simp] theorem tfld_7_0 : tfld Tryz.prog 7 0 = some (0, 1, 2) := by kernel_rfl
@[simp] theorem tfld_7_1 : tfld Tryz.prog 7 1 = some (1, 1, 3) := by kernel_rfl
@[simp] theorem tfld_7_2 : tfld Tryz.prog 7 2 = some (2, 1, 4) := by kernel_rfl
@[simp] theorem tfld_7_3 : tfld Tryz.prog 7 3 = some (3, 1, 6) := by kernel_rfl
@[simp] theorem tbuild_7 : tbuild Tryz.prog 7 = some ([.int .i64 0, .int .i64 0, .bool false, .int .u8 0], [(0, 1), (1, 1), (2, 1), (3, 1)]) := by kernel_rfl
@[simp] theorem tkinds_7 : tkinds Tryz.prog 7 = some [.i, .i, .b, .i] := by kernel_rfl
@[simp] theorem tk_8 : tk Tryz.prog 8 = some (4, true) := by kernel_rfl
@[simp] theorem tsz_8 : tsz Tryz.prog 8 = some 4 := by kernel_rfl
@[simp] theorem tzero_8 : tzero Tryz.prog 8 = some [.int .i64 0, .int .i64 0, .bool false, .int .u8 0] := by kernel_rfl
@[simp] theorem tby_8 : tby Tryz.prog 8 = some 24 := by kernel_rfl
@[simp] theorem tfld_8_0 : tfld Tryz.prog 8 0 = some (0, 1, 2) := by kernel_rfl
@[simp] theorem tfld_8_1 : tfld Tryz.prog 8 1 = some (1, 1, 3) := by kernel_rfl
@[simp] theorem tfld_8_2 : tfld Tryz.prog 8 2 = some (2, 1, 4) := by kernel_rfl
@[simp] theorem tfld_8_3 : tfld Tryz.prog 8 3 = some (3, 1, 6) := by kernel_rfl
@[simp] theorem tbuild_8 : tbuild Tryz.prog 8 = some ([.int .i64 0, .int .i64 0, .bool false, .int .u8 0], [(0, 1), (1, 1), (2, 1), (3, 1)]) := by kernel_rfl
@[simp] theorem tkinds_8 : tkinds Tryz.prog 8 = some [.i, .i, .b, .i] := by kernel_rfl
@[simp] theorem tk_9 : tk Tryz.prog 9 = some (1, false) := by kernel_rfl
@[simp] theorem tsz_9 : tsz Tryz.prog 9 = some 1 := by kernel_rfl
@[simp] theorem tzero_9 : tzero Tryz.prog 9 = some [.str ByteArray.empty] := by kernel_rfl
@[simp] theorem tby_9 : tby Tryz.prog 9 = some 16 := by kernel_rfl
@[simp] theorem und_9 : Tryz.prog.underlying 9 = some .string := by kernel_rfl
@[simp] theorem tk_10 : tk Tryz.prog 10 = some (1, false) := by kernel_rfl
@[simp] theorem tsz_10 : tsz Tryz.prog 10 = some 1 := by kernel_rfl
@[simp] theorem tzero_10 : tzero Tryz.prog 10 = some [.str ByteArray.empty] := by kernel_rfl
@[simp] theorem tby_10 : tby Tryz.prog 10 = some 16 := by kernel_rfl
@[simp] theorem und_10 : Tryz.prog.underlying 10 = some .string := by kernel_rfl
@[simp] theorem tk_11 : tk Tryz.prog 11 = some (1, false) := by kernel_rfl
@[simp] theorem tsz_11 : tsz Tryz.prog 11 = some 1 := by kernel_rfl
@[simp] theorem tzero_11 : tzero Tryz.prog 11 = some [.str ByteArray.empty] := by kernel_rfl
@[simp] theorem tby_11 : tby Tryz.prog 11 = some 16 := by kernel_rfl
@[simp] theorem und_11 : Tryz.prog.underlying 11 = some .string := by kernel_rfl
@[simp] theorem tk_12 : tk Tryz.prog 12 = some (1, false) := by kernel_rfl
@[simp] theorem tsz_12 : tsz Tryz.prog 12 = some 1 := by kernel_rfl
@[simp] theorem tzero_12 : tzero Tryz.prog 12 = some [.int .u64 0] := by kernel_rfl
@[simp] theorem tby_12 : tby Tryz.prog 12 = some 8 := by kernel_rfl
@[simp] theorem und_12 : Tryz.prog.underlying 12 = some (.int .u64) := by kernel_rfl
@[simp] theorem tk_13 : tk Tryz.prog 13 = some (2, true) := by kernel_rfl
@[simp] theorem tsz_13 : tsz Tryz.prog 13 = some 2 := by kernel_rfl
@[simp] theorem tzero_13 : tzero Tryz.prog 13 = some [.str ByteArray.empty, .int .u64 0] := by kernel_rfl
@[simp] theorem tby_13 : tby Tryz.prog 13 = some 24 := by kernel_rfl
@[simp] theorem tfld_13_0 : tfld Tryz.prog 13 0 = some (0, 1, 9) := by kernel_rfl
@[simp] theorem tfld_13_1 : tfld Tryz.prog 13 1 = some (1, 1, 12) := by kernel_rfl
@[simp] theorem tbuild_13 : tbuild Tryz.prog 13 = some ([.str ByteArray.empty, .int .u64 0], [(0, 1), (1, 1)]) := by kernel_rfl
@[simp] theorem tk_14 : tk Tryz.prog 14 = some (2, true) := by kernel_rfl
@[simp] theorem tsz_14 : tsz Tryz.prog 14 = some 2 := by kernel_rfl
@[simp] theorem tzero_14 : tzero Tryz.prog 14 = some [.str ByteArray.empty, .int .u64 0] := by kernel_rfl
@[simp] theorem tby_14 : tby Tryz.prog 14 = some 24 := by kernel_rfl
@[simp] theorem tfld_14_0 : tfld Tryz.prog 14 0 = some (0, 1, 9) := by kernel_rfl
@[simp] theorem tfld_14_1 : tfld Tryz.prog 14 1 = some (1, 1, 12) := by kernel_rfl
@[simp] theorem tbuild_14 : tbuild Tryz.prog 14 = some ([.str ByteArray.empty, .int .u64 0], [(0, 1), (1, 1)]) := by kernel_rfl
@[simp] theorem tk_15 : tk Tryz.prog 15 = some (1, false) := by kernel_rfl
@[simp] theorem tsz_15 : tsz Tryz.prog 15 = some 1 := by kernel_rfl
@[simp] theorem tzero_15 : tzero Tryz.prog 15 = some [.nilp] := by kernel_rfl
@[simp] theorem tby_15 : tby Tryz.prog 15 = some 8 := by kernel_rfl
@[simp] theorem tk_16 : tk Tryz.prog 16 = some (1, false) := by kernel_rfl
@[simp] theorem tsz_16 : tsz Tryz.prog 16 = some 1 := by kernel_rfl
@[simp] theorem tzero_16 : tzero Tryz.prog 16 = some [.nilp] := by kernel_rfl
@[simp] theorem tby_16 : tby Tryz.prog 16 = some 8 := by kernel_rfl
@[simp] theorem tk_17 : tk Tryz.prog 17 = some (1, false) := by kernel_rfl
@[simp] theorem tsz_17 : tsz Tryz.prog 17 = some 1 := by kernel_rfl
@[simp] theorem tzero_17 : tzero Tryz.prog 17 = some [.nilp] := by kernel_rfl
@[simp] theorem tby_17 : tby Tryz.prog 17 = some 8 := by kernel_rfl
@[simp] theorem tk_18 : tk Tryz.prog 18 = some (1, true) := by kernel_rfl
@[simp] theorem tsz_18 : tsz Tryz.prog 18 = some 1 := by kernel_rfl
@[simp] theorem tzero_18 : tzero Tryz.prog 18 = some [.nilp] := by kernel_rfl
@[simp] theorem tby_18 : tby Tryz.prog 18 = some 8 := by kernel_rfl
@[simp] theorem tfld_18_0 : tfld Tryz.prog 18 0 = some (0, 1, 17) := by kernel_rfl
@[simp] theorem tbuild_18 : tbuild Tryz.prog 18 = some ([.nilp], [(0, 1)]) := by kernel_rfl
@[simp] theorem tk_19 : tk Tryz.prog 19 = some (1, true) := by kernel_rfl
@[simp] theorem tsz_19 : tsz Tryz.prog 19 = some 1 := by kernel_rfl
@[simp] theorem tzero_19 : tzero Tryz.prog 19 = some [.nilp] := by kernel_rfl
@[simp] theorem tby_19 : tby Tryz.prog 19 = some 8 := by kernel_rfl
@[simp] theorem tfld_19_0 : tfld Tryz.prog 19 0 = some (0, 1, 17) := by kernel_rfl
@[simp] theorem tbuild_19 : tbuild Tryz.prog 19 = some ([.nilp], [(0, 1)]) := by kernel_rfl
@[simp] theorem tk_20 : tk Tryz.prog 20 = some (1, false) := by kernel_rfl
@[simp] theorem tsz_20 : tsz Tryz.prog 20 = some 1 := by kernel_rfl
@[simp] theorem tzero_20 : tzero Tryz.prog 20 = some [.nilif] := by kernel_rfl
@[simp] theorem tby_20 : tby Tryz.prog 20 = some 16 := by kernel_rfl
@[simp] theorem tk_21 : tk Tryz.prog 21 = some (1, false) := by kernel_rfl
@[simp] theorem tsz_21 : tsz Tryz.prog 21 = some 1 := by kernel_rfl
@[simp] theorem tzero_21 : tzero Tryz.prog 21 = some [.int .i32 0] := by kernel_rfl
@[simp] theorem tby_21 : tby Tryz.prog 21 = some 4 := by kernel_rfl
@[simp] theorem und_21 : Tryz.prog.underlying 21 = some (.int .i32) := by kernel_rfl
@[simp] theorem tk_22 : tk Tryz.prog 22 = some (1, false) := by kernel_rfl
@[simp] theorem tsz_22 : tsz Tryz.prog 22 = some 1 := by kernel_rfl
@[simp] theorem tzero_22 : tzero Tryz.prog 22 = some [.nilsl] := by kernel_rfl
@[simp] theorem tby_22 : tby Tryz.prog 22 = some 24 := by kernel_rfl
@[simp] theorem telem_22 : telem Tryz.prog 22 = some 3 := by kernel_rfl
@[simp] theorem und_22 : Tryz.prog.underlying 22 = some (.slice 3) := by kernel_rfl
@[simp] theorem tk_23 : tk Tryz.prog 23 = some (1, false) := by kernel_rfl
@[simp] theorem tsz_23 : tsz Tryz.prog 23 = some 1 := by kernel_rfl
@[simp] theorem tzero_23 : tzero Tryz.prog 23 = some [.nilsl] := by kernel_rfl
@[simp] theorem tby_23 : tby Tryz.prog 23 = some 24 := by kernel_rfl
@[simp] theorem telem_23 : telem Tryz.prog 23 = some 54 := by kernel_rfl
@[simp] theorem und_23 : Tryz.prog.underlying 23 = some (.slice 54) := by kernel_rfl
@[simp] theorem tk_24 : tk Tryz.prog 24 = some (5, true) := by kernel_rfl
@[simp] theorem tsz_24 : tsz Tryz.prog 24 = some 5 := by kernel_rfl
@[simp] theorem tzero_24 : tzero Tryz.prog 24 = some [.nilsl, .int .i64 0, .int .i64 0, .int .i64 0, .nilsl] := by kernel_rfl
@[simp] theorem tby_24 : tby Tryz.prog 24 = some 72 := by kernel_rfl
@[simp] theorem tfld_24_0 : tfld Tryz.prog 24 0 = some (0, 1, 22) := by kernel_rfl
@[simp] theorem tfld_24_1 : tfld Tryz.prog 24 1 = some (1, 1, 3) := by kernel_rfl
@[simp] theorem tfld_24_2 : tfld Tryz.prog 24 2 = some (2, 1, 3) := by kernel_rfl
@[simp] theorem tfld_24_3 : tfld Tryz.prog 24 3 = some (3, 1, 3) := by kernel_rfl
@[simp] theorem tfld_24_4 : tfld Tryz.prog 24 4 = some (4, 1, 23) := by kernel_rfl
@[simp] theorem tbuild_24 : tbuild Tryz.prog 24 = some ([.nilsl, .int .i64 0, .int .i64 0, .int .i64 0, .nilsl], [(0, 1), (1, 1), (2, 1), (3, 1), (4, 1)]) := by kernel_rfl
@[simp] theorem tk_25 : tk Tryz.prog 25 = some (5, true) := by kernel_rfl
@[simp] theorem tsz_25 : tsz Tryz.prog 25 = some 5 := by kernel_rfl
@[simp] theorem tzero_25 : tzero Tryz.prog 25 = some [.nilsl, .int .i64 0, .int .i64 0, .int .i64 0, .nilsl] := by kernel_rfl
@[simp] theorem tby_25 : tby Tryz.prog 25 = some 72 := by kernel_rfl
@[simp] theorem tfld_25_0 : tfld Tryz.prog 25 0 = some (0, 1, 22) := by kernel_rfl
@[simp] theorem tfld_25_1 : tfld Tryz.prog 25 1 = some (1, 1, 3) := by kernel_rfl
@[simp] theorem tfld_25_2 : tfld Tryz.prog 25 2 = some (2, 1, 3) := by kernel_rfl
@[simp] theorem tfld_25_3 : tfld Tryz.prog 25 3 = some (3, 1, 3) := by kernel_rfl
@[simp] theorem tfld_25_4 : tfld Tryz.prog 25 4 = some (4, 1, 23) := by kernel_rfl
@[simp] theorem tbuild_25 : tbuild Tryz.prog 25 = some ([.nilsl, .int .i64 0, .int .i64 0, .int .i64 0, .nilsl], [(0, 1), (1, 1), (2, 1), (3, 1), (4, 1)]) := by kernel_rfl
@[simp] theorem tk_27 : tk Tryz.prog 27 = some (1, false) := by kernel_rfl
@[simp] theorem tsz_27 : tsz Tryz.prog 27 = some 1 := by kernel_rfl
@[simp] theorem tzero_27 : tzero Tryz.prog 27 = some [.nilsl] := by kernel_rfl
@[simp] theorem tby_27 : tby Tryz.prog 27 = some 24 := by kernel_rfl
@[simp] theorem telem_27 : telem Tryz.prog 27 = some 59 := by kernel_rfl
@[simp] theorem und_27 : Tryz.prog.underlying 27 = some (.slice 59) := by kernel_rfl
@[simp] theorem tk_28 : tk Tryz.prog 28 = some (5, true) := by kernel_rfl
@[simp] theorem tsz_28 : tsz Tryz.prog 28 = some 5 := by kernel_rfl
@[simp] theorem tzero_28 : tzero Tryz.prog 28 = some [.nilsl, .int .i64 0, .int .i64 0, .int .i64 0, .nilsl] := by kernel_rfl
@[simp] theorem tby_28 : tby Tryz.prog 28 = some 72 := by kernel_rfl
@[simp] theorem tfld_28_0 : tfld Tryz.prog 28 0 = some (0, 1, 22) := by kernel_rfl
@[simp] theorem tfld_28_1 : tfld Tryz.prog 28 1 = some (1, 1, 3) := by kernel_rfl
@[simp] theorem tfld_28_2 : tfld Tryz.prog 28 2 = some (2, 1, 3) := by kernel_rfl
@[simp] theorem tfld_28_3 : tfld Tryz.prog 28 3 = some (3, 1, 3) := by kernel_rfl
@[simp] theorem tfld_28_4 : tfld Tryz.prog 28 4 = some (4, 1, 27) := by kernel_rfl
@[simp] theorem tbuild_28 : tbuild Tryz.prog 28 = some ([.nilsl, .int .i64 0, .int .i64 0, .int .i64 0, .nilsl], [(0, 1), (1, 1), (2, 1), (3, 1), (4, 1)]) := by kernel_rfl
@[simp] theorem tk_29 : tk Tryz.prog 29 = some (5, true) := by kernel_rfl
@[simp] theorem tsz_29 : tsz Tryz.prog 29 = some 5 := by kernel_rfl
@[simp] theorem tzero_29 : tzero Tryz.prog 29 = some [.nilsl, .int .i64 0, .int .i64 0, .int .i64 0, .nilsl] := by kernel_rfl
@[simp] theorem tby_29 : tby Tryz.prog 29 = some 72 := by kernel_rfl
@[simp] theorem tfld_29_0 : tfld Tryz.prog 29 0 = some (0, 1, 22) := by kernel_rfl
@[simp] theorem tfld_29_1 : tfld Tryz.prog 29 1 = some (1, 1, 3) := by kernel_rfl
@[simp] theorem tfld_29_2 : tfld Tryz.prog 29 2 = some (2, 1, 3) := by kernel_rfl
@[simp] theorem tfld_29_3 : tfld Tryz.prog 29 3 = some (3, 1, 3) := by kernel_rfl
@[simp] theorem tfld_29_4 : tfld Tryz.prog 29 4 = some (4, 1, 27) := by kernel_rfl
@[simp] theorem tbuild_29 : tbuild Tryz.prog 29 = some ([.nilsl, .int .i64 0, .int .i64 0, .int .i64 0, .nilsl], [(0, 1), (1, 1), (2, 1), (3, 1), (4, 1)]) := by kernel_rfl
@[simp] theorem tk_52 : tk Tryz.prog 52 = some (1, false) := by kernel_rfl
@[simp] theorem tsz_52 : tsz Tryz.prog 52 = some 1 := by kernel_rfl
@[simp] theorem tzero_52 : tzero Tryz.prog 52 = some [.nilsl] := by kernel_rfl
@[simp] theorem tby_52 : tby Tryz.prog 52 = some 24 := by kernel_rfl
@[simp] theorem telem_52 : telem Tryz.prog 52 = some 161 := by kernel_rfl
@[simp] theorem und_52 : Tryz.prog.underlying 52 = some (.slice 161) := by kernel_rfl
@[simp] theorem tk_53 : tk Tryz.prog 53 = some (5, true) := by kernel_rfl
@[simp] theorem tsz_53 : tsz Tryz.prog 53 = some 5 := by kernel_rfl
@[simp] theorem tzero_53 : tzero Tryz.prog 53 = some [.nilsl, .int .i64 0, .int .i64 0, .int .i64 0, .int .i64 0] := by kernel_rfl
@[simp] theorem tby_53 : tby Tryz.prog 53 = some 56 := by kernel_rfl
@[simp] theorem tfld_53_0 : tfld Tryz.prog 53 0 = some (0, 1, 52) := by kernel_rfl
@[simp] theorem tfld_53_1 : tfld Tryz.prog 53 1 = some (1, 1, 3) := by kernel_rfl
@[simp] theorem tfld_53_2 : tfld Tryz.prog 53 2 = some (2, 1, 3) := by kernel_rfl
@[simp] theorem tfld_53_3 : tfld Tryz.prog 53 3 = some (3, 1, 3) := by kernel_rfl
@[simp] theorem tfld_53_4 : tfld Tryz.prog 53 4 = some (4, 1, 3) := by kernel_rfl
@[simp] theorem tbuild_53 : tbuild Tryz.prog 53 = some ([.nilsl, .int .i64 0, .int .i64 0, .int .i64 0, .int .i64 0], [(0, 1), (1, 1), (2, 1), (3, 1), (4, 1)]) := by kernel_rfl
@[simp] theorem tk_54 : tk Tryz.prog 54 = some (5, true) := by kernel_rfl
@[simp] theorem tsz_54 : tsz Tryz.prog 54 = some 5 := by kernel_rfl
@[simp] theorem tzero_54 : tzero Tryz.prog 54 = some [.nilsl, .int .i64 0, .int .i64 0, .int .i64 0, .int .i64 0] := by kernel_rfl
@[simp] theorem tby_54 : tby Tryz.prog 54 = some 56 := by kernel_rfl
@[simp] theorem tfld_54_0 : tfld Tryz.prog 54 0 = some (0, 1, 52) := by kernel_rfl
@[simp] theorem tfld_54_1 : tfld Tryz.prog 54 1 = some (1, 1, 3) := by kernel_rfl
@[simp] theorem tfld_54_2 : tfld Tryz.prog 54 2 = some (2, 1, 3) := by kernel_rfl
@[simp] theorem tfld_54_3 : tfld Tryz.prog 54 3 = some (3, 1, 3) := by kernel_rfl
@[simp] theorem tfld_54_4 : tfld Tryz.prog 54 4 = some (4, 1, 3) := by kernel_rfl
@[simp] theorem tbuild_54 : tbuild Tryz.prog 54 = some ([.nilsl, .int .i64 0, .int .i64 0, .int .i64 0, .int .i64 0], [(0, 1), (1, 1), (2, 1), (3, 1), (4, 1)]) := by kernel_rfl
@[simp] theorem tk_57 : tk Tryz.prog 57 = some (1, false) := by kernel_rfl
@[simp] theorem tsz_57 : tsz Tryz.prog 57 = some 1 := by kernel_rfl
@[simp] theorem tzero_57 : tzero Tryz.prog 57 = some [.nilsl] := by kernel_rfl
@[simp] theorem tby_57 : tby Tryz.prog 57 = some 24 := by kernel_rfl
@[simp] theorem telem_57 : telem Tryz.prog 57 = some 80 := by kernel_rfl
@[simp] theorem und_57 : Tryz.prog.underlying 57 = some (.slice 80) := by kernel_rfl
@[simp] theorem tk_58 : tk Tryz.prog 58 = some (5, true) := by kernel_rfl
@[simp] theorem tsz_58 : tsz Tryz.prog 58 = some 5 := by kernel_rfl
@[simp] theorem tzero_58 : tzero Tryz.prog 58 = some [.nilsl, .int .i64 0, .int .i64 0, .int .i64 0, .int .i64 0] := by kernel_rfl
@[simp] theorem tby_58 : tby Tryz.prog 58 = some 56 := by kernel_rfl
@[simp] theorem tfld_58_0 : tfld Tryz.prog 58 0 = some (0, 1, 57) := by kernel_rfl
@[simp] theorem tfld_58_1 : tfld Tryz.prog 58 1 = some (1, 1, 3) := by kernel_rfl
@[simp] theorem tfld_58_2 : tfld Tryz.prog 58 2 = some (2, 1, 3) := by kernel_rfl
@[simp] theorem tfld_58_3 : tfld Tryz.prog 58 3 = some (3, 1, 3) := by kernel_rfl
@[simp] theorem tfld_58_4 : tfld Tryz.prog 58 4 = some (4, 1, 3) := by kernel_rfl
@[simp] theorem tbuild_58 : tbuild Tryz.prog 58 = some ([.nilsl, .int .i64 0, .int .i64 0, .int .i64 0, .int .i64 0], [(0, 1), (1, 1), (2, 1), (3, 1), (4, 1)]) := by kernel_rfl
@[simp] theorem tk_59 : tk Tryz.prog 59 = some (5, true) := by kernel_rfl
@[simp] theorem tsz_59 : tsz Tryz.prog 59 = some 5 := by kernel_rfl
@[simp] theorem tzero_59 : tzero Tryz.prog 59 = some [.nilsl, .int .i64 0, .int .i64 0, .int .i64 0, .int .i64 0] := by kernel_rfl
@[simp] theorem tby_59 : tby Tryz.prog 59 = some 56 := by kernel_rfl
@[simp] theorem tfld_59_0 : tfld Tryz.prog 59 0 = some (0, 1, 57) := by kernel_rfl
@[simp] theorem tfld_59_1 : tfld Tryz.prog 59 1 = some (1, 1, 3) := by kernel_rfl
@[simp] theorem tfld_59_2 : tfld Tryz.prog 59 2 = some (2, 1, 3) := by kernel_rfl
@[simp] theorem tfld_59_3 : tfld Tryz.prog 59 3 = some (3, 1, 3) := by kernel_rfl
@[simp] theorem tfld_59_4 : tfld Tryz.prog 59 4 = some (4, 1, 3) := by kernel_rfl
@[simp] theorem tbuild_59 : tbuild Tryz.prog 59 = some ([.nilsl, .int .i64 0, .int .i64 0, .int .i64 0, .int .i64 0], [(0, 1), (1, 1), (2, 1), (3, 1), (4, 1)]) := by kernel_rfl
@[simp] theorem tk_60 : tk Tryz.prog 60 = some (1, false) := by kernel_rfl
@[simp] theorem tsz_60 : tsz Tryz.prog 60 = some 1 := by kernel_rfl
@[simp] theorem tzero_60 : tzero Tryz.prog 60 = some [.nilsl] := by kernel_rfl
@[simp] theorem tby_60 : tby Tryz.prog 60 = some 24 := by kernel_rfl
@[simp] theorem telem_60 : telem Tryz.prog 60 = some 4 := by kernel_rfl
@[simp] theorem und_60 : Tryz.prog.underlying 60 = some (.slice 4) := by kernel_rfl
@[simp] theorem tk_62 : tk Tryz.prog 62 = some (3, true) := by kernel_rfl
@[simp] theorem tsz_62 : tsz Tryz.prog 62 = some 3 := by kernel_rfl
@[simp] theorem tzero_62 : tzero Tryz.prog 62 = some [.int .i64 0, .int .i64 0, .nilsl] := by kernel_rfl
@[simp] theorem tby_62 : tby Tryz.prog 62 = some 40 := by kernel_rfl
@[simp] theorem tfld_62_0 : tfld Tryz.prog 62 0 = some (0, 1, 3) := by kernel_rfl
@[simp] theorem tfld_62_1 : tfld Tryz.prog 62 1 = some (1, 1, 3) := by kernel_rfl
@[simp] theorem tfld_62_2 : tfld Tryz.prog 62 2 = some (2, 1, 22) := by kernel_rfl
@[simp] theorem tbuild_62 : tbuild Tryz.prog 62 = some ([.int .i64 0, .int .i64 0, .nilsl], [(0, 1), (1, 1), (2, 1)]) := by kernel_rfl
@[simp] theorem tk_63 : tk Tryz.prog 63 = some (3, true) := by kernel_rfl
@[simp] theorem tsz_63 : tsz Tryz.prog 63 = some 3 := by kernel_rfl
@[simp] theorem tzero_63 : tzero Tryz.prog 63 = some [.int .i64 0, .int .i64 0, .nilsl] := by kernel_rfl
@[simp] theorem tby_63 : tby Tryz.prog 63 = some 40 := by kernel_rfl
@[simp] theorem tfld_63_0 : tfld Tryz.prog 63 0 = some (0, 1, 3) := by kernel_rfl
@[simp] theorem tfld_63_1 : tfld Tryz.prog 63 1 = some (1, 1, 3) := by kernel_rfl
@[simp] theorem tfld_63_2 : tfld Tryz.prog 63 2 = some (2, 1, 22) := by kernel_rfl
@[simp] theorem tbuild_63 : tbuild Tryz.prog 63 = some ([.int .i64 0, .int .i64 0, .nilsl], [(0, 1), (1, 1), (2, 1)]) := by kernel_rfl
@[simp] theorem tk_67 : tk Tryz.prog 67 = some (1, false) := by kernel_rfl
@[simp] theorem tsz_67 : tsz Tryz.prog 67 = some 1 := by kernel_rfl
@[simp] theorem tzero_67 : tzero Tryz.prog 67 = some [.nilp] := by kernel_rfl
@[simp] theorem tby_67 : tby Tryz.prog 67 = some 8 := by kernel_rfl
@[simp] theorem tk_69 : tk Tryz.prog 69 = some (1, false) := by kernel_rfl
@[simp] theorem tsz_69 : tsz Tryz.prog 69 = some 1 := by kernel_rfl
@[simp] theorem tzero_69 : tzero Tryz.prog 69 = some [.nilsl] := by kernel_rfl
@[simp] theorem tby_69 : tby Tryz.prog 69 = some 24 := by kernel_rfl
@[simp] theorem telem_69 : telem Tryz.prog 69 = some 22 := by kernel_rfl
@[simp] theorem und_69 : Tryz.prog.underlying 69 = some (.slice 22) := by kernel_rfl
@[simp] theorem tk_70 : tk Tryz.prog 70 = some (7, true) := by kernel_rfl
@[simp] theorem tsz_70 : tsz Tryz.prog 70 = some 7 := by kernel_rfl
@[simp] theorem tzero_70 : tzero Tryz.prog 70 = some [.nilsl, .nilsl, .nilsl, .int .i64 0, .int .i64 0, .int .i64 0, .nilsl] := by kernel_rfl
@[simp] theorem tby_70 : tby Tryz.prog 70 = some 120 := by kernel_rfl
@[simp] theorem tfld_70_0 : tfld Tryz.prog 70 0 = some (0, 1, 22) := by kernel_rfl
@[simp] theorem tfld_70_1 : tfld Tryz.prog 70 1 = some (1, 1, 69) := by kernel_rfl
@[simp] theorem tfld_70_2 : tfld Tryz.prog 70 2 = some (2, 1, 22) := by kernel_rfl
@[simp] theorem tfld_70_3 : tfld Tryz.prog 70 3 = some (3, 1, 3) := by kernel_rfl
@[simp] theorem tfld_70_4 : tfld Tryz.prog 70 4 = some (4, 3, 63) := by kernel_rfl
@[simp] theorem tbuild_70 : tbuild Tryz.prog 70 = some ([.nilsl, .nilsl, .nilsl, .int .i64 0, .int .i64 0, .int .i64 0, .nilsl], [(0, 1), (1, 1), (2, 1), (3, 1), (4, 3)]) := by kernel_rfl
@[simp] theorem tk_71 : tk Tryz.prog 71 = some (7, true) := by kernel_rfl
@[simp] theorem tsz_71 : tsz Tryz.prog 71 = some 7 := by kernel_rfl
@[simp] theorem tzero_71 : tzero Tryz.prog 71 = some [.nilsl, .nilsl, .nilsl, .int .i64 0, .int .i64 0, .int .i64 0, .nilsl] := by kernel_rfl
@[simp] theorem tby_71 : tby Tryz.prog 71 = some 120 := by kernel_rfl
@[simp] theorem tfld_71_0 : tfld Tryz.prog 71 0 = some (0, 1, 22) := by kernel_rfl
@[simp] theorem tfld_71_1 : tfld Tryz.prog 71 1 = some (1, 1, 69) := by kernel_rfl
@[simp] theorem tfld_71_2 : tfld Tryz.prog 71 2 = some (2, 1, 22) := by kernel_rfl
@[simp] theorem tfld_71_3 : tfld Tryz.prog 71 3 = some (3, 1, 3) := by kernel_rfl
@[simp] theorem tfld_71_4 : tfld Tryz.prog 71 4 = some (4, 3, 63) := by kernel_rfl
@[simp] theorem tbuild_71 : tbuild Tryz.prog 71 = some ([.nilsl, .nilsl, .nilsl, .int .i64 0, .int .i64 0, .int .i64 0, .nilsl], [(0, 1), (1, 1), (2, 1), (3, 1), (4, 3)]) := by kernel_rfl
@[simp] theorem tk_72 : tk Tryz.prog 72 = some (8, true) := by kernel_rfl
@[simp] theorem tsz_72 : tsz Tryz.prog 72 = some 8 := by kernel_rfl
@[simp] theorem tzero_72 : tzero Tryz.prog 72 = some [.nilsl, .nilsl, .nilsl, .int .i64 0, .int .i64 0, .int .i64 0, .nilsl, .nilsl] := by kernel_rfl
@[simp] theorem tby_72 : tby Tryz.prog 72 = some 144 := by kernel_rfl
@[simp] theorem tfld_72_0 : tfld Tryz.prog 72 0 = some (0, 7, 71) := by kernel_rfl
@[simp] theorem tfld_72_1 : tfld Tryz.prog 72 1 = some (7, 1, 22) := by kernel_rfl
@[simp] theorem tbuild_72 : tbuild Tryz.prog 72 = some ([.nilsl, .nilsl, .nilsl, .int .i64 0, .int .i64 0, .int .i64 0, .nilsl, .nilsl], [(0, 7), (7, 1)]) := by kernel_rfl
@[simp] theorem tk_73 : tk Tryz.prog 73 = some (8, true) := by kernel_rfl
@[simp] theorem tsz_73 : tsz Tryz.prog 73 = some 8 := by kernel_rfl
@[simp] theorem tzero_73 : tzero Tryz.prog 73 = some [.nilsl, .nilsl, .nilsl, .int .i64 0, .int .i64 0, .int .i64 0, .nilsl, .nilsl] := by kernel_rfl
@[simp] theorem tby_73 : tby Tryz.prog 73 = some 144 := by kernel_rfl
@[simp] theorem tfld_73_0 : tfld Tryz.prog 73 0 = some (0, 7, 71) := by kernel_rfl
@[simp] theorem tfld_73_1 : tfld Tryz.prog 73 1 = some (7, 1, 22) := by kernel_rfl
@[simp] theorem tbuild_73 : tbuild Tryz.prog 73 = some ([.nilsl, .nilsl, .nilsl, .int .i64 0, .int .i64 0, .int .i64 0, .nilsl, .nilsl], [(0, 7), (7, 1)]) := by kernel_rfl
@[simp] theorem tk_79 : tk Tryz.prog 79 = some (7, true) := by kernel_rfl
@[simp] theorem tsz_79 : tsz Tryz.prog 79 = some 7 := by kernel_rfl
@[simp] theorem tzero_79 : tzero Tryz.prog 79 = some [.int .i64 0, .int .i64 0, .int .i64 0, .int .i64 0, .int .i64 0, .int .i64 0, .str ByteArray.empty] := by kernel_rfl
@[simp] theorem tby_79 : tby Tryz.prog 79 = some 64 := by kernel_rfl
@[simp] theorem tfld_79_0 : tfld Tryz.prog 79 0 = some (0, 1, 3) := by kernel_rfl
@[simp] theorem tfld_79_1 : tfld Tryz.prog 79 1 = some (1, 1, 3) := by kernel_rfl
@[simp] theorem tfld_79_2 : tfld Tryz.prog 79 2 = some (2, 1, 3) := by kernel_rfl
@[simp] theorem tfld_79_3 : tfld Tryz.prog 79 3 = some (3, 1, 3) := by kernel_rfl
@[simp] theorem tfld_79_4 : tfld Tryz.prog 79 4 = some (4, 1, 3) := by kernel_rfl
@[simp] theorem tfld_79_5 : tfld Tryz.prog 79 5 = some (5, 1, 3) := by kernel_rfl
@[simp] theorem tfld_79_6 : tfld Tryz.prog 79 6 = some (6, 1, 9) := by kernel_rfl
@[simp] theorem tbuild_79 : tbuild Tryz.prog 79 = some ([.int .i64 0, .int .i64 0, .int .i64 0, .int .i64 0, .int .i64 0, .int .i64 0, .str ByteArray.empty], [(0, 1), (1, 1), (2, 1), (3, 1), (4, 1), (5, 1), (6, 1)]) := by kernel_rfl
@[simp] theorem tkinds_79 : tkinds Tryz.prog 79 = some [.i, .i, .i, .i, .i, .i, .s] := by kernel_rfl
@[simp] theorem tk_80 : tk Tryz.prog 80 = some (7, true) := by kernel_rfl
@[simp] theorem tsz_80 : tsz Tryz.prog 80 = some 7 := by kernel_rfl
@[simp] theorem tzero_80 : tzero Tryz.prog 80 = some [.int .i64 0, .int .i64 0, .int .i64 0, .int .i64 0, .int .i64 0, .int .i64 0, .str ByteArray.empty] := by kernel_rfl
@[simp] theorem tby_80 : tby Tryz.prog 80 = some 64 := by kernel_rfl
@[simp] theorem tfld_80_0 : tfld Tryz.prog 80 0 = some (0, 1, 3) := by kernel_rfl
@[simp] theorem tfld_80_1 : tfld Tryz.prog 80 1 = some (1, 1, 3) := by kernel_rfl
@[simp] theorem tfld_80_2 : tfld Tryz.prog 80 2 = some (2, 1, 3) := by kernel_rfl
@[simp] theorem tfld_80_3 : tfld Tryz.prog 80 3 = some (3, 1, 3) := by kernel_rfl
@[simp] theorem tfld_80_4 : tfld Tryz.prog 80 4 = some (4, 1, 3) := by kernel_rfl
@[simp] theorem tfld_80_5 : tfld Tryz.prog 80 5 = some (5, 1, 3) := by kernel_rfl
@[simp] theorem tfld_80_6 : tfld Tryz.prog 80 6 = some (6, 1, 9) := by kernel_rfl
@[simp] theorem tbuild_80 : tbuild Tryz.prog 80 = some ([.int .i64 0, .int .i64 0, .int .i64 0, .int .i64 0, .int .i64 0, .int .i64 0, .str ByteArray.empty], [(0, 1), (1, 1), (2, 1), (3, 1), (4, 1), (5, 1), (6, 1)]) := by kernel_rfl
@[simp] theorem tkinds_80 : tkinds Tryz.prog 80 = some [.i, .i, .i, .i, .i, .i, .s] := by kernel_rfl
@[simp] theorem tk_83 : tk Tryz.prog 83 = some (1, false) := by kernel_rfl
@[simp] theorem tsz_83 : tsz Tryz.prog 83 = some 1 := by kernel_rfl
@[simp] theorem tzero_83 : tzero Tryz.prog 83 = some [.nilsl] := by kernel_rfl
@[simp] theorem tby_83 : tby Tryz.prog 83 = some 24 := by kernel_rfl
@[simp] theorem telem_83 : telem Tryz.prog 83 = some 124 := by kernel_rfl
@[simp] theorem und_83 : Tryz.prog.underlying 83 = some (.slice 124) := by kernel_rfl
@[simp] theorem tk_85 : tk Tryz.prog 85 = some (1, false) := by kernel_rfl
@[simp] theorem tsz_85 : tsz Tryz.prog 85 = some 1 := by kernel_rfl
@[simp] theorem tzero_85 : tzero Tryz.prog 85 = some [.nilsl] := by kernel_rfl
@[simp] theorem tby_85 : tby Tryz.prog 85 = some 24 := by kernel_rfl
@[simp] theorem telem_85 : telem Tryz.prog 85 = some 60 := by kernel_rfl
@[simp] theorem und_85 : Tryz.prog.underlying 85 = some (.slice 60) := by kernel_rfl
@[simp] theorem tk_93 : tk Tryz.prog 93 = some (1, false) := by kernel_rfl
@[simp] theorem tsz_93 : tsz Tryz.prog 93 = some 1 := by kernel_rfl
@[simp] theorem tzero_93 : tzero Tryz.prog 93 = some [.nilsl] := by kernel_rfl
@[simp] theorem tby_93 : tby Tryz.prog 93 = some 24 := by kernel_rfl
@[simp] theorem telem_93 : telem Tryz.prog 93 = some 96 := by kernel_rfl
@[simp] theorem und_93 : Tryz.prog.underlying 93 = some (.slice 96) := by kernel_rfl
@[simp] theorem tk_95 : tk Tryz.prog 95 = some (3, true) := by kernel_rfl
@[simp] theorem tsz_95 : tsz Tryz.prog 95 = some 3 := by kernel_rfl
@[simp] theorem tzero_95 : tzero Tryz.prog 95 = some [.bool false, .nilsl, .nilsl] := by kernel_rfl
@[simp] theorem tby_95 : tby Tryz.prog 95 = some 56 := by kernel_rfl
@[simp] theorem tfld_95_0 : tfld Tryz.prog 95 0 = some (0, 1, 4) := by kernel_rfl
@[simp] theorem tfld_95_1 : tfld Tryz.prog 95 1 = some (1, 1, 60) := by kernel_rfl
@[simp] theorem tfld_95_2 : tfld Tryz.prog 95 2 = some (2, 1, 22) := by kernel_rfl
@[simp] theorem tbuild_95 : tbuild Tryz.prog 95 = some ([.bool false, .nilsl, .nilsl], [(0, 1), (1, 1), (2, 1)]) := by kernel_rfl
@[simp] theorem tk_96 : tk Tryz.prog 96 = some (3, true) := by kernel_rfl
@[simp] theorem tsz_96 : tsz Tryz.prog 96 = some 3 := by kernel_rfl
@[simp] theorem tzero_96 : tzero Tryz.prog 96 = some [.bool false, .nilsl, .nilsl] := by kernel_rfl
@[simp] theorem tby_96 : tby Tryz.prog 96 = some 56 := by kernel_rfl
@[simp] theorem tfld_96_0 : tfld Tryz.prog 96 0 = some (0, 1, 4) := by kernel_rfl
@[simp] theorem tfld_96_1 : tfld Tryz.prog 96 1 = some (1, 1, 60) := by kernel_rfl
@[simp] theorem tfld_96_2 : tfld Tryz.prog 96 2 = some (2, 1, 22) := by kernel_rfl
@[simp] theorem tbuild_96 : tbuild Tryz.prog 96 = some ([.bool false, .nilsl, .nilsl], [(0, 1), (1, 1), (2, 1)]) := by kernel_rfl
@[simp] theorem tk_98 : tk Tryz.prog 98 = some (1, false) := by kernel_rfl
@[simp] theorem tsz_98 : tsz Tryz.prog 98 = some 1 := by kernel_rfl
@[simp] theorem tzero_98 : tzero Tryz.prog 98 = some [.nilsl] := by kernel_rfl
@[simp] theorem tby_98 : tby Tryz.prog 98 = some 24 := by kernel_rfl
@[simp] theorem telem_98 : telem Tryz.prog 98 = some 100 := by kernel_rfl
@[simp] theorem und_98 : Tryz.prog.underlying 98 = some (.slice 100) := by kernel_rfl
@[simp] theorem tk_100 : tk Tryz.prog 100 = some (1, false) := by kernel_rfl
@[simp] theorem tsz_100 : tsz Tryz.prog 100 = some 1 := by kernel_rfl
@[simp] theorem tzero_100 : tzero Tryz.prog 100 = some [.nilsl] := by kernel_rfl
@[simp] theorem tby_100 : tby Tryz.prog 100 = some 24 := by kernel_rfl
@[simp] theorem telem_100 : telem Tryz.prog 100 = some 103 := by kernel_rfl
@[simp] theorem und_100 : Tryz.prog.underlying 100 = some (.slice 103) := by kernel_rfl
@[simp] theorem tk_102 : tk Tryz.prog 102 = some (2, true) := by kernel_rfl
@[simp] theorem tsz_102 : tsz Tryz.prog 102 = some 2 := by kernel_rfl
@[simp] theorem tzero_102 : tzero Tryz.prog 102 = some [.int .i64 0, .int .i64 0] := by kernel_rfl
@[simp] theorem tby_102 : tby Tryz.prog 102 = some 16 := by kernel_rfl
@[simp] theorem tfld_102_0 : tfld Tryz.prog 102 0 = some (0, 1, 3) := by kernel_rfl
@[simp] theorem tfld_102_1 : tfld Tryz.prog 102 1 = some (1, 1, 3) := by kernel_rfl
@[simp] theorem tbuild_102 : tbuild Tryz.prog 102 = some ([.int .i64 0, .int .i64 0], [(0, 1), (1, 1)]) := by kernel_rfl
@[simp] theorem tkinds_102 : tkinds Tryz.prog 102 = some [.i, .i] := by kernel_rfl
@[simp] theorem tk_103 : tk Tryz.prog 103 = some (2, true) := by kernel_rfl
@[simp] theorem tsz_103 : tsz Tryz.prog 103 = some 2 := by kernel_rfl
@[simp] theorem tzero_103 : tzero Tryz.prog 103 = some [.int .i64 0, .int .i64 0] := by kernel_rfl
@[simp] theorem tby_103 : tby Tryz.prog 103 = some 16 := by kernel_rfl
@[simp] theorem tfld_103_0 : tfld Tryz.prog 103 0 = some (0, 1, 3) := by kernel_rfl
@[simp] theorem tfld_103_1 : tfld Tryz.prog 103 1 = some (1, 1, 3) := by kernel_rfl
@[simp] theorem tbuild_103 : tbuild Tryz.prog 103 = some ([.int .i64 0, .int .i64 0], [(0, 1), (1, 1)]) := by kernel_rfl
@[simp] theorem tkinds_103 : tkinds Tryz.prog 103 = some [.i, .i] := by kernel_rfl
@[simp] theorem tk_105 : tk Tryz.prog 105 = some (1, false) := by kernel_rfl
@[simp] theorem tsz_105 : tsz Tryz.prog 105 = some 1 := by kernel_rfl
@[simp] theorem tzero_105 : tzero Tryz.prog 105 = some [.nilp] := by kernel_rfl
@[simp] theorem tby_105 : tby Tryz.prog 105 = some 8 := by kernel_rfl
@[simp] theorem tk_109 : tk Tryz.prog 109 = some (1, false) := by kernel_rfl
@[simp] theorem tsz_109 : tsz Tryz.prog 109 = some 1 := by kernel_rfl
@[simp] theorem tzero_109 : tzero Tryz.prog 109 = some [.nilp] := by kernel_rfl
@[simp] theorem tby_109 : tby Tryz.prog 109 = some 8 := by kernel_rfl
@[simp] theorem tk_111 : tk Tryz.prog 111 = some (8, true) := by kernel_rfl
@[simp] theorem tsz_111 : tsz Tryz.prog 111 = some 8 := by kernel_rfl
@[simp] theorem tzero_111 : tzero Tryz.prog 111 = some [.nilsl, .nilsl, .nilsl, .int .i64 0, .int .i64 0, .bool false, .int .i64 0, .nilsl] := by kernel_rfl
@[simp] theorem tby_111 : tby Tryz.prog 111 = some 128 := by kernel_rfl
@[simp] theorem tfld_111_0 : tfld Tryz.prog 111 0 = some (0, 1, 69) := by kernel_rfl
@[simp] theorem tfld_111_1 : tfld Tryz.prog 111 1 = some (1, 1, 22) := by kernel_rfl
@[simp] theorem tfld_111_2 : tfld Tryz.prog 111 2 = some (2, 1, 22) := by kernel_rfl
@[simp] theorem tfld_111_3 : tfld Tryz.prog 111 3 = some (3, 1, 3) := by kernel_rfl
@[simp] theorem tfld_111_4 : tfld Tryz.prog 111 4 = some (4, 1, 3) := by kernel_rfl
@[simp] theorem tfld_111_5 : tfld Tryz.prog 111 5 = some (5, 1, 4) := by kernel_rfl
@[simp] theorem tfld_111_6 : tfld Tryz.prog 111 6 = some (6, 1, 3) := by kernel_rfl
@[simp] theorem tfld_111_7 : tfld Tryz.prog 111 7 = some (7, 1, 22) := by kernel_rfl
@[simp] theorem tbuild_111 : tbuild Tryz.prog 111 = some ([.nilsl, .nilsl, .nilsl, .int .i64 0, .int .i64 0, .bool false, .int .i64 0, .nilsl], [(0, 1), (1, 1), (2, 1), (3, 1), (4, 1), (5, 1), (6, 1), (7, 1)]) := by kernel_rfl
@[simp] theorem tk_112 : tk Tryz.prog 112 = some (8, true) := by kernel_rfl
@[simp] theorem tsz_112 : tsz Tryz.prog 112 = some 8 := by kernel_rfl
@[simp] theorem tzero_112 : tzero Tryz.prog 112 = some [.nilsl, .nilsl, .nilsl, .int .i64 0, .int .i64 0, .bool false, .int .i64 0, .nilsl] := by kernel_rfl
@[simp] theorem tby_112 : tby Tryz.prog 112 = some 128 := by kernel_rfl
@[simp] theorem tfld_112_0 : tfld Tryz.prog 112 0 = some (0, 1, 69) := by kernel_rfl
@[simp] theorem tfld_112_1 : tfld Tryz.prog 112 1 = some (1, 1, 22) := by kernel_rfl
@[simp] theorem tfld_112_2 : tfld Tryz.prog 112 2 = some (2, 1, 22) := by kernel_rfl
@[simp] theorem tfld_112_3 : tfld Tryz.prog 112 3 = some (3, 1, 3) := by kernel_rfl
@[simp] theorem tfld_112_4 : tfld Tryz.prog 112 4 = some (4, 1, 3) := by kernel_rfl
@[simp] theorem tfld_112_5 : tfld Tryz.prog 112 5 = some (5, 1, 4) := by kernel_rfl
@[simp] theorem tfld_112_6 : tfld Tryz.prog 112 6 = some (6, 1, 3) := by kernel_rfl
@[simp] theorem tfld_112_7 : tfld Tryz.prog 112 7 = some (7, 1, 22) := by kernel_rfl
@[simp] theorem tbuild_112 : tbuild Tryz.prog 112 = some ([.nilsl, .nilsl, .nilsl, .int .i64 0, .int .i64 0, .bool false, .int .i64 0, .nilsl], [(0, 1), (1, 1), (2, 1), (3, 1), (4, 1), (5, 1), (6, 1), (7, 1)]) := by kernel_rfl
@[simp] theorem tk_123 : tk Tryz.prog 123 = some (4, true) := by kernel_rfl
@[simp] theorem tsz_123 : tsz Tryz.prog 123 = some 4 := by kernel_rfl
@[simp] theorem tzero_123 : tzero Tryz.prog 123 = some [.int .i64 0, .int .i64 0, .int .i64 0, .int .i64 0] := by kernel_rfl
@[simp] theorem tby_123 : tby Tryz.prog 123 = some 32 := by kernel_rfl
@[simp] theorem tfld_123_0 : tfld Tryz.prog 123 0 = some (0, 1, 3) := by kernel_rfl
@[simp] theorem tfld_123_1 : tfld Tryz.prog 123 1 = some (1, 1, 3) := by kernel_rfl
@[simp] theorem tfld_123_2 : tfld Tryz.prog 123 2 = some (2, 1, 3) := by kernel_rfl
@[simp] theorem tfld_123_3 : tfld Tryz.prog 123 3 = some (3, 1, 3) := by kernel_rfl
@[simp] theorem tbuild_123 : tbuild Tryz.prog 123 = some ([.int .i64 0, .int .i64 0, .int .i64 0, .int .i64 0], [(0, 1), (1, 1), (2, 1), (3, 1)]) := by kernel_rfl
@[simp] theorem tkinds_123 : tkinds Tryz.prog 123 = some [.i, .i, .i, .i] := by kernel_rfl
@[simp] theorem tk_124 : tk Tryz.prog 124 = some (4, true) := by kernel_rfl
@[simp] theorem tsz_124 : tsz Tryz.prog 124 = some 4 := by kernel_rfl
@[simp] theorem tzero_124 : tzero Tryz.prog 124 = some [.int .i64 0, .int .i64 0, .int .i64 0, .int .i64 0] := by kernel_rfl
@[simp] theorem tby_124 : tby Tryz.prog 124 = some 32 := by kernel_rfl
@[simp] theorem tfld_124_0 : tfld Tryz.prog 124 0 = some (0, 1, 3) := by kernel_rfl
@[simp] theorem tfld_124_1 : tfld Tryz.prog 124 1 = some (1, 1, 3) := by kernel_rfl
@[simp] theorem tfld_124_2 : tfld Tryz.prog 124 2 = some (2, 1, 3) := by kernel_rfl
@[simp] theorem tfld_124_3 : tfld Tryz.prog 124 3 = some (3, 1, 3) := by kernel_rfl
@[simp] theorem tbuild_124 : tbuild Tryz.prog 124 = some ([.int .i64 0, .int .i64 0, .int .i64 0, .int .i64 0], [(0, 1), (1, 1), (2, 1), (3, 1)]) := by kernel_rfl
@[simp] theorem tkinds_124 : tkinds Tryz.prog 124 = some [.i, .i, .i, .i] := by kernel_rfl
@[simp] theorem tk_126 : tk Tryz.prog 126 = some (1, false) := by kernel_rfl
@[simp] theorem tsz_126 : tsz Tryz.prog 126 = some 1 := by kernel_rfl
@[simp] theorem tzero_126 : tzero Tryz.prog 126 = some [.nilsl] := by kernel_rfl
@[simp] theorem tby_126 : tby Tryz.prog 126 = some 24 := by kernel_rfl
@[simp] theorem telem_126 : telem Tryz.prog 126 = some 176 := by kernel_rfl
@[simp] theorem und_126 : Tryz.prog.underlying 126 = some (.slice 176) := by kernel_rfl
@[simp] theorem tk_130 : tk Tryz.prog 130 = some (1, false) := by kernel_rfl
@[simp] theorem tsz_130 : tsz Tryz.prog 130 = some 1 := by kernel_rfl
@[simp] theorem tzero_130 : tzero Tryz.prog 130 = some [.nilsl] := by kernel_rfl
@[simp] theorem tby_130 : tby Tryz.prog 130 = some 24 := by kernel_rfl
@[simp] theorem telem_130 : telem Tryz.prog 130 = some 135 := by kernel_rfl
@[simp] theorem und_130 : Tryz.prog.underlying 130 = some (.slice 135) := by kernel_rfl
@[simp] theorem tk_134 : tk Tryz.prog 134 = some (5, true) := by kernel_rfl
@[simp] theorem tsz_134 : tsz Tryz.prog 134 = some 5 := by kernel_rfl
@[simp] theorem tzero_134 : tzero Tryz.prog 134 = some [.int .i64 0, .int .i64 0, .int .i64 0, .int .i64 0, .int .i64 0] := by kernel_rfl
@[simp] theorem tby_134 : tby Tryz.prog 134 = some 40 := by kernel_rfl
@[simp] theorem tfld_134_0 : tfld Tryz.prog 134 0 = some (0, 4, 124) := by kernel_rfl
@[simp] theorem tfld_134_1 : tfld Tryz.prog 134 1 = some (4, 1, 3) := by kernel_rfl
@[simp] theorem tbuild_134 : tbuild Tryz.prog 134 = some ([.int .i64 0, .int .i64 0, .int .i64 0, .int .i64 0, .int .i64 0], [(0, 4), (4, 1)]) := by kernel_rfl
@[simp] theorem tk_135 : tk Tryz.prog 135 = some (5, true) := by kernel_rfl
@[simp] theorem tsz_135 : tsz Tryz.prog 135 = some 5 := by kernel_rfl
@[simp] theorem tzero_135 : tzero Tryz.prog 135 = some [.int .i64 0, .int .i64 0, .int .i64 0, .int .i64 0, .int .i64 0] := by kernel_rfl
@[simp] theorem tby_135 : tby Tryz.prog 135 = some 40 := by kernel_rfl
@[simp] theorem tfld_135_0 : tfld Tryz.prog 135 0 = some (0, 4, 124) := by kernel_rfl
@[simp] theorem tfld_135_1 : tfld Tryz.prog 135 1 = some (4, 1, 3) := by kernel_rfl
@[simp] theorem tbuild_135 : tbuild Tryz.prog 135 = some ([.int .i64 0, .int .i64 0, .int .i64 0, .int .i64 0, .int .i64 0], [(0, 4), (4, 1)]) := by kernel_rfl
@[simp] theorem tk_151 : tk Tryz.prog 151 = some (1, false) := by kernel_rfl
@[simp] theorem tsz_151 : tsz Tryz.prog 151 = some 1 := by kernel_rfl
@[simp] theorem tzero_151 : tzero Tryz.prog 151 = some [.nilsl] := by kernel_rfl
@[simp] theorem tby_151 : tby Tryz.prog 151 = some 24 := by kernel_rfl
@[simp] theorem telem_151 : telem Tryz.prog 151 = some 214 := by kernel_rfl
@[simp] theorem und_151 : Tryz.prog.underlying 151 = some (.slice 214) := by kernel_rfl
@[simp] theorem tk_152 : tk Tryz.prog 152 = some (4, true) := by kernel_rfl
@[simp] theorem tsz_152 : tsz Tryz.prog 152 = some 4 := by kernel_rfl
@[simp] theorem tzero_152 : tzero Tryz.prog 152 = some [.nilsl, .int .i64 0, .int .i64 0, .nilsl] := by kernel_rfl
@[simp] theorem tby_152 : tby Tryz.prog 152 = some 64 := by kernel_rfl
@[simp] theorem tfld_152_0 : tfld Tryz.prog 152 0 = some (0, 1, 22) := by kernel_rfl
@[simp] theorem tfld_152_1 : tfld Tryz.prog 152 1 = some (1, 1, 3) := by kernel_rfl
@[simp] theorem tfld_152_2 : tfld Tryz.prog 152 2 = some (2, 1, 3) := by kernel_rfl
@[simp] theorem tfld_152_3 : tfld Tryz.prog 152 3 = some (3, 1, 151) := by kernel_rfl
@[simp] theorem tbuild_152 : tbuild Tryz.prog 152 = some ([.nilsl, .int .i64 0, .int .i64 0, .nilsl], [(0, 1), (1, 1), (2, 1), (3, 1)]) := by kernel_rfl
@[simp] theorem tk_153 : tk Tryz.prog 153 = some (4, true) := by kernel_rfl
@[simp] theorem tsz_153 : tsz Tryz.prog 153 = some 4 := by kernel_rfl
@[simp] theorem tzero_153 : tzero Tryz.prog 153 = some [.nilsl, .int .i64 0, .int .i64 0, .nilsl] := by kernel_rfl
@[simp] theorem tby_153 : tby Tryz.prog 153 = some 64 := by kernel_rfl
@[simp] theorem tfld_153_0 : tfld Tryz.prog 153 0 = some (0, 1, 22) := by kernel_rfl
@[simp] theorem tfld_153_1 : tfld Tryz.prog 153 1 = some (1, 1, 3) := by kernel_rfl
@[simp] theorem tfld_153_2 : tfld Tryz.prog 153 2 = some (2, 1, 3) := by kernel_rfl
@[simp] theorem tfld_153_3 : tfld Tryz.prog 153 3 = some (3, 1, 151) := by kernel_rfl
@[simp] theorem tbuild_153 : tbuild Tryz.prog 153 = some ([.nilsl, .int .i64 0, .int .i64 0, .nilsl], [(0, 1), (1, 1), (2, 1), (3, 1)]) := by kernel_rfl
@[simp] theorem tk_161 : tk Tryz.prog 161 = some (7, true) := by kernel_rfl
@[simp] theorem tsz_161 : tsz Tryz.prog 161 = some 7 := by kernel_rfl
@[simp] theorem tzero_161 : tzero Tryz.prog 161 = some [.int .i64 0, .int .i64 0, .int .i64 0, .int .i64 0, .int .i64 0, .int .i64 0, .str ByteArray.empty] := by kernel_rfl
@[simp] theorem tby_161 : tby Tryz.prog 161 = some 64 := by kernel_rfl
@[simp] theorem tfld_161_0 : tfld Tryz.prog 161 0 = some (0, 1, 3) := by kernel_rfl
@[simp] theorem tfld_161_1 : tfld Tryz.prog 161 1 = some (1, 1, 3) := by kernel_rfl
@[simp] theorem tfld_161_2 : tfld Tryz.prog 161 2 = some (2, 1, 3) := by kernel_rfl
@[simp] theorem tfld_161_3 : tfld Tryz.prog 161 3 = some (3, 1, 3) := by kernel_rfl
@[simp] theorem tfld_161_4 : tfld Tryz.prog 161 4 = some (4, 1, 3) := by kernel_rfl
@[simp] theorem tfld_161_5 : tfld Tryz.prog 161 5 = some (5, 1, 3) := by kernel_rfl
@[simp] theorem tfld_161_6 : tfld Tryz.prog 161 6 = some (6, 1, 9) := by kernel_rfl
@[simp] theorem tbuild_161 : tbuild Tryz.prog 161 = some ([.int .i64 0, .int .i64 0, .int .i64 0, .int .i64 0, .int .i64 0, .int .i64 0, .str ByteArray.empty], [(0, 1), (1, 1), (2, 1), (3, 1), (4, 1), (5, 1), (6, 1)]) := by kernel_rfl
@[simp] theorem tkinds_161 : tkinds Tryz.prog 161 = some [.i, .i, .i, .i, .i, .i, .s] := by kernel_rfl
@[simp] theorem tk_166 : tk Tryz.prog 166 = some (1, false) := by kernel_rfl
@[simp] theorem tsz_166 : tsz Tryz.prog 166 = some 1 := by kernel_rfl
@[simp] theorem tzero_166 : tzero Tryz.prog 166 = some [.nilp] := by kernel_rfl
@[simp] theorem tby_166 : tby Tryz.prog 166 = some 8 := by kernel_rfl
@[simp] theorem tk_168 : tk Tryz.prog 168 = some (1, false) := by kernel_rfl
@[simp] theorem tsz_168 : tsz Tryz.prog 168 = some 1 := by kernel_rfl
@[simp] theorem tzero_168 : tzero Tryz.prog 168 = some [.nilp] := by kernel_rfl
@[simp] theorem tby_168 : tby Tryz.prog 168 = some 8 := by kernel_rfl
@[simp] theorem tk_172 : tk Tryz.prog 172 = some (1, false) := by kernel_rfl
@[simp] theorem tsz_172 : tsz Tryz.prog 172 = some 1 := by kernel_rfl
@[simp] theorem tzero_172 : tzero Tryz.prog 172 = some [.nilsl] := by kernel_rfl
@[simp] theorem tby_172 : tby Tryz.prog 172 = some 24 := by kernel_rfl
@[simp] theorem telem_172 : telem Tryz.prog 172 = some 5 := by kernel_rfl
@[simp] theorem und_172 : Tryz.prog.underlying 172 = some (.slice 5) := by kernel_rfl
@[simp] theorem tk_174 : tk Tryz.prog 174 = some (1, false) := by kernel_rfl
@[simp] theorem tsz_174 : tsz Tryz.prog 174 = some 1 := by kernel_rfl
@[simp] theorem tzero_174 : tzero Tryz.prog 174 = some [.nilsl] := by kernel_rfl
@[simp] theorem tby_174 : tby Tryz.prog 174 = some 24 := by kernel_rfl
@[simp] theorem telem_174 : telem Tryz.prog 174 = some 9 := by kernel_rfl
@[simp] theorem und_174 : Tryz.prog.underlying 174 = some (.slice 9) := by kernel_rfl
@[simp] theorem tk_175 : tk Tryz.prog 175 = some (2, true) := by kernel_rfl
@[simp] theorem tsz_175 : tsz Tryz.prog 175 = some 2 := by kernel_rfl
@[simp] theorem tzero_175 : tzero Tryz.prog 175 = some [.int .i64 0, .int .i64 0] := by kernel_rfl
@[simp] theorem tby_175 : tby Tryz.prog 175 = some 16 := by kernel_rfl
@[simp] theorem tfld_175_0 : tfld Tryz.prog 175 0 = some (0, 1, 3) := by kernel_rfl
@[simp] theorem tfld_175_1 : tfld Tryz.prog 175 1 = some (1, 1, 3) := by kernel_rfl
@[simp] theorem tbuild_175 : tbuild Tryz.prog 175 = some ([.int .i64 0, .int .i64 0], [(0, 1), (1, 1)]) := by kernel_rfl
@[simp] theorem tkinds_175 : tkinds Tryz.prog 175 = some [.i, .i] := by kernel_rfl
@[simp] theorem tk_176 : tk Tryz.prog 176 = some (2, true) := by kernel_rfl
@[simp] theorem tsz_176 : tsz Tryz.prog 176 = some 2 := by kernel_rfl
@[simp] theorem tzero_176 : tzero Tryz.prog 176 = some [.int .i64 0, .int .i64 0] := by kernel_rfl
@[simp] theorem tby_176 : tby Tryz.prog 176 = some 16 := by kernel_rfl
@[simp] theorem tfld_176_0 : tfld Tryz.prog 176 0 = some (0, 1, 3) := by kernel_rfl
@[simp] theorem tfld_176_1 : tfld Tryz.prog 176 1 = some (1, 1, 3) := by kernel_rfl
@[simp] theorem tbuild_176 : tbuild Tryz.prog 176 = some ([.int .i64 0, .int .i64 0], [(0, 1), (1, 1)]) := by kernel_rfl
@[simp] theorem tkinds_176 : tkinds Tryz.prog 176 = some [.i, .i] := by kernel_rfl
@[simp] theorem tk_180 : tk Tryz.prog 180 = some (1, false) := by kernel_rfl
@[simp] theorem tsz_180 : tsz Tryz.prog 180 = some 1 := by kernel_rfl
@[simp] theorem tzero_180 : tzero Tryz.prog 180 = some [.nilp] := by kernel_rfl
@[simp] theorem tby_180 : tby Tryz.prog 180 = some 8 := by kernel_rfl
@[simp] theorem tk_181 : tk Tryz.prog 181 = some (1, false) := by kernel_rfl
@[simp] theorem tsz_181 : tsz Tryz.prog 181 = some 1 := by kernel_rfl
@[simp] theorem tzero_181 : tzero Tryz.prog 181 = some [.nilp] := by kernel_rfl
@[simp] theorem tby_181 : tby Tryz.prog 181 = some 8 := by kernel_rfl
@[simp] theorem tk_187 : tk Tryz.prog 187 = some (1, false) := by kernel_rfl
@[simp] theorem tsz_187 : tsz Tryz.prog 187 = some 1 := by kernel_rfl
@[simp] theorem tzero_187 : tzero Tryz.prog 187 = some [.nilsl] := by kernel_rfl
@[simp] theorem tby_187 : tby Tryz.prog 187 = some 24 := by kernel_rfl
@[simp] theorem telem_187 : telem Tryz.prog 187 = some 190 := by kernel_rfl
@[simp] theorem und_187 : Tryz.prog.underlying 187 = some (.slice 190) := by kernel_rfl
@[simp] theorem tk_189 : tk Tryz.prog 189 = some (5, true) := by kernel_rfl
@[simp] theorem tsz_189 : tsz Tryz.prog 189 = some 5 := by kernel_rfl
@[simp] theorem tzero_189 : tzero Tryz.prog 189 = some [.int .i64 0, .int .i64 0, .int .i64 0, .int .i64 0, .int .i64 0] := by kernel_rfl
@[simp] theorem tby_189 : tby Tryz.prog 189 = some 40 := by kernel_rfl
@[simp] theorem tfld_189_0 : tfld Tryz.prog 189 0 = some (0, 4, 124) := by kernel_rfl
@[simp] theorem tfld_189_1 : tfld Tryz.prog 189 1 = some (4, 1, 3) := by kernel_rfl
@[simp] theorem tbuild_189 : tbuild Tryz.prog 189 = some ([.int .i64 0, .int .i64 0, .int .i64 0, .int .i64 0, .int .i64 0], [(0, 4), (4, 1)]) := by kernel_rfl
@[simp] theorem tk_190 : tk Tryz.prog 190 = some (5, true) := by kernel_rfl
@[simp] theorem tsz_190 : tsz Tryz.prog 190 = some 5 := by kernel_rfl
@[simp] theorem tzero_190 : tzero Tryz.prog 190 = some [.int .i64 0, .int .i64 0, .int .i64 0, .int .i64 0, .int .i64 0] := by kernel_rfl
@[simp] theorem tby_190 : tby Tryz.prog 190 = some 40 := by kernel_rfl
@[simp] theorem tfld_190_0 : tfld Tryz.prog 190 0 = some (0, 4, 124) := by kernel_rfl
@[simp] theorem tfld_190_1 : tfld Tryz.prog 190 1 = some (4, 1, 3) := by kernel_rfl
@[simp] theorem tbuild_190 : tbuild Tryz.prog 190 = some ([.int .i64 0, .int .i64 0, .int .i64 0, .int .i64 0, .int .i64 0], [(0, 4), (4, 1)]) := by kernel_rfl
@[simp] theorem tk_204 : tk Tryz.prog 204 = some (1, false) := by kernel_rfl
@[simp] theorem tsz_204 : tsz Tryz.prog 204 = some 1 := by kernel_rfl
@[simp] theorem tzero_204 : tzero Tryz.prog 204 = some [.int .u64 0] := by kernel_rfl
@[simp] theorem tby_204 : tby Tryz.prog 204 = some 8 := by kernel_rfl
@[simp] theorem und_204 : Tryz.prog.underlying 204 = some (.int .u64) := by kernel_rfl
@[simp] theorem tk_205 : tk Tryz.prog 205 = some (1, false) := by kernel_rfl
@[simp] theorem tsz_205 : tsz Tryz.prog 205 = some 1 := by kernel_rfl
@[simp] theorem tzero_205 : tzero Tryz.prog 205 = some [.nilsl] := by kernel_rfl
@[simp] theorem tby_205 : tby Tryz.prog 205 = some 24 := by kernel_rfl
@[simp] theorem telem_205 : telem Tryz.prog 205 = some 209 := by kernel_rfl
@[simp] theorem und_205 : Tryz.prog.underlying 205 = some (.slice 209) := by kernel_rfl
@[simp] theorem tk_206 : tk Tryz.prog 206 = some (2, true) := by kernel_rfl
@[simp] theorem tsz_206 : tsz Tryz.prog 206 = some 2 := by kernel_rfl
@[simp] theorem tzero_206 : tzero Tryz.prog 206 = some [.nilsl, .int .i64 0] := by kernel_rfl
@[simp] theorem tby_206 : tby Tryz.prog 206 = some 32 := by kernel_rfl
@[simp] theorem tfld_206_0 : tfld Tryz.prog 206 0 = some (0, 1, 205) := by kernel_rfl
@[simp] theorem tfld_206_1 : tfld Tryz.prog 206 1 = some (1, 1, 3) := by kernel_rfl
@[simp] theorem tbuild_206 : tbuild Tryz.prog 206 = some ([.nilsl, .int .i64 0], [(0, 1), (1, 1)]) := by kernel_rfl
@[simp] theorem tk_207 : tk Tryz.prog 207 = some (2, true) := by kernel_rfl
@[simp] theorem tsz_207 : tsz Tryz.prog 207 = some 2 := by kernel_rfl
@[simp] theorem tzero_207 : tzero Tryz.prog 207 = some [.nilsl, .int .i64 0] := by kernel_rfl
@[simp] theorem tby_207 : tby Tryz.prog 207 = some 32 := by kernel_rfl
@[simp] theorem tfld_207_0 : tfld Tryz.prog 207 0 = some (0, 1, 205) := by kernel_rfl
@[simp] theorem tfld_207_1 : tfld Tryz.prog 207 1 = some (1, 1, 3) := by kernel_rfl
@[simp] theorem tbuild_207 : tbuild Tryz.prog 207 = some ([.nilsl, .int .i64 0], [(0, 1), (1, 1)]) := by kernel_rfl
@[simp] theorem tk_208 : tk Tryz.prog 208 = some (2, true) := by kernel_rfl
@[simp] theorem tsz_208 : tsz Tryz.prog 208 = some 2 := by kernel_rfl
@[simp] theorem tzero_208 : tzero Tryz.prog 208 = some [.int .i64 0, .int .i64 0] := by kernel_rfl
@[simp] theorem tby_208 : tby Tryz.prog 208 = some 16 := by kernel_rfl
@[simp] theorem tfld_208_0 : tfld Tryz.prog 208 0 = some (0, 1, 3) := by kernel_rfl
@[simp] theorem tfld_208_1 : tfld Tryz.prog 208 1 = some (1, 1, 3) := by kernel_rfl
@[simp] theorem tbuild_208 : tbuild Tryz.prog 208 = some ([.int .i64 0, .int .i64 0], [(0, 1), (1, 1)]) := by kernel_rfl
@[simp] theorem tkinds_208 : tkinds Tryz.prog 208 = some [.i, .i] := by kernel_rfl
@[simp] theorem tk_209 : tk Tryz.prog 209 = some (2, true) := by kernel_rfl
@[simp] theorem tsz_209 : tsz Tryz.prog 209 = some 2 := by kernel_rfl
@[simp] theorem tzero_209 : tzero Tryz.prog 209 = some [.int .i64 0, .int .i64 0] := by kernel_rfl
@[simp] theorem tby_209 : tby Tryz.prog 209 = some 16 := by kernel_rfl
@[simp] theorem tfld_209_0 : tfld Tryz.prog 209 0 = some (0, 1, 3) := by kernel_rfl
@[simp] theorem tfld_209_1 : tfld Tryz.prog 209 1 = some (1, 1, 3) := by kernel_rfl
@[simp] theorem tbuild_209 : tbuild Tryz.prog 209 = some ([.int .i64 0, .int .i64 0], [(0, 1), (1, 1)]) := by kernel_rfl
@[simp] theorem tkinds_209 : tkinds Tryz.prog 209 = some [.i, .i] := by kernel_rfl
@[simp] theorem tk_212 : tk Tryz.prog 212 = some (1, false) := by kernel_rfl
@[simp] theorem tsz_212 : tsz Tryz.prog 212 = some 1 := by kernel_rfl
@[simp] theorem tzero_212 : tzero Tryz.prog 212 = some [.nilsl] := by kernel_rfl
@[simp] theorem tby_212 : tby Tryz.prog 212 = some 24 := by kernel_rfl
@[simp] theorem telem_212 : telem Tryz.prog 212 = some 218 := by kernel_rfl
@[simp] theorem und_212 : Tryz.prog.underlying 212 = some (.slice 218) := by kernel_rfl
@[simp] theorem tk_213 : tk Tryz.prog 213 = some (6, true) := by kernel_rfl
@[simp] theorem tsz_213 : tsz Tryz.prog 213 = some 6 := by kernel_rfl
@[simp] theorem tzero_213 : tzero Tryz.prog 213 = some [.int .i64 0, .int .i64 0, .int .i64 0, .nilsl, .nilsl, .nilsl] := by kernel_rfl
@[simp] theorem tby_213 : tby Tryz.prog 213 = some 96 := by kernel_rfl
@[simp] theorem tfld_213_0 : tfld Tryz.prog 213 0 = some (0, 1, 3) := by kernel_rfl
@[simp] theorem tfld_213_1 : tfld Tryz.prog 213 1 = some (1, 1, 3) := by kernel_rfl
@[simp] theorem tfld_213_2 : tfld Tryz.prog 213 2 = some (2, 1, 3) := by kernel_rfl
@[simp] theorem tfld_213_3 : tfld Tryz.prog 213 3 = some (3, 1, 212) := by kernel_rfl
@[simp] theorem tfld_213_4 : tfld Tryz.prog 213 4 = some (4, 1, 151) := by kernel_rfl
@[simp] theorem tfld_213_5 : tfld Tryz.prog 213 5 = some (5, 1, 151) := by kernel_rfl
@[simp] theorem tbuild_213 : tbuild Tryz.prog 213 = some ([.int .i64 0, .int .i64 0, .int .i64 0, .nilsl, .nilsl, .nilsl], [(0, 1), (1, 1), (2, 1), (3, 1), (4, 1), (5, 1)]) := by kernel_rfl
@[simp] theorem tk_214 : tk Tryz.prog 214 = some (6, true) := by kernel_rfl
@[simp] theorem tsz_214 : tsz Tryz.prog 214 = some 6 := by kernel_rfl
@[simp] theorem tzero_214 : tzero Tryz.prog 214 = some [.int .i64 0, .int .i64 0, .int .i64 0, .nilsl, .nilsl, .nilsl] := by kernel_rfl
@[simp] theorem tby_214 : tby Tryz.prog 214 = some 96 := by kernel_rfl
@[simp] theorem tfld_214_0 : tfld Tryz.prog 214 0 = some (0, 1, 3) := by kernel_rfl
@[simp] theorem tfld_214_1 : tfld Tryz.prog 214 1 = some (1, 1, 3) := by kernel_rfl
@[simp] theorem tfld_214_2 : tfld Tryz.prog 214 2 = some (2, 1, 3) := by kernel_rfl
@[simp] theorem tfld_214_3 : tfld Tryz.prog 214 3 = some (3, 1, 212) := by kernel_rfl
@[simp] theorem tfld_214_4 : tfld Tryz.prog 214 4 = some (4, 1, 151) := by kernel_rfl
@[simp] theorem tfld_214_5 : tfld Tryz.prog 214 5 = some (5, 1, 151) := by kernel_rfl
@[simp] theorem tbuild_214 : tbuild Tryz.prog 214 = some ([.int .i64 0, .int .i64 0, .int .i64 0, .nilsl, .nilsl, .nilsl], [(0, 1), (1, 1), (2, 1), (3, 1), (4, 1), (5, 1)]) := by kernel_rfl
@[simp] theorem tk_217 : tk Tryz.prog 217 = some (5, true) := by kernel_rfl
@[simp] theorem tsz_217 : tsz Tryz.prog 217 = some 5 := by kernel_rfl
@[simp] theorem tzero_217 : tzero Tryz.prog 217 = some [.int .i64 0, .int .i64 0, .int .i64 0, .str ByteArray.empty, .nilsl] := by kernel_rfl
@[simp] theorem tby_217 : tby Tryz.prog 217 = some 64 := by kernel_rfl
@[simp] theorem tfld_217_0 : tfld Tryz.prog 217 0 = some (0, 1, 3) := by kernel_rfl
@[simp] theorem tfld_217_1 : tfld Tryz.prog 217 1 = some (1, 1, 3) := by kernel_rfl
@[simp] theorem tfld_217_2 : tfld Tryz.prog 217 2 = some (2, 1, 3) := by kernel_rfl
@[simp] theorem tfld_217_3 : tfld Tryz.prog 217 3 = some (3, 1, 9) := by kernel_rfl
@[simp] theorem tfld_217_4 : tfld Tryz.prog 217 4 = some (4, 1, 212) := by kernel_rfl
@[simp] theorem tbuild_217 : tbuild Tryz.prog 217 = some ([.int .i64 0, .int .i64 0, .int .i64 0, .str ByteArray.empty, .nilsl], [(0, 1), (1, 1), (2, 1), (3, 1), (4, 1)]) := by kernel_rfl
@[simp] theorem tk_218 : tk Tryz.prog 218 = some (5, true) := by kernel_rfl
@[simp] theorem tsz_218 : tsz Tryz.prog 218 = some 5 := by kernel_rfl
@[simp] theorem tzero_218 : tzero Tryz.prog 218 = some [.int .i64 0, .int .i64 0, .int .i64 0, .str ByteArray.empty, .nilsl] := by kernel_rfl
@[simp] theorem tby_218 : tby Tryz.prog 218 = some 64 := by kernel_rfl
@[simp] theorem tfld_218_0 : tfld Tryz.prog 218 0 = some (0, 1, 3) := by kernel_rfl
@[simp] theorem tfld_218_1 : tfld Tryz.prog 218 1 = some (1, 1, 3) := by kernel_rfl
@[simp] theorem tfld_218_2 : tfld Tryz.prog 218 2 = some (2, 1, 3) := by kernel_rfl
@[simp] theorem tfld_218_3 : tfld Tryz.prog 218 3 = some (3, 1, 9) := by kernel_rfl
@[simp] theorem tfld_218_4 : tfld Tryz.prog 218 4 = some (4, 1, 212) := by kernel_rfl
@[simp] theorem tbuild_218 : tbuild Tryz.prog 218 = some ([.int .i64 0, .int .i64 0, .int .i64 0, .str ByteArray.empty, .nilsl], [(0, 1), (1, 1), (2, 1), (3, 1), (4, 1)]) := by kernel_rfl
@[simp] theorem tk_223 : tk Tryz.prog 223 = some (1, false) := by kernel_rfl
@[simp] theorem tsz_223 : tsz Tryz.prog 223 = some 1 := by kernel_rfl
@[simp] theorem tzero_223 : tzero Tryz.prog 223 = some [.int .i64 0] := by kernel_rfl
@[simp] theorem tby_223 : tby Tryz.prog 223 = some 8 := by kernel_rfl
@[simp] theorem und_223 : Tryz.prog.underlying 223 = some (.int .i64) := by kernel_rfl
@[simp] theorem tk_231 : tk Tryz.prog 231 = some (1, false) := by kernel_rfl
@[simp] theorem tsz_231 : tsz Tryz.prog 231 = some 1 := by kernel_rfl
@[simp] theorem tzero_231 : tzero Tryz.prog 231 = some [.int .u32 0] := by kernel_rfl
@[simp] theorem tby_231 : tby Tryz.prog 231 = some 4 := by kernel_rfl
@[simp] theorem und_231 : Tryz.prog.underlying 231 = some (.int .u32) := by kernel_rfl
@[simp] theorem tk_233 : tk Tryz.prog 233 = some (1, false) := by kernel_rfl
@[simp] theorem tsz_233 : tsz Tryz.prog 233 = some 1 := by kernel_rfl
@[simp] theorem tzero_233 : tzero Tryz.prog 233 = some [.int .u64 0] := by kernel_rfl
@[simp] theorem tby_233 : tby Tryz.prog 233 = some 8 := by kernel_rfl
@[simp] theorem und_233 : Tryz.prog.underlying 233 = some (.int .u64) := by kernel_rfl
@[simp] theorem tk_235 : tk Tryz.prog 235 = some (1, false) := by kernel_rfl
@[simp] theorem tsz_235 : tsz Tryz.prog 235 = some 1 := by kernel_rfl
@[simp] theorem tzero_235 : tzero Tryz.prog 235 = some [.int .u64 0] := by kernel_rfl
@[simp] theorem tby_235 : tby Tryz.prog 235 = some 8 := by kernel_rfl
@[simp] theorem und_235 : Tryz.prog.underlying 235 = some (.int .u64) := by kernel_rfl
@[simp] theorem tk_241 : tk Tryz.prog 241 = some (1, false) := by kernel_rfl
@[simp] theorem tsz_241 : tsz Tryz.prog 241 = some 1 := by kernel_rfl
@[simp] theorem tzero_241 : tzero Tryz.prog 241 = some [.nilp] := by kernel_rfl
@[simp] theorem tby_241 : tby Tryz.prog 241 = some 8 := by kernel_rfl
@[simp] theorem tk_245 : tk Tryz.prog 245 = some (4, true) := by kernel_rfl
@[simp] theorem tsz_245 : tsz Tryz.prog 245 = some 4 := by kernel_rfl
@[simp] theorem tzero_245 : tzero Tryz.prog 245 = some [.nilp, .nilp, .nilp, .str ByteArray.empty] := by kernel_rfl
@[simp] theorem tby_245 : tby Tryz.prog 245 = some 40 := by kernel_rfl
@[simp] theorem tfld_245_0 : tfld Tryz.prog 245 0 = some (0, 1, 17) := by kernel_rfl
@[simp] theorem tfld_245_1 : tfld Tryz.prog 245 1 = some (1, 1, 17) := by kernel_rfl
@[simp] theorem tfld_245_2 : tfld Tryz.prog 245 2 = some (2, 1, 17) := by kernel_rfl
@[simp] theorem tfld_245_3 : tfld Tryz.prog 245 3 = some (3, 1, 9) := by kernel_rfl
@[simp] theorem tbuild_245 : tbuild Tryz.prog 245 = some ([.nilp, .nilp, .nilp, .str ByteArray.empty], [(0, 1), (1, 1), (2, 1), (3, 1)]) := by kernel_rfl
@[simp] theorem tk_246 : tk Tryz.prog 246 = some (4, true) := by kernel_rfl
@[simp] theorem tsz_246 : tsz Tryz.prog 246 = some 4 := by kernel_rfl
@[simp] theorem tzero_246 : tzero Tryz.prog 246 = some [.nilp, .nilp, .nilp, .str ByteArray.empty] := by kernel_rfl
@[simp] theorem tby_246 : tby Tryz.prog 246 = some 40 := by kernel_rfl
@[simp] theorem tfld_246_0 : tfld Tryz.prog 246 0 = some (0, 1, 17) := by kernel_rfl
@[simp] theorem tfld_246_1 : tfld Tryz.prog 246 1 = some (1, 1, 17) := by kernel_rfl
@[simp] theorem tfld_246_2 : tfld Tryz.prog 246 2 = some (2, 1, 17) := by kernel_rfl
@[simp] theorem tfld_246_3 : tfld Tryz.prog 246 3 = some (3, 1, 9) := by kernel_rfl
@[simp] theorem tbuild_246 : tbuild Tryz.prog 246 = some ([.nilp, .nilp, .nilp, .str ByteArray.empty], [(0, 1), (1, 1), (2, 1), (3, 1)]) := by kernel_rfl
@[simp] theorem tk_247 : tk Tryz.prog 247 = some (0, true) := by kernel_rfl
@[simp] theorem tsz_247 : tsz Tryz.prog 247 = some 0 := by kernel_rfl
@[simp] theorem tzero_247 : tzero Tryz.prog 247 = some [] := by kernel_rfl
@[simp] theorem tby_247 : tby Tryz.prog 247 = some 0 := by kernel_rfl
@[simp] theorem tk_248 : tk Tryz.prog 248 = some (0, true) := by kernel_rfl
@[simp] theorem tsz_248 : tsz Tryz.prog 248 = some 0 := by kernel_rfl
@[simp] theorem tzero_248 : tzero Tryz.prog 248 = some [] := by kernel_rfl
@[simp] theorem tby_248 : tby Tryz.prog 248 = some 0 := by kernel_rfl
@[simp] theorem tfld_248_0 : tfld Tryz.prog 248 0 = some (0, 0, 247) := by kernel_rfl
@[simp] theorem tbuild_248 : tbuild Tryz.prog 248 = some ([], [(0, 0)]) := by kernel_rfl
@[simp] theorem tk_249 : tk Tryz.prog 249 = some (0, true) := by kernel_rfl
@[simp] theorem tsz_249 : tsz Tryz.prog 249 = some 0 := by kernel_rfl
@[simp] theorem tzero_249 : tzero Tryz.prog 249 = some [] := by kernel_rfl
@[simp] theorem tby_249 : tby Tryz.prog 249 = some 0 := by kernel_rfl
@[simp] theorem tfld_249_0 : tfld Tryz.prog 249 0 = some (0, 0, 247) := by kernel_rfl
@[simp] theorem tbuild_249 : tbuild Tryz.prog 249 = some ([], [(0, 0)]) := by kernel_rfl
@[simp] theorem tk_250 : tk Tryz.prog 250 = some (1, false) := by kernel_rfl
@[simp] theorem tsz_250 : tsz Tryz.prog 250 = some 1 := by kernel_rfl
@[simp] theorem tzero_250 : tzero Tryz.prog 250 = some [.int .u8 0] := by kernel_rfl
@[simp] theorem tby_250 : tby Tryz.prog 250 = some 1 := by kernel_rfl
@[simp] theorem und_250 : Tryz.prog.underlying 250 = some (.int .u8) := by kernel_rfl
@[simp] theorem tk_251 : tk Tryz.prog 251 = some (1, false) := by kernel_rfl
@[simp] theorem tsz_251 : tsz Tryz.prog 251 = some 1 := by kernel_rfl
@[simp] theorem tzero_251 : tzero Tryz.prog 251 = some [.int .u8 0] := by kernel_rfl
@[simp] theorem tby_251 : tby Tryz.prog 251 = some 1 := by kernel_rfl
@[simp] theorem und_251 : Tryz.prog.underlying 251 = some (.int .u8) := by kernel_rfl
@[simp] theorem tk_253 : tk Tryz.prog 253 = some (1, false) := by kernel_rfl
@[simp] theorem tsz_253 : tsz Tryz.prog 253 = some 1 := by kernel_rfl
@[simp] theorem tzero_253 : tzero Tryz.prog 253 = some [.nilp] := by kernel_rfl
@[simp] theorem tby_253 : tby Tryz.prog 253 = some 8 := by kernel_rfl
@[simp] theorem tk_254 : tk Tryz.prog 254 = some (1, false) := by kernel_rfl
@[simp] theorem tsz_254 : tsz Tryz.prog 254 = some 1 := by kernel_rfl
@[simp] theorem tzero_254 : tzero Tryz.prog 254 = some [.int .i32 0] := by kernel_rfl
@[simp] theorem tby_254 : tby Tryz.prog 254 = some 4 := by kernel_rfl
@[simp] theorem und_254 : Tryz.prog.underlying 254 = some (.int .i32) := by kernel_rfl
@[simp] theorem tk_255 : tk Tryz.prog 255 = some (1, false) := by kernel_rfl
@[simp] theorem tsz_255 : tsz Tryz.prog 255 = some 1 := by kernel_rfl
@[simp] theorem tzero_255 : tzero Tryz.prog 255 = some [.int .i32 0] := by kernel_rfl
@[simp] theorem tby_255 : tby Tryz.prog 255 = some 4 := by kernel_rfl
@[simp] theorem und_255 : Tryz.prog.underlying 255 = some (.int .i32) := by kernel_rfl
@[simp] theorem tk_258 : tk Tryz.prog 258 = some (1, false) := by kernel_rfl
@[simp] theorem tsz_258 : tsz Tryz.prog 258 = some 1 := by kernel_rfl
@[simp] theorem tzero_258 : tzero Tryz.prog 258 = some [.nilp] := by kernel_rfl
@[simp] theorem tby_258 : tby Tryz.prog 258 = some 8 := by kernel_rfl
theorem mixed : Tryz.prog.follows .mixedOrders = true := by kernel_rfl
theorem laid : laidOutB Tryz.prog = true := by kernel_rfl
end Go.Proofs.YtlmlkkkgcbpaoaaGreat.AM

set_option linter.unusedVariables false
set_option linter.unusedSimpArgs false
set_option maxRecDepth 4000
namespace Go.Proofs.YtlmlkkkgcbpaoaaGreat.AM
open Go.RowKit

private def MU1 : FuncId → Mode := fun f => if f = 9 then .fresh else if f = 14 then .heap else .tree

theorem wrap_id {n : Int} (h1 : -9223372036854775808 ≤ n) (h2 : n ≤ 9223372036854775807) : IntKind.i64.wrap n = n := by
  simp [IntKind.wrap, IntKind.bits, IntKind.signed]
  omega
def marks (k : Int) (n : Nat) : List Int := (List.range n).map fun (i : Nat) => k + (i : Int)
theorem marks_length (k : Int) (n : Nat) : (marks k n).length = n := by simp [marks]
theorem marks_get {k : Int} {n i : Nat} (h : i < n) : (marks k n)[i]? = some (k + i) := by simp [marks, h]

theorem szIntS (xs : List Int) (left : Int) (h1 : 0 ≤ left) (h2 : left ≤ 2 ^ 20) (hm : xs.length ≤ maxLen) : Pure Tryz.prog 20 [ints true xs, .int .i64 left] (.int .i64 (if left < xs.length then -1 else left - xs.length)) := by
  intro T
  have hw : IntKind.i64.wrap (left - xs.length) = left - xs.length := wrap_id (by simp [maxLen] at hm; omega) (by omega)
  refine enter mixed MU1 Tryz.func20 rfl (by kernel_rfl) rfl ?_
  repeat' (first | (with_reducible first | refine stp ?_ | refine k_blk_o rfl ?_ | refine k_seq_n ?_) | ((try (conv => arg 1; simp [ints, hw])); with_reducible refine evp ?_) | ((with_reducible first | refine gd_b (fun hb => ?_) (fun hb => ?_) | refine br_b (fun hb => ?_) (fun hb => ?_)) <;> ((try simp only [Bool.not_eq_eq_eq_not, Bool.not_true, Bool.not_false] at hb); (try simp only [hb]); (try simp at hb))) | fail)
  · have : left < xs.length := by omega
    rw [if_pos this]; exact .int _ _
  · have : ¬ left < xs.length := by omega
    rw [if_neg this]; exact .int _ _

theorem toIntS (xs : List Int) (hl : xs.length ≤ 2 ^ 20) : Fresh Tryz.prog 9 [ints true xs] (fun c => ints c xs) := by
  intro T
  have hl2 : (xs.length : Int) ≤ 4294967296 := by omega
  refine enter mixed MU1 Tryz.func9 rfl (by kernel_rfl) rfl ?_
  repeat' (first | (with_reducible first | refine stp ?_ | refine k_blk_o rfl ?_ | refine k_seq_n ?_) | ((try (conv => arg 1; simp [ints, hl2])); with_reducible refine evp ?_) | fail)
  refine st_loop (fun (i : Nat) σ h => i ≤ xs.length ∧ σ 0 = ints true xs ∧ σ 3 = .sl (T + 1, 2, 0) 0 0 xs.length ∧ σ 4 = .int .i64 i ∧ T + 1 < h.tick ∧ ∃ ys : List Int, ys.length = xs.length ∧ ys.take i = xs.take i ∧ h.rows (T + 1, 2, 0) = some ⟨0, 1, ys.map fun n => [.int .i64 n]⟩) (fun i => xs.length - i) 0 ?init ?step
  case init =>
    simp [putA_get, envOf_0, hp_next_tick, hp_next_rows, hp_put_tick, hp_mt_tick, hp_rows_put]
    exact ⟨List.replicate xs.length 0, by simp, by simp⟩
  case step =>
    rintro i σ h ⟨hi, h0, h3, h4, ht, ys, hy, hyi, hr⟩
    repeat' (first | (with_reducible first | refine stp ?_ | refine k_blk_o rfl ?_ | refine k_seq_n ?_) | ((try (conv => arg 1; simp [ints, h0, h3, h4, hr])); with_reducible refine evp ?_) | fail)
    (try with_reducible refine st_if ?_)
    (try (conv => arg 1; simp [h0]))
    (try with_reducible refine at_mk ?_)
    refine ⟨fun hb => ?_, fun hb => ?_⟩
    · have hlt : i < xs.length := by simpa using hb
      have hx : xs[i]? = some (xs[i]) := by simp
      have hy2 : ys[i]? = some (ys[i]'(by omega)) := by simp
      have ht2 : T + 1 < h.tick + 1 + 1 := by omega
      have hw : IntKind.i64.wrap (i + 1) = i + 1 := wrap_id (by omega) (by omega)
      repeat' (first | (with_reducible first | refine stp ?_ | refine k_blk_o rfl ?_ | refine k_seq_n ?_) | ((try (conv => arg 1; simp [ints, h0, h3, h4, hr, hlt, hx, hy2, ht2, hw])); with_reducible refine evp ?_) | fail)
      refine k_lp_n (i + 1) (by omega) ⟨by omega, by simp [putA_get, putA_none, h0], by simp [putA_get, putA_none, h3], by simp [putA_get, putA_none, h4], by simp [hp_next_tick, hp_put_tick, hp_mt_tick]; omega, ys.set i xs[i], by simp [hy], ?_, ?_⟩
      · rw [List.take_add_one, List.take_add_one]
        simp [hyi, hy, hlt, List.take_set_of_le]
      · simp [hp_next_rows, hp_rows_put]
    · have hge : i = xs.length := by simp at hb; omega
      repeat' (first | (with_reducible first | refine stp ?_ | refine k_blk_o rfl ?_ | refine k_seq_n ?_) | ((try (conv => arg 1; simp [h0, h3, h4, hr])); with_reducible refine evp ?_) | fail)
      refine ⟨by simp [hp_next_tick]; omega, [(T + 1, 2, 0)], fun c => .one ?_, by simp, by simp [hp_next_tick]; omega⟩
      simp [resV]
      refine own_ints (by simpa [hp_next_rows] using hr) ?_ rfl
      subst hge
      rw [hyi]; simp

theorem eqIntS (xs : List Int) (hl : xs.length ≤ 2 ^ 62) : Pure Tryz.prog 12 [ints true xs, ints true xs] (.bool true) := by
  intro T
  refine enter mixed MU1 Tryz.func12 rfl (by kernel_rfl) rfl ?_
  repeat' (first | (with_reducible first | refine stp ?_ | refine k_blk_o rfl ?_ | refine k_seq_n ?_) | ((try (conv => arg 1; simp [ints])); with_reducible refine evp ?_) | fail)
  repeat' (first | (with_reducible first | refine stp ?_ | refine k_blk_o rfl ?_ | refine k_seq_n ?_) | ((try (conv => arg 1; simp [ints])); with_reducible refine evp ?_) | fail)
  refine st_loop (fun (i : Nat) σ h => i ≤ xs.length ∧ σ 0 = ints true xs ∧ σ 1 = ints true xs ∧ σ 5 = .int .i64 i) (fun i => xs.length - i) 0 ?init ?step
  case init =>
    simp [putA_get, envOf_0, envOf_1]
  case step =>
    rintro i σ h ⟨hi, h0, h1, h5⟩
    repeat' (first | (with_reducible first | refine stp ?_ | refine k_blk_o rfl ?_ | refine k_seq_n ?_) | ((try (conv => arg 1; simp [ints, h0, h5])); with_reducible refine evp ?_) | fail)
    (try with_reducible refine st_if ?_)
    (try (conv => arg 1; simp [ints]))
    (try with_reducible refine at_mk ?_)
    refine ⟨fun hb => ?_, fun hb => ?_⟩
    · have hlt : i < xs.length := by simpa using hb
      have hx : xs[i]? = some (xs[i]) := by simp
      have hw : IntKind.i64.wrap (i + 1) = i + 1 := wrap_id (by omega) (by omega)
      repeat' (first | (with_reducible first | refine stp ?_ | refine k_blk_o rfl ?_ | refine k_seq_n ?_) | ((try (conv => arg 1; simp [ints])); with_reducible refine evp ?_) | fail)
      repeat (with_reducible first | refine stp ?_ | refine k_seq_n ?_)
      refine st_draw 9 (fun _ => false) (by kernel_rfl) ?_
      simp only [List.take_succ_cons, List.take_zero, List.drop_succ_cons, List.drop_zero, List.take_nil, List.drop_nil]
      repeat' (first | (with_reducible first | refine stp ?_ | refine k_blk_o rfl ?_ | refine k_seq_n ?_) | ((try (conv => arg 1; simp [ints, h0, h1, h5, hx, hw])); with_reducible refine evp ?_) | ((with_reducible refine apn ?na ?_); (case na => simp [appNames, ints, intss] <;> first | kernel_rfl | (refine ⟨?_, ?_⟩ <;> kernel_rfl))) | fail)
      repeat' (first | (with_reducible first | refine stp ?_ | refine k_blk_o rfl ?_ | refine k_seq_n ?_) | ((try (conv => arg 1; simp [h5, hw])); with_reducible refine evp ?_) | ((with_reducible refine apn ?na ?_); (case na => simp [appNames, ints, intss] <;> first | kernel_rfl | (refine ⟨?_, ?_⟩ <;> kernel_rfl))) | fail)
      refine k_lp_n (i + 1) (by omega) ⟨by omega, by simp [putA_get, putA_none, h0], by simp [putA_get, putA_none, h1], by simp [putA_get, putA_none, h5]⟩
    · skip
      repeat' (first | (with_reducible first | refine stp ?_ | refine k_blk_o rfl ?_ | refine k_seq_n ?_) | ((try (conv => arg 1; simp [ints])); with_reducible refine evp ?_) | ((with_reducible refine apn ?na ?_); (case na => simp [appNames, ints, intss] <;> first | kernel_rfl | (refine ⟨?_, ?_⟩ <;> kernel_rfl))) | fail)
      exact .bool true

theorem heldIntS (n : Nat) (k : Int) (hk : 0 ≤ k) (hl : k + n ≤ 2 ^ 62) : Pure Tryz.prog 32 [ints true (marks k n), .int .i64 k] (.int .i64 (k + n)) := by
  intro T
  refine enter mixed MU1 Tryz.func32 rfl (by kernel_rfl) rfl ?_
  repeat' (first | (with_reducible first | refine stp ?_ | refine k_blk_o rfl ?_ | refine k_seq_n ?_) | ((try (conv => arg 1; simp [ints])); with_reducible refine evp ?_) | fail)
  refine st_loop (fun (i : Nat) σ h => i ≤ n ∧ σ 0 = ints true (marks k n) ∧ σ 1 = .int .i64 (k + i) ∧ σ 5 = .int .i64 i) (fun i => n - i) 0 ?init ?step
  case init =>
    simp [putA_get, envOf_0, envOf_1]
  case step =>
    rintro i σ h ⟨hi, h0, h1, h5⟩
    repeat' (first | (with_reducible first | refine stp ?_ | refine k_blk_o rfl ?_ | refine k_seq_n ?_) | ((try (conv => arg 1; simp [ints, h0, h5, marks_length])); with_reducible refine evp ?_) | fail)
    (try with_reducible refine st_if ?_)
    (try (conv => arg 1; simp [ints]))
    (try with_reducible refine at_mk ?_)
    refine ⟨fun hb => ?_, fun hb => ?_⟩
    · have hlt : i < n := by simpa using hb
      have hw : IntKind.i64.wrap (i + 1) = i + 1 := wrap_id (by omega) (by omega)
      have hw2 : IntKind.i64.wrap (k + i + 1) = k + i + 1 := wrap_id (by omega) (by omega)
      repeat' (first | (with_reducible first | refine stp ?_ | refine k_blk_o rfl ?_ | refine k_seq_n ?_) | ((try (conv => arg 1; simp [ints, h0, h1, h5, hlt, marks_get hlt, hw, hw2])); with_reducible refine evp ?_) | fail)
      repeat' (first | (with_reducible first | refine stp ?_ | refine k_blk_o rfl ?_ | refine k_seq_n ?_) | ((try (conv => arg 1; simp [h1, h5, hw, hw2])); with_reducible refine evp ?_) | fail)
      refine k_lp_n (i + 1) (by omega) ⟨by omega, by simp [putA_get, putA_none, h0], by simp [putA_get, putA_none, h1]; omega, by simp [putA_get, putA_none, h5]⟩
    · have : i = n := by simp at hb; omega
      subst this
      repeat' (first | (with_reducible first | refine stp ?_ | refine k_blk_o rfl ?_ | refine k_seq_n ?_) | ((try (conv => arg 1; simp [ints, h1])); with_reducible refine evp ?_) | fail)
      exact .int _ _

/-- What owns a slice of whole numbers. -/
theorem own_ints_inv {rows : Nm → Option Row} {a : AV} {xs : List Int} {ns : List Nm} (h : Own rows true [a] [ints true xs] ns) :
    (xs = [] ∧ (∀ c, Own rows c [a] [ints c []] ns) ∧ ((a = .nilsl ∧ ns = []) ∨ ∃ n ver off, a = .sl n ver off 0 ∧ ns = [n])) ∨
    (∃ n ver pre sp, a = .sl n ver pre.length xs.length ∧ ns = [n] ∧ rows n = some ⟨ver, 1, pre ++ ((xs.map fun x => [.int .i64 x]) ++ sp)⟩ ∧ (∀ e ∈ pre, e.length = 1) ∧ (∀ e ∈ sp, e.length = 1) ∧ ClRow ⟨ver, 1, pre⟩ ∧ ClRow ⟨ver, 1, sp⟩) := by
  unfold ints at h
  generalize hm : (xs.map fun n => [AV.int .i64 n]) = tm at h
  cases h with
  | nilsl h =>
    cases h
    exact .inl ⟨by simpa using hm, fun c => .nilsl .nil, .inl ⟨rfl, rfl⟩⟩
  | @sl _ _ ns1 ns2 n ver len s r _ h1 h2 h3 h4 h5 h6 h7 h8 h9 h10 =>
    cases h10
    have flat : ∀ (ys : List Int) (bs : List AV) (ns : List Nm), Own rows true bs (ys.map fun n => [AV.int .i64 n]).flatten ns → ns = [] ∧ bs = (ys.map fun n => [AV.int .i64 n]).flatten := by
      intro ys
      induction ys with
      | nil => intro bs ns h; cases h; exact ⟨rfl, rfl⟩
      | cons y ys ih =>
        intro bs ns h
        simp only [List.map_cons, List.flatten_cons, List.cons_append, List.nil_append] at h
        cases h with
        | int _ _ h => obtain ⟨e1, e2⟩ := ih _ _ h; exact ⟨e1, by simp [e2]⟩
    subst hm
    obtain ⟨e1, e2⟩ := flat xs _ _ h9
    subst e1
    have hlen : xs.length = len := by simpa using h7
    cases xs with
    | nil =>
      left
      simp at hlen
      subst hlen
      exact ⟨rfl, fun c => .sl n ver 0 s r [] h1 h2 h3 h4 h5 h6 rfl (by simp) (by simpa using Own.nil) .nil, .inr ⟨n, ver, 0, rfl, by simp⟩⟩
    | cons x xs =>
      right
      have hs : s = 1 := by
        have := h8 [.int .i64 x] (by simp)
        simpa using this.symm
      subst hs
      have key : ∀ (l : List (List AV)) (ys : List Int), (∀ e ∈ l, e.length = 1) → l.flatten = (ys.map fun n => [AV.int .i64 n]).flatten → l = ys.map fun n => [AV.int .i64 n] := by
        intro l
        induction l with
        | nil => intro ys _ he; cases ys with
          | nil => rfl
          | cons _ _ => simp at he
        | cons e l ih =>
          intro ys hl he
          have h1 := hl e (by simp)
          match e, h1 with
          | [v], _ =>
            cases ys with
            | nil => simp at he
            | cons y ys =>
              simp only [List.flatten_cons, List.map_cons, List.cons_append, List.nil_append, List.cons.injEq] at he
              rw [he.1, ih ys (fun e he => hl e (by simp [he])) he.2]
              rfl
      have e3 := key _ (x :: xs) (fun e he => h6 e (List.mem_of_mem_take he)) e2
      obtain ⟨ver', esz', elems⟩ := r
      simp only at h2 h3 e3 h6 h4 h5
      subst h2 h3
      refine ⟨n, ver', [], elems.drop len, by rw [hlen]; rfl, by simp, ?_, by simp, fun e he => h6 e (List.mem_of_mem_drop he), fun i e j x he hx => by simp at he, fun i e j x he hx => ?_⟩
      · rw [h1, List.nil_append, ← e3, List.take_append_drop]
      · refine h4 (len + i) e j x ?_ hx
        simpa [List.getElem?_drop] using he
  | slo n ver pre sp ys h1 h2 h3 h4 h5 h6 =>
    cases h6
    have hxy : ys = xs := by
      have h7 := congrArg (List.map fun l : List AV => match l with | [AV.int _ z] => z | _ => 0) hm
      simp only [List.map_map] at h7
      have e : ((fun l : List AV => match l with | [AV.int _ z] => z | _ => 0) ∘ fun n : Int => [AV.int IntKind.i64 n]) = id := funext fun z => rfl
      rw [e, List.map_id, List.map_id] at h7
      exact h7.symm
    subst hxy
    cases ys with
    | nil => exact .inl ⟨rfl, fun c => .slo n ver pre sp [] h1 h2 h3 h4 h5 .nil, .inr ⟨n, ver, _, rfl, rfl⟩⟩
    | cons y ys => exact .inr ⟨n, ver, pre, sp, rfl, rfl, h1, h4, h5, h2, h3⟩

theorem own_ints_mk {rows : Nm → Option Row} {n : Nm} {ver : Nat} {xs : List Int} {pre sp : List (List AV)} (h : rows n = some ⟨ver, 1, pre ++ ((xs.map fun x => [.int .i64 x]) ++ sp)⟩) (h0 : ∀ e ∈ pre, e.length = 1) (h1 : ∀ e ∈ sp, e.length = 1) (h3 : ClRow ⟨ver, 1, pre⟩) (h2 : ClRow ⟨ver, 1, sp⟩) {c : Bool} : Own rows c [.sl n ver pre.length xs.length] [ints c xs] [n] :=
  .slo n ver pre sp xs h h3 h2 h0 h1 .nil

theorem mid_get {α : Type} {pre l sp : List α} {i : Nat} (hi : i < l.length) : (pre ++ (l ++ sp))[pre.length + i]? = l[i]? := by
  rw [List.getElem?_append_right (by omega), Nat.add_sub_cancel_left, List.getElem?_append_left hi]
theorem mid_set {α : Type} {pre l sp : List α} {i : Nat} {e : α} (hi : i < l.length) : (pre ++ (l ++ sp)).set (pre.length + i) e = pre ++ (l.set i e ++ sp) := by
  rw [List.set_append, if_neg (by omega), Nat.add_sub_cancel_left, List.set_append, if_pos hi]

/-- Marked: the rows are the same ones, what they hold are marks. -/
theorem markIntS {h : Hp} {a : AV} {xs : List Int} {ns : List Nm} (ho : Own h.rows true [a] [ints true xs] ns) (hns : ∀ n ∈ ns, n.1 < h.tick) (k : Int) (hk : 0 ≤ k) (hl : k + xs.length ≤ 2 ^ 62) :
    Sound Tryz.prog 14 [a, .int .i64 k] h fun v h' => v = .int .i64 (k + xs.length) ∧ (∀ c, Own h'.rows c [a] [ints c (marks k xs.length)] ns) ∧ (∀ n, n ∉ ns → h'.rows n = h.rows n) ∧ h.tick ≤ h'.tick := by
  rcases own_ints_inv ho with ⟨rfl, hc, hx⟩ | ⟨n, ver, pre, sp, rfl, rfl, hr, hpr, hsp, hcp, hcl⟩
  · rcases hx with ⟨rfl, rfl⟩ | ⟨n, ver, off, rfl, rfl⟩
    all_goals
      refine enter mixed MU1 Tryz.func14 rfl (by kernel_rfl) rfl ?_
      repeat' (first | (with_reducible first | refine stp ?_ | refine k_blk_o rfl ?_ | refine k_seq_n ?_) | ((try (conv => arg 1; simp [ints])); with_reducible refine evp ?_) | fail)
      refine st_loop (fun (i : Nat) σ h' => (∃ a, (a = .nilsl ∨ ∃ n ver off, a = .sl n ver off 0) ∧ σ 0 = a) ∧ σ 1 = .int .i64 k ∧ σ 5 = .int .i64 0 ∧ h'.rows = h.rows ∧ h.tick ≤ h'.tick) (fun i => 0) 0 ?init ?step
      case init =>
        refine ⟨⟨_, ?_, rfl⟩, by simp [putA_get, envOf_1], by simp [putA_get, opd, avc, avc1], by simp [hp_next_rows], by simp [hp_next_tick] <;> omega⟩
        simp [putA_get, envOf_0]
      case step =>
        rintro i σ h' ⟨⟨a, ha, h0⟩, h1, h5, h6, h7⟩
        rcases ha with rfl | ⟨n, ver, off, rfl⟩
        all_goals
          repeat' (first | (with_reducible first | refine stp ?_ | refine k_blk_o rfl ?_ | refine k_seq_n ?_) | ((try (conv => arg 1; simp [h0, h1, h5])); with_reducible refine evp ?_) | fail)
          repeat' (first | (with_reducible first | refine stp ?_ | refine k_blk_o rfl ?_ | refine k_seq_n ?_) | ((try (conv => arg 1; simp [h0, h1, h5])); with_reducible refine evp ?_) | fail)
          refine ⟨by simp [resV], fun c => ?_, fun n _ => by simp [hp_next_rows, h6], by simp [hp_next_tick]; omega⟩
          exact (hc c).congr fun n _ => by simp [hp_next_rows, h6]
  · have hn : n.1 < h.tick := hns n (by simp)
    refine enter mixed MU1 Tryz.func14 rfl (by kernel_rfl) rfl ?_
    repeat' (first | (with_reducible first | refine stp ?_ | refine k_blk_o rfl ?_ | refine k_seq_n ?_) | ((try (conv => arg 1; simp [ints])); with_reducible refine evp ?_) | fail)
    refine st_loop (fun (i : Nat) σ h' => i ≤ xs.length ∧ σ 0 = .sl n ver pre.length xs.length ∧ σ 1 = .int .i64 (k + i) ∧ σ 5 = .int .i64 i ∧ h.tick ≤ h'.tick ∧ (∀ m, m ≠ n → h'.rows m = h.rows m) ∧
      ∃ ys : List Int, ys.length = xs.length ∧ ys.take i = (marks k xs.length).take i ∧ h'.rows n = some ⟨ver, 1, pre ++ ((ys.map fun x => [.int .i64 x]) ++ sp)⟩) (fun i => xs.length - i) 0 ?init ?step
    case init =>
      refine ⟨Nat.zero_le _, by simp [putA_get, envOf_0], by simp [putA_get, envOf_1], by simp [putA_get, opd, avc, avc1], by simp [hp_next_tick]; omega, fun m _ => by simp [hp_next_rows], xs, rfl, rfl, by simpa [hp_next_rows] using hr⟩
    case step =>
      rintro i σ h' ⟨hi, h0, h1, h5, ht, hoth, ys, hy, hyi, hr'⟩
      repeat' (first | (with_reducible first | refine stp ?_ | refine k_blk_o rfl ?_ | refine k_seq_n ?_) | ((try (conv => arg 1; simp [h0, h1, h5])); with_reducible refine evp ?_) | fail)
      (try with_reducible refine st_if ?_)
      (try (conv => arg 1; simp [h0]))
      (try with_reducible refine at_mk ?_)
      refine ⟨fun hb => ?_, fun hb => ?_⟩
      · have hlt : i < xs.length := by simpa using hb
        have hy2 : (pre ++ ((ys.map fun x => [AV.int .i64 x]) ++ sp))[pre.length + i]? = some [.int .i64 (ys[i]'(by omega))] := by
          rw [mid_get (by simp; omega)]
          simp
        generalize hes : pre ++ ((ys.map fun x => [AV.int .i64 x]) ++ sp) = es at hr' hy2
        have ht2 : n.1 < h'.tick + 1 + 1 := by omega
        have hw : IntKind.i64.wrap (i + 1) = i + 1 := wrap_id (by omega) (by omega)
        have hw2 : IntKind.i64.wrap (k + i + 1) = k + i + 1 := wrap_id (by omega) (by omega)
        repeat' (first | (with_reducible first | refine stp ?_ | refine k_blk_o rfl ?_ | refine k_seq_n ?_) | ((try (conv => arg 1; simp [h0, h1, h5, hr', hlt, hy2, ht2, hw, hw2])); with_reducible refine evp ?_) | fail)
        refine k_lp_n (i + 1) (by omega) ⟨by omega, by simp [putA_get, putA_none, h0], by simp [putA_get, putA_none, h1]; omega, by simp [putA_get, putA_none, h5], by simp [hp_next_tick, hp_put_tick, hp_mt_tick]; omega, fun m hm => by simp [hp_next_rows, hp_rows_put, hm, hoth m hm], ys.set i (k + i), by simp [hy], ?_, ?_⟩
        · rw [List.take_add_one, List.take_add_one, marks_get hlt]
          simp [hyi, hy, hlt, List.take_set_of_le]
        · simp [hp_next_rows, hp_rows_put, ← hes, mid_set (show i < (ys.map fun x => [AV.int .i64 x]).length by simp; omega), List.map_set]
      · have hge : i = xs.length := by simp at hb; omega
        repeat' (first | (with_reducible first | refine stp ?_ | refine k_blk_o rfl ?_ | refine k_seq_n ?_) | ((try (conv => arg 1; simp [h0, h1, h5])); with_reducible refine evp ?_) | fail)
        have e1 : ys = marks k xs.length := by
          subst hge
          rw [List.take_of_length_le (by omega), List.take_of_length_le (by simp [marks_length])] at hyi
          exact hyi
        refine ⟨by simp [resV, hge], fun c => ?_, fun m hm => by simpa [hp_next_rows] using hoth m (by simpa using hm), by simp [hp_next_tick]; omega⟩
        have := own_ints_mk (rows := h'.rows) (n := n) (ver := ver) (xs := marks k xs.length) (pre := pre) (sp := sp) (by rw [← e1]; exact hr') hpr hsp hcp hcl (c := c)
        rw [marks_length] at this
        exact this.congr fun m _ => by simp [hp_next_rows]
end Go.Proofs.YtlmlkkkgcbpaoaaGreat.AM

namespace Go.Proofs.YtlmlkkkgcbpaoaaGreat.AM
open Go.RowKit

theorem own_one {rows : Nm → Option Row} {c : Bool} {v t : AV} {ns : List Nm} (h : Own rows c [v] [t] ns) : v.one = true ∧ v.stored = true ∧ v.cells = [v] := by
  cases h <;> exact ⟨rfl, rfl, rfl⟩

theorem ownV_ints {rows : Nm → Option Row} {c : Bool} {v : AV} {xs : List Int} {ns : List Nm} (h : OwnV rows c v (ints c xs) ns) : Own rows c [v] [ints c xs] ns := by
  cases h with
  | one h => exact h

theorem dr_agg {c : Bool} {rows : Nm → Option Row} {as' ts : List AV} (h : DRs c rows as' ts) : DR c rows (.agg as') (.agg ts) := .agg _ _ h.1 h.2

theorem dr_ptr0 {c : Bool} {rows : Nm → Option Row} {n : Nm} {ver : Nat} {r : Row} {cs ts : List AV} (h1 : rows n = some r) (h2 : r.ver = ver) (h3 : r.elems[0]? = some cs) (h : DRs c rows cs ts) : DR c rows (.ptr n ver 0 0) (.tptr c ts) :=
  .ptr n ver 0 0 r cs ts h1 h2 h3 (by simpa using h.1) (fun j x y hx hy => h.2 j x y (by simpa using hx) hy)

theorem own_cons1 {rows : Nm → Option Row} {b : Bool} {l ts : List AV} {t : AV} {ns : List Nm} (h : Own rows b l (t :: ts) ns) : ∃ w l' n1 n2, l = w :: l' ∧ ns = n1 ++ n2 ∧ Own rows b [w] [t] n1 ∧ Own rows b l' ts n2 := by
  have hl := h.length
  match l, hl, h with
  | w :: l', hl, h =>
    obtain ⟨n1, n2, e, o1, o2⟩ := Own.split (as1 := [w]) (ts1 := [t]) (as2 := l') (ts2 := ts) h rfl
    exact ⟨w, l', n1, n2, rfl, e, o1, o2⟩

def cl1 (xs : List Int) : List (List AV) := xs.map fun x => [.int .i64 x]

section
variable {h h' : Hp} {bs bs' : Bx} {os : Ox} {n : Nm} {r r' : Row}
theorem Cx.box_drop {x : Nm × Row} (c : Cx h (x :: bs) os) : Cx h bs os := by
  refine ⟨fun y hy => c.box y (by simp [hy]), c.own, ?_, fun m hm => c.lt m ?_⟩
  · have := c.nd
    rw [show x = (x.1, x.2) from rfl, nms_box] at this
    exact (List.nodup_cons.1 this).2
  · rw [show x = (x.1, x.2) from rfl, nms_box]
    exact List.mem_cons_of_mem _ hm
end

/-- Whole numbers in a row, with what lies ahead and behind. -/
def ir (ver : Nat) (pre : List (List AV)) (xs : List Int) (sp : List (List AV)) : Row := ⟨ver, 1, pre ++ (cl1 xs ++ sp)⟩
structure IrOk (ver : Nat) (pre sp : List (List AV)) : Prop where
  h0 : ∀ e ∈ pre, e.length = 1
  h1 : ∀ e ∈ sp, e.length = 1
  h2 : ClRow ⟨ver, 1, pre⟩
  h3 : ClRow ⟨ver, 1, sp⟩
theorem ir_get {pre sp : List (List AV)} {xs : List Int} {i : Nat} (hi : i < xs.length) : (pre ++ (cl1 xs ++ sp))[pre.length + i]? = some [.int .i64 xs[i]] := by
  rw [mid_get (by simpa [cl1] using hi)]
  simp [cl1, hi]
theorem ir_set {pre sp : List (List AV)} {xs : List Int} {i : Nat} {y : Int} (hi : i < xs.length) : (pre ++ (cl1 xs ++ sp)).set (pre.length + i) [.int .i64 y] = pre ++ (cl1 (xs.set i y) ++ sp) := by
  rw [mid_set (by simpa [cl1] using hi)]
  simp [cl1, List.map_set]
section
variable {h h' : Hp} {bs bs' : Bx} {os : Ox} {n k : Nm} {r r2 : Row} {T i j : Nat} {v w : AV} {ns : List Nm}
theorem Cx.open_ints {xs : List Int} (x : Cx h bs ((w, (fun b => ints b xs), ns) :: os)) (hx : 0 < xs.length) : ∃ k ver pre sp, w = .sl k ver pre.length xs.length ∧ ns = [k] ∧ IrOk ver pre sp ∧ Cx h ((k, ir ver pre xs sp) :: bs) os := by
  rcases own_ints_inv (own_of (x.o0 true) rfl) with ⟨rfl, _, _⟩ | ⟨k, ver, pre, sp, rfl, rfl, hr, h1, h2, h3, h4⟩
  · simp at hx
  · refine ⟨k, ver, pre, sp, rfl, rfl, ⟨h1, h2, h3, h4⟩, ?_, fun y hy => x.own y (by simp [hy]), ?_, fun m hm => x.lt m ?_⟩
    · intro y hy
      simp only [List.mem_cons] at hy
      rcases hy with rfl | hy
      · exact hr
      · exact x.box y hy
    · have := x.nd
      simp only [nms, List.map_cons, List.flatten_cons] at this ⊢
      exact (List.Perm.nodup_iff (by simp)).1 this
    · simp only [nms, List.map_cons, List.flatten_cons, List.mem_append, List.mem_cons] at hm ⊢
      rcases hm with (rfl | hm) | hm
      · simp
      · exact .inl hm
      · exact .inr (.inr hm)
theorem Cx.close_ints {ver : Nat} {pre sp : List (List AV)} {xs : List Int} (x : Cx h ((k, ir ver pre xs sp) :: bs) os) (q : IrOk ver pre sp) : Cx h bs ((.sl k ver pre.length xs.length, (fun b => ints b xs), [k]) :: os) := by
  refine ⟨fun y hy => x.box y (by simp [hy]), fun y hy b => ?_, ?_, fun m hm => x.lt m ?_⟩
  · simp only [List.mem_cons] at hy
    rcases hy with rfl | hy
    · exact .one (own_ints_mk x.b0 q.h0 q.h1 q.h2 q.h3)
    · exact x.own y hy b
  · have := x.nd
    simp only [nms, List.map_cons, List.flatten_cons] at this ⊢
    exact (List.Perm.nodup_iff (by simp)).2 this
  · simp only [nms, List.map_cons, List.flatten_cons, List.mem_append, List.mem_cons] at hm ⊢
    rcases hm with hm | (hm | hm) | hm
    · exact .inl (.inr hm)
    · exact .inl (.inl hm)
    · simp at hm
    · exact .inr hm

/-- A tick not below another one. -/
class GeT (t T : Nat) : Prop where
  le : t ≤ T
instance : GeT T T := ⟨Nat.le_refl _⟩
instance {t T : Nat} [g : GeT t T] : GeT t (T + 1) := ⟨Nat.le_succ_of_le g.le⟩
/-- What of a context is left behind a run. -/
class CxE (h : Hp) (bs : Bx) (os : Ox) (h' : Hp) (bs' : outParam Bx) : Prop where
  cx : Cx h bs os → Cx h' bs' os
  nm : bs'.map (·.1) = bs.map (·.1)
  tk : h.tick ≤ h'.tick
theorem Cx.to (x : Cx h bs os) [e : CxE h bs os h' bs'] : Cx h' bs' os := e.cx x
instance (priority := low) : CxE h bs os h bs := ⟨id, rfl, Nat.le_refl _⟩
instance [e : CxE h bs os h' bs'] : CxE h bs os h'.next bs' := ⟨fun x => (e.cx x).next, e.nm, by rw [hp_next_tick]; exact Nat.le_succ_of_le e.tk⟩
instance [g : GeT h.tick T] [e : CxE h bs os h' bs'] : CxE h bs os (h'.put (T, i, j) r) bs' := ⟨fun x => (e.cx x).put_junk (fun hm => by
    have hl := x.lt (T, i, j) (by
      simp only [nms, List.mem_append] at hm ⊢
      rw [← e.nm]
      exact hm)
    have := g.le
    simp only at hl
    omega), e.nm, by rw [hp_put_tick]; exact e.tk⟩
instance [e : CxE h bs os h' ((n, r) :: bs')] : CxE h bs os (h'.put n r2) ((n, r2) :: bs') := ⟨fun x => (e.cx x).box_set, e.nm, by rw [hp_put_tick]; exact e.tk⟩
instance {a : Nm × Row} [e : CxE h bs os h' (a :: (n, r) :: bs')] : CxE h bs os (h'.put n r2) (a :: (n, r2) :: bs') := ⟨fun x => (e.cx x).box_set1, e.nm, by rw [hp_put_tick]; exact e.tk⟩
instance {a b : Nm × Row} [e : CxE h bs os h' (a :: b :: (n, r) :: bs')] : CxE h bs os (h'.put n r2) (a :: b :: (n, r2) :: bs') := ⟨fun x => (e.cx x).box_set2, e.nm, by rw [hp_put_tick]; exact e.tk⟩
theorem Cx.box_set3 {a b c : Nm × Row} (x : Cx h (a :: b :: c :: (n, r) :: bs) os) : Cx (h.put n r2) (a :: b :: c :: (n, r2) :: bs) os := ((x.bperm (List.perm_middle (l₁ := [a, b, c]))).box_set (r' := r2)).bperm (List.perm_middle (l₁ := [a, b, c])).symm
theorem Cx.box_set4 {a b c d : Nm × Row} (x : Cx h (a :: b :: c :: d :: (n, r) :: bs) os) : Cx (h.put n r2) (a :: b :: c :: d :: (n, r2) :: bs) os := ((x.bperm (List.perm_middle (l₁ := [a, b, c, d]))).box_set (r' := r2)).bperm (List.perm_middle (l₁ := [a, b, c, d])).symm
instance {a b c : Nm × Row} [e : CxE h bs os h' (a :: b :: c :: (n, r) :: bs')] : CxE h bs os (h'.put n r2) (a :: b :: c :: (n, r2) :: bs') := ⟨fun x => (e.cx x).box_set3, e.nm, by rw [hp_put_tick]; exact e.tk⟩
instance {a b c d : Nm × Row} [e : CxE h bs os h' (a :: b :: c :: d :: (n, r) :: bs')] : CxE h bs os (h'.put n r2) (a :: b :: c :: d :: (n, r2) :: bs') := ⟨fun x => (e.cx x).box_set4, e.nm, by rw [hp_put_tick]; exact e.tk⟩

/-- The boxes, one by one. -/
def Bxs (h : Hp) : Bx → Prop
  | [] => True
  | (n, r) :: bs => h.rows n = some r ∧ n.1 < h.tick ∧ Bxs h bs
theorem Bxs.of : ∀ {bs : Bx}, (∀ y ∈ bs, h.rows y.1 = some y.2 ∧ y.1.1 < h.tick) → Bxs h bs
  | [], _ => trivial
  | (n, r) :: bs, p => ⟨(p (n, r) (by simp)).1, (p (n, r) (by simp)).2, Bxs.of fun y hy => p y (by simp [hy])⟩
theorem Cx.bxs (x : Cx h bs os) : Bxs h bs := Bxs.of fun y hy => ⟨x.box y hy, x.lt _ (mem_box hy)⟩
/-- Names apart. -/
def Aps : List Nm → Prop
  | [] => True
  | n :: l => (∀ m ∈ l, n ≠ m ∧ m ≠ n) ∧ Aps l
theorem Aps.of : ∀ {l : List Nm}, l.Nodup → Aps l
  | [], _ => trivial
  | n :: l, p => ⟨fun m hm => ⟨fun e => (List.nodup_cons.1 p).1 (e ▸ hm), fun e => (List.nodup_cons.1 p).1 (e ▸ hm)⟩, Aps.of (List.nodup_cons.1 p).2⟩
theorem Cx.aps (x : Cx h bs os) : Aps (bs.map (·.1)) := Aps.of (List.nodup_append.1 x.nd).1
end
theorem nm_ne {n : Nm} {t i j : Nat} (h : n.1 < t) : (n = (t, i, j)) = False := eq_false fun e => by rw [e] at h; exact Nat.lt_irrefl _ h
theorem nm_ne' {n : Nm} {t i j : Nat} (h : n.1 < t) : ((t, i, j) = n) = False := eq_false fun e => by rw [← e] at h; exact Nat.lt_irrefl _ h
theorem tk_ne {a t : Nat} (h : a < t) : (a = t) = False := eq_false (Nat.ne_of_lt h)
/-- A row keeps its elements' size. -/
def Eszs (h h' : Hp) : Prop := ∀ n r r', h.rows n = some r → h'.rows n = some r' → r'.ver = r.ver → r'.esz = r.esz

theorem Sound.esz {P : Program} {f : FuncId} {args : List AV} {h : Hp} {K : AV → Hp → Prop} (s : Sound P f args h K) : Sound P f args h fun v h' => K v h' ∧ Eszs h h' := by
  refine ⟨s.1, fun mu pr w vs R hv => (s.2 mu pr w vs R hv).mono fun e w' ⟨z, v, h', mu', pr', e1, k, r, A⟩ => ⟨z, v, h', mu', pr', e1, ⟨k, fun n r1 r2 g1 g2 g3 => ?_⟩, r, A⟩⟩
  obtain ⟨l, arr, ty, m1, _, _, z1, _⟩ := R.row n r1 g1
  obtain ⟨l', arr', ty', m2, _, _, z2, _⟩ := A.rel.row n r2 g2
  have := A.ext.names _ _ _ m1
  rw [g3, this] at m2
  cases m2
  omega

theorem Sound.tk {P : Program} {f : FuncId} {args : List AV} {h : Hp} {K : AV → Hp → Prop} (s : Sound P f args h K) : Sound P f args h fun v h' => K v h' ∧ h.tick ≤ h'.tick :=
  ⟨s.1, fun mu pr w vs R hv => (s.2 mu pr w vs R hv).mono fun e w' ⟨z, v, h', mu', pr', e1, k, r, A⟩ => ⟨z, v, h', mu', pr', e1, ⟨k, A.tick⟩, r, A⟩⟩

def zeros (n : Nat) : List Int := List.replicate n 0

theorem zeros_succ (n : Nat) : zeros (n + 1) = zeros n ++ [0] := by simp [zeros, List.replicate_succ']

/-- Onto a row that ends where the slice ends. -/
theorem appendA_ext {P : Program} {t : TypeId} {m n : Nm} {v len s : Nat} {x : AV} {h : Hp} {l : List (List AV)} (es : List (List AV)) (h0 : ((telem P t).bind fun e => (tsz P e).bind fun s => (tby P e).bind fun bb => (tzero P e).bind fun z => some (s, decide (0 < s ∧ bb ≤ 32768 ∧ z.length = s))) = some (s, true))
    (hr : h.rows m = some ⟨v, s, l⟩) (hlen : l.length = len) (hx : srcElems h.rows x = some es) (hes : ∀ e ∈ es, e.length = s) (hl : len + es.length ≤ 4294967296) (hm : decide (m.1 < h.tick) = true) :
    appendA P t (.sl m v 0 len) x h n = some (.sl m (v + if es = [] then 0 else 1) 0 (len + es.length), h.put m ⟨v + if es = [] then 0 else 1, s, l ++ es⟩) := by
  simp only [Option.bind_eq_some_iff] at h0
  obtain ⟨e', he', s', hs, bb, hb, z, hz, hd⟩ := h0
  simp only [Option.some.injEq, Prod.mk.injEq, decide_eq_true_eq] at hd
  obtain ⟨e1, hd1, hd2, hd3⟩ := hd
  rw [e1] at hs hd1 hd3
  subst hlen
  have hall : es.all (fun e => e.length == s) = true := by
    rw [List.all_eq_true]
    intro e he
    simpa using hes e he
  unfold appendA
  simp only [he', hx, hs, hb, hz]
  rw [if_pos ⟨hd1, hd2, hd3, hall⟩]
  simp only [hr]
  rw [if_pos ⟨trivial, trivial, by omega, hl, of_decide_eq_true hm⟩]
  cases es with
  | nil =>
    simp only [if_true, List.length_nil, Nat.add_zero, List.append_nil]
    congr 2
    obtain ⟨rows, tick⟩ := h
    simp only [Hp.put]
    congr 1
    funext k
    by_cases hk : k = m
    · rw [if_pos hk, hk]; exact hr
    · rw [if_neg hk]
  | cons e es =>
    have hnot : ¬ 0 + (l.length + (e :: es).length) ≤ l.length := by simp
    rw [if_neg (by simp), if_neg hnot]
    simp

/-- Onto nothing: a new row. -/
theorem appendA_nil1 {P : Program} {t : TypeId} {n k : Nm} {vk s : Nat} {h : Hp} {e : List AV} (h0 : ((telem P t).bind fun e => (tsz P e).bind fun s => (tby P e).bind fun bb => (tzero P e).bind fun z => some (s, decide (0 < s ∧ bb ≤ 32768 ∧ z.length = s))) = some (s, true))
    (hk : h.rows k = some ⟨vk, s, [e]⟩) (he : e.length = s) :
    appendA P t .nilsl (.sl k vk 0 1) h n = some (.sl n 0 0 1, h.put n ⟨0, s, [e]⟩) := by
  simp only [Option.bind_eq_some_iff] at h0
  obtain ⟨e', he', s', hs, bb, hb, z, hz, hd⟩ := h0
  simp only [Option.some.injEq, Prod.mk.injEq, decide_eq_true_eq] at hd
  obtain ⟨e1, hd1, hd2, hd3⟩ := hd
  rw [e1] at hs hd1 hd3
  unfold appendA
  have hsrc : srcElems h.rows (.sl k vk 0 1) = some [e] := by simp [srcElems, hk]
  rw [he', hsrc]
  simp only [hs, hb, hz]
  simp [he, hd1, hd2, hd3]

theorem hp_put_same {h : Hp} {m : Nm} {r : Row} (hr : h.rows m = some r) : h.put m r = h := by
  obtain ⟨rows, tick⟩ := h
  simp only [Hp.put]
  congr 1
  funext k
  by_cases hk : k = m
  · rw [if_pos hk, hk]; exact hr.symm
  · rw [if_neg hk]

/-- Over the first places of a row of zeros. -/
theorem copyA_zeros {P : Program} {t : TypeId} {n : Nm} {v s : Nat} {h : Hp} {A : List Int} (h0 : ((telem P t).bind fun e => tsz P e) = some 1) (hr : h.rows n = some ⟨v, 1, cl1 (zeros s)⟩) (hA : A.length ≤ s) (hm : n.1 < h.tick) :
    copyA P t (.sl n v 0 s) (ints true A) h = some (.int .i64 A.length, h.put n ⟨v, 1, cl1 (A ++ zeros (s - A.length))⟩) := by
  simp only [Option.bind_eq_some_iff] at h0
  obtain ⟨e, he, hs⟩ := h0
  have hl : (A.map fun n => [AV.int .i64 n]).length = A.length := by simp
  have ht : (A.map fun n => [AV.int .i64 n]).take s = A.map fun n => [AV.int .i64 n] := List.take_of_length_le (by simpa using hA)
  have hall : (A.map fun n => [AV.int .i64 n]).all (fun e => e.length == 1) = true := by simp
  unfold copyA
  simp only [he, srcElems_ints, lenOfA, hs]
  rw [if_pos ⟨hall, Nat.one_pos⟩, ht]
  by_cases hA0 : A = []
  · subst hA0
    rw [if_pos (by simp)]
    have : h.put n ⟨v, 1, cl1 ([] ++ zeros (s - 0))⟩ = h := hp_put_same (by simpa using hr)
    simp only [List.length_nil]
    rw [this]
    rfl
  · rw [if_neg (by simpa using hA0)]
    have e2 : (cl1 (zeros s)).drop A.length = cl1 (zeros (s - A.length)) := by simp [cl1, zeros]
    simp only [overA, hr]
    rw [if_pos ⟨trivial, trivial, by simp [cl1, zeros], by simpa using hA, hm⟩]
    have e3 : (List.map (fun n => [AV.int IntKind.i64 n]) (zeros s)).drop A.length = List.map (fun n => [AV.int IntKind.i64 n]) (zeros (s - A.length)) := e2
    simp [e3, cl1]

def inB (n lo hi : Int) : Bool := decide (lo ≤ n) && decide (n ≤ hi)

theorem dr_tup2 {c : Bool} {rows : Nm → Option Row} {a b t u : AV} (h1 : DR c rows a t) (h2 : DR c rows b u) : DR c rows (.tup [a, b]) (.tup [t, u]) := have h : DRs c rows [a, b] [t, u] := .cons h1 (.cons h2 .nil); .tup _ _ h.1 h.2
theorem av_oneX {P : Program} {t : TypeId} {d : TypeDesc} (h : P.underlying t = some d) (hd : (match d with | .struct _ => false | _ => true) = true) (c : AV) : avOf P t [c] = c := by
  unfold avOf
  rw [h]
  cases d <;> first | rfl | cases hd
end Go.Proofs.YtlmlkkkgcbpaoaaGreat.AM

namespace Go.Proofs.YtlmlkkkgcbpaoaaGreat.AM
open Go.RowKit

private def MG0 : FuncId → Mode := fun f => .tree

structure Instr where
  Op : Int
  D : Int
  A : Int
  B : Int
  C : Int
  N : Int
  Text : ByteArray
def Instr.cells (x : Instr) : List AV := [.int .i64 x.Op, .int .i64 x.D, .int .i64 x.A, .int .i64 x.B, .int .i64 x.C, .int .i64 x.N, .str x.Text]
def instrs (b : Bool) (xs : List Instr) : AV := .tr b (xs.map Instr.cells)
structure Block where
  Code : List Instr
  Jump : Int
  A : Int
  To : Int
  Else : Int
def Block.cells (b : Bool) (x : Block) : List AV := [instrs b x.Code, .int .i64 x.Jump, .int .i64 x.A, .int .i64 x.To, .int .i64 x.Else]
def blocks (b : Bool) (xs : List Block) : AV := .tr b (xs.map (Block.cells b))
structure Graph where
  Sizes : List Int
  Params : Int
  Vars : Int
  Slots : Int
  Blocks : List Block
def Graph.cells (b : Bool) (g : Graph) : List AV := [ints b g.Sizes, .int .i64 g.Params, .int .i64 g.Vars, .int .i64 g.Slots, blocks b g.Blocks]
@[simp] theorem one_instrs (b : Bool) (xs : List Instr) : (instrs b xs).one = true := rfl
@[simp] theorem stored_instrs (b : Bool) (xs : List Instr) : (instrs b xs).stored = true := rfl
@[simp] theorem cells_instrs (b : Bool) (xs : List Instr) : (instrs b xs).cells = [instrs b xs] := rfl
@[simp] theorem one_blocks (b : Bool) (xs : List Block) : (blocks b xs).one = true := rfl
@[simp] theorem stored_blocks (b : Bool) (xs : List Block) : (blocks b xs).stored = true := rfl
@[simp] theorem cells_blocks (b : Bool) (xs : List Block) : (blocks b xs).cells = [blocks b xs] := rfl
theorem lenA_instrs {P : Program} {t : TypeId} (b : Bool) (xs : List Instr) (h : (telem P t).isSome = true) : lenA P t (instrs b xs) = some (.int .i64 xs.length) := by
  unfold instrs
  rw [lenA_tr b _ h]
  simp
theorem lenA_blocks {P : Program} {t : TypeId} (b : Bool) (xs : List Block) (h : (telem P t).isSome = true) : lenA P t (blocks b xs) = some (.int .i64 xs.length) := by
  unfold blocks
  rw [lenA_tr b _ h]
  simp
attribute [simp] lenA_instrs lenA_blocks

theorem instr_flat (w : Instr) : w.cells.length = 7 ∧ ∀ x ∈ w.cells, flatc x = true := ⟨rfl, by simp [Instr.cells, flatc]⟩
theorem instrs_flat (ws : List Instr) : ∀ e ∈ ws.map Instr.cells, e.length = 7 ∧ ∀ x ∈ e, flatc x = true := fun e he => by
  obtain ⟨w, _, rfl⟩ := List.mem_map.1 he
  exact instr_flat w
theorem drs_instr {c : Bool} {rows : Nm → Option Row} (w : Instr) : DRs c rows w.cells w.cells := drs_flat (instr_flat w).2
theorem dr_instrs {c b : Bool} {rows : Nm → Option Row} (hb : b = true → c = true) (ws : List Instr) : DR c rows (instrs b ws) (instrs c ws) := dr_trflat hb fun e he => (instrs_flat ws e he).2
theorem drs_block {c b : Bool} {rows : Nm → Option Row} (hb : b = true → c = true) (x : Block) : DRs c rows (x.cells b) (x.cells c) := .cons (dr_instrs hb _) (.cons (.int _ _) (.cons (.int _ _) (.cons (.int _ _) (.cons (.int _ _) .nil))))
theorem dr_blocks {c b : Bool} {rows : Nm → Option Row} (hb : b = true → c = true) (xs : List Block) : DR c rows (blocks b xs) (blocks c xs) := by
  refine .tr b _ _ hb (by simp) (fun i e t he ht => ?_) (fun i e t j x y he ht hx hy => ?_)
  · simp at he ht; obtain ⟨a, h1, rfl⟩ := he; obtain ⟨a', h2, rfl⟩ := ht; rfl
  · simp at he ht; obtain ⟨a, h1, rfl⟩ := he; obtain ⟨a', h2, rfl⟩ := ht
    rw [h1] at h2; cases h2
    exact (drs_block hb a).2 j x y hx hy
theorem drs_graph {c b : Bool} {rows : Nm → Option Row} (hb : b = true → c = true) (g : Graph) : DRs c rows (g.cells b) (g.cells c) := .cons (dr_ints hb _) (.cons (.int _ _) (.cons (.int _ _) (.cons (.int _ _) (.cons (dr_blocks hb _) .nil))))

/-- Sums of weights, up to a place. -/
def gsum {α : Type} (f : α → Nat) (xs : List α) (i : Nat) : Nat := ((List.take i xs).map f).sum
theorem gsum_zero {α : Type} (f : α → Nat) (xs : List α) : gsum f xs 0 = 0 := by simp [gsum]
theorem gsum_succ {α : Type} (f : α → Nat) (l : List α) (i : Nat) (h : i < l.length) : gsum f l (i + 1) = gsum f l i + f l[i] := by
  unfold gsum
  rw [List.take_add_one, List.map_append, List.sum_append]
  simp [h]
theorem gsum_le {α : Type} (f : α → Nat) (l : List α) (i : Nat) : gsum f l i ≤ gsum f l l.length := by
  unfold gsum
  rw [List.take_length, ← List.take_append_drop i (l.map f), List.sum_append, List.map_take]
  omega
theorem gsum_mem {α : Type} (f : α → Nat) (l : List α) (x : α) (h : x ∈ l) : f x ≤ gsum f l l.length := by
  obtain ⟨i, hi, rfl⟩ := List.mem_iff_getElem.1 h
  have := gsum_succ f l i hi
  have := gsum_le f l (i + 1)
  omega
def wtI (x : Instr) : Nat := x.Text.size
def wtIS (xs : List Instr) : Nat := xs.length + gsum wtI xs xs.length
def wtB (b : Block) : Nat := wtIS b.Code
def wtBS (xs : List Block) : Nat := xs.length + gsum wtB xs xs.length
end Go.Proofs.YtlmlkkkgcbpaoaaGreat.AM

namespace Go.Proofs.YtlmlkkkgcbpaoaaGreat.AM
open Go.RowKit

private def MG5 : FuncId → Mode := fun f => .tree

theorem l01In (n lo hi : Int) : Pure Tryz.prog 36 [.int .i64 n, .int .i64 lo, .int .i64 hi] (.bool (inB n lo hi)) := by
  intro T
  refine enter mixed MG5 Tryz.func36 rfl (by kernel_rfl) rfl ?_
  repeat' (first
    | (with_reducible first | refine st_seq ?_ | refine st_reg ?_ | refine st_block ?_ | refine st_nil ?_ | refine st_skip ?_ | refine st_ret ?_ | refine st_exit ?_ | refine fr_nil ?_ | refine k_seq_n ?_ | refine k_seq_r ?_ | refine k_seq_e ?_ | refine k_blk_n ?_ | refine k_blk_r ?_ | refine k_blk_s ?_ | refine k_blk_o rfl ?_ | refine k_fn_r ?_ | refine k_fn_n ?_ | refine k_lp_r ?_ | refine k_lp_e ?_)
    | ((with_reducible first | refine st_move ?_ | refine st_asg ?_ | refine st_c ?_ | refine fr_c ?_); (try (conv => arg 1; simp)); (with_reducible refine at_mk ?_))
    | ((with_reducible first | refine st_g ?_ | refine fr_g ?_); (try (conv => arg 1; simp)); (with_reducible refine at_mk ?_); with_reducible first | refine gd_tt ?_ | refine gd_ff ?_ | refine gd_tf ?_ | refine gd_ft ?_ | refine gd_no ?_)
    | ((with_reducible first | refine st_gm ?_ | refine fr_gm ?_); (try (conv => arg 1; simp)); (with_reducible refine at_mk ?_); (with_reducible first | refine gm_bool ?_ | refine gm_gv ?_); refine ⟨_, (by intro hc; first | ((try simp only [Bool.and_eq_true] at hc); (try (conv => lhs; simp [hc])); first | done | exact rfl) | ((try simp [gq] at hc); (try (conv => lhs; simp [gq, hc])); first | done | exact rfl)), ?_⟩)
    | ((with_reducible refine st_m rfl ?_); (try (conv => arg 1; simp)); (with_reducible refine ev2_some ?_))
    | ((with_reducible refine fr_n rfl ?_); (try (conv => arg 1; simp)); (with_reducible refine evn_some ?_))
    | ((with_reducible first | refine st_cv ?_ | refine fr_cv ?_); (try (conv => arg 1; simp)); (with_reducible refine at_mk ?_); (with_reducible refine fn_mk ?_); (try (conv => arg 1; simp)); (with_reducible refine at_mk ?_))
    | ((with_reducible refine fr_a ?_); (try (conv => arg 1; simp)); (with_reducible refine at_mk ?_); (try (conv => arg 1; simp)); (with_reducible refine at_mk ?_); refine ⟨?names, ?_⟩; (case names => (simp [appNames, ints, intss] <;> first | kernel_rfl | (refine ⟨?_, ?_⟩ <;> kernel_rfl))); (try (conv => arg 1; simp)); (with_reducible refine ev2_some ?_))
    | ((with_reducible first | refine st_q ?_ | refine fr_q ?_ | refine st_res ?_); (try (conv => arg 1; simp)); (with_reducible refine ev_some ?_))
    | ((with_reducible refine st_if ?_); (try (conv => arg 1; simp)); (with_reducible refine at_mk ?_); with_reducible first | refine br_t ?_ | refine br_f ?_))
  exact dr_bool (by simp [inB])
theorem in_ (n lo hi : Int) : Pure Tryz.prog 92 [.int .i64 n, .int .i64 lo, .int .i64 hi] (.bool (inB n lo hi)) := by
  intro T
  refine enter mixed MG5 Tryz.func92 rfl (by kernel_rfl) rfl ?_
  repeat' (first
    | (with_reducible first | refine st_seq ?_ | refine st_reg ?_ | refine st_block ?_ | refine st_nil ?_ | refine st_skip ?_ | refine st_ret ?_ | refine st_exit ?_ | refine fr_nil ?_ | refine k_seq_n ?_ | refine k_seq_r ?_ | refine k_seq_e ?_ | refine k_blk_n ?_ | refine k_blk_r ?_ | refine k_blk_s ?_ | refine k_blk_o rfl ?_ | refine k_fn_r ?_ | refine k_fn_n ?_ | refine k_lp_r ?_ | refine k_lp_e ?_)
    | ((with_reducible first | refine st_move ?_ | refine st_asg ?_ | refine st_c ?_ | refine fr_c ?_); (try (conv => arg 1; simp)); (with_reducible refine at_mk ?_))
    | ((with_reducible first | refine st_g ?_ | refine fr_g ?_); (try (conv => arg 1; simp)); (with_reducible refine at_mk ?_); with_reducible first | refine gd_tt ?_ | refine gd_ff ?_ | refine gd_tf ?_ | refine gd_ft ?_ | refine gd_no ?_)
    | ((with_reducible first | refine st_gm ?_ | refine fr_gm ?_); (try (conv => arg 1; simp)); (with_reducible refine at_mk ?_); (with_reducible first | refine gm_bool ?_ | refine gm_gv ?_); refine ⟨_, (by intro hc; first | ((try simp only [Bool.and_eq_true] at hc); (try (conv => lhs; simp [hc])); first | done | exact rfl) | ((try simp [gq] at hc); (try (conv => lhs; simp [gq, hc])); first | done | exact rfl)), ?_⟩)
    | ((with_reducible refine st_m rfl ?_); (try (conv => arg 1; simp)); (with_reducible refine ev2_some ?_))
    | ((with_reducible refine fr_n rfl ?_); (try (conv => arg 1; simp)); (with_reducible refine evn_some ?_))
    | ((with_reducible first | refine st_cv ?_ | refine fr_cv ?_); (try (conv => arg 1; simp)); (with_reducible refine at_mk ?_); (with_reducible refine fn_mk ?_); (try (conv => arg 1; simp)); (with_reducible refine at_mk ?_))
    | ((with_reducible refine fr_a ?_); (try (conv => arg 1; simp)); (with_reducible refine at_mk ?_); (try (conv => arg 1; simp)); (with_reducible refine at_mk ?_); refine ⟨?names, ?_⟩; (case names => (simp [appNames, ints, intss] <;> first | kernel_rfl | (refine ⟨?_, ?_⟩ <;> kernel_rfl))); (try (conv => arg 1; simp)); (with_reducible refine ev2_some ?_))
    | ((with_reducible first | refine st_q ?_ | refine fr_q ?_ | refine st_res ?_); (try (conv => arg 1; simp)); (with_reducible refine ev_some ?_))
    | ((with_reducible refine st_if ?_); (try (conv => arg 1; simp)); (with_reducible refine at_mk ?_); with_reducible first | refine br_t ?_ | refine br_f ?_))
  exact dr_bool (by simp [inB])

/-- Texts in a slice. -/
def strs (b : Bool) (l : List ByteArray) : AV := .tr b (l.map fun x => [.str x])
@[simp] theorem one_strs (b : Bool) (xs : List ByteArray) : (strs b xs).one = true := rfl
@[simp] theorem stored_strs (b : Bool) (xs : List ByteArray) : (strs b xs).stored = true := rfl
@[simp] theorem cells_strs (b : Bool) (xs : List ByteArray) : (strs b xs).cells = [strs b xs] := rfl
theorem lenA_strs {P : Program} {t : TypeId} (b : Bool) (xs : List ByteArray) (h : (telem P t).isSome = true) : lenA P t (strs b xs) = some (.int .i64 xs.length) := by
  unfold strs
  rw [lenA_tr b _ h]
  simp
attribute [simp] lenA_strs
theorem dr_strs {c b : Bool} {rows : Nm → Option Row} (hb : b = true → c = true) (l : List ByteArray) : DR c rows (strs b l) (strs c l) := dr_trflat hb fun e he x hx => by
  simp at he; obtain ⟨a, _, rfl⟩ := he; simp at hx; subst hx; rfl
theorem dr_strs_sl {c : Bool} {rows : Nm → Option Row} {n : Nm} {l : List ByteArray} (h : rows n = some ⟨0, 1, l.map fun x => [.str x]⟩) : DR c rows (.sl n 0 0 l.length) (strs c l) := by
  refine .sl n 0 0 l.length _ _ h rfl (by simp) (by simp) (fun i e t he ht => ?_) (fun i e t j x y he ht hx hy => ?_)
  · simp only [Nat.zero_add] at he
    rw [he] at ht; cases ht; rfl
  · simp only [Nat.zero_add] at he
    rw [he] at ht; cases ht
    rw [hx] at hy; cases hy
    simp at he; obtain ⟨a, _, rfl⟩ := he
    match j, hx with
    | 0, hx => simp at hx; subst hx; exact .str _

def sgl : List ByteArray := [⟨#[61, 61]⟩, ⟨#[60]⟩, ⟨#[38]⟩, ⟨#[43]⟩, ⟨#[45]⟩, ⟨#[42]⟩]
def hasS (l : List ByteArray) (s : ByteArray) : Bool := l.any fun x => x.toList == s.toList
theorem hasS_take {l : List ByteArray} {s : ByteArray} {i : Nat} (hi : i < l.length) : hasS (l.take (i + 1)) s = (hasS (l.take i) s || (l[i].toList == s.toList)) := by
  unfold hasS
  have hx : l[i]? = some l[i] := by simp
  rw [List.take_add_one, hx, List.any_append, Option.toList_some, List.any_cons, List.any_nil, Bool.or_false]
theorem hasS_take_le {l : List ByteArray} {s : ByteArray} {i : Nat} (h : hasS (l.take i) s = true) : hasS l s = true := by
  unfold hasS at *
  rw [List.any_eq_true] at *
  obtain ⟨x, hx, h⟩ := h
  exact ⟨x, List.mem_of_mem_take hx, h⟩

def noT (x : Instr) : Bool := x.Text.toList == []
def instrOk (ns nr : Int) (x : Instr) : Bool :=
  if x.Op = 0 then inB x.D 0 (ns - 1) && decide (x.A = 0) && decide (x.B = 0) && decide (x.C = 0) && noT x
  else if x.Op = 1 then inB x.D 0 (ns - 1) && inB x.A 0 (ns - 1) && decide (x.B = 0) && decide (x.N = 0) && decide (x.C = 0) && noT x
  else if x.Op = 2 then inB x.D 0 (ns - 1) && inB x.A 0 (ns - 1) && inB x.B 0 (ns - 1) && decide (x.N = 0) && decide (x.C = 0) && hasS sgl x.Text
  else if x.Op = 3 then inB x.D 0 (ns - 1) && inB x.B 0 (ns - 1) && (inB x.A 0 (ns - 1) || decide (x.A = -1)) && inB x.N 0 (nr - 1) && decide (x.C = 0) && noT x
  else if x.Op = 4 then decide (x.D = 0) && inB x.B 0 (ns - 1) && (inB x.A 0 (ns - 1) || decide (x.A = -1)) && inB x.N 0 (nr - 1) && inB x.C 0 (ns - 1) && noT x
  else if x.Op = 5 then inB x.D 0 (ns - 1) && decide (x.A = 0) && decide (x.B = 0) && decide (x.N = 0) && decide (x.C = 0) && noT x
  else if x.Op = 6 then decide (x.D = 0) && inB x.A 0 (ns - 1) && decide (x.B = 0) && decide (x.N = 0) && decide (x.C = 0) && noT x
  else false
def blockOk (g : Graph) (b : Block) : Bool := b.Code.all (instrOk g.Slots g.Sizes.length) &&
  (if b.Jump = 0 then inB b.To 0 ((g.Blocks.length : Int) - 1) && decide (b.A = 0) && decide (b.Else = 0)
   else if b.Jump = 1 then inB b.To 0 ((g.Blocks.length : Int) - 1) && inB b.Else 0 ((g.Blocks.length : Int) - 1) && inB b.A 0 (g.Slots - 1)
   else if b.Jump = 2 then inB b.A 0 (g.Slots - 1) && decide (b.To = 0) && decide (b.Else = 0)
   else false)
def codeLen (xs : List Block) (i : Nat) : Nat := gsum (fun b => b.Code.length) xs i
def headOk (g : Graph) : Bool := (inB g.Sizes.length 1 4 && g.Sizes.all fun n => inB n 1 16) && inB g.Params 0 6 && decide (g.Params ≤ g.Vars) && decide (g.Vars ≤ 20) && inB g.Slots g.Vars 1000 && inB g.Blocks.length 1 300
def graphOk (g : Graph) : Bool := headOk g && decide (codeLen g.Blocks g.Blocks.length ≤ 1000) && g.Blocks.all (blockOk g)
structure Head (g : Graph) : Prop where
  sizes : 1 ≤ g.Sizes.length ∧ g.Sizes.length ≤ 4
  size : ∀ n ∈ g.Sizes, 1 ≤ n ∧ n ≤ 16
  params : 0 ≤ g.Params ∧ g.Params ≤ 6 ∧ g.Params ≤ g.Vars
  vars : g.Vars ≤ 20
  slots : g.Vars ≤ g.Slots ∧ g.Slots ≤ 1000
  blocks : 1 ≤ g.Blocks.length ∧ g.Blocks.length ≤ 300
theorem headOk_head {g : Graph} (h : headOk g = true) : Head g := by
  simp only [headOk, inB, Bool.and_eq_true, decide_eq_true_eq, List.all_eq_true] at h
  obtain ⟨⟨⟨⟨⟨⟨h1, h2⟩, h3⟩, h4⟩, h5⟩, h6⟩, h7⟩ := h
  exact ⟨by omega, h2, by omega, h5, h6, by omega⟩
end Go.Proofs.YtlmlkkkgcbpaoaaGreat.AM

namespace Go.Proofs.YtlmlkkkgcbpaoaaGreat.AM
open Go.RowKit

private def MG6 : FuncId → Mode := fun f => .tree

theorem rg6 : List.range 6 = [0, 1, 2, 3, 4, 5] := by decide
theorem l01Has (l : List ByteArray) (s : ByteArray) (hl : l.length ≤ 2 ^ 62) : Pure Tryz.prog 150 [strs true l, .str s] (.bool (hasS l s)) := by
  intro T
  refine enter mixed MG6 Tryz.func150 rfl (by kernel_rfl) rfl ?_
  repeat' (first | (with_reducible first | refine stp ?_ | refine k_blk_o rfl ?_ | refine k_seq_n ?_) | ((try (conv => arg 1; simp [strs])); with_reducible refine evp ?_) | fail)
  refine st_loop (fun (i : Nat) σ h => i ≤ l.length ∧ σ 0 = strs true l ∧ σ 1 = .str s ∧ σ 5 = .int .i64 i ∧ hasS (l.take i) s = false) (fun i => l.length - i) 0 ?init ?step
  case init => exact ⟨Nat.zero_le _, by simp [strs], by simp, by simp, rfl⟩
  case step =>
    rintro i σ h ⟨hi, h0, h1, h3, hn⟩
    by_cases hlt : i < l.length
    · have hlt2 : (i : Int) < l.length := by omega
      have hx : l[i]? = some l[i] := by simp
      have hw : IntKind.i64.wrap (i + 1) = i + 1 := wrap_id (by omega) (by omega)
      cases he : (l[i].toList == s.toList) with
      | true =>
        repeat' (first | (with_reducible first | refine stp ?_ | refine k_blk_o rfl ?_ | refine k_seq_n ?_) | ((try (conv => arg 1; simp [strs, h0, h1, h3, hlt2, hx, he])); with_reducible refine evp ?_) | fail)
        rw [hasS_take_le (i := i + 1) (by rw [hasS_take hlt, he, Bool.or_true])]
        exact .bool _
      | false =>
        repeat' (first | (with_reducible first | refine stp ?_ | refine k_blk_o rfl ?_ | refine k_seq_n ?_) | ((try (conv => arg 1; simp [strs, h0, h1, h3, hlt2, hx, he, hw])); with_reducible refine evp ?_) | fail)
        refine k_lp_n (i + 1) (by omega) ⟨by omega, by simp [h0], by simp [h1], by simp, by rw [hasS_take hlt, hn, he]; rfl⟩
    · have hlt2 : ¬ (i : Int) < l.length := by omega
      repeat' (first | (with_reducible first | refine stp ?_ | refine k_blk_o rfl ?_ | refine k_seq_n ?_) | ((try (conv => arg 1; simp [strs, h0, h3, hlt2])); with_reducible refine evp ?_) | fail)
      rw [show hasS l s = false by rw [← hn, List.take_of_length_le (by omega)]]
      exact .bool _

set_option maxHeartbeats 8000000 in
theorem l04InstrOk (g : Graph) (x : Instr) (hs : 0 ≤ g.Slots ∧ g.Slots ≤ 1000) (hr : g.Sizes.length ≤ 2 ^ 20) : Pure Tryz.prog 101 [.agg (g.cells true), .agg x.cells] (.bool (instrOk g.Slots g.Sizes.length x)) := by
  intro T
  obtain ⟨Op, D, A, B, C, N, Text⟩ := x
  obtain ⟨Sizes, Params, Vars, Slots, Blocks⟩ := g
  simp only at hs hr
  have w1 : IntKind.i64.wrap (Slots - 1) = Slots - 1 := wrap_id (by omega) (by omega)
  have w2 : IntKind.i64.wrap ((Sizes.length : Int) - 1) = (Sizes.length : Int) - 1 := wrap_id (by omega) (by omega)
  have H := l01Has sgl Text (by simp [sgl])
  refine enter mixed MG6 Tryz.func101 rfl (by kernel_rfl) rfl ?_
  by_cases hO : Op = 2
  · subst hO
    have e0 : instrOk Slots Sizes.length ⟨2, D, A, B, C, N, Text⟩ = (inB D 0 (Slots - 1) && inB A 0 (Slots - 1) && inB B 0 (Slots - 1) && decide (N = 0) && decide (C = 0) && hasS sgl Text) := by simp [instrOk]
    dsimp only
    rw [e0]
    by_cases hC : C = 0
    · cases hD : inB D 0 (Slots - 1) with
      | false =>
        repeat' (first
          | (with_reducible first | refine st_seq ?_ | refine st_reg ?_ | refine st_block ?_ | refine st_nil ?_ | refine st_skip ?_ | refine st_ret ?_ | refine st_exit ?_ | refine fr_nil ?_ | refine k_seq_n ?_ | refine k_seq_r ?_ | refine k_seq_e ?_ | refine k_blk_n ?_ | refine k_blk_r ?_ | refine k_blk_s ?_ | refine k_blk_o rfl ?_ | refine k_fn_r ?_ | refine k_fn_n ?_ | refine k_lp_r ?_ | refine k_lp_e ?_)
          | ((with_reducible first | refine st_move ?_ | refine st_asg ?_ | refine st_c ?_ | refine fr_c ?_); (try (conv => arg 1; simp [Graph.cells, Instr.cells, w1, w2, hC, hD])); (with_reducible refine at_mk ?_))
          | ((with_reducible first | refine st_g ?_ | refine fr_g ?_); (try (conv => arg 1; simp [Graph.cells, Instr.cells, w1, w2, hC, hD])); (with_reducible refine at_mk ?_); with_reducible first | refine gd_tt ?_ | refine gd_ff ?_ | refine gd_tf ?_ | refine gd_ft ?_ | refine gd_no ?_)
          | ((with_reducible first | refine st_gm ?_ | refine fr_gm ?_); (try (conv => arg 1; simp [Graph.cells, Instr.cells, w1, w2, hC, hD])); (with_reducible refine at_mk ?_); (with_reducible first | refine gm_bool ?_ | refine gm_gv ?_); refine ⟨_, (by intro hc; first | ((try simp only [Bool.and_eq_true] at hc); (try (conv => lhs; simp [hc, Graph.cells, Instr.cells, w1, w2, hC, hD])); first | done | exact rfl) | ((try simp [gq] at hc); (try (conv => lhs; simp [gq, hc, Graph.cells, Instr.cells, w1, w2, hC, hD])); first | done | exact rfl)), ?_⟩)
          | ((with_reducible refine st_gmc ?_); (try (conv => arg 1; simp [Graph.cells, Instr.cells, w1, w2, hC, hD])); (with_reducible refine at_mk ?_); (with_reducible first | refine gm_bool ?_ | refine gm_gv ?_); refine ⟨_, _, _, (by intro hc; first | ((try simp only [Bool.and_eq_true] at hc); (try (conv => lhs; simp [hc, Graph.cells, Instr.cells, w1, w2, hC, hD])); first | done | exact rfl) | ((try simp [gq] at hc); (try (conv => lhs; simp [gq, hc, Graph.cells, Instr.cells, w1, w2, hC, hD])); first | done | exact rfl)), rfl, l01In _ _ _, (by intro hc; (try simp at hc); (repeat' (first | exact DRs.nil | refine DRs.cons ?_ ?_ | exact .int _ _ | exact .bool _ | exact .str _ | exact .nilsl | exact .nilp | exact dr_ints (by simp) _ | exact dr_intss (by simp) _ | refine dr_agg ?_ | refine dr_fn ?_ | refine dr_tptr' (by simp) ?_ | assumption))), ?_⟩)
          | ((with_reducible refine fr_gmc ?_); (try (conv => arg 1; simp [Graph.cells, Instr.cells, w1, w2, hC, hD])); (with_reducible refine at_mk ?_); (with_reducible first | refine gm_bool ?_ | refine gm_gv ?_); refine ⟨_, _, _, (by intro hc; first | ((try simp only [Bool.and_eq_true] at hc); (try (conv => lhs; simp [hc, Graph.cells, Instr.cells, w1, w2, hC, hD])); first | done | exact rfl) | ((try simp [gq] at hc); (try (conv => lhs; simp [gq, hc, Graph.cells, Instr.cells, w1, w2, hC, hD])); first | done | exact rfl)), l01In _ _ _, (by intro hc; (try simp at hc); (repeat' (first | exact DRs.nil | refine DRs.cons ?_ ?_ | exact .int _ _ | exact .bool _ | exact .str _ | exact .nilsl | exact .nilp | exact dr_ints (by simp) _ | exact dr_intss (by simp) _ | refine dr_agg ?_ | refine dr_fn ?_ | refine dr_tptr' (by simp) ?_ | assumption))), ?_⟩)
          | ((with_reducible refine st_gmv ?_); (try (conv => arg 1; simp [Graph.cells, Instr.cells, w1, w2, hC, hD])); (with_reducible refine at_mk ?_); (with_reducible first | refine gm_bool ?_ | refine gm_gv ?_); refine ⟨_, _, _, _, _, (by intro hc; first | ((try simp only [Bool.and_eq_true] at hc); (try (conv => lhs; simp [hc, Graph.cells, Instr.cells, w1, w2, hC, hD])); first | done | exact rfl) | ((try simp [gq] at hc); (try (conv => lhs; simp [gq, hc, Graph.cells, Instr.cells, w1, w2, hC, hD])); first | done | exact rfl)), (by intro hc; first | ((try simp only [Bool.and_eq_true] at hc); (try (conv => lhs; simp [hc, Graph.cells, Instr.cells, w1, w2, hC, hD])); first | done | exact rfl) | ((try simp [gq] at hc); (try (conv => lhs; simp [gq, hc, Graph.cells, Instr.cells, w1, w2, hC, hD])); first | done | exact rfl)), rfl, l01In _ _ _, (by intro hc; (try simp at hc); (repeat' (first | exact DRs.nil | refine DRs.cons ?_ ?_ | exact .int _ _ | exact .bool _ | exact .str _ | exact .nilsl | exact .nilp | exact dr_ints (by simp) _ | exact dr_intss (by simp) _ | refine dr_agg ?_ | refine dr_fn ?_ | refine dr_tptr' (by simp) ?_ | assumption))), ?_⟩)
          | ((with_reducible refine st_m rfl ?_); (try (conv => arg 1; simp [Graph.cells, Instr.cells, w1, w2, hC, hD])); (with_reducible refine ev2_some ?_))
          | ((with_reducible refine fr_n rfl ?_); (try (conv => arg 1; simp [Graph.cells, Instr.cells, w1, w2, hC, hD])); (with_reducible refine evn_some ?_))
          | ((with_reducible first | refine st_cv ?_ | refine fr_cv ?_); (try (conv => arg 1; simp [Graph.cells, Instr.cells, w1, w2, hC, hD])); (with_reducible refine at_mk ?_); (with_reducible refine fn_mk ?_); (try (conv => arg 1; simp [Graph.cells, Instr.cells, w1, w2, hC, hD])); (with_reducible refine at_mk ?_))
          | ((with_reducible refine fr_a ?_); (try (conv => arg 1; simp [Graph.cells, Instr.cells, w1, w2, hC, hD])); (with_reducible refine at_mk ?_); (try (conv => arg 1; simp [Graph.cells, Instr.cells, w1, w2, hC, hD])); (with_reducible refine at_mk ?_); refine ⟨?names, ?_⟩; (case names => (simp [appNames, ints, intss] <;> first | kernel_rfl | (refine ⟨?_, ?_⟩ <;> kernel_rfl))); (try (conv => arg 1; simp [Graph.cells, Instr.cells, w1, w2, hC, hD])); (with_reducible refine ev2_some ?_))
          | ((with_reducible first | refine st_q ?_ | refine fr_q ?_ | refine st_res ?_); (try (conv => arg 1; simp [Graph.cells, Instr.cells, w1, w2, hC, hD])); (with_reducible refine ev_some ?_))
          | ((with_reducible refine st_if ?_); (try (conv => arg 1; simp [Graph.cells, Instr.cells, w1, w2, hC, hD])); (with_reducible refine at_mk ?_); with_reducible first | refine br_t ?_ | refine br_f ?_)
          | ((with_reducible refine ct_id ?_); refine st_tree rfl (l01In _ _ _) (by (repeat' (first | exact DRs.nil | refine DRs.cons ?_ ?_ | exact .int _ _ | exact .bool _ | exact .str _ | exact .nilsl | exact .nilp | exact dr_ints (by simp) _ | exact dr_intss (by simp) _ | refine dr_agg ?_ | refine dr_fn ?_ | refine dr_tptr' (by simp) ?_ | assumption))) ?_)
          | ((with_reducible refine tw_id ?_); refine treeW_pure (l01In _ _ _) (by (repeat' (first | exact DRs.nil | refine DRs.cons ?_ ?_ | exact .int _ _ | exact .bool _ | exact .str _ | exact .nilsl | exact .nilp | exact dr_ints (by simp) _ | exact dr_intss (by simp) _ | refine dr_agg ?_ | refine dr_fn ?_ | refine dr_tptr' (by simp) ?_ | assumption))) ?_))
        all_goals exact dr_bool (by simp)
      | true =>
        cases hA : inB A 0 (Slots - 1) with
        | false =>
          repeat' (first
            | (with_reducible first | refine st_seq ?_ | refine st_reg ?_ | refine st_block ?_ | refine st_nil ?_ | refine st_skip ?_ | refine st_ret ?_ | refine st_exit ?_ | refine fr_nil ?_ | refine k_seq_n ?_ | refine k_seq_r ?_ | refine k_seq_e ?_ | refine k_blk_n ?_ | refine k_blk_r ?_ | refine k_blk_s ?_ | refine k_blk_o rfl ?_ | refine k_fn_r ?_ | refine k_fn_n ?_ | refine k_lp_r ?_ | refine k_lp_e ?_)
            | ((with_reducible first | refine st_move ?_ | refine st_asg ?_ | refine st_c ?_ | refine fr_c ?_); (try (conv => arg 1; simp [Graph.cells, Instr.cells, w1, w2, hC, hD, hA])); (with_reducible refine at_mk ?_))
            | ((with_reducible first | refine st_g ?_ | refine fr_g ?_); (try (conv => arg 1; simp [Graph.cells, Instr.cells, w1, w2, hC, hD, hA])); (with_reducible refine at_mk ?_); with_reducible first | refine gd_tt ?_ | refine gd_ff ?_ | refine gd_tf ?_ | refine gd_ft ?_ | refine gd_no ?_)
            | ((with_reducible first | refine st_gm ?_ | refine fr_gm ?_); (try (conv => arg 1; simp [Graph.cells, Instr.cells, w1, w2, hC, hD, hA])); (with_reducible refine at_mk ?_); (with_reducible first | refine gm_bool ?_ | refine gm_gv ?_); refine ⟨_, (by intro hc; first | ((try simp only [Bool.and_eq_true] at hc); (try (conv => lhs; simp [hc, Graph.cells, Instr.cells, w1, w2, hC, hD, hA])); first | done | exact rfl) | ((try simp [gq] at hc); (try (conv => lhs; simp [gq, hc, Graph.cells, Instr.cells, w1, w2, hC, hD, hA])); first | done | exact rfl)), ?_⟩)
            | ((with_reducible refine st_gmc ?_); (try (conv => arg 1; simp [Graph.cells, Instr.cells, w1, w2, hC, hD, hA])); (with_reducible refine at_mk ?_); (with_reducible first | refine gm_bool ?_ | refine gm_gv ?_); refine ⟨_, _, _, (by intro hc; first | ((try simp only [Bool.and_eq_true] at hc); (try (conv => lhs; simp [hc, Graph.cells, Instr.cells, w1, w2, hC, hD, hA])); first | done | exact rfl) | ((try simp [gq] at hc); (try (conv => lhs; simp [gq, hc, Graph.cells, Instr.cells, w1, w2, hC, hD, hA])); first | done | exact rfl)), rfl, l01In _ _ _, (by intro hc; (try simp at hc); (repeat' (first | exact DRs.nil | refine DRs.cons ?_ ?_ | exact .int _ _ | exact .bool _ | exact .str _ | exact .nilsl | exact .nilp | exact dr_ints (by simp) _ | exact dr_intss (by simp) _ | refine dr_agg ?_ | refine dr_fn ?_ | refine dr_tptr' (by simp) ?_ | assumption))), ?_⟩)
            | ((with_reducible refine fr_gmc ?_); (try (conv => arg 1; simp [Graph.cells, Instr.cells, w1, w2, hC, hD, hA])); (with_reducible refine at_mk ?_); (with_reducible first | refine gm_bool ?_ | refine gm_gv ?_); refine ⟨_, _, _, (by intro hc; first | ((try simp only [Bool.and_eq_true] at hc); (try (conv => lhs; simp [hc, Graph.cells, Instr.cells, w1, w2, hC, hD, hA])); first | done | exact rfl) | ((try simp [gq] at hc); (try (conv => lhs; simp [gq, hc, Graph.cells, Instr.cells, w1, w2, hC, hD, hA])); first | done | exact rfl)), l01In _ _ _, (by intro hc; (try simp at hc); (repeat' (first | exact DRs.nil | refine DRs.cons ?_ ?_ | exact .int _ _ | exact .bool _ | exact .str _ | exact .nilsl | exact .nilp | exact dr_ints (by simp) _ | exact dr_intss (by simp) _ | refine dr_agg ?_ | refine dr_fn ?_ | refine dr_tptr' (by simp) ?_ | assumption))), ?_⟩)
            | ((with_reducible refine st_gmv ?_); (try (conv => arg 1; simp [Graph.cells, Instr.cells, w1, w2, hC, hD, hA])); (with_reducible refine at_mk ?_); (with_reducible first | refine gm_bool ?_ | refine gm_gv ?_); refine ⟨_, _, _, _, _, (by intro hc; first | ((try simp only [Bool.and_eq_true] at hc); (try (conv => lhs; simp [hc, Graph.cells, Instr.cells, w1, w2, hC, hD, hA])); first | done | exact rfl) | ((try simp [gq] at hc); (try (conv => lhs; simp [gq, hc, Graph.cells, Instr.cells, w1, w2, hC, hD, hA])); first | done | exact rfl)), (by intro hc; first | ((try simp only [Bool.and_eq_true] at hc); (try (conv => lhs; simp [hc, Graph.cells, Instr.cells, w1, w2, hC, hD, hA])); first | done | exact rfl) | ((try simp [gq] at hc); (try (conv => lhs; simp [gq, hc, Graph.cells, Instr.cells, w1, w2, hC, hD, hA])); first | done | exact rfl)), rfl, l01In _ _ _, (by intro hc; (try simp at hc); (repeat' (first | exact DRs.nil | refine DRs.cons ?_ ?_ | exact .int _ _ | exact .bool _ | exact .str _ | exact .nilsl | exact .nilp | exact dr_ints (by simp) _ | exact dr_intss (by simp) _ | refine dr_agg ?_ | refine dr_fn ?_ | refine dr_tptr' (by simp) ?_ | assumption))), ?_⟩)
            | ((with_reducible refine st_m rfl ?_); (try (conv => arg 1; simp [Graph.cells, Instr.cells, w1, w2, hC, hD, hA])); (with_reducible refine ev2_some ?_))
            | ((with_reducible refine fr_n rfl ?_); (try (conv => arg 1; simp [Graph.cells, Instr.cells, w1, w2, hC, hD, hA])); (with_reducible refine evn_some ?_))
            | ((with_reducible first | refine st_cv ?_ | refine fr_cv ?_); (try (conv => arg 1; simp [Graph.cells, Instr.cells, w1, w2, hC, hD, hA])); (with_reducible refine at_mk ?_); (with_reducible refine fn_mk ?_); (try (conv => arg 1; simp [Graph.cells, Instr.cells, w1, w2, hC, hD, hA])); (with_reducible refine at_mk ?_))
            | ((with_reducible refine fr_a ?_); (try (conv => arg 1; simp [Graph.cells, Instr.cells, w1, w2, hC, hD, hA])); (with_reducible refine at_mk ?_); (try (conv => arg 1; simp [Graph.cells, Instr.cells, w1, w2, hC, hD, hA])); (with_reducible refine at_mk ?_); refine ⟨?names, ?_⟩; (case names => (simp [appNames, ints, intss] <;> first | kernel_rfl | (refine ⟨?_, ?_⟩ <;> kernel_rfl))); (try (conv => arg 1; simp [Graph.cells, Instr.cells, w1, w2, hC, hD, hA])); (with_reducible refine ev2_some ?_))
            | ((with_reducible first | refine st_q ?_ | refine fr_q ?_ | refine st_res ?_); (try (conv => arg 1; simp [Graph.cells, Instr.cells, w1, w2, hC, hD, hA])); (with_reducible refine ev_some ?_))
            | ((with_reducible refine st_if ?_); (try (conv => arg 1; simp [Graph.cells, Instr.cells, w1, w2, hC, hD, hA])); (with_reducible refine at_mk ?_); with_reducible first | refine br_t ?_ | refine br_f ?_)
            | ((with_reducible refine ct_id ?_); refine st_tree rfl (l01In _ _ _) (by (repeat' (first | exact DRs.nil | refine DRs.cons ?_ ?_ | exact .int _ _ | exact .bool _ | exact .str _ | exact .nilsl | exact .nilp | exact dr_ints (by simp) _ | exact dr_intss (by simp) _ | refine dr_agg ?_ | refine dr_fn ?_ | refine dr_tptr' (by simp) ?_ | assumption))) ?_)
            | ((with_reducible refine tw_id ?_); refine treeW_pure (l01In _ _ _) (by (repeat' (first | exact DRs.nil | refine DRs.cons ?_ ?_ | exact .int _ _ | exact .bool _ | exact .str _ | exact .nilsl | exact .nilp | exact dr_ints (by simp) _ | exact dr_intss (by simp) _ | refine dr_agg ?_ | refine dr_fn ?_ | refine dr_tptr' (by simp) ?_ | assumption))) ?_))
          all_goals exact dr_bool (by simp)
        | true =>
          cases hB : inB B 0 (Slots - 1) with
          | false =>
            repeat' (first
              | (with_reducible first | refine st_seq ?_ | refine st_reg ?_ | refine st_block ?_ | refine st_nil ?_ | refine st_skip ?_ | refine st_ret ?_ | refine st_exit ?_ | refine fr_nil ?_ | refine k_seq_n ?_ | refine k_seq_r ?_ | refine k_seq_e ?_ | refine k_blk_n ?_ | refine k_blk_r ?_ | refine k_blk_s ?_ | refine k_blk_o rfl ?_ | refine k_fn_r ?_ | refine k_fn_n ?_ | refine k_lp_r ?_ | refine k_lp_e ?_)
              | ((with_reducible first | refine st_move ?_ | refine st_asg ?_ | refine st_c ?_ | refine fr_c ?_); (try (conv => arg 1; simp [Graph.cells, Instr.cells, w1, w2, hC, hD, hA, hB])); (with_reducible refine at_mk ?_))
              | ((with_reducible first | refine st_g ?_ | refine fr_g ?_); (try (conv => arg 1; simp [Graph.cells, Instr.cells, w1, w2, hC, hD, hA, hB])); (with_reducible refine at_mk ?_); with_reducible first | refine gd_tt ?_ | refine gd_ff ?_ | refine gd_tf ?_ | refine gd_ft ?_ | refine gd_no ?_)
              | ((with_reducible first | refine st_gm ?_ | refine fr_gm ?_); (try (conv => arg 1; simp [Graph.cells, Instr.cells, w1, w2, hC, hD, hA, hB])); (with_reducible refine at_mk ?_); (with_reducible first | refine gm_bool ?_ | refine gm_gv ?_); refine ⟨_, (by intro hc; first | ((try simp only [Bool.and_eq_true] at hc); (try (conv => lhs; simp [hc, Graph.cells, Instr.cells, w1, w2, hC, hD, hA, hB])); first | done | exact rfl) | ((try simp [gq] at hc); (try (conv => lhs; simp [gq, hc, Graph.cells, Instr.cells, w1, w2, hC, hD, hA, hB])); first | done | exact rfl)), ?_⟩)
              | ((with_reducible refine st_gmc ?_); (try (conv => arg 1; simp [Graph.cells, Instr.cells, w1, w2, hC, hD, hA, hB])); (with_reducible refine at_mk ?_); (with_reducible first | refine gm_bool ?_ | refine gm_gv ?_); refine ⟨_, _, _, (by intro hc; first | ((try simp only [Bool.and_eq_true] at hc); (try (conv => lhs; simp [hc, Graph.cells, Instr.cells, w1, w2, hC, hD, hA, hB])); first | done | exact rfl) | ((try simp [gq] at hc); (try (conv => lhs; simp [gq, hc, Graph.cells, Instr.cells, w1, w2, hC, hD, hA, hB])); first | done | exact rfl)), rfl, l01In _ _ _, (by intro hc; (try simp at hc); (repeat' (first | exact DRs.nil | refine DRs.cons ?_ ?_ | exact .int _ _ | exact .bool _ | exact .str _ | exact .nilsl | exact .nilp | exact dr_ints (by simp) _ | exact dr_intss (by simp) _ | refine dr_agg ?_ | refine dr_fn ?_ | refine dr_tptr' (by simp) ?_ | assumption))), ?_⟩)
              | ((with_reducible refine fr_gmc ?_); (try (conv => arg 1; simp [Graph.cells, Instr.cells, w1, w2, hC, hD, hA, hB])); (with_reducible refine at_mk ?_); (with_reducible first | refine gm_bool ?_ | refine gm_gv ?_); refine ⟨_, _, _, (by intro hc; first | ((try simp only [Bool.and_eq_true] at hc); (try (conv => lhs; simp [hc, Graph.cells, Instr.cells, w1, w2, hC, hD, hA, hB])); first | done | exact rfl) | ((try simp [gq] at hc); (try (conv => lhs; simp [gq, hc, Graph.cells, Instr.cells, w1, w2, hC, hD, hA, hB])); first | done | exact rfl)), l01In _ _ _, (by intro hc; (try simp at hc); (repeat' (first | exact DRs.nil | refine DRs.cons ?_ ?_ | exact .int _ _ | exact .bool _ | exact .str _ | exact .nilsl | exact .nilp | exact dr_ints (by simp) _ | exact dr_intss (by simp) _ | refine dr_agg ?_ | refine dr_fn ?_ | refine dr_tptr' (by simp) ?_ | assumption))), ?_⟩)
              | ((with_reducible refine st_gmv ?_); (try (conv => arg 1; simp [Graph.cells, Instr.cells, w1, w2, hC, hD, hA, hB])); (with_reducible refine at_mk ?_); (with_reducible first | refine gm_bool ?_ | refine gm_gv ?_); refine ⟨_, _, _, _, _, (by intro hc; first | ((try simp only [Bool.and_eq_true] at hc); (try (conv => lhs; simp [hc, Graph.cells, Instr.cells, w1, w2, hC, hD, hA, hB])); first | done | exact rfl) | ((try simp [gq] at hc); (try (conv => lhs; simp [gq, hc, Graph.cells, Instr.cells, w1, w2, hC, hD, hA, hB])); first | done | exact rfl)), (by intro hc; first | ((try simp only [Bool.and_eq_true] at hc); (try (conv => lhs; simp [hc, Graph.cells, Instr.cells, w1, w2, hC, hD, hA, hB])); first | done | exact rfl) | ((try simp [gq] at hc); (try (conv => lhs; simp [gq, hc, Graph.cells, Instr.cells, w1, w2, hC, hD, hA, hB])); first | done | exact rfl)), rfl, l01In _ _ _, (by intro hc; (try simp at hc); (repeat' (first | exact DRs.nil | refine DRs.cons ?_ ?_ | exact .int _ _ | exact .bool _ | exact .str _ | exact .nilsl | exact .nilp | exact dr_ints (by simp) _ | exact dr_intss (by simp) _ | refine dr_agg ?_ | refine dr_fn ?_ | refine dr_tptr' (by simp) ?_ | assumption))), ?_⟩)
              | ((with_reducible refine st_m rfl ?_); (try (conv => arg 1; simp [Graph.cells, Instr.cells, w1, w2, hC, hD, hA, hB])); (with_reducible refine ev2_some ?_))
              | ((with_reducible refine fr_n rfl ?_); (try (conv => arg 1; simp [Graph.cells, Instr.cells, w1, w2, hC, hD, hA, hB])); (with_reducible refine evn_some ?_))
              | ((with_reducible first | refine st_cv ?_ | refine fr_cv ?_); (try (conv => arg 1; simp [Graph.cells, Instr.cells, w1, w2, hC, hD, hA, hB])); (with_reducible refine at_mk ?_); (with_reducible refine fn_mk ?_); (try (conv => arg 1; simp [Graph.cells, Instr.cells, w1, w2, hC, hD, hA, hB])); (with_reducible refine at_mk ?_))
              | ((with_reducible refine fr_a ?_); (try (conv => arg 1; simp [Graph.cells, Instr.cells, w1, w2, hC, hD, hA, hB])); (with_reducible refine at_mk ?_); (try (conv => arg 1; simp [Graph.cells, Instr.cells, w1, w2, hC, hD, hA, hB])); (with_reducible refine at_mk ?_); refine ⟨?names, ?_⟩; (case names => (simp [appNames, ints, intss] <;> first | kernel_rfl | (refine ⟨?_, ?_⟩ <;> kernel_rfl))); (try (conv => arg 1; simp [Graph.cells, Instr.cells, w1, w2, hC, hD, hA, hB])); (with_reducible refine ev2_some ?_))
              | ((with_reducible first | refine st_q ?_ | refine fr_q ?_ | refine st_res ?_); (try (conv => arg 1; simp [Graph.cells, Instr.cells, w1, w2, hC, hD, hA, hB])); (with_reducible refine ev_some ?_))
              | ((with_reducible refine st_if ?_); (try (conv => arg 1; simp [Graph.cells, Instr.cells, w1, w2, hC, hD, hA, hB])); (with_reducible refine at_mk ?_); with_reducible first | refine br_t ?_ | refine br_f ?_)
              | ((with_reducible refine ct_id ?_); refine st_tree rfl (l01In _ _ _) (by (repeat' (first | exact DRs.nil | refine DRs.cons ?_ ?_ | exact .int _ _ | exact .bool _ | exact .str _ | exact .nilsl | exact .nilp | exact dr_ints (by simp) _ | exact dr_intss (by simp) _ | refine dr_agg ?_ | refine dr_fn ?_ | refine dr_tptr' (by simp) ?_ | assumption))) ?_)
              | ((with_reducible refine tw_id ?_); refine treeW_pure (l01In _ _ _) (by (repeat' (first | exact DRs.nil | refine DRs.cons ?_ ?_ | exact .int _ _ | exact .bool _ | exact .str _ | exact .nilsl | exact .nilp | exact dr_ints (by simp) _ | exact dr_intss (by simp) _ | refine dr_agg ?_ | refine dr_fn ?_ | refine dr_tptr' (by simp) ?_ | assumption))) ?_))
            all_goals exact dr_bool (by simp)
          | true =>
            by_cases hN : N = 0
            · skip
              repeat' (first
                | (with_reducible first | refine st_seq ?_ | refine st_reg ?_ | refine st_block ?_ | refine st_nil ?_ | refine st_skip ?_ | refine st_ret ?_ | refine st_exit ?_ | refine fr_nil ?_ | refine k_seq_n ?_ | refine k_seq_r ?_ | refine k_seq_e ?_ | refine k_blk_n ?_ | refine k_blk_r ?_ | refine k_blk_s ?_ | refine k_blk_o rfl ?_ | refine k_fn_r ?_ | refine k_fn_n ?_ | refine k_lp_r ?_ | refine k_lp_e ?_)
                | ((with_reducible first | refine st_move ?_ | refine st_asg ?_ | refine st_c ?_ | refine fr_c ?_); (try (conv => arg 1; simp [Graph.cells, Instr.cells, w1, w2, hC, hD, hA, hB, hN])); (with_reducible refine at_mk ?_))
                | ((with_reducible first | refine st_g ?_ | refine fr_g ?_); (try (conv => arg 1; simp [Graph.cells, Instr.cells, w1, w2, hC, hD, hA, hB, hN])); (with_reducible refine at_mk ?_); with_reducible first | refine gd_tt ?_ | refine gd_ff ?_ | refine gd_tf ?_ | refine gd_ft ?_ | refine gd_no ?_)
                | ((with_reducible first | refine st_gm ?_ | refine fr_gm ?_); (try (conv => arg 1; simp [Graph.cells, Instr.cells, w1, w2, hC, hD, hA, hB, hN])); (with_reducible refine at_mk ?_); (with_reducible first | refine gm_bool ?_ | refine gm_gv ?_); refine ⟨_, (by intro hc; first | ((try simp only [Bool.and_eq_true] at hc); (try (conv => lhs; simp [hc, Graph.cells, Instr.cells, w1, w2, hC, hD, hA, hB, hN])); first | done | exact rfl) | ((try simp [gq] at hc); (try (conv => lhs; simp [gq, hc, Graph.cells, Instr.cells, w1, w2, hC, hD, hA, hB, hN])); first | done | exact rfl)), ?_⟩)
                | ((with_reducible refine st_gmc ?_); (try (conv => arg 1; simp [Graph.cells, Instr.cells, w1, w2, hC, hD, hA, hB, hN])); (with_reducible refine at_mk ?_); (with_reducible first | refine gm_bool ?_ | refine gm_gv ?_); refine ⟨_, _, _, (by intro hc; first | ((try simp only [Bool.and_eq_true] at hc); (try (conv => lhs; simp [hc, Graph.cells, Instr.cells, w1, w2, hC, hD, hA, hB, hN])); first | done | exact rfl) | ((try simp [gq] at hc); (try (conv => lhs; simp [gq, hc, Graph.cells, Instr.cells, w1, w2, hC, hD, hA, hB, hN])); first | done | exact rfl)), rfl, l01In _ _ _, (by intro hc; (try simp at hc); (repeat' (first | exact DRs.nil | refine DRs.cons ?_ ?_ | exact .int _ _ | exact .bool _ | exact .str _ | exact .nilsl | exact .nilp | exact dr_ints (by simp) _ | exact dr_intss (by simp) _ | refine dr_agg ?_ | refine dr_fn ?_ | refine dr_tptr' (by simp) ?_ | assumption | exact dr_strs_sl (l := sgl) (by simp [sgl])))), ?_⟩)
                | ((with_reducible refine fr_gmc ?_); (try (conv => arg 1; simp [Graph.cells, Instr.cells, w1, w2, hC, hD, hA, hB, hN])); (with_reducible refine at_mk ?_); (with_reducible first | refine gm_bool ?_ | refine gm_gv ?_); refine ⟨_, _, _, (by intro hc; first | ((try simp only [Bool.and_eq_true] at hc); (try (conv => lhs; simp [hc, Graph.cells, Instr.cells, w1, w2, hC, hD, hA, hB, hN])); first | done | exact rfl) | ((try simp [gq] at hc); (try (conv => lhs; simp [gq, hc, Graph.cells, Instr.cells, w1, w2, hC, hD, hA, hB, hN])); first | done | exact rfl)), l01In _ _ _, (by intro hc; (try simp at hc); (repeat' (first | exact DRs.nil | refine DRs.cons ?_ ?_ | exact .int _ _ | exact .bool _ | exact .str _ | exact .nilsl | exact .nilp | exact dr_ints (by simp) _ | exact dr_intss (by simp) _ | refine dr_agg ?_ | refine dr_fn ?_ | refine dr_tptr' (by simp) ?_ | assumption | exact dr_strs_sl (l := sgl) (by simp [sgl])))), ?_⟩)
                | ((with_reducible refine st_gmv ?_); (try (conv => arg 1; simp [Graph.cells, Instr.cells, w1, w2, hC, hD, hA, hB, hN])); (with_reducible refine at_mk ?_); (with_reducible first | refine gm_bool ?_ | refine gm_gv ?_); refine ⟨_, _, _, _, _, (by intro hc; first | ((try simp only [Bool.and_eq_true] at hc); (try (conv => lhs; simp [hc, Graph.cells, Instr.cells, w1, w2, hC, hD, hA, hB, hN])); first | done | exact rfl) | ((try simp [gq] at hc); (try (conv => lhs; simp [gq, hc, Graph.cells, Instr.cells, w1, w2, hC, hD, hA, hB, hN])); first | done | exact rfl)), (by intro hc; first | ((try simp only [Bool.and_eq_true] at hc); (try (conv => lhs; simp [hc, Graph.cells, Instr.cells, w1, w2, hC, hD, hA, hB, hN])); first | done | exact rfl) | ((try simp [gq] at hc); (try (conv => lhs; simp [gq, hc, Graph.cells, Instr.cells, w1, w2, hC, hD, hA, hB, hN])); first | done | exact rfl)), rfl, l01In _ _ _, (by intro hc; (try simp at hc); (repeat' (first | exact DRs.nil | refine DRs.cons ?_ ?_ | exact .int _ _ | exact .bool _ | exact .str _ | exact .nilsl | exact .nilp | exact dr_ints (by simp) _ | exact dr_intss (by simp) _ | refine dr_agg ?_ | refine dr_fn ?_ | refine dr_tptr' (by simp) ?_ | assumption | exact dr_strs_sl (l := sgl) (by simp [sgl])))), ?_⟩)
                | ((with_reducible refine st_gmc ?_); (try (conv => arg 1; simp [Graph.cells, Instr.cells, w1, w2, hC, hD, hA, hB, hN])); (with_reducible refine at_mk ?_); (with_reducible first | refine gm_bool ?_ | refine gm_gv ?_); refine ⟨_, _, _, (by intro hc; first | ((try simp only [Bool.and_eq_true] at hc); (try (conv => lhs; simp [hc, Graph.cells, Instr.cells, w1, w2, hC, hD, hA, hB, hN])); first | done | exact rfl) | ((try simp [gq] at hc); (try (conv => lhs; simp [gq, hc, Graph.cells, Instr.cells, w1, w2, hC, hD, hA, hB, hN])); first | done | exact rfl)), rfl, H, (by intro hc; (try simp at hc); (repeat' (first | exact DRs.nil | refine DRs.cons ?_ ?_ | exact .int _ _ | exact .bool _ | exact .str _ | exact .nilsl | exact .nilp | exact dr_ints (by simp) _ | exact dr_intss (by simp) _ | refine dr_agg ?_ | refine dr_fn ?_ | refine dr_tptr' (by simp) ?_ | assumption | exact dr_strs_sl (l := sgl) (by simp [sgl])))), ?_⟩)
                | ((with_reducible refine fr_gmc ?_); (try (conv => arg 1; simp [Graph.cells, Instr.cells, w1, w2, hC, hD, hA, hB, hN])); (with_reducible refine at_mk ?_); (with_reducible first | refine gm_bool ?_ | refine gm_gv ?_); refine ⟨_, _, _, (by intro hc; first | ((try simp only [Bool.and_eq_true] at hc); (try (conv => lhs; simp [hc, Graph.cells, Instr.cells, w1, w2, hC, hD, hA, hB, hN])); first | done | exact rfl) | ((try simp [gq] at hc); (try (conv => lhs; simp [gq, hc, Graph.cells, Instr.cells, w1, w2, hC, hD, hA, hB, hN])); first | done | exact rfl)), H, (by intro hc; (try simp at hc); (repeat' (first | exact DRs.nil | refine DRs.cons ?_ ?_ | exact .int _ _ | exact .bool _ | exact .str _ | exact .nilsl | exact .nilp | exact dr_ints (by simp) _ | exact dr_intss (by simp) _ | refine dr_agg ?_ | refine dr_fn ?_ | refine dr_tptr' (by simp) ?_ | assumption | exact dr_strs_sl (l := sgl) (by simp [sgl])))), ?_⟩)
                | ((with_reducible refine st_gmv ?_); (try (conv => arg 1; simp [Graph.cells, Instr.cells, w1, w2, hC, hD, hA, hB, hN])); (with_reducible refine at_mk ?_); (with_reducible first | refine gm_bool ?_ | refine gm_gv ?_); refine ⟨_, _, _, _, _, (by intro hc; first | ((try simp only [Bool.and_eq_true] at hc); (try (conv => lhs; simp [hc, Graph.cells, Instr.cells, w1, w2, hC, hD, hA, hB, hN])); first | done | exact rfl) | ((try simp [gq] at hc); (try (conv => lhs; simp [gq, hc, Graph.cells, Instr.cells, w1, w2, hC, hD, hA, hB, hN])); first | done | exact rfl)), (by intro hc; first | ((try simp only [Bool.and_eq_true] at hc); (try (conv => lhs; simp [hc, Graph.cells, Instr.cells, w1, w2, hC, hD, hA, hB, hN])); first | done | exact rfl) | ((try simp [gq] at hc); (try (conv => lhs; simp [gq, hc, Graph.cells, Instr.cells, w1, w2, hC, hD, hA, hB, hN])); first | done | exact rfl)), rfl, H, (by intro hc; (try simp at hc); (repeat' (first | exact DRs.nil | refine DRs.cons ?_ ?_ | exact .int _ _ | exact .bool _ | exact .str _ | exact .nilsl | exact .nilp | exact dr_ints (by simp) _ | exact dr_intss (by simp) _ | refine dr_agg ?_ | refine dr_fn ?_ | refine dr_tptr' (by simp) ?_ | assumption | exact dr_strs_sl (l := sgl) (by simp [sgl])))), ?_⟩)
                | ((with_reducible refine st_m rfl ?_); (try (conv => arg 1; simp [Graph.cells, Instr.cells, w1, w2, hC, hD, hA, hB, hN])); (with_reducible refine ev2_some ?_))
                | ((with_reducible refine fr_n rfl ?_); (try (conv => arg 1; simp [Graph.cells, Instr.cells, w1, w2, hC, hD, hA, hB, hN])); (with_reducible refine evn_some ?_))
                | ((with_reducible first | refine st_cv ?_ | refine fr_cv ?_); (try (conv => arg 1; simp [Graph.cells, Instr.cells, w1, w2, hC, hD, hA, hB, hN])); (with_reducible refine at_mk ?_); (with_reducible refine fn_mk ?_); (try (conv => arg 1; simp [Graph.cells, Instr.cells, w1, w2, hC, hD, hA, hB, hN])); (with_reducible refine at_mk ?_))
                | ((with_reducible refine fr_a ?_); (try (conv => arg 1; simp [Graph.cells, Instr.cells, w1, w2, hC, hD, hA, hB, hN])); (with_reducible refine at_mk ?_); (try (conv => arg 1; simp [Graph.cells, Instr.cells, w1, w2, hC, hD, hA, hB, hN])); (with_reducible refine at_mk ?_); refine ⟨?names, ?_⟩; (case names => (simp [appNames, ints, intss] <;> first | kernel_rfl | (refine ⟨?_, ?_⟩ <;> kernel_rfl))); (try (conv => arg 1; simp [Graph.cells, Instr.cells, w1, w2, hC, hD, hA, hB, hN])); (with_reducible refine ev2_some ?_))
                | ((with_reducible first | refine st_q ?_ | refine fr_q ?_ | refine st_res ?_); (try (conv => arg 1; simp [Graph.cells, Instr.cells, w1, w2, hC, hD, hA, hB, hN])); (with_reducible refine ev_some ?_))
                | ((with_reducible refine st_if ?_); (try (conv => arg 1; simp [Graph.cells, Instr.cells, w1, w2, hC, hD, hA, hB, hN])); (with_reducible refine at_mk ?_); with_reducible first | refine br_t ?_ | refine br_f ?_)
                | ((with_reducible refine ct_id ?_); refine st_tree rfl (l01In _ _ _) (by (repeat' (first | exact DRs.nil | refine DRs.cons ?_ ?_ | exact .int _ _ | exact .bool _ | exact .str _ | exact .nilsl | exact .nilp | exact dr_ints (by simp) _ | exact dr_intss (by simp) _ | refine dr_agg ?_ | refine dr_fn ?_ | refine dr_tptr' (by simp) ?_ | assumption | exact dr_strs_sl (l := sgl) (by simp [sgl])))) ?_)
                | ((with_reducible refine tw_id ?_); refine treeW_pure (l01In _ _ _) (by (repeat' (first | exact DRs.nil | refine DRs.cons ?_ ?_ | exact .int _ _ | exact .bool _ | exact .str _ | exact .nilsl | exact .nilp | exact dr_ints (by simp) _ | exact dr_intss (by simp) _ | refine dr_agg ?_ | refine dr_fn ?_ | refine dr_tptr' (by simp) ?_ | assumption | exact dr_strs_sl (l := sgl) (by simp [sgl])))) ?_)
                | ((with_reducible refine ct_id ?_); refine st_tree rfl (H) (by (repeat' (first | exact DRs.nil | refine DRs.cons ?_ ?_ | exact .int _ _ | exact .bool _ | exact .str _ | exact .nilsl | exact .nilp | exact dr_ints (by simp) _ | exact dr_intss (by simp) _ | refine dr_agg ?_ | refine dr_fn ?_ | refine dr_tptr' (by simp) ?_ | assumption | exact dr_strs_sl (l := sgl) (by simp [sgl])))) ?_)
                | ((with_reducible refine tw_id ?_); refine treeW_pure (H) (by (repeat' (first | exact DRs.nil | refine DRs.cons ?_ ?_ | exact .int _ _ | exact .bool _ | exact .str _ | exact .nilsl | exact .nilp | exact dr_ints (by simp) _ | exact dr_intss (by simp) _ | refine dr_agg ?_ | refine dr_fn ?_ | refine dr_tptr' (by simp) ?_ | assumption | exact dr_strs_sl (l := sgl) (by simp [sgl])))) ?_))
              repeat' (first | (with_reducible first | refine stp ?_ | refine k_blk_o rfl ?_ | refine k_seq_n ?_) | ((try (conv => arg 1; simp [Graph.cells, Instr.cells, w1, w2, hC, hD, hA, hB, hN, rg6])); with_reducible refine evp ?_) | ((with_reducible refine tcl ?_); first | ((apply tg (l01In _ _ _)); (case e => rfl); (case d => (refine dq ?_); (repeat' (first | ((refine Da.mk ?_); first | exact dr_strs_sl (l := sgl) (by simp [sgl]) | assumption) | constructor)))) | ((apply tg (H)); (case e => rfl); (case d => (refine dq ?_); (repeat' (first | ((refine Da.mk ?_); first | exact dr_strs_sl (l := sgl) (by simp [sgl]) | assumption) | constructor))))) | fail)
              all_goals exact dr_bool (by simp [hN, hC])
            · skip
              repeat' (first
                | (with_reducible first | refine st_seq ?_ | refine st_reg ?_ | refine st_block ?_ | refine st_nil ?_ | refine st_skip ?_ | refine st_ret ?_ | refine st_exit ?_ | refine fr_nil ?_ | refine k_seq_n ?_ | refine k_seq_r ?_ | refine k_seq_e ?_ | refine k_blk_n ?_ | refine k_blk_r ?_ | refine k_blk_s ?_ | refine k_blk_o rfl ?_ | refine k_fn_r ?_ | refine k_fn_n ?_ | refine k_lp_r ?_ | refine k_lp_e ?_)
                | ((with_reducible first | refine st_move ?_ | refine st_asg ?_ | refine st_c ?_ | refine fr_c ?_); (try (conv => arg 1; simp [Graph.cells, Instr.cells, w1, w2, hC, hD, hA, hB, hN])); (with_reducible refine at_mk ?_))
                | ((with_reducible first | refine st_g ?_ | refine fr_g ?_); (try (conv => arg 1; simp [Graph.cells, Instr.cells, w1, w2, hC, hD, hA, hB, hN])); (with_reducible refine at_mk ?_); with_reducible first | refine gd_tt ?_ | refine gd_ff ?_ | refine gd_tf ?_ | refine gd_ft ?_ | refine gd_no ?_)
                | ((with_reducible first | refine st_gm ?_ | refine fr_gm ?_); (try (conv => arg 1; simp [Graph.cells, Instr.cells, w1, w2, hC, hD, hA, hB, hN])); (with_reducible refine at_mk ?_); (with_reducible first | refine gm_bool ?_ | refine gm_gv ?_); refine ⟨_, (by intro hc; first | ((try simp only [Bool.and_eq_true] at hc); (try (conv => lhs; simp [hc, Graph.cells, Instr.cells, w1, w2, hC, hD, hA, hB, hN])); first | done | exact rfl) | ((try simp [gq] at hc); (try (conv => lhs; simp [gq, hc, Graph.cells, Instr.cells, w1, w2, hC, hD, hA, hB, hN])); first | done | exact rfl)), ?_⟩)
                | ((with_reducible refine st_gmc ?_); (try (conv => arg 1; simp [Graph.cells, Instr.cells, w1, w2, hC, hD, hA, hB, hN])); (with_reducible refine at_mk ?_); (with_reducible first | refine gm_bool ?_ | refine gm_gv ?_); refine ⟨_, _, _, (by intro hc; first | ((try simp only [Bool.and_eq_true] at hc); (try (conv => lhs; simp [hc, Graph.cells, Instr.cells, w1, w2, hC, hD, hA, hB, hN])); first | done | exact rfl) | ((try simp [gq] at hc); (try (conv => lhs; simp [gq, hc, Graph.cells, Instr.cells, w1, w2, hC, hD, hA, hB, hN])); first | done | exact rfl)), rfl, l01In _ _ _, (by intro hc; (try simp at hc); (repeat' (first | exact DRs.nil | refine DRs.cons ?_ ?_ | exact .int _ _ | exact .bool _ | exact .str _ | exact .nilsl | exact .nilp | exact dr_ints (by simp) _ | exact dr_intss (by simp) _ | refine dr_agg ?_ | refine dr_fn ?_ | refine dr_tptr' (by simp) ?_ | assumption))), ?_⟩)
                | ((with_reducible refine fr_gmc ?_); (try (conv => arg 1; simp [Graph.cells, Instr.cells, w1, w2, hC, hD, hA, hB, hN])); (with_reducible refine at_mk ?_); (with_reducible first | refine gm_bool ?_ | refine gm_gv ?_); refine ⟨_, _, _, (by intro hc; first | ((try simp only [Bool.and_eq_true] at hc); (try (conv => lhs; simp [hc, Graph.cells, Instr.cells, w1, w2, hC, hD, hA, hB, hN])); first | done | exact rfl) | ((try simp [gq] at hc); (try (conv => lhs; simp [gq, hc, Graph.cells, Instr.cells, w1, w2, hC, hD, hA, hB, hN])); first | done | exact rfl)), l01In _ _ _, (by intro hc; (try simp at hc); (repeat' (first | exact DRs.nil | refine DRs.cons ?_ ?_ | exact .int _ _ | exact .bool _ | exact .str _ | exact .nilsl | exact .nilp | exact dr_ints (by simp) _ | exact dr_intss (by simp) _ | refine dr_agg ?_ | refine dr_fn ?_ | refine dr_tptr' (by simp) ?_ | assumption))), ?_⟩)
                | ((with_reducible refine st_gmv ?_); (try (conv => arg 1; simp [Graph.cells, Instr.cells, w1, w2, hC, hD, hA, hB, hN])); (with_reducible refine at_mk ?_); (with_reducible first | refine gm_bool ?_ | refine gm_gv ?_); refine ⟨_, _, _, _, _, (by intro hc; first | ((try simp only [Bool.and_eq_true] at hc); (try (conv => lhs; simp [hc, Graph.cells, Instr.cells, w1, w2, hC, hD, hA, hB, hN])); first | done | exact rfl) | ((try simp [gq] at hc); (try (conv => lhs; simp [gq, hc, Graph.cells, Instr.cells, w1, w2, hC, hD, hA, hB, hN])); first | done | exact rfl)), (by intro hc; first | ((try simp only [Bool.and_eq_true] at hc); (try (conv => lhs; simp [hc, Graph.cells, Instr.cells, w1, w2, hC, hD, hA, hB, hN])); first | done | exact rfl) | ((try simp [gq] at hc); (try (conv => lhs; simp [gq, hc, Graph.cells, Instr.cells, w1, w2, hC, hD, hA, hB, hN])); first | done | exact rfl)), rfl, l01In _ _ _, (by intro hc; (try simp at hc); (repeat' (first | exact DRs.nil | refine DRs.cons ?_ ?_ | exact .int _ _ | exact .bool _ | exact .str _ | exact .nilsl | exact .nilp | exact dr_ints (by simp) _ | exact dr_intss (by simp) _ | refine dr_agg ?_ | refine dr_fn ?_ | refine dr_tptr' (by simp) ?_ | assumption))), ?_⟩)
                | ((with_reducible refine st_m rfl ?_); (try (conv => arg 1; simp [Graph.cells, Instr.cells, w1, w2, hC, hD, hA, hB, hN])); (with_reducible refine ev2_some ?_))
                | ((with_reducible refine fr_n rfl ?_); (try (conv => arg 1; simp [Graph.cells, Instr.cells, w1, w2, hC, hD, hA, hB, hN])); (with_reducible refine evn_some ?_))
                | ((with_reducible first | refine st_cv ?_ | refine fr_cv ?_); (try (conv => arg 1; simp [Graph.cells, Instr.cells, w1, w2, hC, hD, hA, hB, hN])); (with_reducible refine at_mk ?_); (with_reducible refine fn_mk ?_); (try (conv => arg 1; simp [Graph.cells, Instr.cells, w1, w2, hC, hD, hA, hB, hN])); (with_reducible refine at_mk ?_))
                | ((with_reducible refine fr_a ?_); (try (conv => arg 1; simp [Graph.cells, Instr.cells, w1, w2, hC, hD, hA, hB, hN])); (with_reducible refine at_mk ?_); (try (conv => arg 1; simp [Graph.cells, Instr.cells, w1, w2, hC, hD, hA, hB, hN])); (with_reducible refine at_mk ?_); refine ⟨?names, ?_⟩; (case names => (simp [appNames, ints, intss] <;> first | kernel_rfl | (refine ⟨?_, ?_⟩ <;> kernel_rfl))); (try (conv => arg 1; simp [Graph.cells, Instr.cells, w1, w2, hC, hD, hA, hB, hN])); (with_reducible refine ev2_some ?_))
                | ((with_reducible first | refine st_q ?_ | refine fr_q ?_ | refine st_res ?_); (try (conv => arg 1; simp [Graph.cells, Instr.cells, w1, w2, hC, hD, hA, hB, hN])); (with_reducible refine ev_some ?_))
                | ((with_reducible refine st_if ?_); (try (conv => arg 1; simp [Graph.cells, Instr.cells, w1, w2, hC, hD, hA, hB, hN])); (with_reducible refine at_mk ?_); with_reducible first | refine br_t ?_ | refine br_f ?_)
                | ((with_reducible refine ct_id ?_); refine st_tree rfl (l01In _ _ _) (by (repeat' (first | exact DRs.nil | refine DRs.cons ?_ ?_ | exact .int _ _ | exact .bool _ | exact .str _ | exact .nilsl | exact .nilp | exact dr_ints (by simp) _ | exact dr_intss (by simp) _ | refine dr_agg ?_ | refine dr_fn ?_ | refine dr_tptr' (by simp) ?_ | assumption))) ?_)
                | ((with_reducible refine tw_id ?_); refine treeW_pure (l01In _ _ _) (by (repeat' (first | exact DRs.nil | refine DRs.cons ?_ ?_ | exact .int _ _ | exact .bool _ | exact .str _ | exact .nilsl | exact .nilp | exact dr_ints (by simp) _ | exact dr_intss (by simp) _ | refine dr_agg ?_ | refine dr_fn ?_ | refine dr_tptr' (by simp) ?_ | assumption))) ?_))
              all_goals exact dr_bool (by simp [hN])
    · skip
      repeat' (first
        | (with_reducible first | refine st_seq ?_ | refine st_reg ?_ | refine st_block ?_ | refine st_nil ?_ | refine st_skip ?_ | refine st_ret ?_ | refine st_exit ?_ | refine fr_nil ?_ | refine k_seq_n ?_ | refine k_seq_r ?_ | refine k_seq_e ?_ | refine k_blk_n ?_ | refine k_blk_r ?_ | refine k_blk_s ?_ | refine k_blk_o rfl ?_ | refine k_fn_r ?_ | refine k_fn_n ?_ | refine k_lp_r ?_ | refine k_lp_e ?_)
        | ((with_reducible first | refine st_move ?_ | refine st_asg ?_ | refine st_c ?_ | refine fr_c ?_); (try (conv => arg 1; simp [Graph.cells, Instr.cells, w1, w2, hC])); (with_reducible refine at_mk ?_))
        | ((with_reducible first | refine st_g ?_ | refine fr_g ?_); (try (conv => arg 1; simp [Graph.cells, Instr.cells, w1, w2, hC])); (with_reducible refine at_mk ?_); with_reducible first | refine gd_tt ?_ | refine gd_ff ?_ | refine gd_tf ?_ | refine gd_ft ?_ | refine gd_no ?_)
        | ((with_reducible first | refine st_gm ?_ | refine fr_gm ?_); (try (conv => arg 1; simp [Graph.cells, Instr.cells, w1, w2, hC])); (with_reducible refine at_mk ?_); (with_reducible first | refine gm_bool ?_ | refine gm_gv ?_); refine ⟨_, (by intro hc; first | ((try simp only [Bool.and_eq_true] at hc); (try (conv => lhs; simp [hc, Graph.cells, Instr.cells, w1, w2, hC])); first | done | exact rfl) | ((try simp [gq] at hc); (try (conv => lhs; simp [gq, hc, Graph.cells, Instr.cells, w1, w2, hC])); first | done | exact rfl)), ?_⟩)
        | ((with_reducible refine st_gmc ?_); (try (conv => arg 1; simp [Graph.cells, Instr.cells, w1, w2, hC])); (with_reducible refine at_mk ?_); (with_reducible first | refine gm_bool ?_ | refine gm_gv ?_); refine ⟨_, _, _, (by intro hc; first | ((try simp only [Bool.and_eq_true] at hc); (try (conv => lhs; simp [hc, Graph.cells, Instr.cells, w1, w2, hC])); first | done | exact rfl) | ((try simp [gq] at hc); (try (conv => lhs; simp [gq, hc, Graph.cells, Instr.cells, w1, w2, hC])); first | done | exact rfl)), rfl, l01In _ _ _, (by intro hc; (try simp at hc); (repeat' (first | exact DRs.nil | refine DRs.cons ?_ ?_ | exact .int _ _ | exact .bool _ | exact .str _ | exact .nilsl | exact .nilp | exact dr_ints (by simp) _ | exact dr_intss (by simp) _ | refine dr_agg ?_ | refine dr_fn ?_ | refine dr_tptr' (by simp) ?_ | assumption))), ?_⟩)
        | ((with_reducible refine fr_gmc ?_); (try (conv => arg 1; simp [Graph.cells, Instr.cells, w1, w2, hC])); (with_reducible refine at_mk ?_); (with_reducible first | refine gm_bool ?_ | refine gm_gv ?_); refine ⟨_, _, _, (by intro hc; first | ((try simp only [Bool.and_eq_true] at hc); (try (conv => lhs; simp [hc, Graph.cells, Instr.cells, w1, w2, hC])); first | done | exact rfl) | ((try simp [gq] at hc); (try (conv => lhs; simp [gq, hc, Graph.cells, Instr.cells, w1, w2, hC])); first | done | exact rfl)), l01In _ _ _, (by intro hc; (try simp at hc); (repeat' (first | exact DRs.nil | refine DRs.cons ?_ ?_ | exact .int _ _ | exact .bool _ | exact .str _ | exact .nilsl | exact .nilp | exact dr_ints (by simp) _ | exact dr_intss (by simp) _ | refine dr_agg ?_ | refine dr_fn ?_ | refine dr_tptr' (by simp) ?_ | assumption))), ?_⟩)
        | ((with_reducible refine st_gmv ?_); (try (conv => arg 1; simp [Graph.cells, Instr.cells, w1, w2, hC])); (with_reducible refine at_mk ?_); (with_reducible first | refine gm_bool ?_ | refine gm_gv ?_); refine ⟨_, _, _, _, _, (by intro hc; first | ((try simp only [Bool.and_eq_true] at hc); (try (conv => lhs; simp [hc, Graph.cells, Instr.cells, w1, w2, hC])); first | done | exact rfl) | ((try simp [gq] at hc); (try (conv => lhs; simp [gq, hc, Graph.cells, Instr.cells, w1, w2, hC])); first | done | exact rfl)), (by intro hc; first | ((try simp only [Bool.and_eq_true] at hc); (try (conv => lhs; simp [hc, Graph.cells, Instr.cells, w1, w2, hC])); first | done | exact rfl) | ((try simp [gq] at hc); (try (conv => lhs; simp [gq, hc, Graph.cells, Instr.cells, w1, w2, hC])); first | done | exact rfl)), rfl, l01In _ _ _, (by intro hc; (try simp at hc); (repeat' (first | exact DRs.nil | refine DRs.cons ?_ ?_ | exact .int _ _ | exact .bool _ | exact .str _ | exact .nilsl | exact .nilp | exact dr_ints (by simp) _ | exact dr_intss (by simp) _ | refine dr_agg ?_ | refine dr_fn ?_ | refine dr_tptr' (by simp) ?_ | assumption))), ?_⟩)
        | ((with_reducible refine st_m rfl ?_); (try (conv => arg 1; simp [Graph.cells, Instr.cells, w1, w2, hC])); (with_reducible refine ev2_some ?_))
        | ((with_reducible refine fr_n rfl ?_); (try (conv => arg 1; simp [Graph.cells, Instr.cells, w1, w2, hC])); (with_reducible refine evn_some ?_))
        | ((with_reducible first | refine st_cv ?_ | refine fr_cv ?_); (try (conv => arg 1; simp [Graph.cells, Instr.cells, w1, w2, hC])); (with_reducible refine at_mk ?_); (with_reducible refine fn_mk ?_); (try (conv => arg 1; simp [Graph.cells, Instr.cells, w1, w2, hC])); (with_reducible refine at_mk ?_))
        | ((with_reducible refine fr_a ?_); (try (conv => arg 1; simp [Graph.cells, Instr.cells, w1, w2, hC])); (with_reducible refine at_mk ?_); (try (conv => arg 1; simp [Graph.cells, Instr.cells, w1, w2, hC])); (with_reducible refine at_mk ?_); refine ⟨?names, ?_⟩; (case names => (simp [appNames, ints, intss] <;> first | kernel_rfl | (refine ⟨?_, ?_⟩ <;> kernel_rfl))); (try (conv => arg 1; simp [Graph.cells, Instr.cells, w1, w2, hC])); (with_reducible refine ev2_some ?_))
        | ((with_reducible first | refine st_q ?_ | refine fr_q ?_ | refine st_res ?_); (try (conv => arg 1; simp [Graph.cells, Instr.cells, w1, w2, hC])); (with_reducible refine ev_some ?_))
        | ((with_reducible refine st_if ?_); (try (conv => arg 1; simp [Graph.cells, Instr.cells, w1, w2, hC])); (with_reducible refine at_mk ?_); with_reducible first | refine br_t ?_ | refine br_f ?_)
        | ((with_reducible refine ct_id ?_); refine st_tree rfl (l01In _ _ _) (by (repeat' (first | exact DRs.nil | refine DRs.cons ?_ ?_ | exact .int _ _ | exact .bool _ | exact .str _ | exact .nilsl | exact .nilp | exact dr_ints (by simp) _ | exact dr_intss (by simp) _ | refine dr_agg ?_ | refine dr_fn ?_ | refine dr_tptr' (by simp) ?_ | assumption))) ?_)
        | ((with_reducible refine tw_id ?_); refine treeW_pure (l01In _ _ _) (by (repeat' (first | exact DRs.nil | refine DRs.cons ?_ ?_ | exact .int _ _ | exact .bool _ | exact .str _ | exact .nilsl | exact .nilp | exact dr_ints (by simp) _ | exact dr_intss (by simp) _ | refine dr_agg ?_ | refine dr_fn ?_ | refine dr_tptr' (by simp) ?_ | assumption))) ?_))
      all_goals exact dr_bool (by simp [hC])
  repeat' (first
    | (with_reducible first | refine st_seq ?_ | refine st_reg ?_ | refine st_block ?_ | refine st_nil ?_ | refine st_skip ?_ | refine st_ret ?_ | refine st_exit ?_ | refine fr_nil ?_ | refine k_seq_n ?_ | refine k_seq_r ?_ | refine k_seq_e ?_ | refine k_blk_n ?_ | refine k_blk_r ?_ | refine k_blk_s ?_ | refine k_blk_o rfl ?_ | refine k_fn_r ?_ | refine k_fn_n ?_ | refine k_lp_r ?_ | refine k_lp_e ?_)
    | ((with_reducible first | refine st_move ?_ | refine st_asg ?_ | refine st_c ?_ | refine fr_c ?_); (try (conv => arg 1; simp [Graph.cells, Instr.cells, w1, w2, hO])); (with_reducible refine at_mk ?_))
    | ((with_reducible first | refine st_g ?_ | refine fr_g ?_); (try (conv => arg 1; simp [Graph.cells, Instr.cells, w1, w2, hO])); (with_reducible refine at_mk ?_); with_reducible first | refine gd_tt ?_ | refine gd_ff ?_ | refine gd_tf ?_ | refine gd_ft ?_ | refine gd_no ?_)
    | ((with_reducible first | refine st_gm ?_ | refine fr_gm ?_); (try (conv => arg 1; simp [Graph.cells, Instr.cells, w1, w2, hO])); (with_reducible refine at_mk ?_); (with_reducible first | refine gm_bool ?_ | refine gm_gv ?_); refine ⟨_, (by intro hc; first | ((try simp only [Bool.and_eq_true] at hc); (try (conv => lhs; simp [hc, Graph.cells, Instr.cells, w1, w2, hO])); first | done | exact rfl) | ((try simp [gq] at hc); (try (conv => lhs; simp [gq, hc, Graph.cells, Instr.cells, w1, w2, hO])); first | done | exact rfl)), ?_⟩)
    | ((with_reducible refine st_gmc ?_); (try (conv => arg 1; simp [Graph.cells, Instr.cells, w1, w2, hO])); (with_reducible refine at_mk ?_); (with_reducible first | refine gm_bool ?_ | refine gm_gv ?_); refine ⟨_, _, _, (by intro hc; first | ((try simp only [Bool.and_eq_true] at hc); (try (conv => lhs; simp [hc, Graph.cells, Instr.cells, w1, w2, hO])); first | done | exact rfl) | ((try simp [gq] at hc); (try (conv => lhs; simp [gq, hc, Graph.cells, Instr.cells, w1, w2, hO])); first | done | exact rfl)), rfl, l01In _ _ _, (by intro hc; (try simp at hc); (repeat' (first | exact DRs.nil | refine DRs.cons ?_ ?_ | exact .int _ _ | exact .bool _ | exact .str _ | exact .nilsl | exact .nilp | exact dr_ints (by simp) _ | exact dr_intss (by simp) _ | refine dr_agg ?_ | refine dr_fn ?_ | refine dr_tptr' (by simp) ?_ | assumption))), ?_⟩)
    | ((with_reducible refine fr_gmc ?_); (try (conv => arg 1; simp [Graph.cells, Instr.cells, w1, w2, hO])); (with_reducible refine at_mk ?_); (with_reducible first | refine gm_bool ?_ | refine gm_gv ?_); refine ⟨_, _, _, (by intro hc; first | ((try simp only [Bool.and_eq_true] at hc); (try (conv => lhs; simp [hc, Graph.cells, Instr.cells, w1, w2, hO])); first | done | exact rfl) | ((try simp [gq] at hc); (try (conv => lhs; simp [gq, hc, Graph.cells, Instr.cells, w1, w2, hO])); first | done | exact rfl)), l01In _ _ _, (by intro hc; (try simp at hc); (repeat' (first | exact DRs.nil | refine DRs.cons ?_ ?_ | exact .int _ _ | exact .bool _ | exact .str _ | exact .nilsl | exact .nilp | exact dr_ints (by simp) _ | exact dr_intss (by simp) _ | refine dr_agg ?_ | refine dr_fn ?_ | refine dr_tptr' (by simp) ?_ | assumption))), ?_⟩)
    | ((with_reducible refine st_gmv ?_); (try (conv => arg 1; simp [Graph.cells, Instr.cells, w1, w2, hO])); (with_reducible refine at_mk ?_); (with_reducible first | refine gm_bool ?_ | refine gm_gv ?_); refine ⟨_, _, _, _, _, (by intro hc; first | ((try simp only [Bool.and_eq_true] at hc); (try (conv => lhs; simp [hc, Graph.cells, Instr.cells, w1, w2, hO])); first | done | exact rfl) | ((try simp [gq] at hc); (try (conv => lhs; simp [gq, hc, Graph.cells, Instr.cells, w1, w2, hO])); first | done | exact rfl)), (by intro hc; first | ((try simp only [Bool.and_eq_true] at hc); (try (conv => lhs; simp [hc, Graph.cells, Instr.cells, w1, w2, hO])); first | done | exact rfl) | ((try simp [gq] at hc); (try (conv => lhs; simp [gq, hc, Graph.cells, Instr.cells, w1, w2, hO])); first | done | exact rfl)), rfl, l01In _ _ _, (by intro hc; (try simp at hc); (repeat' (first | exact DRs.nil | refine DRs.cons ?_ ?_ | exact .int _ _ | exact .bool _ | exact .str _ | exact .nilsl | exact .nilp | exact dr_ints (by simp) _ | exact dr_intss (by simp) _ | refine dr_agg ?_ | refine dr_fn ?_ | refine dr_tptr' (by simp) ?_ | assumption))), ?_⟩)
    | ((with_reducible refine st_m rfl ?_); (try (conv => arg 1; simp [Graph.cells, Instr.cells, w1, w2, hO])); (with_reducible refine ev2_some ?_))
    | ((with_reducible refine fr_n rfl ?_); (try (conv => arg 1; simp [Graph.cells, Instr.cells, w1, w2, hO])); (with_reducible refine evn_some ?_))
    | ((with_reducible first | refine st_cv ?_ | refine fr_cv ?_); (try (conv => arg 1; simp [Graph.cells, Instr.cells, w1, w2, hO])); (with_reducible refine at_mk ?_); (with_reducible refine fn_mk ?_); (try (conv => arg 1; simp [Graph.cells, Instr.cells, w1, w2, hO])); (with_reducible refine at_mk ?_))
    | ((with_reducible refine fr_a ?_); (try (conv => arg 1; simp [Graph.cells, Instr.cells, w1, w2, hO])); (with_reducible refine at_mk ?_); (try (conv => arg 1; simp [Graph.cells, Instr.cells, w1, w2, hO])); (with_reducible refine at_mk ?_); refine ⟨?names, ?_⟩; (case names => (simp [appNames, ints, intss] <;> first | kernel_rfl | (refine ⟨?_, ?_⟩ <;> kernel_rfl))); (try (conv => arg 1; simp [Graph.cells, Instr.cells, w1, w2, hO])); (with_reducible refine ev2_some ?_))
    | ((with_reducible first | refine st_q ?_ | refine fr_q ?_ | refine st_res ?_); (try (conv => arg 1; simp [Graph.cells, Instr.cells, w1, w2, hO])); (with_reducible refine ev_some ?_))
    | ((with_reducible refine st_if ?_); (try (conv => arg 1; simp [Graph.cells, Instr.cells, w1, w2, hO])); (with_reducible refine at_mk ?_); with_reducible first | refine br_t ?_ | refine br_f ?_ | (refine br_b (fun hb => ?_) (fun hb => ?_) <;> ((try simp only [Bool.not_eq_eq_eq_not, Bool.not_true, Bool.not_false] at hb); (try simp only [hb]); (try simp at hb))))
    | ((with_reducible refine ct_id ?_); refine st_tree rfl (l01In _ _ _) (by (repeat' (first | exact DRs.nil | refine DRs.cons ?_ ?_ | exact .int _ _ | exact .bool _ | exact .str _ | exact .nilsl | exact .nilp | exact dr_ints (by simp) _ | exact dr_intss (by simp) _ | refine dr_agg ?_ | refine dr_fn ?_ | refine dr_tptr' (by simp) ?_ | assumption))) ?_)
    | ((with_reducible refine tw_id ?_); refine treeW_pure (l01In _ _ _) (by (repeat' (first | exact DRs.nil | refine DRs.cons ?_ ?_ | exact .int _ _ | exact .bool _ | exact .str _ | exact .nilsl | exact .nilp | exact dr_ints (by simp) _ | exact dr_intss (by simp) _ | refine dr_agg ?_ | refine dr_fn ?_ | refine dr_tptr' (by simp) ?_ | assumption))) ?_))
  all_goals refine dr_bool ?_
  all_goals rw [Bool.eq_iff_iff]
  all_goals (try simp_all [instrOk, noT])
  all_goals grind
end Go.Proofs.YtlmlkkkgcbpaoaaGreat.AM

namespace Go.Proofs.YtlmlkkkgcbpaoaaGreat.AM
open Go.RowKit

private def MG10 : FuncId → Mode := fun f => .tree

def idxOf {α : Type} (p : α → Bool) (l : List α) : Int := if l.any p then l.findIdx p else -1
theorem idxOf_hit {α : Type} {p : α → Bool} {l : List α} {i : Nat} (hi : i < l.length) (h : ∀ j (hj : j < l.length), j < i → p l[j] = false) (hp : p l[i] = true) : idxOf p l = i := by
  have h1 : l.any p = true := List.any_eq_true.2 ⟨l[i], List.getElem_mem hi, hp⟩
  have h2 : l.findIdx p = i := (List.findIdx_eq hi).2 ⟨hp, fun j hj => h j (by omega) hj⟩
  simp [idxOf, h1, h2]
theorem idxOf_miss {α : Type} {p : α → Bool} {l : List α} (h : ∀ j (hj : j < l.length), p l[j] = false) : idxOf p l = -1 := by
  have h1 : l.any p = false := by
    rw [List.any_eq_false]
    intro x hx
    obtain ⟨i, hi, rfl⟩ := List.getElem_of_mem hx
    simp [h i hi]
  simp [idxOf, h1]
theorem idxOf_any {α : Type} (p : α → Bool) (l : List α) : decide (0 ≤ idxOf p l) = l.any p := by
  unfold idxOf
  split
  · rename_i h; simp [h]
  · rename_i h; simp at h; simp; exact h

theorem indexFuncW (xs : List Instr) (f : FuncId) (cap : List AV) (p : Instr → Bool) (hp : ∀ w ∈ xs, Pure Tryz.prog f (.agg w.cells :: cap) (.bool (p w))) (hc : ∀ rows, DRs true rows cap cap) (hl : xs.length ≤ 2 ^ 62) :
    Pure Tryz.prog 174 [instrs true xs, .fn f cap] (.int .i64 (idxOf p xs)) := by
  intro T
  refine enter mixed MG10 Tryz.func174 rfl (by kernel_rfl) rfl ?_
  repeat' (first | (with_reducible first | refine stp ?_ | refine k_blk_o rfl ?_ | refine k_seq_n ?_) | ((try (conv => arg 1; simp)); with_reducible refine evp ?_) | fail)
  refine st_loop (fun (i : Nat) σ h => i ≤ xs.length ∧ σ 0 = instrs true xs ∧ σ 1 = .fn f cap ∧ σ 7 = .int .i64 xs.length ∧ σ 8 = .int .i64 i ∧ ∀ j (hj : j < xs.length), j < i → p xs[j] = false) (fun i => xs.length - i) 0 ?init ?step
  case init =>
    simp
  case step =>
    rintro i σ h ⟨hi, h0, h1, h7, h8, hb4⟩
    repeat' (first | (with_reducible first | refine stp ?_ | refine k_blk_o rfl ?_ | refine k_seq_n ?_) | ((try (conv => arg 1; simp [h7, h8])); with_reducible refine evp ?_) | fail)
    (try with_reducible refine st_if ?_)
    (try (conv => arg 1; simp [h7]))
    (try with_reducible refine at_mk ?_)
    refine ⟨fun hb => ?_, fun hb => ?_⟩
    · have hlt : i < xs.length := by simpa using hb
      have hx : xs[i]? = some (xs[i]) := by simp
      have hlen : (xs[i]).cells.length = 7 := rfl
      have hw : IntKind.i64.wrap (i + 1) = i + 1 := wrap_id (by omega) (by omega)
      repeat' (first | (with_reducible first | refine stp ?_ | refine k_blk_o rfl ?_ | refine k_seq_n ?_) | ((try (conv => arg 1; simp [instrs, h0, h1, h7, h8, hx, hlen, Instr.cells])); with_reducible refine evp ?_) | fail)
      refine st_tree rfl (hp xs[i] (List.getElem_mem hlt)) (.cons (dr_agg (drs_instr _)) (hc _)) ?_
      repeat' (first | (with_reducible first | refine stp ?_ | refine k_blk_o rfl ?_ | refine k_seq_n ?_) | ((try (conv => arg 1; simp [h0, h1, h7, h8, hw])); with_reducible refine evp ?_) | fail)
      (try with_reducible refine st_if ?_)
      (try (conv => arg 1; simp [h0]))
      (try with_reducible refine at_mk ?_)
      refine ⟨fun hb => ?_, fun hb => ?_⟩
      · have hpt : p xs[i] = true := by simpa using hb
        repeat' (first | (with_reducible first | refine stp ?_ | refine k_blk_o rfl ?_ | refine k_seq_n ?_) | ((try (conv => arg 1; simp [h8])); with_reducible refine evp ?_) | fail)
        exact dr_int (idxOf_hit hlt hb4 hpt).symm
      · have hpf : p xs[i] = false := by simpa using hb
        repeat' (first | (with_reducible first | refine stp ?_ | refine k_blk_o rfl ?_ | refine k_seq_n ?_) | ((try (conv => arg 1; simp [h0, h1, h7, h8, hw])); with_reducible refine evp ?_) | fail)
        refine k_lp_n (i + 1) (by omega) ⟨by omega, by simp [h0], by simp [h1], by simp [h7], by simp [h8], fun j hj hji => ?_⟩
        by_cases e : j = i
        · subst e; exact hpf
        · exact hb4 j hj (by omega)
    · have hge : i = xs.length := by simp at hb; omega
      repeat' (first | (with_reducible first | refine stp ?_ | refine k_blk_o rfl ?_ | refine k_seq_n ?_) | ((try (conv => arg 1; simp [h0])); with_reducible refine evp ?_) | fail)
      exact dr_int (idxOf_miss fun j hj => hb4 j hj (by omega)).symm

theorem containsFuncW (xs : List Instr) (f : FuncId) (cap : List AV) (p : Instr → Bool) (hp : ∀ w ∈ xs, Pure Tryz.prog f (.agg w.cells :: cap) (.bool (p w))) (hc : ∀ rows, DRs true rows cap cap) (hl : xs.length ≤ 2 ^ 62) :
    Pure Tryz.prog 171 [instrs true xs, .fn f cap] (.bool (xs.any p)) := by
  intro T
  refine enter mixed MG10 Tryz.func171 rfl (by kernel_rfl) rfl ?_
  repeat' (first | (with_reducible first | refine stp ?_ | refine k_blk_o rfl ?_ | refine k_seq_n ?_) | ((try (conv => arg 1; simp)); with_reducible refine evp ?_) | ((with_reducible refine tcl ?_); first | ((apply tg (indexFuncW xs f cap p hp hc hl)); (case e => rfl); (case d => (refine dq ?_); (repeat' (first | ((refine Da.mk ?_); first | exact dr_instrs (by simp) _ | exact hc _ | assumption) | constructor))))) | fail)
  exact dr_bool (idxOf_any _ _)

theorem indexFuncI (xs : List Int) (f : FuncId) (cap : List AV) (p : Int → Bool) (hp : ∀ w ∈ xs, Pure Tryz.prog f (.int .i64 w :: cap) (.bool (p w))) (hc : ∀ rows, DRs true rows cap cap) (hl : xs.length ≤ 2 ^ 62) :
    Pure Tryz.prog 180 [ints true xs, .fn f cap] (.int .i64 (idxOf p xs)) := by
  intro T
  refine enter mixed MG10 Tryz.func180 rfl (by kernel_rfl) rfl ?_
  repeat' (first | (with_reducible first | refine stp ?_ | refine k_blk_o rfl ?_ | refine k_seq_n ?_) | ((try (conv => arg 1; simp)); with_reducible refine evp ?_) | fail)
  refine st_loop (fun (i : Nat) σ h => i ≤ xs.length ∧ σ 0 = ints true xs ∧ σ 1 = .fn f cap ∧ σ 7 = .int .i64 xs.length ∧ σ 8 = .int .i64 i ∧ ∀ j (hj : j < xs.length), j < i → p xs[j] = false) (fun i => xs.length - i) 0 ?init ?step
  case init =>
    simp
  case step =>
    rintro i σ h ⟨hi, h0, h1, h7, h8, hb4⟩
    repeat' (first | (with_reducible first | refine stp ?_ | refine k_blk_o rfl ?_ | refine k_seq_n ?_) | ((try (conv => arg 1; simp [h7, h8])); with_reducible refine evp ?_) | fail)
    (try with_reducible refine st_if ?_)
    (try (conv => arg 1; simp [h7]))
    (try with_reducible refine at_mk ?_)
    refine ⟨fun hb => ?_, fun hb => ?_⟩
    · have hlt : i < xs.length := by simpa using hb
      have hx : xs[i]? = some (xs[i]) := by simp
      have hw : IntKind.i64.wrap (i + 1) = i + 1 := wrap_id (by omega) (by omega)
      repeat' (first | (with_reducible first | refine stp ?_ | refine k_blk_o rfl ?_ | refine k_seq_n ?_) | ((try (conv => arg 1; simp [ints, h0, h1, h7, h8, hx])); with_reducible refine evp ?_) | fail)
      refine st_tree rfl (hp xs[i] (List.getElem_mem hlt)) (.cons (.int _ _) (hc _)) ?_
      repeat' (first | (with_reducible first | refine stp ?_ | refine k_blk_o rfl ?_ | refine k_seq_n ?_) | ((try (conv => arg 1; simp [h0, h1, h7, h8, hw])); with_reducible refine evp ?_) | fail)
      (try with_reducible refine st_if ?_)
      (try (conv => arg 1; simp [h0]))
      (try with_reducible refine at_mk ?_)
      refine ⟨fun hb => ?_, fun hb => ?_⟩
      · have hpt : p xs[i] = true := by simpa using hb
        repeat' (first | (with_reducible first | refine stp ?_ | refine k_blk_o rfl ?_ | refine k_seq_n ?_) | ((try (conv => arg 1; simp [h8])); with_reducible refine evp ?_) | fail)
        exact dr_int (idxOf_hit hlt hb4 hpt).symm
      · have hpf : p xs[i] = false := by simpa using hb
        repeat' (first | (with_reducible first | refine stp ?_ | refine k_blk_o rfl ?_ | refine k_seq_n ?_) | ((try (conv => arg 1; simp [h0, h1, h7, h8, hw])); with_reducible refine evp ?_) | fail)
        refine k_lp_n (i + 1) (by omega) ⟨by omega, by simp [h0], by simp [h1], by simp [h7], by simp [h8], fun j hj hji => ?_⟩
        by_cases e : j = i
        · subst e; exact hpf
        · exact hb4 j hj (by omega)
    · have hge : i = xs.length := by simp at hb; omega
      repeat' (first | (with_reducible first | refine stp ?_ | refine k_blk_o rfl ?_ | refine k_seq_n ?_) | ((try (conv => arg 1; simp [h0])); with_reducible refine evp ?_) | fail)
      exact dr_int (idxOf_miss fun j hj => hb4 j hj (by omega)).symm

theorem containsFuncI (xs : List Int) (f : FuncId) (cap : List AV) (p : Int → Bool) (hp : ∀ w ∈ xs, Pure Tryz.prog f (.int .i64 w :: cap) (.bool (p w))) (hc : ∀ rows, DRs true rows cap cap) (hl : xs.length ≤ 2 ^ 62) :
    Pure Tryz.prog 168 [ints true xs, .fn f cap] (.bool (xs.any p)) := by
  intro T
  refine enter mixed MG10 Tryz.func168 rfl (by kernel_rfl) rfl ?_
  repeat' (first | (with_reducible first | refine stp ?_ | refine k_blk_o rfl ?_ | refine k_seq_n ?_) | ((try (conv => arg 1; simp)); with_reducible refine evp ?_) | ((with_reducible refine tcl ?_); first | ((apply tg (indexFuncI xs f cap p hp hc hl)); (case e => rfl); (case d => (refine dq ?_); (repeat' (first | ((refine Da.mk ?_); first | exact hc _ | assumption) | constructor))))) | fail)
  exact dr_bool (idxOf_any _ _)

theorem indexS (l : List ByteArray) (s : ByteArray) (hl : l.length ≤ 2 ^ 62) : Pure Tryz.prog 207 [strs true l, .str s] (.int .i64 (idxOf (fun x => s.toList == x.toList) l)) := by
  intro T
  refine enter mixed MG10 Tryz.func207 rfl (by kernel_rfl) rfl ?_
  repeat' (first | (with_reducible first | refine stp ?_ | refine k_blk_o rfl ?_ | refine k_seq_n ?_) | ((try (conv => arg 1; simp [strs])); with_reducible refine evp ?_) | fail)
  refine st_loop (fun (i : Nat) σ h => i ≤ l.length ∧ σ 0 = strs true l ∧ σ 1 = .str s ∧ σ 7 = .int .i64 l.length ∧ σ 8 = .int .i64 i ∧ ∀ j (hj : j < l.length), j < i → (s.toList == l[j].toList) = false) (fun i => l.length - i) 0 ?init ?step
  case init =>
    refine ⟨Nat.zero_le _, by simp [strs], by simp, by simp, by simp, fun j hj h => by omega⟩
  case step =>
    rintro i σ h ⟨hi, h0, h1, h7, h8, hb4⟩
    by_cases hlt : i < l.length
    · have hlt2 : (i : Int) < l.length := by omega
      have hx : l[i]? = some l[i] := by simp
      have hw : IntKind.i64.wrap (i + 1) = i + 1 := wrap_id (by omega) (by omega)
      cases he : (s.toList == l[i].toList) with
      | true =>
        repeat' (first | (with_reducible first | refine stp ?_ | refine k_blk_o rfl ?_ | refine k_seq_n ?_) | ((try (conv => arg 1; simp [strs, h0, h1, h7, h8, hlt2, hx, he])); with_reducible refine evp ?_) | fail)
        exact dr_int (idxOf_hit (p := fun x => s.toList == x.toList) hlt hb4 he).symm
      | false =>
        repeat' (first | (with_reducible first | refine stp ?_ | refine k_blk_o rfl ?_ | refine k_seq_n ?_) | ((try (conv => arg 1; simp [strs, h0, h1, h7, h8, hlt2, hx, he, hw])); with_reducible refine evp ?_) | fail)
        refine k_lp_n (i + 1) (by omega) ⟨by omega, by simp [h0], by simp [h1], by simp [h7], by simp, fun j hj hji => ?_⟩
        by_cases e : j = i
        · subst e; exact he
        · exact hb4 j hj (by omega)
    · have hlt2 : ¬ (i : Int) < l.length := by omega
      repeat' (first | (with_reducible first | refine stp ?_ | refine k_blk_o rfl ?_ | refine k_seq_n ?_) | ((try (conv => arg 1; simp [h7, h8, hlt2])); with_reducible refine evp ?_) | fail)
      exact dr_int (idxOf_miss (p := fun x => s.toList == x.toList) fun j hj => hb4 j hj (by omega)).symm
theorem containsS (l : List ByteArray) (s : ByteArray) (hl : l.length ≤ 2 ^ 62) : Pure Tryz.prog 200 [strs true l, .str s] (.bool (hasS l s)) := by
  intro T
  have I := indexS l s hl
  refine enter mixed MG10 Tryz.func200 rfl (by kernel_rfl) rfl ?_
  repeat' (first | (with_reducible first | refine stp ?_ | refine k_blk_o rfl ?_ | refine k_seq_n ?_) | ((try (conv => arg 1; simp)); with_reducible refine evp ?_) | ((with_reducible refine tcl ?_); first | ((apply tg (I)); (case e => rfl); (case d => (refine dq ?_); (repeat' (first | ((refine Da.mk ?_); first | exact dr_strs (by simp) _ | assumption) | constructor))))) | fail)
  refine dr_bool ?_
  rw [idxOf_any]
  unfold hasS
  congr 1
  funext x
  rw [Bool.eq_iff_iff, beq_iff_eq, beq_iff_eq]
  exact eq_comm
theorem isSign (s : ByteArray) : Pure Tryz.prog 186 [.str s] (.bool (hasS sgl s)) := by
  intro T
  have H := containsS sgl s (by simp [sgl])
  refine enter mixed MG10 Tryz.func186 rfl (by kernel_rfl) rfl ?_
  repeat' (first | (with_reducible first | refine stp ?_ | refine k_blk_o rfl ?_ | refine k_seq_n ?_) | ((try (conv => arg 1; simp [rg6])); with_reducible refine evp ?_) | ((with_reducible refine tcl ?_); first | ((apply tg (H)); (case e => rfl); (case d => (refine dq ?_); (repeat' (first | ((refine Da.mk ?_); first | exact dr_strs_sl (l := sgl) (by simp [sgl]) | assumption) | constructor))))) | fail)
  exact .bool _
theorem isSlot (g : Graph) (s : Int) : Pure Tryz.prog 185 [.int .i64 s, .tptr true (g.cells true)] (.bool (decide (0 ≤ s) && decide (s < g.Slots))) := by
  intro T
  refine enter mixed MG10 Tryz.func185 rfl (by kernel_rfl) rfl ?_
  repeat' (first
    | (with_reducible first | refine st_seq ?_ | refine st_reg ?_ | refine st_block ?_ | refine st_nil ?_ | refine st_skip ?_ | refine st_ret ?_ | refine st_exit ?_ | refine fr_nil ?_ | refine k_seq_n ?_ | refine k_seq_r ?_ | refine k_seq_e ?_ | refine k_blk_n ?_ | refine k_blk_r ?_ | refine k_blk_s ?_ | refine k_blk_o rfl ?_ | refine k_fn_r ?_ | refine k_fn_n ?_ | refine k_lp_r ?_ | refine k_lp_e ?_)
    | ((with_reducible first | refine st_move ?_ | refine st_asg ?_ | refine st_c ?_ | refine fr_c ?_); (try (conv => arg 1; simp [Graph.cells])); (with_reducible refine at_mk ?_))
    | ((with_reducible first | refine st_g ?_ | refine fr_g ?_); (try (conv => arg 1; simp [Graph.cells])); (with_reducible refine at_mk ?_); with_reducible first | refine gd_tt ?_ | refine gd_ff ?_ | refine gd_tf ?_ | refine gd_ft ?_ | refine gd_no ?_)
    | ((with_reducible first | refine st_gm ?_ | refine fr_gm ?_); (try (conv => arg 1; simp [Graph.cells])); (with_reducible refine at_mk ?_); (with_reducible first | refine gm_bool ?_ | refine gm_gv ?_); refine ⟨_, (by intro hc; first | ((try simp only [Bool.and_eq_true] at hc); (try (conv => lhs; simp [hc, Graph.cells])); first | done | exact rfl) | ((try simp [gq] at hc); (try (conv => lhs; simp [gq, hc, Graph.cells])); first | done | exact rfl)), ?_⟩)
    | ((with_reducible refine st_m rfl ?_); (try (conv => arg 1; simp [Graph.cells])); (with_reducible refine ev2_some ?_))
    | ((with_reducible refine fr_n rfl ?_); (try (conv => arg 1; simp [Graph.cells])); (with_reducible refine evn_some ?_))
    | ((with_reducible first | refine st_cv ?_ | refine fr_cv ?_); (try (conv => arg 1; simp [Graph.cells])); (with_reducible refine at_mk ?_); (with_reducible refine fn_mk ?_); (try (conv => arg 1; simp [Graph.cells])); (with_reducible refine at_mk ?_))
    | ((with_reducible refine fr_a ?_); (try (conv => arg 1; simp [Graph.cells])); (with_reducible refine at_mk ?_); (try (conv => arg 1; simp [Graph.cells])); (with_reducible refine at_mk ?_); refine ⟨?names, ?_⟩; (case names => (simp [appNames, ints, intss] <;> first | kernel_rfl | (refine ⟨?_, ?_⟩ <;> kernel_rfl))); (try (conv => arg 1; simp [Graph.cells])); (with_reducible refine ev2_some ?_))
    | ((with_reducible first | refine st_q ?_ | refine fr_q ?_ | refine st_res ?_); (try (conv => arg 1; simp [Graph.cells])); (with_reducible refine ev_some ?_))
    | ((with_reducible refine st_if ?_); (try (conv => arg 1; simp [Graph.cells])); (with_reducible refine at_mk ?_); with_reducible first | refine br_t ?_ | refine br_f ?_))
  exact dr_bool (by simp)
end Go.Proofs.YtlmlkkkgcbpaoaaGreat.AM

namespace Go.Proofs.YtlmlkkkgcbpaoaaGreat.AM
open Go.RowKit

private def MG11 : FuncId → Mode := fun f => .tree

theorem eqC_i {ks : List PK} {xs ys : List AV} {r : Bool} {k : IntKind} {a b : Int} (h : eqCells ks xs ys = some r) : eqCells (.i :: ks) (.int k a :: xs) (.int k b :: ys) = some (decide (a = b) && r) := by
  unfold eqCells
  by_cases e : a = b <;> simp [e, h]
theorem eqI (a1 a2 a3 a4 a5 a6 b1 b2 b3 b4 b5 b6 : Int) (s t : ByteArray) : eqCells [.i, .i, .i, .i, .i, .i, .s] [.int .i64 a1, .int .i64 a2, .int .i64 a3, .int .i64 a4, .int .i64 a5, .int .i64 a6, .str s] [.int .i64 b1, .int .i64 b2, .int .i64 b3, .int .i64 b4, .int .i64 b5, .int .i64 b6, .str t] =
    some (decide (a1 = b1) && (decide (a2 = b2) && (decide (a3 = b3) && (decide (a4 = b4) && (decide (a5 = b5) && (decide (a6 = b6) && (decide (s.toList = t.toList) && true))))))) := by
  refine eqC_i (eqC_i (eqC_i (eqC_i (eqC_i (eqC_i ?_)))))
  unfold eqCells
  by_cases e : s.toList = t.toList <;> simp [e, eqCells]
theorem et0 : ByteArray.empty.toList = [] := by kernel_rfl
theorem et1 : (ByteArray.mk #[]).toList = [] := by kernel_rfl

set_option maxHeartbeats 8000000 in
theorem isInstr (g : Graph) (x : Instr) (hs : 0 ≤ g.Slots ∧ g.Slots ≤ 1000) (hr : g.Sizes.length ≤ 2 ^ 20) : Pure Tryz.prog 173 [.agg (g.cells true), .agg x.cells] (.bool (instrOk g.Slots g.Sizes.length x)) := by
  intro T
  obtain ⟨Op, D, A, B, C, N, Text⟩ := x
  obtain ⟨Sizes, Params, Vars, Slots, Blocks⟩ := g
  simp only at hs hr
  have w2 : IntKind.i64.wrap ((Sizes.length : Int) - 1) = (Sizes.length : Int) - 1 := wrap_id (by omega) (by omega)
  have S := isSlot ⟨Sizes, Params, Vars, Slots, Blocks⟩
  have e := isSign Text
  have hnil : True := trivial
  refine enter mixed MG11 Tryz.func173 rfl (by kernel_rfl) rfl ?_
  repeat' (first | (with_reducible first | refine stp ?_ | refine k_blk_o rfl ?_) | ((try (conv => arg 1; simp [Graph.cells, Instr.cells])); with_reducible refine evp ?_) | fail)
  refine k_seq_n ?_
  repeat' (first | (with_reducible first | refine stp ?_ | refine k_blk_o rfl ?_ | refine k_seq_n ?_) | ((try (conv => arg 1; simp [Graph.cells, Instr.cells, w2])); with_reducible refine evp ?_) | ((with_reducible refine tcl ?_); first | ((apply tg (in_ _ _ _)); (case e => rfl); (case d => (refine dq ?_); (repeat' (first | ((refine Da.mk ?_); first | assumption) | constructor))))) | fail)
  repeat (with_reducible first | refine stp ?_ | refine k_seq_n ?_)
  refine st_lz (by kernel_rfl) ?_
  repeat' (first | (with_reducible first | refine stp ?_ | refine k_blk_o rfl ?_) | ((try (conv => arg 1; simp [Graph.cells, Instr.cells, w2])); with_reducible refine evp ?_) | ((with_reducible refine la_id ?_); refine la_end rfl ?_; (repeat (first | refine pl_nil ?_ | refine pl_cons ?_))) | ((with_reducible refine la_id ?_); refine la_pick ?_; (conv => arg 1; whnf); (repeat ((fail_if_success (first | ((refine la_q0 rfl ?_); (try (conv => arg 1; simp [Graph.cells, Instr.cells, w2])); with_reducible refine evp ?_) | ((refine la_n rfl rfl ?_); (try (conv => arg 1; simp [Graph.cells, Instr.cells, w2])); with_reducible refine evp ?_) | ((refine la_q2 rfl (by decide +kernel) ?_); (repeat (first | refine bk_nil ?_ | refine bk_t (by decide +kernel) ?_ | refine bk_f (by decide +kernel) ?_)); (try (conv => arg 1; simp [Graph.cells, Instr.cells, w2])); with_reducible refine evp ?_) | ((refine la_q1 rfl (by decide +kernel) ?_); (try (conv => arg 1; simp [Graph.cells, Instr.cells, w2])); with_reducible refine evp ?_) | ((refine la_g0 rfl ?_); (try (conv => arg 1; simp [Graph.cells, Instr.cells, w2])); with_reducible refine evp ?_; (with_reducible refine evp ?_); try ((try (conv => arg 1; simp [Graph.cells, Instr.cells, w2])); with_reducible refine evp ?_)))); (refine la_there ?_); (conv => arg 1; whnf))); first | ((refine la_q0 rfl ?_); (try (conv => arg 1; simp [Graph.cells, Instr.cells, w2])); with_reducible refine evp ?_) | ((refine la_n rfl rfl ?_); (try (conv => arg 1; simp [Graph.cells, Instr.cells, w2])); with_reducible refine evp ?_) | ((refine la_q2 rfl (by decide +kernel) ?_); (repeat (first | refine bk_nil ?_ | refine bk_t (by decide +kernel) ?_ | refine bk_f (by decide +kernel) ?_)); (try (conv => arg 1; simp [Graph.cells, Instr.cells, w2])); with_reducible refine evp ?_) | ((refine la_q1 rfl (by decide +kernel) ?_); (try (conv => arg 1; simp [Graph.cells, Instr.cells, w2])); with_reducible refine evp ?_) | ((refine la_g0 rfl ?_); (try (conv => arg 1; simp [Graph.cells, Instr.cells, w2])); with_reducible refine evp ?_; (with_reducible refine evp ?_); try ((try (conv => arg 1; simp [Graph.cells, Instr.cells, w2])); with_reducible refine evp ?_))) | ((with_reducible refine la_id ?_); refine la_all rfl ?_) | ((with_reducible refine all_id ?_); (conv => arg 1; whnf); first | exact all_nil | refine all_cons ?_ ?_) | (refine la_op rfl (by first | exact frm_s (by decide +kernel) | exact frm_a (by repeat' (first | exact fa_nil | refine fa_cons (by decide +kernel) ?_))) (by intro hq; first | exact trivial | (cases hq; done) | simp [appT, Graph.cells, Instr.cells, w2]) ?_; (repeat (first | refine bk_nil ?_ | refine bk_t (by decide +kernel) ?_ | refine bk_f (by decide +kernel) ?_))) | fail)
  repeat' (first
    | (with_reducible first | refine st_seq ?_ | refine st_reg ?_ | refine st_block ?_ | refine st_nil ?_ | refine st_skip ?_ | refine st_ret ?_ | refine st_exit ?_ | refine fr_nil ?_ | refine k_seq_n ?_ | refine k_seq_r ?_ | refine k_seq_e ?_ | refine k_blk_n ?_ | refine k_blk_r ?_ | refine k_blk_s ?_ | refine k_blk_o rfl ?_ | refine k_fn_r ?_ | refine k_fn_n ?_ | refine k_lp_r ?_ | refine k_lp_e ?_)
    | ((with_reducible first | refine st_move ?_ | refine st_asg ?_ | refine st_c ?_ | refine fr_c ?_); (try (conv => arg 1; simp [Graph.cells, Instr.cells, w2, eqI, et0, et1])); (with_reducible refine at_mk ?_))
    | ((with_reducible first | refine st_g ?_ | refine fr_g ?_); (try (conv => arg 1; simp [Graph.cells, Instr.cells, w2, eqI, et0, et1])); (with_reducible refine at_mk ?_); with_reducible first | refine gd_tt ?_ | refine gd_ff ?_ | refine gd_tf ?_ | refine gd_ft ?_ | refine gd_no ?_)
    | ((with_reducible first | refine st_gm ?_ | refine fr_gm ?_); (try (conv => arg 1; simp [Graph.cells, Instr.cells, w2, eqI, et0, et1])); (with_reducible refine at_mk ?_); (with_reducible first | refine gm_bool ?_ | refine gm_gv ?_); refine ⟨_, (by intro hc; first | ((try simp only [Bool.and_eq_true] at hc); (try (conv => lhs; simp [hc, Graph.cells, Instr.cells, w2, eqI, et0, et1])); first | done | exact rfl) | ((try simp [gq] at hc); (try (conv => lhs; simp [gq, hc, Graph.cells, Instr.cells, w2, eqI, et0, et1])); first | done | exact rfl)), ?_⟩)
    | ((with_reducible refine st_gmc ?_); (try (conv => arg 1; simp [Graph.cells, Instr.cells, w2, eqI, et0, et1])); (with_reducible refine at_mk ?_); (with_reducible first | refine gm_bool ?_ | refine gm_gv ?_); refine ⟨_, _, _, (by intro hc; first | ((try simp only [Bool.and_eq_true] at hc); (try (conv => lhs; simp [hc, Graph.cells, Instr.cells, w2, eqI, et0, et1])); first | done | exact rfl) | ((try simp [gq] at hc); (try (conv => lhs; simp [gq, hc, Graph.cells, Instr.cells, w2, eqI, et0, et1])); first | done | exact rfl)), rfl, S _, (by intro hc; (try simp at hc); (repeat' (first | exact DRs.nil | refine DRs.cons ?_ ?_ | exact .int _ _ | exact .bool _ | exact .str _ | exact .nilsl | exact .nilp | exact dr_ints (by simp) _ | exact dr_intss (by simp) _ | refine dr_agg ?_ | refine dr_fn ?_ | refine dr_tptr' (by simp) ?_ | assumption | exact dr_ptr0 (r := ⟨0, 5, [Graph.cells true ⟨Sizes, Params, Vars, Slots, Blocks⟩]⟩) (by simp [Graph.cells]) rfl rfl (drs_graph (by simp) _)))), ?_⟩)
    | ((with_reducible refine fr_gmc ?_); (try (conv => arg 1; simp [Graph.cells, Instr.cells, w2, eqI, et0, et1])); (with_reducible refine at_mk ?_); (with_reducible first | refine gm_bool ?_ | refine gm_gv ?_); refine ⟨_, _, _, (by intro hc; first | ((try simp only [Bool.and_eq_true] at hc); (try (conv => lhs; simp [hc, Graph.cells, Instr.cells, w2, eqI, et0, et1])); first | done | exact rfl) | ((try simp [gq] at hc); (try (conv => lhs; simp [gq, hc, Graph.cells, Instr.cells, w2, eqI, et0, et1])); first | done | exact rfl)), S _, (by intro hc; (try simp at hc); (repeat' (first | exact DRs.nil | refine DRs.cons ?_ ?_ | exact .int _ _ | exact .bool _ | exact .str _ | exact .nilsl | exact .nilp | exact dr_ints (by simp) _ | exact dr_intss (by simp) _ | refine dr_agg ?_ | refine dr_fn ?_ | refine dr_tptr' (by simp) ?_ | assumption | exact dr_ptr0 (r := ⟨0, 5, [Graph.cells true ⟨Sizes, Params, Vars, Slots, Blocks⟩]⟩) (by simp [Graph.cells]) rfl rfl (drs_graph (by simp) _)))), ?_⟩)
    | ((with_reducible refine st_gmv ?_); (try (conv => arg 1; simp [Graph.cells, Instr.cells, w2, eqI, et0, et1])); (with_reducible refine at_mk ?_); (with_reducible first | refine gm_bool ?_ | refine gm_gv ?_); refine ⟨_, _, _, _, _, (by intro hc; first | ((try simp only [Bool.and_eq_true] at hc); (try (conv => lhs; simp [hc, Graph.cells, Instr.cells, w2, eqI, et0, et1])); first | done | exact rfl) | ((try simp [gq] at hc); (try (conv => lhs; simp [gq, hc, Graph.cells, Instr.cells, w2, eqI, et0, et1])); first | done | exact rfl)), (by intro hc; first | ((try simp only [Bool.and_eq_true] at hc); (try (conv => lhs; simp [hc, Graph.cells, Instr.cells, w2, eqI, et0, et1])); first | done | exact rfl) | ((try simp [gq] at hc); (try (conv => lhs; simp [gq, hc, Graph.cells, Instr.cells, w2, eqI, et0, et1])); first | done | exact rfl)), rfl, S _, (by intro hc; (try simp at hc); (repeat' (first | exact DRs.nil | refine DRs.cons ?_ ?_ | exact .int _ _ | exact .bool _ | exact .str _ | exact .nilsl | exact .nilp | exact dr_ints (by simp) _ | exact dr_intss (by simp) _ | refine dr_agg ?_ | refine dr_fn ?_ | refine dr_tptr' (by simp) ?_ | assumption | exact dr_ptr0 (r := ⟨0, 5, [Graph.cells true ⟨Sizes, Params, Vars, Slots, Blocks⟩]⟩) (by simp [Graph.cells]) rfl rfl (drs_graph (by simp) _)))), ?_⟩)
    | ((with_reducible refine st_gmc ?_); (try (conv => arg 1; simp [Graph.cells, Instr.cells, w2, eqI, et0, et1])); (with_reducible refine at_mk ?_); (with_reducible first | refine gm_bool ?_ | refine gm_gv ?_); refine ⟨_, _, _, (by intro hc; first | ((try simp only [Bool.and_eq_true] at hc); (try (conv => lhs; simp [hc, Graph.cells, Instr.cells, w2, eqI, et0, et1])); first | done | exact rfl) | ((try simp [gq] at hc); (try (conv => lhs; simp [gq, hc, Graph.cells, Instr.cells, w2, eqI, et0, et1])); first | done | exact rfl)), rfl, e, (by intro hc; (try simp at hc); (repeat' (first | exact DRs.nil | refine DRs.cons ?_ ?_ | exact .int _ _ | exact .bool _ | exact .str _ | exact .nilsl | exact .nilp | exact dr_ints (by simp) _ | exact dr_intss (by simp) _ | refine dr_agg ?_ | refine dr_fn ?_ | refine dr_tptr' (by simp) ?_ | assumption | exact dr_ptr0 (r := ⟨0, 5, [Graph.cells true ⟨Sizes, Params, Vars, Slots, Blocks⟩]⟩) (by simp [Graph.cells]) rfl rfl (drs_graph (by simp) _)))), ?_⟩)
    | ((with_reducible refine fr_gmc ?_); (try (conv => arg 1; simp [Graph.cells, Instr.cells, w2, eqI, et0, et1])); (with_reducible refine at_mk ?_); (with_reducible first | refine gm_bool ?_ | refine gm_gv ?_); refine ⟨_, _, _, (by intro hc; first | ((try simp only [Bool.and_eq_true] at hc); (try (conv => lhs; simp [hc, Graph.cells, Instr.cells, w2, eqI, et0, et1])); first | done | exact rfl) | ((try simp [gq] at hc); (try (conv => lhs; simp [gq, hc, Graph.cells, Instr.cells, w2, eqI, et0, et1])); first | done | exact rfl)), e, (by intro hc; (try simp at hc); (repeat' (first | exact DRs.nil | refine DRs.cons ?_ ?_ | exact .int _ _ | exact .bool _ | exact .str _ | exact .nilsl | exact .nilp | exact dr_ints (by simp) _ | exact dr_intss (by simp) _ | refine dr_agg ?_ | refine dr_fn ?_ | refine dr_tptr' (by simp) ?_ | assumption | exact dr_ptr0 (r := ⟨0, 5, [Graph.cells true ⟨Sizes, Params, Vars, Slots, Blocks⟩]⟩) (by simp [Graph.cells]) rfl rfl (drs_graph (by simp) _)))), ?_⟩)
    | ((with_reducible refine st_gmv ?_); (try (conv => arg 1; simp [Graph.cells, Instr.cells, w2, eqI, et0, et1])); (with_reducible refine at_mk ?_); (with_reducible first | refine gm_bool ?_ | refine gm_gv ?_); refine ⟨_, _, _, _, _, (by intro hc; first | ((try simp only [Bool.and_eq_true] at hc); (try (conv => lhs; simp [hc, Graph.cells, Instr.cells, w2, eqI, et0, et1])); first | done | exact rfl) | ((try simp [gq] at hc); (try (conv => lhs; simp [gq, hc, Graph.cells, Instr.cells, w2, eqI, et0, et1])); first | done | exact rfl)), (by intro hc; first | ((try simp only [Bool.and_eq_true] at hc); (try (conv => lhs; simp [hc, Graph.cells, Instr.cells, w2, eqI, et0, et1])); first | done | exact rfl) | ((try simp [gq] at hc); (try (conv => lhs; simp [gq, hc, Graph.cells, Instr.cells, w2, eqI, et0, et1])); first | done | exact rfl)), rfl, e, (by intro hc; (try simp at hc); (repeat' (first | exact DRs.nil | refine DRs.cons ?_ ?_ | exact .int _ _ | exact .bool _ | exact .str _ | exact .nilsl | exact .nilp | exact dr_ints (by simp) _ | exact dr_intss (by simp) _ | refine dr_agg ?_ | refine dr_fn ?_ | refine dr_tptr' (by simp) ?_ | assumption | exact dr_ptr0 (r := ⟨0, 5, [Graph.cells true ⟨Sizes, Params, Vars, Slots, Blocks⟩]⟩) (by simp [Graph.cells]) rfl rfl (drs_graph (by simp) _)))), ?_⟩)
    | ((with_reducible refine st_m rfl ?_); (try (conv => arg 1; simp [Graph.cells, Instr.cells, w2, eqI, et0, et1])); (with_reducible refine ev2_some ?_))
    | ((with_reducible refine fr_n rfl ?_); (try (conv => arg 1; simp [Graph.cells, Instr.cells, w2, eqI, et0, et1])); (with_reducible refine evn_some ?_))
    | ((with_reducible first | refine st_cv ?_ | refine fr_cv ?_); (try (conv => arg 1; simp [Graph.cells, Instr.cells, w2, eqI, et0, et1])); (with_reducible refine at_mk ?_); (with_reducible refine fn_mk ?_); (try (conv => arg 1; simp [Graph.cells, Instr.cells, w2, eqI, et0, et1])); (with_reducible refine at_mk ?_))
    | ((with_reducible refine fr_a ?_); (try (conv => arg 1; simp [Graph.cells, Instr.cells, w2, eqI, et0, et1])); (with_reducible refine at_mk ?_); (try (conv => arg 1; simp [Graph.cells, Instr.cells, w2, eqI, et0, et1])); (with_reducible refine at_mk ?_); refine ⟨?names, ?_⟩; (case names => (simp [appNames, ints, intss] <;> first | kernel_rfl | (refine ⟨?_, ?_⟩ <;> kernel_rfl))); (try (conv => arg 1; simp [Graph.cells, Instr.cells, w2, eqI, et0, et1])); (with_reducible refine ev2_some ?_))
    | ((with_reducible first | refine st_q ?_ | refine fr_q ?_ | refine st_res ?_); (try (conv => arg 1; simp [Graph.cells, Instr.cells, w2, eqI, et0, et1])); (with_reducible refine ev_some ?_))
    | ((with_reducible refine st_if ?_); (try (conv => arg 1; simp [Graph.cells, Instr.cells, w2, eqI, et0, et1])); (with_reducible refine at_mk ?_); with_reducible first | refine br_t ?_ | refine br_f ?_ | (refine br_b (fun hb => ?_) (fun hb => ?_) <;> ((try simp only [Bool.not_eq_eq_eq_not, Bool.not_true, Bool.not_false] at hb); (try simp only [hb]); (try simp at hb))))
    | ((with_reducible refine ct_id ?_); refine st_tree rfl (S _) (by (repeat' (first | exact DRs.nil | refine DRs.cons ?_ ?_ | exact .int _ _ | exact .bool _ | exact .str _ | exact .nilsl | exact .nilp | exact dr_ints (by simp) _ | exact dr_intss (by simp) _ | refine dr_agg ?_ | refine dr_fn ?_ | refine dr_tptr' (by simp) ?_ | assumption | exact dr_ptr0 (r := ⟨0, 5, [Graph.cells true ⟨Sizes, Params, Vars, Slots, Blocks⟩]⟩) (by simp [Graph.cells]) rfl rfl (drs_graph (by simp) _)))) ?_)
    | ((with_reducible refine tw_id ?_); refine treeW_pure (S _) (by (repeat' (first | exact DRs.nil | refine DRs.cons ?_ ?_ | exact .int _ _ | exact .bool _ | exact .str _ | exact .nilsl | exact .nilp | exact dr_ints (by simp) _ | exact dr_intss (by simp) _ | refine dr_agg ?_ | refine dr_fn ?_ | refine dr_tptr' (by simp) ?_ | assumption | exact dr_ptr0 (r := ⟨0, 5, [Graph.cells true ⟨Sizes, Params, Vars, Slots, Blocks⟩]⟩) (by simp [Graph.cells]) rfl rfl (drs_graph (by simp) _)))) ?_)
    | ((with_reducible refine ct_id ?_); refine st_tree rfl (e) (by (repeat' (first | exact DRs.nil | refine DRs.cons ?_ ?_ | exact .int _ _ | exact .bool _ | exact .str _ | exact .nilsl | exact .nilp | exact dr_ints (by simp) _ | exact dr_intss (by simp) _ | refine dr_agg ?_ | refine dr_fn ?_ | refine dr_tptr' (by simp) ?_ | assumption | exact dr_ptr0 (r := ⟨0, 5, [Graph.cells true ⟨Sizes, Params, Vars, Slots, Blocks⟩]⟩) (by simp [Graph.cells]) rfl rfl (drs_graph (by simp) _)))) ?_)
    | ((with_reducible refine tw_id ?_); refine treeW_pure (e) (by (repeat' (first | exact DRs.nil | refine DRs.cons ?_ ?_ | exact .int _ _ | exact .bool _ | exact .str _ | exact .nilsl | exact .nilp | exact dr_ints (by simp) _ | exact dr_intss (by simp) _ | refine dr_agg ?_ | refine dr_fn ?_ | refine dr_tptr' (by simp) ?_ | assumption | exact dr_ptr0 (r := ⟨0, 5, [Graph.cells true ⟨Sizes, Params, Vars, Slots, Blocks⟩]⟩) (by simp [Graph.cells]) rfl rfl (drs_graph (by simp) _)))) ?_))
  all_goals refine dr_bool ?_
  all_goals rw [Bool.eq_iff_iff]
  all_goals (try simp_all [instrOk, noT, inB])
  all_goals grind
end Go.Proofs.YtlmlkkkgcbpaoaaGreat.AM

namespace Go.Proofs.YtlmlkkkgcbpaoaaGreat.AM
open Go.RowKit

private def MG1 : FuncId → Mode := fun f => .tree

theorem szInstr (x : Instr) (left : Int) (h1 : 0 ≤ left) (h2 : left ≤ 2 ^ 20) (hm : x.Text.size ≤ maxLen) : Pure Tryz.prog 139 [.agg x.cells, .int .i64 left] (.int .i64 (if left < wtI x then -1 else left - wtI x)) := by
  intro T
  obtain ⟨Op, D, A, B, C, N, Text⟩ := x
  have hw : IntKind.i64.wrap (left - Text.size) = left - Text.size := wrap_id (by simp [maxLen] at hm; omega) (by omega)
  refine enter mixed MG1 Tryz.func139 rfl (by kernel_rfl) rfl ?_
  repeat' (first | (with_reducible first | refine stp ?_ | refine k_blk_o rfl ?_ | refine k_seq_n ?_) | ((try (conv => arg 1; simp [Instr.cells, hw])); with_reducible refine evp ?_) | ((with_reducible first | refine gd_b (fun hb => ?_) (fun hb => ?_) | refine br_b (fun hb => ?_) (fun hb => ?_)) <;> ((try simp only [Bool.not_eq_eq_eq_not, Bool.not_true, Bool.not_false] at hb); (try simp only [hb]); (try simp at hb))) | fail)
  · exact dr_int (by rw [if_pos (show left < ((wtI ⟨Op, D, A, B, C, N, Text⟩ : Nat) : Int) by simp only [wtI]; omega)])
  · exact dr_int (by rw [if_neg (show ¬ left < ((wtI ⟨Op, D, A, B, C, N, Text⟩ : Nat) : Int) by simp only [wtI]; omega)]; rfl)

theorem szInstrS (xs : List Instr) (left : Int) (h1 : 0 ≤ left) (h2 : left ≤ 2 ^ 20) (hm : xs.length ≤ maxLen) (hm2 : ∀ x ∈ xs, x.Text.size ≤ maxLen) : Pure Tryz.prog 86 [instrs true xs, .int .i64 left] (.int .i64 (if left < wtIS xs then -1 else left - wtIS xs)) := by
  intro T
  have hw : IntKind.i64.wrap (left - xs.length) = left - xs.length := wrap_id (by simp [maxLen] at hm; omega) (by omega)
  refine enter mixed MG1 Tryz.func86 rfl (by kernel_rfl) rfl ?_
  repeat' (first | (with_reducible first | refine stp ?_ | refine k_blk_o rfl ?_ | refine k_seq_n ?_) | ((try (conv => arg 1; simp [instrs, hw])); with_reducible refine evp ?_) | fail)
  (try with_reducible refine st_if ?_)
  (try (conv => arg 1; simp [instrs]))
  (try with_reducible refine at_mk ?_)
  refine ⟨fun hb => ?_, fun hb => ?_⟩
  · have : left < wtIS xs := by simp at hb; simp [wtIS]; omega
    repeat' (first | (with_reducible first | refine stp ?_ | refine k_blk_o rfl ?_ | refine k_seq_n ?_) | ((try (conv => arg 1; simp [instrs])); with_reducible refine evp ?_) | fail)
    rw [if_pos this]; exact .int _ _
  have hle : (xs.length : Int) ≤ left := by simp at hb; omega
  repeat' (first | (with_reducible first | refine stp ?_ | refine k_blk_o rfl ?_ | refine k_seq_n ?_) | ((try (conv => arg 1; simp [instrs])); with_reducible refine evp ?_) | fail)
  refine st_loop (fun (i : Nat) σ h => i ≤ xs.length ∧ σ 0 = instrs true xs ∧ σ 1 = .int .i64 (left - xs.length - gsum wtI xs i) ∧ σ 5 = .int .i64 i ∧ xs.length + gsum wtI xs i ≤ left) (fun i => xs.length - i) 0 ?init ?step
  case init =>
    simp [gsum_zero]
    exact hle
  case step =>
    rintro i σ h ⟨hi, h0, h1', h5, hs⟩
    repeat' (first | (with_reducible first | refine stp ?_ | refine k_blk_o rfl ?_ | refine k_seq_n ?_) | ((try (conv => arg 1; simp [instrs, h0, h5])); with_reducible refine evp ?_) | fail)
    (try with_reducible refine st_if ?_)
    (try (conv => arg 1; simp [instrs]))
    (try with_reducible refine at_mk ?_)
    refine ⟨fun hb => ?_, fun hb => ?_⟩
    · have hlt : i < xs.length := by simpa using hb
      have hx : xs[i]? = some (xs[i]) := by simp
      have hw2 : IntKind.i64.wrap (i + 1) = i + 1 := wrap_id (by omega) (by simp [maxLen] at hm; omega)
      have hlen : (xs[i]).cells.length = 7 := rfl
      repeat' (first | (with_reducible first | refine stp ?_ | refine k_blk_o rfl ?_ | refine k_seq_n ?_) | ((try (conv => arg 1; simp [instrs, h0, h1', h5, hx, hlen])); with_reducible refine evp ?_) | fail)
      refine st_tree rfl (szInstr xs[i] _ (by omega) (by omega) (hm2 _ (List.getElem_mem hlt))) (.cons (dr_agg (drs_instr _)) (.cons (.int _ _) .nil)) ?_
      repeat' (first | (with_reducible first | refine stp ?_ | refine k_blk_o rfl ?_ | refine k_seq_n ?_) | ((try (conv => arg 1; simp [h0])); with_reducible refine evp ?_) | fail)
      (try with_reducible refine st_if ?_)
      (try (conv => arg 1; simp [h0]))
      (try with_reducible refine at_mk ?_)
      refine ⟨fun hb => ?_, fun hb => ?_⟩
      · have hlt2 : left < wtIS xs := by
          have a1 := gsum_succ wtI xs i hlt
          have a2 := gsum_le wtI xs (i + 1)
          simp only [wtIS]
          simp at hb
          split at hb <;> omega
        repeat' (first | (with_reducible first | refine stp ?_ | refine k_blk_o rfl ?_ | refine k_seq_n ?_) | ((try (conv => arg 1; simp [h0])); with_reducible refine evp ?_) | fail)
        rw [if_pos hlt2]; exact .int _ _
      · have hge : ¬ (left - xs.length - gsum wtI xs i < (wtI xs[i] : Nat)) := by
          intro hh
          rw [if_pos hh] at hb
          simp at hb
        repeat' (first | (with_reducible first | refine stp ?_ | refine k_blk_o rfl ?_ | refine k_seq_n ?_) | ((try (conv => arg 1; simp [h0, h5, hw2])); with_reducible refine evp ?_) | fail)
        refine k_lp_n (i + 1) (by omega) ⟨by omega, by simp [h0], ?_, by simp [h5], ?_⟩
        · rw [gsum_succ wtI xs i hlt]
          simp [if_neg hge]
          omega
        · rw [gsum_succ wtI xs i hlt]
          omega
    · have hge : i = xs.length := by simp at hb; omega
      subst hge
      have : ¬ left < wtIS xs := by simp only [wtIS]; omega
      repeat' (first | (with_reducible first | refine stp ?_ | refine k_blk_o rfl ?_ | refine k_seq_n ?_) | ((try (conv => arg 1; simp [h0, h1'])); with_reducible refine evp ?_) | fail)
      rw [if_neg this]
      have e : left - xs.length - (gsum wtI xs xs.length : Nat) = left - (wtIS xs : Nat) := by simp only [wtIS]; omega
      simp only [resV]
      rw [e]
      exact .int _ _

theorem szBlock (x : Block) (left : Int) (h1 : 0 ≤ left) (h2 : left ≤ 2 ^ 20) (hm : x.Code.length ≤ maxLen) (hm2 : ∀ y ∈ x.Code, y.Text.size ≤ maxLen) : Pure Tryz.prog 48 [.agg (x.cells true), .int .i64 left] (.int .i64 (if left < wtB x then -1 else left - wtB x)) := by
  intro T
  obtain ⟨Code, Jump, A, To, Else⟩ := x
  refine enter mixed MG1 Tryz.func48 rfl (by kernel_rfl) rfl ?_
  by_cases hb : left < wtIS Code
  · skip
    repeat' (first | (with_reducible first | refine stp ?_ | refine k_blk_o rfl ?_ | refine k_seq_n ?_) | ((try (conv => arg 1; simp [Block.cells, hb])); with_reducible refine evp ?_) | ((with_reducible refine tcl ?_); first | ((apply tg (szInstrS Code left h1 h2 hm hm2)); (case e => rfl); (case d => (refine dq ?_); (repeat' (first | ((refine Da.mk ?_); first | exact dr_instrs (by simp) _ | assumption) | constructor))))) | fail)
    exact dr_int (by simp [wtB, hb])
  · have hn : ¬ left - (wtIS Code : Nat) < 0 := by omega
    repeat' (first | (with_reducible first | refine stp ?_ | refine k_blk_o rfl ?_ | refine k_seq_n ?_) | ((try (conv => arg 1; simp [Block.cells, hb, hn])); with_reducible refine evp ?_) | ((with_reducible refine tcl ?_); first | ((apply tg (szInstrS Code left h1 h2 hm hm2)); (case e => rfl); (case d => (refine dq ?_); (repeat' (first | ((refine Da.mk ?_); first | exact dr_instrs (by simp) _ | assumption) | constructor))))) | fail)
    exact dr_int (by simp [wtB, hb])

theorem szBlockS (xs : List Block) (left : Int) (h1 : 0 ≤ left) (h2 : left ≤ 2 ^ 20) (hm : xs.length ≤ maxLen) (hm2 : ∀ x ∈ xs, x.Code.length ≤ maxLen ∧ ∀ y ∈ x.Code, y.Text.size ≤ maxLen) : Pure Tryz.prog 21 [blocks true xs, .int .i64 left] (.int .i64 (if left < wtBS xs then -1 else left - wtBS xs)) := by
  intro T
  have hw : IntKind.i64.wrap (left - xs.length) = left - xs.length := wrap_id (by simp [maxLen] at hm; omega) (by omega)
  refine enter mixed MG1 Tryz.func21 rfl (by kernel_rfl) rfl ?_
  repeat' (first | (with_reducible first | refine stp ?_ | refine k_blk_o rfl ?_ | refine k_seq_n ?_) | ((try (conv => arg 1; simp [blocks, hw])); with_reducible refine evp ?_) | fail)
  (try with_reducible refine st_if ?_)
  (try (conv => arg 1; simp [blocks]))
  (try with_reducible refine at_mk ?_)
  refine ⟨fun hb => ?_, fun hb => ?_⟩
  · have : left < wtBS xs := by simp at hb; simp [wtBS]; omega
    repeat' (first | (with_reducible first | refine stp ?_ | refine k_blk_o rfl ?_ | refine k_seq_n ?_) | ((try (conv => arg 1; simp [blocks])); with_reducible refine evp ?_) | fail)
    rw [if_pos this]; exact .int _ _
  have hle : (xs.length : Int) ≤ left := by simp at hb; omega
  repeat' (first | (with_reducible first | refine stp ?_ | refine k_blk_o rfl ?_ | refine k_seq_n ?_) | ((try (conv => arg 1; simp [blocks])); with_reducible refine evp ?_) | fail)
  refine st_loop (fun (i : Nat) σ h => i ≤ xs.length ∧ σ 0 = blocks true xs ∧ σ 1 = .int .i64 (left - xs.length - gsum wtB xs i) ∧ σ 5 = .int .i64 i ∧ xs.length + gsum wtB xs i ≤ left) (fun i => xs.length - i) 0 ?init ?step
  case init =>
    simp [gsum_zero]
    exact hle
  case step =>
    rintro i σ h ⟨hi, h0, h1', h5, hs⟩
    repeat' (first | (with_reducible first | refine stp ?_ | refine k_blk_o rfl ?_ | refine k_seq_n ?_) | ((try (conv => arg 1; simp [blocks, h0, h5])); with_reducible refine evp ?_) | fail)
    (try with_reducible refine st_if ?_)
    (try (conv => arg 1; simp [blocks]))
    (try with_reducible refine at_mk ?_)
    refine ⟨fun hb => ?_, fun hb => ?_⟩
    · have hlt : i < xs.length := by simpa using hb
      have hx : xs[i]? = some (xs[i]) := by simp
      have hw2 : IntKind.i64.wrap (i + 1) = i + 1 := wrap_id (by omega) (by simp [maxLen] at hm; omega)
      have hlen : ((xs[i]).cells true).length = 5 := rfl
      repeat' (first | (with_reducible first | refine stp ?_ | refine k_blk_o rfl ?_ | refine k_seq_n ?_) | ((try (conv => arg 1; simp [blocks, h0, h1', h5, hx, hlen])); with_reducible refine evp ?_) | fail)
      refine st_tree rfl (szBlock xs[i] _ (by omega) (by omega) (hm2 _ (List.getElem_mem hlt)).1 (hm2 _ (List.getElem_mem hlt)).2) (.cons (dr_agg (drs_block (fun h => h) _)) (.cons (.int _ _) .nil)) ?_
      repeat' (first | (with_reducible first | refine stp ?_ | refine k_blk_o rfl ?_ | refine k_seq_n ?_) | ((try (conv => arg 1; simp [h0])); with_reducible refine evp ?_) | fail)
      (try with_reducible refine st_if ?_)
      (try (conv => arg 1; simp [h0]))
      (try with_reducible refine at_mk ?_)
      refine ⟨fun hb => ?_, fun hb => ?_⟩
      · have hlt2 : left < wtBS xs := by
          have a1 := gsum_succ wtB xs i hlt
          have a2 := gsum_le wtB xs (i + 1)
          simp only [wtBS]
          simp at hb
          split at hb <;> omega
        repeat' (first | (with_reducible first | refine stp ?_ | refine k_blk_o rfl ?_ | refine k_seq_n ?_) | ((try (conv => arg 1; simp [h0])); with_reducible refine evp ?_) | fail)
        rw [if_pos hlt2]; exact .int _ _
      · have hge : ¬ (left - xs.length - gsum wtB xs i < (wtB xs[i] : Nat)) := by
          intro hh
          rw [if_pos hh] at hb
          simp at hb
        repeat' (first | (with_reducible first | refine stp ?_ | refine k_blk_o rfl ?_ | refine k_seq_n ?_) | ((try (conv => arg 1; simp [h0, h5, hw2])); with_reducible refine evp ?_) | fail)
        refine k_lp_n (i + 1) (by omega) ⟨by omega, by simp [h0], ?_, by simp [h5], ?_⟩
        · rw [gsum_succ wtB xs i hlt]
          simp [if_neg hge]
          omega
        · rw [gsum_succ wtB xs i hlt]
          omega
    · have hge : i = xs.length := by simp at hb; omega
      subst hge
      have : ¬ left < wtBS xs := by simp only [wtBS]; omega
      repeat' (first | (with_reducible first | refine stp ?_ | refine k_blk_o rfl ?_ | refine k_seq_n ?_) | ((try (conv => arg 1; simp [h0, h1'])); with_reducible refine evp ?_) | fail)
      rw [if_neg this]
      have e : left - xs.length - (gsum wtB xs xs.length : Nat) = left - (wtBS xs : Nat) := by simp only [wtBS]; omega
      simp only [resV]
      rw [e]
      exact .int _ _

structure Graph.Small (g : Graph) : Prop where
  sizes : g.Sizes.length ≤ 2 ^ 20
  blocks : wtBS g.Blocks ≤ 2 ^ 20
structure Graph.Data (g : Graph) : Prop where
  sizes : g.Sizes.length ≤ maxLen
  blocks : g.Blocks.length ≤ maxLen
  code : ∀ b ∈ g.Blocks, b.Code.length ≤ maxLen ∧ ∀ y ∈ b.Code, y.Text.size ≤ maxLen

theorem szGraph (g : Graph) (left : Int) (l0 : 0 ≤ left) (l1 : left ≤ 2 ^ 20) (d : g.Data) :
    ∃ r : Int, Pure Tryz.prog 6 [.agg (g.cells true), .int .i64 left] (.int .i64 r) ∧ (r < 0 ∨ (g.Small ∧ 0 ≤ r ∧ r ≤ left)) := by
  have m1 := d.sizes
  have m2 := d.blocks
  have m3 := d.code
  by_cases h1 : left < (g.Sizes.length : Int)
  · refine ⟨-1, ?_, .inl (by omega)⟩
    intro T
    refine enter mixed MG1 Tryz.func6 rfl (by kernel_rfl) rfl ?_
    repeat' (first | (with_reducible first | refine stp ?_ | refine k_blk_o rfl ?_ | refine k_seq_n ?_) | ((try (conv => arg 1; simp [Graph.cells, h1])); with_reducible refine evp ?_) | ((with_reducible refine tcl ?_); first | ((apply tg (szIntS g.Sizes left l0 l1 m1)); (case e => rfl); (case d => (refine dq ?_); (repeat' (first | ((refine Da.mk ?_); first | assumption) | constructor))))) | fail)
    exact .int _ _
  by_cases h2 : left - (g.Sizes.length : Int) < (wtBS g.Blocks : Nat)
  · refine ⟨-1, ?_, .inl (by omega)⟩
    intro T
    have e1 : ¬ left - (g.Sizes.length : Int) < 0 := by omega
    refine enter mixed MG1 Tryz.func6 rfl (by kernel_rfl) rfl ?_
    repeat' (first | (with_reducible first | refine stp ?_ | refine k_blk_o rfl ?_ | refine k_seq_n ?_) | ((try (conv => arg 1; simp [Graph.cells, h1, e1, h2])); with_reducible refine evp ?_) | ((with_reducible refine tcl ?_); first | ((apply tg (szIntS g.Sizes left l0 l1 m1)); (case e => rfl); (case d => (refine dq ?_); (repeat' (first | ((refine Da.mk ?_); first | exact dr_blocks (by simp) _ | assumption) | constructor)))) | ((apply tg (szBlockS g.Blocks (left - (g.Sizes.length : Int)) (by omega) (by omega) m2 m3)); (case e => rfl); (case d => (refine dq ?_); (repeat' (first | ((refine Da.mk ?_); first | exact dr_blocks (by simp) _ | assumption) | constructor))))) | fail)
    exact .int _ _
  refine ⟨left - (g.Sizes.length : Int) - (wtBS g.Blocks : Nat), ?_, .inr ⟨⟨by omega, by omega⟩, by omega, by omega⟩⟩
  intro T
  have e1 : ¬ left - (g.Sizes.length : Int) < 0 := by omega
  have e2 : ¬ left - (g.Sizes.length : Int) - (wtBS g.Blocks : Nat) < 0 := by omega
  refine enter mixed MG1 Tryz.func6 rfl (by kernel_rfl) rfl ?_
  repeat' (first | (with_reducible first | refine stp ?_ | refine k_blk_o rfl ?_ | refine k_seq_n ?_) | ((try (conv => arg 1; simp [Graph.cells, h1, e1, h2, e2])); with_reducible refine evp ?_) | ((with_reducible refine tcl ?_); first | ((apply tg (szIntS g.Sizes left l0 l1 m1)); (case e => rfl); (case d => (refine dq ?_); (repeat' (first | ((refine Da.mk ?_); first | exact dr_blocks (by simp) _ | assumption) | constructor)))) | ((apply tg (szBlockS g.Blocks (left - (g.Sizes.length : Int)) (by omega) (by omega) m2 m3)); (case e => rfl); (case d => (refine dq ?_); (repeat' (first | ((refine Da.mk ?_); first | exact dr_blocks (by simp) _ | assumption) | constructor))))) | fail)
  exact .int _ _
end Go.Proofs.YtlmlkkkgcbpaoaaGreat.AM

namespace Go.Proofs.YtlmlkkkgcbpaoaaGreat.AM
open Go.RowKit

private def MG2 : FuncId → Mode := fun f => .tree

theorem toInstr (w : Instr) : Pure Tryz.prog 143 [.agg w.cells] (.agg w.cells) := by
  intro T
  refine enter mixed MG2 Tryz.func143 rfl (by kernel_rfl) rfl ?_
  repeat' (first | (with_reducible first | refine stp ?_ | refine k_blk_o rfl ?_ | refine k_seq_n ?_) | ((try (conv => arg 1; simp [Instr.cells])); with_reducible refine evp ?_) | fail)
  exact dr_agg (drs_instr w)

theorem eqInstr (w : Instr) : Pure Tryz.prog 149 [.agg w.cells, .agg w.cells] (.bool true) := by
  intro T
  refine enter mixed MG2 Tryz.func149 rfl (by kernel_rfl) rfl ?_
  repeat' (first | (with_reducible first | refine stp ?_ | refine k_blk_o rfl ?_ | refine k_seq_n ?_) | ((try (conv => arg 1; simp [Instr.cells])); with_reducible refine evp ?_) | fail)
  exact .bool _

theorem toInstrS (xs : List Instr) (hl : xs.length ≤ 2 ^ 20) : Fresh Tryz.prog 91 [instrs true xs] (fun c => instrs c xs) := by
  intro T
  have hl2 : (xs.length : Int) ≤ 4294967296 := by omega
  refine enter mixed MG2 Tryz.func91 rfl (by kernel_rfl) rfl ?_
  repeat' (first | (with_reducible first | refine stp ?_ | refine k_blk_o rfl ?_ | refine k_seq_n ?_) | ((try (conv => arg 1; simp [instrs, hl2])); with_reducible refine evp ?_) | fail)
  refine st_loop (fun (i : Nat) σ h => i ≤ xs.length ∧ σ 0 = instrs true xs ∧ σ 3 = .sl (T + 1, 2, 0) 0 0 xs.length ∧ σ 4 = .int .i64 i ∧ T + 1 < h.tick ∧ ∃ ys : List Instr, ys.length = xs.length ∧ ys.take i = xs.take i ∧ h.rows (T + 1, 2, 0) = some ⟨0, 7, ys.map Instr.cells⟩) (fun i => xs.length - i) 0 ?init ?step
  case init =>
    simp
    exact ⟨List.replicate xs.length ⟨0, 0, 0, 0, 0, 0, ByteArray.empty⟩, by simp, by simp [Instr.cells]⟩
  case step =>
    rintro i σ h ⟨hi, h0, h3, h4, ht, ys, hy, hyi, hr⟩
    repeat' (first | (with_reducible first | refine stp ?_ | refine k_blk_o rfl ?_ | refine k_seq_n ?_) | ((try (conv => arg 1; simp [instrs, h0, h3, h4, hr])); with_reducible refine evp ?_) | fail)
    (try with_reducible refine st_if ?_)
    (try (conv => arg 1; simp [h0]))
    (try with_reducible refine at_mk ?_)
    refine ⟨fun hb => ?_, fun hb => ?_⟩
    · have hlt : i < xs.length := by simpa using hb
      have hx : xs[i]? = some (xs[i]) := by simp
      have hy2 : ys[i]? = some (ys[i]'(by omega)) := by simp
      have hlen : (xs[i]).cells.length = 7 := rfl
      have hlen2 : (ys[i]'(by omega)).cells.length = 7 := rfl
      have ht2 : T + 1 < h.tick + 1 + 1 := by omega
      have hw : IntKind.i64.wrap (i + 1) = i + 1 := wrap_id (by omega) (by omega)
      repeat' (first | (with_reducible first | refine stp ?_ | refine k_blk_o rfl ?_ | refine k_seq_n ?_) | ((try (conv => arg 1; simp [instrs, h0, h3, h4, hr, hlt, hx, hy2, ht2, hw, hlen, Instr.cells])); with_reducible refine evp ?_) | fail)
      refine st_tree rfl (toInstr xs[i]) (.cons (dr_agg (drs_instr _)) .nil) ?_
      repeat' (first | (with_reducible first | refine stp ?_ | refine k_blk_o rfl ?_ | refine k_seq_n ?_) | ((try (conv => arg 1; simp [h0, h3, h4, hr, hlt, hx, hy2, ht2, hw, hlen, Instr.cells])); with_reducible refine evp ?_) | fail)
      refine k_lp_n (i + 1) (by omega) ⟨by omega, by simp [h0], by simp [h3], by simp [h4], by simp; omega, ys.set i xs[i], by simp [hy], ?_, ?_⟩
      · rw [List.take_add_one, List.take_add_one]
        simp [hyi, hy, hlt, List.take_set_of_le]
      · simp [List.map_set, Instr.cells]
    · have hge : i = xs.length := by simp at hb; omega
      repeat' (first | (with_reducible first | refine stp ?_ | refine k_blk_o rfl ?_ | refine k_seq_n ?_) | ((try (conv => arg 1; simp [h0, h3, h4, hr])); with_reducible refine evp ?_) | fail)
      refine ⟨by simp; omega, [(T + 1, 2, 0)], fun c => .one ?_, by simp, by simp; omega⟩
      simp [resV]
      refine own_row (s := 7) (ys := ys.map Instr.cells) (by simpa using hr) ?_ (by simp) (fun e he => (instrs_flat ys e he).1) (fun e he => (instrs_flat xs e he).2) (clRow_flat fun e he => (instrs_flat ys e he).2)
      subst hge
      rw [← List.map_take, hyi]; simp

theorem eqInstrS (xs : List Instr) (hl : xs.length ≤ 2 ^ 62) : Pure Tryz.prog 99 [instrs true xs, instrs true xs] (.bool true) := by
  intro T
  refine enter mixed MG2 Tryz.func99 rfl (by kernel_rfl) rfl ?_
  repeat' (first | (with_reducible first | refine stp ?_ | refine k_blk_o rfl ?_ | refine k_seq_n ?_) | ((try (conv => arg 1; simp [instrs])); with_reducible refine evp ?_) | fail)
  refine st_loop (fun (i : Nat) σ h => i ≤ xs.length ∧ σ 0 = instrs true xs ∧ σ 1 = instrs true xs ∧ σ 5 = .int .i64 i) (fun i => xs.length - i) 0 ?init ?step
  case init =>
    simp [instrs]
  case step =>
    rintro i σ h ⟨hi, h0, h1, h5⟩
    repeat' (first | (with_reducible first | refine stp ?_ | refine k_blk_o rfl ?_ | refine k_seq_n ?_) | ((try (conv => arg 1; simp [instrs, h0, h5])); with_reducible refine evp ?_) | fail)
    (try with_reducible refine st_if ?_)
    (try (conv => arg 1; simp [instrs]))
    (try with_reducible refine at_mk ?_)
    refine ⟨fun hb => ?_, fun hb => ?_⟩
    · have hlt : i < xs.length := by simpa using hb
      have hx : xs[i]? = some (xs[i]) := by simp
      have hlen : (xs[i]).cells.length = 7 := rfl
      have hw : IntKind.i64.wrap (i + 1) = i + 1 := wrap_id (by omega) (by omega)
      repeat' (first | (with_reducible first | refine stp ?_ | refine k_blk_o rfl ?_ | refine k_seq_n ?_) | ((try (conv => arg 1; simp [instrs])); with_reducible refine evp ?_) | fail)
      repeat (with_reducible first | refine stp ?_ | refine k_seq_n ?_)
      refine st_draw 10 (fun _ => false) (by kernel_rfl) ?_
      simp only [List.take_succ_cons, List.take_zero, List.drop_succ_cons, List.drop_zero, List.take_nil, List.drop_nil]
      repeat' (first | (with_reducible first | refine stp ?_ | refine k_blk_o rfl ?_ | refine k_seq_n ?_) | ((try (conv => arg 1; simp [instrs, h0, h1, h5, hx, hlen, Instr.cells])); with_reducible refine evp ?_) | ((with_reducible refine apn ?na ?_); (case na => simp [appNames, ints, intss] <;> first | kernel_rfl | (refine ⟨?_, ?_⟩ <;> kernel_rfl))) | fail)
      refine treeW_pure (eqInstr xs[i]) (.cons (dr_agg (drs_instr _)) (.cons (dr_agg (drs_instr _)) .nil)) ?_
      repeat' (first | (with_reducible first | refine stp ?_ | refine k_blk_o rfl ?_ | refine k_seq_n ?_) | ((try (conv => arg 1; simp [instrs, h0, h1, h5, hx, hw])); with_reducible refine evp ?_) | ((with_reducible refine apn ?na ?_); (case na => simp [appNames, ints, intss] <;> first | kernel_rfl | (refine ⟨?_, ?_⟩ <;> kernel_rfl))) | fail)
      refine k_lp_n (i + 1) (by omega) ⟨by omega, by simp [h0], by simp [h1], by simp [h5]⟩
    · skip
      repeat' (first | (with_reducible first | refine stp ?_ | refine k_blk_o rfl ?_ | refine k_seq_n ?_) | ((try (conv => arg 1; simp [instrs])); with_reducible refine evp ?_) | ((with_reducible refine apn ?na ?_); (case na => simp [appNames, ints, intss] <;> first | kernel_rfl | (refine ⟨?_, ?_⟩ <;> kernel_rfl))) | fail)
      exact .bool true

end Go.Proofs.YtlmlkkkgcbpaoaaGreat.AM

namespace Go.Proofs.YtlmlkkkgcbpaoaaGreat.AM
open Go.RowKit

theorem ownV_agg_inv {rows : Nm → Option Row} {c : Bool} {l ts : List AV} {ns : List Nm} (h : OwnV rows c (.agg l) (.agg ts) ns) : Own rows c l ts ns := by
  cases h with
  | one h => cases h
  | agg h => exact h

theorem own_ints_flat {rows : Nm → Option Row} {c : Bool} : ∀ {xs : List Int} {ts : List AV} {ns : List Nm}, Own rows c (xs.map fun x => [AV.int .i64 x]).flatten ts ns → ns = []
  | [], ts, ns, h => by
    generalize hl : (([] : List Int).map fun x => [AV.int .i64 x]).flatten = l at h
    cases h <;> first | rfl | cases hl
  | x :: xs, ts, ns, h => by
    generalize hl : ((x :: xs).map fun x => [AV.int .i64 x]).flatten = l at h
    simp only [List.map_cons, List.flatten_cons, List.singleton_append] at hl
    cases h with
    | int _ _ h => injection hl with _ hl; subst hl; exact own_ints_flat h
    | _ => cases hl
/-- The names do not hang on the trees. -/
theorem Own.det {rows : Nm → Option Row} {c : Bool} {as1 ts : List AV} {ns : List Nm} (h : Own rows c as1 ts ns) : ∀ {c' : Bool} {ts' : List AV} {ns' : List Nm}, Own rows c' as1 ts' ns' → ns' = ns := by
  induction h with
  | nil => intro c' ts' ns' h'; cases h'; rfl
  | int _ _ _ ih => intro c' ts' ns' h'; cases h' with | int _ _ h' => exact ih h'
  | bool _ _ ih => intro c' ts' ns' h'; cases h' with | bool _ h' => exact ih h'
  | str _ _ ih => intro c' ts' ns' h'; cases h' with | str _ h' => exact ih h'
  | nilsl _ ih => intro c' ts' ns' h'; cases h' with | nilsl h' => exact ih h'
  | @sl as1 ts ns1 ns2 n ver len s r ts' h1 h2 h3 h4 h5 h6 h7 h8 h9 h10 ih1 ih2 =>
    intro c' ts' ns' h'
    generalize hl : AV.sl n ver 0 len :: as1 = l at h'
    cases h' with
    | sl n' ver' len' s' r' ts2 q1 q2 q3 q4 q5 q6 q7 q8 q9 q10 =>
      injection hl with hl e
      injection hl with e1 e2 _ e4
      subst e e1 e2 e4
      rw [h1] at q1
      cases q1
      rw [ih1 q9, ih2 q10]
    | slo n' ver' pre sp xs q1 q2 q3 q4 q5 q6 =>
      injection hl with hl e
      injection hl with e1 e2 e3 e4
      subst e e1 e2 e4
      have hp : pre = [] := List.eq_nil_of_length_eq_zero e3.symm
      subst hp
      rw [h1] at q1
      cases q1
      simp only [List.nil_append] at h9
      rw [List.take_left' (by simp)] at h9
      rw [own_ints_flat h9, ih2 q6]
      rfl
    | _ => cases hl
  | @slo as1 ts ns n ver pre sp xs h1 h2 h3 h4 h5 h6 ih =>
    intro c' ts' ns' h'
    generalize hl : AV.sl n ver pre.length xs.length :: as1 = l at h'
    cases h' with
    | sl n' ver' len' s' r' ts2 q1 q2 q3 q4 q5 q6 q7 q8 q9 q10 =>
      injection hl with hl e
      injection hl with e1 e2 e3 e4
      subst e e1 e2 e4
      have hp : pre = [] := List.eq_nil_of_length_eq_zero e3
      subst hp
      rw [h1] at q1
      cases q1
      simp only [List.nil_append] at q9
      rw [List.take_left' (by simp)] at q9
      rw [own_ints_flat q9, ih q10]
      rfl
    | slo n' ver' pre' sp' xs' q1 q2 q3 q4 q5 q6 =>
      injection hl with hl e
      injection hl with e1 e2 e3 e4
      subst e e1
      rw [ih q6]
    | _ => cases hl

section
variable {h h' : Hp} {bs : Bx} {os : Ox} {k : Nm} {ns ns1 ns2 : List Nm} {s ver : Nat} {w : AV} {es sp : List (List AV)} {ts : Bool → List (List AV)}
/-- What is owned, side by side. -/
theorem Cx.agg_app {l1 l2 : List AV} {t1 t2 : Bool → List AV} (x : Cx h bs ((.agg l2, (fun b => .agg (t2 b)), ns2) :: (.agg l1, (fun b => .agg (t1 b)), ns1) :: os)) : Cx h bs ((.agg (l1 ++ l2), (fun b => .agg (t1 b ++ t2 b)), ns1 ++ ns2) :: os) := by
  refine ⟨x.box, fun y hy b => ?_, ?_, fun m hm => x.lt m ?_⟩
  · simp only [List.mem_cons] at hy
    rcases hy with rfl | hy
    · exact .agg (Own.append (ownV_agg_inv (x.o1 b)) (ownV_agg_inv (x.o0 b)))
    · exact x.own y (by simp [hy]) b
  · have nd := x.nd
    simp only [nms, List.map_cons, List.flatten_cons] at nd ⊢
    refine (List.Perm.nodup_iff ?_).1 nd
    rw [← List.append_assoc ns2 ns1 _]
    exact List.Perm.append_left _ (List.Perm.append_right _ List.perm_append_comm)
  · simp only [nms, List.map_cons, List.flatten_cons, List.mem_append] at hm ⊢
    rcases hm with hm | (hm | hm) | hm
    · exact .inl hm
    · exact .inr (.inr (.inl hm))
    · exact .inr (.inl hm)
    · exact .inr (.inr (.inr hm))
theorem Cx.agg_split {l1 l2 : List AV} {t1 t2 : Bool → List AV} (hl : ∀ b, (t1 b).length = l1.length) (x : Cx h bs ((.agg (l1 ++ l2), (fun b => .agg (t1 b ++ t2 b)), ns) :: os)) : ∃ ns1 ns2, ns = ns1 ++ ns2 ∧ Cx h bs ((.agg l2, (fun b => .agg (t2 b)), ns2) :: (.agg l1, (fun b => .agg (t1 b)), ns1) :: os) := by
  obtain ⟨ns1, ns2, e, o1, o2⟩ := Own.split (ownV_agg_inv (x.o0 true)) (hl true)
  refine ⟨ns1, ns2, e, x.box, fun y hy b => ?_, ?_, fun m hm => x.lt m ?_⟩
  · obtain ⟨ns1', ns2', e', o1', o2'⟩ := Own.split (ownV_agg_inv (x.o0 b)) (hl b)
    simp only [List.mem_cons] at hy
    rcases hy with rfl | rfl | hy
    · rw [o2.det o2'] at o2'; exact .agg o2'
    · rw [o1.det o1'] at o1'; exact .agg o1'
    · exact x.own y (by simp [hy]) b
  · have nd := x.nd
    rw [e] at nd
    simp only [nms, List.map_cons, List.flatten_cons] at nd ⊢
    refine (List.Perm.nodup_iff ?_).1 nd
    rw [← List.append_assoc ns2 ns1 _]
    exact List.Perm.append_left _ (List.Perm.append_right _ List.perm_append_comm)
  · rw [e]
    simp only [nms, List.map_cons, List.flatten_cons, List.mem_append] at hm ⊢
    rcases hm with hm | hm | hm | hm
    · exact .inl hm
    · exact .inr (.inl (.inr hm))
    · exact .inr (.inl (.inl hm))
    · exact .inr (.inr hm)
theorem Cx.agg_mk {t : Bool → AV} (x : Cx h bs ((w, t, ns) :: os)) (ht : ∀ b, (t b).one = true) : Cx h bs ((.agg [w], (fun b => .agg [t b]), ns) :: os) :=
  ⟨x.box, fun y hy b => by
    simp only [List.mem_cons] at hy
    rcases hy with rfl | hy
    · exact .agg (own_of (x.o0 b) (ht b))
    · exact x.own y (by simp [hy]) b, x.nd, x.lt⟩
theorem Cx.close_row (x : Cx h ((k, ⟨ver, s, es ++ sp⟩) :: bs) ((.agg es.flatten, (fun b => .agg (ts b).flatten), ns) :: os)) (h1 : ∀ e ∈ es, e.length = s) (h2 : ∀ b, (ts b).length = es.length) (h3 : ∀ b, ∀ t ∈ ts b, t.length = s) (h4 : ∀ e ∈ sp, e.length = s) (h5 : ClRow ⟨ver, s, sp⟩) :
    Cx h bs ((.sl k ver 0 es.length, (fun b => .tr b (ts b)), k :: (ns ++ [])) :: os) := by
  have hcl : ClRow ⟨ver, s, es ++ sp⟩ := by
    intro i e j y he hy
    simp only at he
    by_cases hi : i < es.length
    · rw [List.getElem?_append_left hi] at he
      have hm : y ∈ es.flatten := List.mem_flatten.2 ⟨e, List.mem_of_getElem? he, List.mem_of_getElem? hy⟩
      obtain ⟨n, hn⟩ := List.mem_iff_getElem?.1 hm
      exact (ownV_agg_inv (x.o0 true)).cl n y hn
    · rw [List.getElem?_append_right (by omega)] at he
      exact h5 _ e j y he hy
  refine ⟨fun y hy => x.box y (by simp [hy]), fun y hy b => ?_, ?_, fun m hm => x.lt m ?_⟩
  · simp only [List.mem_cons] at hy
    rcases hy with rfl | hy
    · refine .one (.sl k ver es.length s _ (ts b) x.b0 rfl rfl hcl (by simp) (fun e he => ?_) (h2 b) (h3 b) ?_ .nil)
      · simp only [List.mem_append] at he
        exact he.elim (h1 e) (h4 e)
      · simpa using ownV_agg_inv (x.o0 b)
    · exact x.own y (by simp [hy]) b
  · have := x.nd
    simp only [nms, List.map_cons, List.flatten_cons, List.append_nil] at this ⊢
    exact (List.Perm.nodup_iff (by simp)).2 this
  · simp only [nms, List.map_cons, List.flatten_cons, List.append_nil, List.mem_append, List.mem_cons] at hm ⊢
    rcases hm with hm | (hm | hm) | hm
    · exact .inl (.inr hm)
    · exact .inl (.inl hm)
    · exact .inr (.inl hm)
    · exact .inr (.inr hm)
theorem Cx.open_row (x : Cx h bs ((w, (fun b => .tr b (ts b)), ns) :: os)) (hs : 1 < s) (h3 : ∀ b, ∀ t ∈ ts b, t.length = s) (hne : ts true ≠ []) :
    ∃ k ver es sp ns1, w = .sl k ver 0 es.length ∧ ns = k :: (ns1 ++ []) ∧ es.length = (ts true).length ∧ (∀ e ∈ es, e.length = s) ∧ (∀ e ∈ sp, e.length = s) ∧ ClRow ⟨ver, s, sp⟩ ∧ Cx h ((k, ⟨ver, s, es ++ sp⟩) :: bs) ((.agg es.flatten, (fun b => .agg (ts b).flatten), ns1) :: os) := by
  have o := own_of (x.o0 true) rfl
  have o' : ∀ b, Own h.rows b [w] [.tr b (ts b)] ns := fun b => own_of (x.o0 b) rfl
  generalize hw : w = w0 at o
  generalize ht : AV.tr true (ts true) = t0 at o
  cases o with
  | int => cases ht
  | bool => cases ht
  | str => cases ht
  | nilsl => injection ht with _ ht; exact absurd ht hne
  | slo n v pre sp xs =>
    exfalso
    injection ht with _ ht
    have hx : xs ≠ [] := fun e => hne (by rw [ht, e]; rfl)
    obtain ⟨a, l, rfl⟩ := List.exists_cons_of_ne_nil hx
    have := h3 true [.int .i64 a] (by rw [ht]; simp)
    simp at this
    omega
  | @sl _ _ ns1 ns2 n v len s' r ts' g1 g2 g3 g4 g5 g6 g7 g8 g9 g10 =>
    cases g10
    injection ht with _ ht
    subst hw ht
    obtain ⟨v', s2, l⟩ := r
    subst g2 g3
    have hss : s2 = s := by
      obtain ⟨a, l', e⟩ := List.exists_cons_of_ne_nil hne
      have a1 := h3 true a (by rw [e]; simp)
      have a2 := g8 a (by rw [e]; simp)
      simp only at a2
      omega
    subst hss
    have g5' : len ≤ l.length := g5
    have hlen : (l.take len).length = len := by simp only [List.length_take]; omega
    refine ⟨n, v', l.take len, l.drop len, ns1, by rw [hlen], rfl, by rw [hlen]; exact g7.symm, fun e he => g6 e (List.mem_of_mem_take he), fun e he => g6 e (List.mem_of_mem_drop he), fun i e j y he hy => ?_, ?_⟩
    · simp only [List.getElem?_drop] at he
      exact g4 _ e j y he hy
    · rw [List.take_append_drop]
      refine ⟨fun y hy => ?_, fun y hy b => ?_, ?_, fun m hm => x.lt m ?_⟩
      · simp only [List.mem_cons] at hy
        rcases hy with rfl | hy
        · exact g1
        · exact x.box y hy
      · simp only [List.mem_cons] at hy
        rcases hy with rfl | hy
        · refine .agg ?_
          have ob := o' b
          generalize ht2 : AV.tr b (ts b) = t2 at ob
          generalize hn2 : n :: (ns1 ++ []) = nn at ob
          generalize hw2 : AV.sl n v' 0 len = w2 at ob
          cases ob with
          | int => cases hw2
          | bool => cases hw2
          | str => cases hw2
          | nilsl => cases hw2
          | slo n2 v2 pre2 sp2 xs2 q1 q2 q3 q4 q5 q6 =>
            exfalso
            injection hw2 with e1 e2 e3 e4
            subst e1
            rw [g1] at q1
            injection q1 with q1
            injection q1 with _ q1 _
            omega
          | @sl _ _ m1 m2 n2 v2 len2 s2' r2 ts2 q1 q2 q3 q4 q5 q6 q7 q8 q9 q10 =>
            cases q10
            injection ht2 with _ ht2
            injection hw2 with e1 e2 e3 e4
            subst ht2 e1 e4
            rw [g1] at q1
            cases q1
            injection hn2 with _ hn2
            simp only [List.append_nil] at hn2
            subst hn2
            exact q9
        · exact x.own y (by simp [hy]) b
      · have := x.nd
        simp only [nms, List.map_cons, List.flatten_cons, List.append_nil] at this ⊢
        exact (List.Perm.nodup_iff (by simp)).1 this
      · simp only [nms, List.map_cons, List.flatten_cons, List.append_nil, List.mem_append, List.mem_cons] at hm ⊢
        rcases hm with (hm | hm) | hm | hm
        · exact .inr (.inl (.inl hm))
        · exact .inl hm
        · exact .inr (.inl (.inr hm))
        · exact .inr (.inr hm)
/-- A row of plain cells. -/
theorem Cx.open_flat {l : List (List AV)} (x : Cx h bs ((w, (fun b => .tr b l), ns) :: os)) (hf : ∀ e ∈ l, e.length = s ∧ ∀ x ∈ e, flatc x = true) (hs : 1 < s) (hne : l ≠ []) :
    ∃ k ver sp, w = .sl k ver 0 l.length ∧ ns = [k] ∧ (∀ e ∈ sp, e.length = s) ∧ ClRow ⟨ver, s, sp⟩ ∧ Cx h ((k, ⟨ver, s, l ++ sp⟩) :: bs) os := by
  rcases own_row_inv hf hs (own_of (x.o0 true) rfl) with ⟨h0, _⟩ | ⟨n, ver, sp, rfl, rfl, hr, h1, h2⟩
  · exact absurd h0 hne
  · refine ⟨n, ver, sp, rfl, rfl, h1, h2, ?_, fun y hy => x.own y (by simp [hy]), ?_, fun m hm => x.lt m ?_⟩
    · intro y hy
      simp only [List.mem_cons] at hy
      rcases hy with rfl | hy
      · exact hr
      · exact x.box y hy
    · have := x.nd
      simp only [nms, List.map_cons, List.flatten_cons] at this ⊢
      exact (List.Perm.nodup_iff (by simp)).1 this
    · simp only [nms, List.map_cons, List.flatten_cons, List.mem_append, List.mem_cons] at hm ⊢
      rcases hm with (rfl | hm) | hm
      · simp
      · exact .inl hm
      · exact .inr (.inr hm)
theorem Cx.close_flat {l : List (List AV)} (x : Cx h ((k, ⟨ver, s, l ++ sp⟩) :: bs) os) (hf : ∀ e ∈ l, e.length = s ∧ ∀ x ∈ e, flatc x = true) (h1 : ∀ e ∈ sp, e.length = s) (h2 : ClRow ⟨ver, s, sp⟩) :
    Cx h bs ((.sl k ver 0 l.length, (fun b => .tr b l), [k]) :: os) := by
  refine ⟨fun y hy => x.box y (by simp [hy]), fun y hy b => ?_, ?_, fun m hm => x.lt m ?_⟩
  · simp only [List.mem_cons] at hy
    rcases hy with rfl | hy
    · exact .one (own_row_mk x.b0 hf h1 h2)
    · exact x.own y (by simp [hy]) b
  · have := x.nd
    simp only [nms, List.map_cons, List.flatten_cons] at this ⊢
    exact (List.Perm.nodup_iff (by simp)).2 this
  · simp only [nms, List.map_cons, List.flatten_cons, List.mem_append, List.mem_cons] at hm ⊢
    rcases hm with hm | (hm | hm) | hm
    · exact .inl (.inr hm)
    · exact .inl (.inl hm)
    · simp at hm
    · exact .inr hm
theorem fin_own {t : Bool → AV} (x : Cx h' bs ((w, t, ns) :: os)) : ∃ ns, (∀ c, OwnV h'.rows c w (t c) ns) ∧ ns.Nodup ∧ ∀ n ∈ ns, n.1 < h'.tick := ⟨ns, x.o0, x.nodup, x.lts⟩
end
end Go.Proofs.YtlmlkkkgcbpaoaaGreat.AM

namespace Go.Proofs.YtlmlkkkgcbpaoaaGreat.AM
open Go.RowKit

private def MG3 : FuncId → Mode := fun f => if f = 91 ∨ f = 54 then .fresh else .tree

theorem wtIS_len {xs : List Instr} : xs.length ≤ wtIS xs := by unfold wtIS; omega
theorem wtBS_len {xs : List Block} : xs.length ≤ wtBS xs := by unfold wtBS; omega
theorem wtBS_mem {xs : List Block} {x : Block} (h : x ∈ xs) : x.Code.length ≤ wtBS xs := by
  have h1 : wtIS x.Code ≤ gsum wtB xs xs.length := gsum_mem wtB xs x h
  have h2 := wtIS_len (xs := x.Code)
  unfold wtBS
  omega
theorem block_len (b : Bool) (x : Block) : (x.cells b).length = 5 := rfl
theorem instr_len (x : Instr) : x.cells.length = 7 := rfl

theorem Cx.block_join {h : Hp} {bs : Bx} {os : Ox} {w : AV} {n : List Nm} {c : Block} (x : Cx h bs ((w, (fun b => instrs b c.Code), n) :: os)) :
    Cx h bs ((.agg [w, .int .i64 c.Jump, .int .i64 c.A, .int .i64 c.To, .int .i64 c.Else], (fun b => .agg (c.cells b)), n) :: os) := by
  refine ⟨x.box, fun y hy b => ?_, x.nd, x.lt⟩
  simp only [List.mem_cons] at hy
  rcases hy with rfl | hy
  · have := Own.append (own_of (x.o0 b) rfl) (.int .i64 c.Jump (.int .i64 c.A (.int .i64 c.To (.int .i64 c.Else .nil))))
    rw [List.append_nil] at this
    exact .agg this
  · exact x.own y (by simp [hy]) b

theorem ownV_block {rows : Nm → Option Row} {b : Bool} {v : AV} {c : Block} {ns : List Nm} (h : OwnV rows b v (.agg (c.cells b)) ns) : ∃ w, v = .agg [w, .int .i64 c.Jump, .int .i64 c.A, .int .i64 c.To, .int .i64 c.Else] ∧ Own rows b [w] [instrs b c.Code] ns := by
  generalize ht : AV.agg (c.cells b) = t at h
  cases h with
  | one h => subst ht; unfold Block.cells at h; cases h
  | tup2 => cases ht
  | @agg l _ _ h =>
    cases ht
    unfold Block.cells at h
    obtain ⟨w, l', n1, n2, rfl, rfl, o1, h⟩ := own_cons1 h
    cases h with
    | int _ _ h => cases h with
      | int _ _ h => cases h with
        | int _ _ h => cases h with
          | int _ _ h => cases h; exact ⟨w, rfl, by simpa using o1⟩

theorem toBlock (x : Block) (hl : x.Code.length ≤ 2 ^ 20) : FreshW Tryz.prog 54 [.agg (x.cells true)] (fun b => .agg (x.cells b)) := by
  intro T
  have hnil : True := trivial
  refine enter mixed MG3 Tryz.func54 rfl (by kernel_rfl) rfl ?_
  repeat' (first | (with_reducible first | refine stp ?_ | refine k_blk_o rfl ?_) | ((try (conv => arg 1; simp [Block.cells])); with_reducible refine evp ?_) | fail)
  refine cx_k ((Cx.mt.next.box_one (T := T) (i := 0) Cx.mt.off (by simp)).box_add (n := (T, 1, 0)) (by simp [nms]) (by simp)) ?_
  intro h1 x1
  repeat' (first | (with_reducible first | refine stp ?_ | refine k_blk_o rfl ?_) | ((try (conv => arg 1; simp [hnil])); with_reducible refine evp ?_) | fail)
  refine cx_k (x1.next.box_one (T := h1.tick) (i := 0) x1.off (by simp)) ?_
  intro h2 x2
  have b2 := x2.bxs
  simp only [Bxs] at b2
  repeat' (first | (with_reducible first | refine stp ?_ | refine k_blk_o rfl ?_ | refine k_seq_n ?_) | ((try (conv => arg 1; simp [b2, nm_ne, ltS])); with_reducible refine evp ?_) | fail)
  refine st_fresh rfl (toInstrS x.Code hl) (.cons (dr_instrs (fun h => h) _) .nil) ?_
  intro v h3 n o d f p t
  have x3 := x2.next.fresh o d f p t
  have q := own_one' (own_of (o true) rfl)
  have b3 := x3.bxs
  simp only [Bxs] at b3
  have hT := x1.l0
  have hT2 : ¬ h1.tick = T := fun e => hT e.symm
  repeat' (first | (with_reducible first | refine stp ?_ | refine k_blk_o rfl ?_ | refine k_seq_n ?_) | ((try (conv => arg 1; simp [b3, q.1, q.2.1, q.2.2, hT, hT2, nm_ne, ltS])); with_reducible refine evp ?_) | fail)
  refine fin_own (os := []) (ns := n) (bs := ?bs) (Cx.block_join (c := x) (w := v) (n := n) ?y)
  case y => exact Cx.to x3

theorem toBlockS (xs : List Block) (hl : xs.length ≤ 2 ^ 20) (hl2 : ∀ x ∈ xs, x.Code.length ≤ 2 ^ 20) : FreshW Tryz.prog 25 [blocks true xs] (fun b => blocks b xs) := by
  intro T
  have hln : (xs.length : Int) ≤ 4294967296 := by omega
  refine enter mixed MG3 Tryz.func25 rfl (by kernel_rfl) rfl ?_
  repeat' (first | (with_reducible first | refine stp ?_ | refine k_blk_o rfl ?_ | refine k_seq_n ?_) | ((try (conv => arg 1; simp [blocks, hln])); with_reducible refine evp ?_) | fail)
  refine st_loop (fun (i : Nat) σ h => i ≤ xs.length ∧ σ 0 = blocks true xs ∧ σ 3 = .sl (T + 1, 2, 0) 0 0 xs.length ∧ σ 4 = .int .i64 i ∧ ∃ es ns, es.length = i ∧ (∀ e ∈ es, e.length = 5) ∧
    Cx h [((T + 1, 2, 0), ⟨0, 5, es ++ List.replicate (xs.length - i) [.nilsl, .int .i64 0, .int .i64 0, .int .i64 0, .int .i64 0]⟩)] [(.agg es.flatten, (fun b => .agg ((xs.take i).map (Block.cells b)).flatten), ns)]) (fun i => xs.length - i) 0 ?init ?step
  case init =>
    refine ⟨Nat.zero_le _, by simp, by simp, by simp, [], [], rfl, by simp, ?_⟩
    have x0 := ((Cx.mt (T := T)).next.next.box_one (T := T + 1) (i := 2) (r := ⟨0, 5, List.replicate xs.length [.nilsl, .int .i64 0, .int .i64 0, .int .i64 0, .int .i64 0]⟩) (Cx.mt (T := T)).next.off (by simp)).agg_nil
    exact Cx.to x0
  case step =>
    rintro i σ h ⟨hi, h0, h3, h4, es, ns, hle, he5, x⟩
    have b := x.bxs
    simp only [Bxs] at b
    by_cases hlt : i < xs.length
    · have hlt2 : (i : Int) < xs.length := by omega
      have hx : xs[i]? = some (xs[i]) := by simp
      have hw : IntKind.i64.wrap (i + 1) = i + 1 := wrap_id (by omega) (by omega)
      have hlen := block_len true xs[i]
      repeat' (first | (with_reducible first | refine stp ?_ | refine k_blk_o rfl ?_ | refine k_seq_n ?_) | ((try (conv => arg 1; simp [blocks, h0, h3, h4, b, hlt2, hx, hlen])); with_reducible refine evp ?_) | fail)
      refine st_freshw rfl (toBlock xs[i] (hl2 _ (List.getElem_mem hlt))) (.cons (dr_agg (drs_block (fun h => h) _)) .nil) ?_
      intro v h' ns' o1 d1 f1 p1 t1
      have y := x.next.next.fresh o1 d1 f1 p1 t1
      obtain ⟨w, rfl, ow⟩ := ownV_block (o1 true)
      have q := own_one' ow
      have b2 := y.bxs
      simp only [Bxs] at b2
      have hel : (es ++ List.replicate (xs.length - i) [AV.nilsl, .int .i64 0, .int .i64 0, .int .i64 0, .int .i64 0])[i]? = some [.nilsl, .int .i64 0, .int .i64 0, .int .i64 0, .int .i64 0] := by
        rw [List.getElem?_append_right (by omega), show xs.length - i = (xs.length - i - 1) + 1 by omega, List.replicate_succ]
        simp [hle]
      repeat' (first | (with_reducible first | refine stp ?_ | refine k_blk_o rfl ?_ | refine k_seq_n ?_) | ((try (conv => arg 1; simp [h3, h4, b2, hlt, hel, q.1, q.2.1, q.2.2, hw, ltS, nm_ne])); with_reducible refine evp ?_) | fail)
      have es2 : (es ++ List.replicate (xs.length - i) [AV.nilsl, .int .i64 0, .int .i64 0, .int .i64 0, .int .i64 0]).set i [w, .int .i64 xs[i].Jump, .int .i64 xs[i].A, .int .i64 xs[i].To, .int .i64 xs[i].Else] =
          (es ++ [[w, .int .i64 xs[i].Jump, .int .i64 xs[i].A, .int .i64 xs[i].To, .int .i64 xs[i].Else]]) ++ List.replicate (xs.length - (i + 1)) [AV.nilsl, .int .i64 0, .int .i64 0, .int .i64 0, .int .i64 0] := by
        rw [List.set_append_right _ _ (by omega), show xs.length - i = (xs.length - (i + 1)) + 1 by omega, List.replicate_succ]
        simp [hle]
      refine k_lp_n (i + 1) (by omega) ⟨by omega, by simp [h0], by simp [h3], by simp, es ++ [[w, .int .i64 xs[i].Jump, .int .i64 xs[i].A, .int .i64 xs[i].To, .int .i64 xs[i].Else]], ns ++ ns', by simp [hle], fun e he => ?_, ?_⟩
      · rcases List.mem_append.1 he with he | he
        · exact he5 e he
        · simp at he; subst he; rfl
      have z := (y.agg_app).box_set (r' := ⟨0, 5, (es ++ [[w, .int .i64 xs[i].Jump, .int .i64 xs[i].A, .int .i64 xs[i].To, .int .i64 xs[i].Else]]) ++ List.replicate (xs.length - (i + 1)) [AV.nilsl, .int .i64 0, .int .i64 0, .int .i64 0, .int .i64 0]⟩)
      rw [← es2] at z
      have e1 : ∀ b, ((xs.take (i + 1)).map (Block.cells b)).flatten = ((xs.take i).map (Block.cells b)).flatten ++ xs[i].cells b := fun b => by rw [List.take_add_one, hx, Option.toList_some, List.map_append, List.flatten_append]; simp
      have e2 : (es ++ [[w, .int .i64 xs[i].Jump, .int .i64 xs[i].A, .int .i64 xs[i].To, .int .i64 xs[i].Else]]).flatten = es.flatten ++ [w, .int .i64 xs[i].Jump, .int .i64 xs[i].A, .int .i64 xs[i].To, .int .i64 xs[i].Else] := by simp
      simp only [e1, e2]
      rw [← es2]
      exact Cx.to z
    · have hge : i = xs.length := by omega
      have hlt2 : ¬ (i : Int) < xs.length := by omega
      rw [hge, Nat.sub_self, List.replicate_zero, List.take_length] at x
      repeat' (first | (with_reducible first | refine stp ?_ | refine k_blk_o rfl ?_ | refine k_seq_n ?_) | ((try (conv => arg 1; simp [blocks, h0, h3, h4, hlt2])); with_reducible refine evp ?_) | fail)
      have z := Cx.close_row (ts := fun b => xs.map (Block.cells b)) x he5 (fun b => by simp [hle, hge]) (fun b t ht => by simp at ht; obtain ⟨a, _, rfl⟩ := ht; rfl) (fun e he => by simp at he) (fun i e j x he => by simp at he)
      rw [show es.length = xs.length by omega] at z
      exact ⟨_, z.o0, z.nodup, fun n hn => Nat.lt_of_lt_of_le (z.lts n hn) (by simp; omega)⟩

theorem eqBlock (x : Block) (hl : x.Code.length ≤ 2 ^ 62) : Pure Tryz.prog 60 [.agg (x.cells true), .agg (x.cells true)] (.bool true) := by
  intro T
  refine enter mixed MG3 Tryz.func60 rfl (by kernel_rfl) rfl ?_
  repeat' (first | (with_reducible first | refine stp ?_ | refine k_blk_o rfl ?_ | refine k_seq_n ?_) | ((try (conv => arg 1; simp [Block.cells])); with_reducible refine evp ?_) | ((with_reducible refine tcl ?_); first | ((apply tg (eqInstrS x.Code hl)); (case e => rfl); (case d => (refine dq ?_); (repeat' (first | ((refine Da.mk ?_); first | exact dr_instrs (by simp) _ | assumption) | constructor))))) | fail)
  exact .bool true

theorem eqBlockS (xs : List Block) (hl : xs.length ≤ 2 ^ 62) (hl2 : ∀ x ∈ xs, x.Code.length ≤ 2 ^ 62) : Pure Tryz.prog 30 [blocks true xs, blocks true xs] (.bool true) := by
  intro T
  refine enter mixed MG3 Tryz.func30 rfl (by kernel_rfl) rfl ?_
  repeat' (first | (with_reducible first | refine stp ?_ | refine k_blk_o rfl ?_ | refine k_seq_n ?_) | ((try (conv => arg 1; simp [blocks])); with_reducible refine evp ?_) | fail)
  refine st_loop (fun (i : Nat) σ h => i ≤ xs.length ∧ σ 0 = blocks true xs ∧ σ 1 = blocks true xs ∧ σ 5 = .int .i64 i) (fun i => xs.length - i) 0 ?init ?step
  case init =>
    simp [blocks]
  case step =>
    rintro i σ h ⟨hi, h0, h1, h5⟩
    repeat' (first | (with_reducible first | refine stp ?_ | refine k_blk_o rfl ?_ | refine k_seq_n ?_) | ((try (conv => arg 1; simp [blocks, h0, h5])); with_reducible refine evp ?_) | fail)
    (try with_reducible refine st_if ?_)
    (try (conv => arg 1; simp [blocks]))
    (try with_reducible refine at_mk ?_)
    refine ⟨fun hb => ?_, fun hb => ?_⟩
    · have hlt : i < xs.length := by simpa using hb
      have hx : xs[i]? = some (xs[i]) := by simp
      have hlen := block_len true xs[i]
      have hw : IntKind.i64.wrap (i + 1) = i + 1 := wrap_id (by omega) (by omega)
      repeat' (first | (with_reducible first | refine stp ?_ | refine k_blk_o rfl ?_ | refine k_seq_n ?_) | ((try (conv => arg 1; simp [blocks])); with_reducible refine evp ?_) | fail)
      repeat (with_reducible first | refine stp ?_ | refine k_seq_n ?_)
      refine st_draw 10 (fun _ => false) (by kernel_rfl) ?_
      simp only [List.take_succ_cons, List.take_zero, List.drop_succ_cons, List.drop_zero, List.take_nil, List.drop_nil]
      repeat' (first | (with_reducible first | refine stp ?_ | refine k_blk_o rfl ?_ | refine k_seq_n ?_) | ((try (conv => arg 1; simp [blocks, h0, h1, h5, hx, hlen])); with_reducible refine evp ?_) | ((with_reducible refine apn ?na ?_); (case na => simp [appNames, ints, intss] <;> first | kernel_rfl | (refine ⟨?_, ?_⟩ <;> kernel_rfl))) | fail)
      refine treeW_pure (eqBlock xs[i] (hl2 _ (List.getElem_mem hlt))) (.cons (dr_agg (drs_block (by simp) _)) (.cons (dr_agg (drs_block (by simp) _)) .nil)) ?_
      repeat' (first | (with_reducible first | refine stp ?_ | refine k_blk_o rfl ?_ | refine k_seq_n ?_) | ((try (conv => arg 1; simp [blocks, h0, h1, h5, hx, hw])); with_reducible refine evp ?_) | ((with_reducible refine apn ?na ?_); (case na => simp [appNames, ints, intss] <;> first | kernel_rfl | (refine ⟨?_, ?_⟩ <;> kernel_rfl))) | fail)
      refine k_lp_n (i + 1) (by omega) ⟨by omega, by simp [h0], by simp [h1], by simp [h5]⟩
    · skip
      repeat' (first | (with_reducible first | refine stp ?_ | refine k_blk_o rfl ?_ | refine k_seq_n ?_) | ((try (conv => arg 1; simp [blocks])); with_reducible refine evp ?_) | ((with_reducible refine apn ?na ?_); (case na => simp [appNames, ints, intss] <;> first | kernel_rfl | (refine ⟨?_, ?_⟩ <;> kernel_rfl))) | fail)
      exact .bool true
end Go.Proofs.YtlmlkkkgcbpaoaaGreat.AM

namespace Go.Proofs.YtlmlkkkgcbpaoaaGreat.AM
open Go.RowKit

private def MG8 : FuncId → Mode := fun f => .tree

theorem all_take {α : Type} {l : List α} {p : α → Bool} {i : Nat} (hi : i < l.length) : (l.take (i + 1)).all p = ((l.take i).all p && p l[i]) := by
  have hx : l[i]? = some l[i] := by simp
  rw [List.take_add_one, hx, List.all_append, Option.toList_some, List.all_cons, List.all_nil, Bool.and_true]
theorem all_false {α : Type} {l : List α} {p : α → Bool} {i : Nat} (hi : i < l.length) (h : p l[i] = false) : l.all p = false := by
  cases ha : l.all p with
  | false => rfl
  | true => rw [List.all_eq_true] at ha; rw [ha _ (List.getElem_mem hi)] at h; cases h

set_option maxHeartbeats 4000000 in
theorem l04BlockOk (g : Graph) (b : Block) (hs : 0 ≤ g.Slots ∧ g.Slots ≤ 1000) (hr : g.Sizes.length ≤ 2 ^ 20) (hb : g.Blocks.length ≤ 2 ^ 20) (hc : b.Code.length ≤ 2 ^ 20) : Pure Tryz.prog 63 [.agg (g.cells true), .agg (b.cells true)] (.bool (blockOk g b)) := by
  intro T
  have w1 : IntKind.i64.wrap (g.Slots - 1) = g.Slots - 1 := wrap_id (by omega) (by omega)
  have w2 : IntKind.i64.wrap ((g.Blocks.length : Int) - 1) = (g.Blocks.length : Int) - 1 := wrap_id (by omega) (by omega)
  refine enter mixed MG8 Tryz.func63 rfl (by kernel_rfl) rfl ?_
  repeat' (first | (with_reducible first | refine stp ?_ | refine k_blk_o rfl ?_) | ((try (conv => arg 1; simp [Graph.cells, Block.cells])); with_reducible refine evp ?_) | fail)
  refine cx_k ((Cx.mt.next.box_one (T := T) (i := 0) Cx.mt.off (by simp)).box_add (n := (T, 1, 0)) (by simp [nms]) (by simp)) ?_
  intro h1 x1
  have b1 := x1.bxs
  simp only [Bxs] at b1
  repeat' (first | (with_reducible first | refine stp ?_ | refine k_blk_o rfl ?_ | refine k_seq_n ?_) | ((try (conv => arg 1; simp [b1])); with_reducible refine evp ?_) | fail)
  refine st_loop (fun (i : Nat) σ h => i ≤ b.Code.length ∧ σ 2 = .ptr (T, 0, 0) 0 0 0 ∧ σ 3 = .ptr (T, 1, 0) 0 0 0 ∧ σ 5 = .int .i64 i ∧ (b.Code.take i).all (instrOk g.Slots g.Sizes.length) = true ∧
    Cx h [((T, 1, 0), ⟨0, 5, [[instrs true b.Code, .int .i64 b.Jump, .int .i64 b.A, .int .i64 b.To, .int .i64 b.Else]]⟩), ((T, 0, 0), ⟨0, 5, [[ints true g.Sizes, .int .i64 g.Params, .int .i64 g.Vars, .int .i64 g.Slots, blocks true g.Blocks]]⟩)] []) (fun i => b.Code.length - i) 0 ?init ?step
  case init => exact ⟨Nat.zero_le _, by simp, by simp, by simp, rfl, Cx.to x1⟩
  case step =>
    rintro i σ h ⟨hi, s2, s3, s5, ha, x⟩
    have b2 := x.bxs
    simp only [Bxs] at b2
    by_cases hlt : i < b.Code.length
    · have hlt2 : (i : Int) < b.Code.length := by omega
      have hx : b.Code[i]? = some b.Code[i] := by simp
      have hlen := instr_len b.Code[i]
      have hw : IntKind.i64.wrap (i + 1) = i + 1 := wrap_id (by omega) (by omega)
      have I := l04InstrOk g b.Code[i] hs hr
      have hT : ¬ T = h.tick + 1 := by omega
      repeat' (first | (with_reducible first | refine stp ?_ | refine k_blk_o rfl ?_ | refine k_seq_n ?_) | ((try (conv => arg 1; simp [s2, s3, s5, b2, hlt2])); with_reducible refine evp ?_) | fail)
      cases hv : instrOk g.Slots g.Sizes.length b.Code[i] with
      | false =>
        rw [hv] at I
        repeat (with_reducible first | refine stp ?_ | refine k_seq_n ?_)
        refine st_lz (by kernel_rfl) ?_
        have hF := And.intro s2 (And.intro s3 (And.intro s5 (And.intro b2 (And.intro hT (And.intro hx hlen)))))
        repeat' (first | (with_reducible first | refine stp ?_ | refine k_blk_o rfl ?_) | ((try (conv => arg 1; simp [instrs, Instr.cells, hF])); with_reducible refine evp ?_) | ((with_reducible refine tcl ?_); first | ((apply tg (I)); (case e => rfl); (case d => (refine dq ?_); (repeat' (first | ((refine Da.mk ?_); first | exact dr_blocks (by simp) _ | assumption) | constructor))))) | ((with_reducible refine la_id ?_); refine la_end rfl ?_; (repeat (first | refine pl_nil ?_ | refine pl_cons ?_))) | ((with_reducible refine la_id ?_); refine la_pick ?_; (conv => arg 1; whnf); (repeat ((fail_if_success (first | ((refine la_q0 rfl ?_); (try (conv => arg 1; simp [instrs, Instr.cells, hF])); with_reducible refine evp ?_) | ((refine la_n rfl rfl ?_); (try (conv => arg 1; simp [instrs, Instr.cells, hF])); with_reducible refine evp ?_) | ((refine la_q2 rfl (by decide +kernel) ?_); (repeat (first | refine bk_nil ?_ | refine bk_t (by decide +kernel) ?_ | refine bk_f (by decide +kernel) ?_)); (try (conv => arg 1; simp [instrs, Instr.cells, hF])); with_reducible refine evp ?_) | ((refine la_q1 rfl (by decide +kernel) ?_); (try (conv => arg 1; simp [instrs, Instr.cells, hF])); with_reducible refine evp ?_) | ((refine la_g0 rfl ?_); (try (conv => arg 1; simp [instrs, Instr.cells, hF])); with_reducible refine evp ?_; (with_reducible refine evp ?_); try ((try (conv => arg 1; simp [instrs, Instr.cells, hF])); with_reducible refine evp ?_)))); (refine la_there ?_); (conv => arg 1; whnf))); first | ((refine la_q0 rfl ?_); (try (conv => arg 1; simp [instrs, Instr.cells, hF])); with_reducible refine evp ?_) | ((refine la_n rfl rfl ?_); (try (conv => arg 1; simp [instrs, Instr.cells, hF])); with_reducible refine evp ?_) | ((refine la_q2 rfl (by decide +kernel) ?_); (repeat (first | refine bk_nil ?_ | refine bk_t (by decide +kernel) ?_ | refine bk_f (by decide +kernel) ?_)); (try (conv => arg 1; simp [instrs, Instr.cells, hF])); with_reducible refine evp ?_) | ((refine la_q1 rfl (by decide +kernel) ?_); (try (conv => arg 1; simp [instrs, Instr.cells, hF])); with_reducible refine evp ?_) | ((refine la_g0 rfl ?_); (try (conv => arg 1; simp [instrs, Instr.cells, hF])); with_reducible refine evp ?_; (with_reducible refine evp ?_); try ((try (conv => arg 1; simp [instrs, Instr.cells, hF])); with_reducible refine evp ?_))) | ((with_reducible refine la_id ?_); refine la_all rfl ?_) | ((with_reducible refine all_id ?_); (conv => arg 1; whnf); first | exact all_nil | refine all_cons ?_ ?_) | (refine la_op rfl (by first | exact frm_s (by decide +kernel) | exact frm_a (by repeat' (first | exact fa_nil | refine fa_cons (by decide +kernel) ?_))) (by intro hq; first | exact trivial | (cases hq; done) | simp [appT, instrs, Instr.cells, hF]) ?_; (repeat (first | refine bk_nil ?_ | refine bk_t (by decide +kernel) ?_ | refine bk_f (by decide +kernel) ?_))) | fail)
        repeat' (first | (with_reducible first | refine stp ?_ | refine k_blk_o rfl ?_ | refine k_seq_n ?_) | ((try (conv => arg 1; simp [s2, s3, s5, b2])); with_reducible refine evp ?_) | fail)
        have e : blockOk g b = false := by unfold blockOk; rw [all_false hlt hv, Bool.false_and]
        rw [e]
        exact .bool _
      | true =>
        rw [hv] at I
        repeat (with_reducible first | refine stp ?_ | refine k_seq_n ?_)
        refine st_lz (by kernel_rfl) ?_
        have hF := And.intro s2 (And.intro s3 (And.intro s5 (And.intro b2 (And.intro hT (And.intro hx hlen)))))
        repeat' (first | (with_reducible first | refine stp ?_ | refine k_blk_o rfl ?_) | ((try (conv => arg 1; simp [instrs, Instr.cells, hF])); with_reducible refine evp ?_) | ((with_reducible refine tcl ?_); first | ((apply tg (I)); (case e => rfl); (case d => (refine dq ?_); (repeat' (first | ((refine Da.mk ?_); first | exact dr_blocks (by simp) _ | assumption) | constructor))))) | ((with_reducible refine la_id ?_); refine la_end rfl ?_; (repeat (first | refine pl_nil ?_ | refine pl_cons ?_))) | ((with_reducible refine la_id ?_); refine la_pick ?_; (conv => arg 1; whnf); (repeat ((fail_if_success (first | ((refine la_q0 rfl ?_); (try (conv => arg 1; simp [instrs, Instr.cells, hF])); with_reducible refine evp ?_) | ((refine la_n rfl rfl ?_); (try (conv => arg 1; simp [instrs, Instr.cells, hF])); with_reducible refine evp ?_) | ((refine la_q2 rfl (by decide +kernel) ?_); (repeat (first | refine bk_nil ?_ | refine bk_t (by decide +kernel) ?_ | refine bk_f (by decide +kernel) ?_)); (try (conv => arg 1; simp [instrs, Instr.cells, hF])); with_reducible refine evp ?_) | ((refine la_q1 rfl (by decide +kernel) ?_); (try (conv => arg 1; simp [instrs, Instr.cells, hF])); with_reducible refine evp ?_) | ((refine la_g0 rfl ?_); (try (conv => arg 1; simp [instrs, Instr.cells, hF])); with_reducible refine evp ?_; (with_reducible refine evp ?_); try ((try (conv => arg 1; simp [instrs, Instr.cells, hF])); with_reducible refine evp ?_)))); (refine la_there ?_); (conv => arg 1; whnf))); first | ((refine la_q0 rfl ?_); (try (conv => arg 1; simp [instrs, Instr.cells, hF])); with_reducible refine evp ?_) | ((refine la_n rfl rfl ?_); (try (conv => arg 1; simp [instrs, Instr.cells, hF])); with_reducible refine evp ?_) | ((refine la_q2 rfl (by decide +kernel) ?_); (repeat (first | refine bk_nil ?_ | refine bk_t (by decide +kernel) ?_ | refine bk_f (by decide +kernel) ?_)); (try (conv => arg 1; simp [instrs, Instr.cells, hF])); with_reducible refine evp ?_) | ((refine la_q1 rfl (by decide +kernel) ?_); (try (conv => arg 1; simp [instrs, Instr.cells, hF])); with_reducible refine evp ?_) | ((refine la_g0 rfl ?_); (try (conv => arg 1; simp [instrs, Instr.cells, hF])); with_reducible refine evp ?_; (with_reducible refine evp ?_); try ((try (conv => arg 1; simp [instrs, Instr.cells, hF])); with_reducible refine evp ?_))) | ((with_reducible refine la_id ?_); refine la_all rfl ?_) | ((with_reducible refine all_id ?_); (conv => arg 1; whnf); first | exact all_nil | refine all_cons ?_ ?_) | (refine la_op rfl (by first | exact frm_s (by decide +kernel) | exact frm_a (by repeat' (first | exact fa_nil | refine fa_cons (by decide +kernel) ?_))) (by intro hq; first | exact trivial | (cases hq; done) | simp [appT, instrs, Instr.cells, hF]) ?_; (repeat (first | refine bk_nil ?_ | refine bk_t (by decide +kernel) ?_ | refine bk_f (by decide +kernel) ?_))) | fail)
        repeat' (first | (with_reducible first | refine stp ?_ | refine k_blk_o rfl ?_ | refine k_seq_n ?_) | ((try (conv => arg 1; simp [s2, s3, s5, b2, hw])); with_reducible refine evp ?_) | fail)
        refine k_lp_n (i + 1) (by omega) ⟨by omega, by simp [s2], by simp [s3], by simp, by rw [all_take hlt, ha, hv]; rfl, Cx.to x⟩
    · have hlt2 : ¬ (i : Int) < b.Code.length := by omega
      rw [List.take_of_length_le (by omega)] at ha
      have e : blockOk g b = (if b.Jump = 0 then inB b.To 0 ((g.Blocks.length : Int) - 1) && decide (b.A = 0) && decide (b.Else = 0)
        else if b.Jump = 1 then inB b.To 0 ((g.Blocks.length : Int) - 1) && inB b.Else 0 ((g.Blocks.length : Int) - 1) && inB b.A 0 (g.Slots - 1)
        else if b.Jump = 2 then inB b.A 0 (g.Slots - 1) && decide (b.To = 0) && decide (b.Else = 0)
        else false) := by unfold blockOk; rw [ha, Bool.true_and]
      rw [e]
      repeat' (first
        | (with_reducible first | refine st_seq ?_ | refine st_reg ?_ | refine st_block ?_ | refine st_nil ?_ | refine st_skip ?_ | refine st_ret ?_ | refine st_exit ?_ | refine fr_nil ?_ | refine k_seq_n ?_ | refine k_seq_r ?_ | refine k_seq_e ?_ | refine k_blk_n ?_ | refine k_blk_r ?_ | refine k_blk_s ?_ | refine k_blk_o rfl ?_ | refine k_fn_r ?_ | refine k_fn_n ?_ | refine k_lp_r ?_ | refine k_lp_e ?_)
        | ((with_reducible first | refine st_move ?_ | refine st_asg ?_ | refine st_c ?_ | refine fr_c ?_); (try (conv => arg 1; simp [s2, s3, s5, b2, hlt2, w1, w2, ltS, nm_ne])); (with_reducible refine at_mk ?_))
        | ((with_reducible first | refine st_g ?_ | refine fr_g ?_); (try (conv => arg 1; simp [s2, s3, s5, b2, hlt2, w1, w2, ltS, nm_ne])); (with_reducible refine at_mk ?_); with_reducible first | refine gd_tt ?_ | refine gd_ff ?_ | refine gd_tf ?_ | refine gd_ft ?_ | refine gd_no ?_)
        | ((with_reducible first | refine st_gm ?_ | refine fr_gm ?_); (try (conv => arg 1; simp [s2, s3, s5, b2, hlt2, w1, w2, ltS, nm_ne])); (with_reducible refine at_mk ?_); (with_reducible first | refine gm_bool ?_ | refine gm_gv ?_); refine ⟨_, (by intro hc; first | ((try simp only [Bool.and_eq_true] at hc); (try (conv => lhs; simp [hc, s2, s3, s5, b2, hlt2, w1, w2, ltS, nm_ne])); first | done | exact rfl) | ((try simp [gq] at hc); (try (conv => lhs; simp [gq, hc, s2, s3, s5, b2, hlt2, w1, w2, ltS, nm_ne])); first | done | exact rfl)), ?_⟩)
        | ((with_reducible refine st_gmc ?_); (try (conv => arg 1; simp [s2, s3, s5, b2, hlt2, w1, w2, ltS, nm_ne])); (with_reducible refine at_mk ?_); (with_reducible first | refine gm_bool ?_ | refine gm_gv ?_); refine ⟨_, _, _, (by intro hc; first | ((try simp only [Bool.and_eq_true] at hc); (try (conv => lhs; simp [hc, s2, s3, s5, b2, hlt2, w1, w2, ltS, nm_ne])); first | done | exact rfl) | ((try simp [gq] at hc); (try (conv => lhs; simp [gq, hc, s2, s3, s5, b2, hlt2, w1, w2, ltS, nm_ne])); first | done | exact rfl)), rfl, l01In _ _ _, (by intro hc; (try simp at hc); (repeat' (first | exact DRs.nil | refine DRs.cons ?_ ?_ | exact .int _ _ | exact .bool _ | exact .str _ | exact .nilsl | exact .nilp | exact dr_ints (by simp) _ | exact dr_intss (by simp) _ | refine dr_agg ?_ | refine dr_fn ?_ | refine dr_tptr' (by simp) ?_ | assumption))), ?_⟩)
        | ((with_reducible refine fr_gmc ?_); (try (conv => arg 1; simp [s2, s3, s5, b2, hlt2, w1, w2, ltS, nm_ne])); (with_reducible refine at_mk ?_); (with_reducible first | refine gm_bool ?_ | refine gm_gv ?_); refine ⟨_, _, _, (by intro hc; first | ((try simp only [Bool.and_eq_true] at hc); (try (conv => lhs; simp [hc, s2, s3, s5, b2, hlt2, w1, w2, ltS, nm_ne])); first | done | exact rfl) | ((try simp [gq] at hc); (try (conv => lhs; simp [gq, hc, s2, s3, s5, b2, hlt2, w1, w2, ltS, nm_ne])); first | done | exact rfl)), l01In _ _ _, (by intro hc; (try simp at hc); (repeat' (first | exact DRs.nil | refine DRs.cons ?_ ?_ | exact .int _ _ | exact .bool _ | exact .str _ | exact .nilsl | exact .nilp | exact dr_ints (by simp) _ | exact dr_intss (by simp) _ | refine dr_agg ?_ | refine dr_fn ?_ | refine dr_tptr' (by simp) ?_ | assumption))), ?_⟩)
        | ((with_reducible refine st_gmv ?_); (try (conv => arg 1; simp [s2, s3, s5, b2, hlt2, w1, w2, ltS, nm_ne])); (with_reducible refine at_mk ?_); (with_reducible first | refine gm_bool ?_ | refine gm_gv ?_); refine ⟨_, _, _, _, _, (by intro hc; first | ((try simp only [Bool.and_eq_true] at hc); (try (conv => lhs; simp [hc, s2, s3, s5, b2, hlt2, w1, w2, ltS, nm_ne])); first | done | exact rfl) | ((try simp [gq] at hc); (try (conv => lhs; simp [gq, hc, s2, s3, s5, b2, hlt2, w1, w2, ltS, nm_ne])); first | done | exact rfl)), (by intro hc; first | ((try simp only [Bool.and_eq_true] at hc); (try (conv => lhs; simp [hc, s2, s3, s5, b2, hlt2, w1, w2, ltS, nm_ne])); first | done | exact rfl) | ((try simp [gq] at hc); (try (conv => lhs; simp [gq, hc, s2, s3, s5, b2, hlt2, w1, w2, ltS, nm_ne])); first | done | exact rfl)), rfl, l01In _ _ _, (by intro hc; (try simp at hc); (repeat' (first | exact DRs.nil | refine DRs.cons ?_ ?_ | exact .int _ _ | exact .bool _ | exact .str _ | exact .nilsl | exact .nilp | exact dr_ints (by simp) _ | exact dr_intss (by simp) _ | refine dr_agg ?_ | refine dr_fn ?_ | refine dr_tptr' (by simp) ?_ | assumption))), ?_⟩)
        | ((with_reducible refine st_m rfl ?_); (try (conv => arg 1; simp [s2, s3, s5, b2, hlt2, w1, w2, ltS, nm_ne])); (with_reducible refine ev2_some ?_))
        | ((with_reducible refine fr_n rfl ?_); (try (conv => arg 1; simp [s2, s3, s5, b2, hlt2, w1, w2, ltS, nm_ne])); (with_reducible refine evn_some ?_))
        | ((with_reducible first | refine st_cv ?_ | refine fr_cv ?_); (try (conv => arg 1; simp [s2, s3, s5, b2, hlt2, w1, w2, ltS, nm_ne])); (with_reducible refine at_mk ?_); (with_reducible refine fn_mk ?_); (try (conv => arg 1; simp [s2, s3, s5, b2, hlt2, w1, w2, ltS, nm_ne])); (with_reducible refine at_mk ?_))
        | ((with_reducible refine fr_a ?_); (try (conv => arg 1; simp [s2, s3, s5, b2, hlt2, w1, w2, ltS, nm_ne])); (with_reducible refine at_mk ?_); (try (conv => arg 1; simp [s2, s3, s5, b2, hlt2, w1, w2, ltS, nm_ne])); (with_reducible refine at_mk ?_); refine ⟨?names, ?_⟩; (case names => (simp [appNames, ints, intss] <;> first | kernel_rfl | (refine ⟨?_, ?_⟩ <;> kernel_rfl))); (try (conv => arg 1; simp [s2, s3, s5, b2, hlt2, w1, w2, ltS, nm_ne])); (with_reducible refine ev2_some ?_))
        | ((with_reducible first | refine st_q ?_ | refine fr_q ?_ | refine st_res ?_); (try (conv => arg 1; simp [s2, s3, s5, b2, hlt2, w1, w2, ltS, nm_ne])); (with_reducible refine ev_some ?_))
        | ((with_reducible refine st_if ?_); (try (conv => arg 1; simp [s2, s3, s5, b2, hlt2, w1, w2, ltS, nm_ne])); (with_reducible refine at_mk ?_); with_reducible first | refine br_t ?_ | refine br_f ?_ | (refine br_b (fun hb => ?_) (fun hb => ?_) <;> ((try simp only [Bool.not_eq_eq_eq_not, Bool.not_true, Bool.not_false] at hb); (try simp only [hb]); (try simp at hb))))
        | ((with_reducible refine ct_id ?_); refine st_tree rfl (l01In _ _ _) (by (repeat' (first | exact DRs.nil | refine DRs.cons ?_ ?_ | exact .int _ _ | exact .bool _ | exact .str _ | exact .nilsl | exact .nilp | exact dr_ints (by simp) _ | exact dr_intss (by simp) _ | refine dr_agg ?_ | refine dr_fn ?_ | refine dr_tptr' (by simp) ?_ | assumption))) ?_)
        | ((with_reducible refine tw_id ?_); refine treeW_pure (l01In _ _ _) (by (repeat' (first | exact DRs.nil | refine DRs.cons ?_ ?_ | exact .int _ _ | exact .bool _ | exact .str _ | exact .nilsl | exact .nilp | exact dr_ints (by simp) _ | exact dr_intss (by simp) _ | refine dr_agg ?_ | refine dr_fn ?_ | refine dr_tptr' (by simp) ?_ | assumption))) ?_))
      all_goals refine dr_bool ?_
      all_goals rw [Bool.eq_iff_iff]
      all_goals (try simp_all)
      all_goals grind
end Go.Proofs.YtlmlkkkgcbpaoaaGreat.AM
