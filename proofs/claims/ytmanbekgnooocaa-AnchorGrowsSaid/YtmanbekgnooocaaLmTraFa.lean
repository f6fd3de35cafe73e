import Derived.Test.YtmanbekgnooocaaLmY
import Derived.Test.YtmanbekgnooocaaProg
import Derived.KernelRfl
namespace Go.LM
open Go.Proofs

theorem ty_u2 : Try.prog.underlying 2 = some (TypeDesc.int IntKind.i64) := by kernel_rfl
theorem ty_a2 : isAggT Try.prog 2 = some false := by kernel_rfl
theorem ty_s2 : sizeT Try.prog 2 = some 1 := by kernel_rfl
theorem ty_o2 : Try.prog.cellsOf 2 = 1 := by kernel_rfl
theorem ty_b2 : bytesT Try.prog 2 = some 8 := by kernel_rfl
theorem ty_z2 : zeroL Try.prog 2 = some (.int .i64 0) := by kernel_rfl
theorem ty_u3 : Try.prog.underlying 3 = some (TypeDesc.int IntKind.i64) := by kernel_rfl
theorem ty_a3 : isAggT Try.prog 3 = some false := by kernel_rfl
theorem ty_s3 : sizeT Try.prog 3 = some 1 := by kernel_rfl
theorem ty_o3 : Try.prog.cellsOf 3 = 1 := by kernel_rfl
theorem ty_b3 : bytesT Try.prog 3 = some 8 := by kernel_rfl
theorem ty_z3 : zeroL Try.prog 3 = some (.int .i64 0) := by kernel_rfl
theorem ty_u4 : Try.prog.underlying 4 = some TypeDesc.bool := by kernel_rfl
theorem ty_a4 : isAggT Try.prog 4 = some false := by kernel_rfl
theorem ty_s4 : sizeT Try.prog 4 = some 1 := by kernel_rfl
theorem ty_o4 : Try.prog.cellsOf 4 = 1 := by kernel_rfl
theorem ty_b4 : bytesT Try.prog 4 = some 1 := by kernel_rfl
theorem ty_z4 : zeroL Try.prog 4 = some (.bool false) := by kernel_rfl
theorem ty_u5 : Try.prog.underlying 5 = some (TypeDesc.int IntKind.u8) := by kernel_rfl
theorem ty_a5 : isAggT Try.prog 5 = some false := by kernel_rfl
theorem ty_s5 : sizeT Try.prog 5 = some 1 := by kernel_rfl
theorem ty_o5 : Try.prog.cellsOf 5 = 1 := by kernel_rfl
theorem ty_b5 : bytesT Try.prog 5 = some 1 := by kernel_rfl
theorem ty_z5 : zeroL Try.prog 5 = some (.int .u8 0) := by kernel_rfl
theorem ty_u22 : Try.prog.underlying 22 = some (TypeDesc.int IntKind.i64) := by kernel_rfl
theorem ty_a22 : isAggT Try.prog 22 = some false := by kernel_rfl
theorem ty_s22 : sizeT Try.prog 22 = some 1 := by kernel_rfl
theorem ty_o22 : Try.prog.cellsOf 22 = 1 := by kernel_rfl
theorem ty_b22 : bytesT Try.prog 22 = some 8 := by kernel_rfl
theorem ty_z22 : zeroL Try.prog 22 = some (.int .i64 0) := by kernel_rfl
theorem ty_u24 : Try.prog.underlying 24 = some (TypeDesc.struct #[{ name := "C", type := 3, offset := 0, embedded := false, tag := "", pkgPath := "", byteOffset := 0 }, { name := "H", type := 22, offset := 1, embedded := false, tag := "", pkgPath := "", byteOffset := 8 }, { name := "Where", type := 3, offset := 2, embedded := false, tag := "", pkgPath := "", byteOffset := 16 }]) := by kernel_rfl
theorem ty_a24 : isAggT Try.prog 24 = some true := by kernel_rfl
theorem ty_s24 : sizeT Try.prog 24 = some 3 := by kernel_rfl
theorem ty_o24 : Try.prog.cellsOf 24 = 3 := by kernel_rfl
theorem ty_b24 : bytesT Try.prog 24 = some 24 := by kernel_rfl
theorem ty_z24 : zeroL Try.prog 24 = some (.agg [(.int .i64 0), (.int .i64 0), (.int .i64 0)]) := by kernel_rfl
theorem ty_u25 : Try.prog.underlying 25 = some (TypeDesc.int IntKind.i64) := by kernel_rfl
theorem ty_a25 : isAggT Try.prog 25 = some false := by kernel_rfl
theorem ty_s25 : sizeT Try.prog 25 = some 1 := by kernel_rfl
theorem ty_o25 : Try.prog.cellsOf 25 = 1 := by kernel_rfl
theorem ty_b25 : bytesT Try.prog 25 = some 8 := by kernel_rfl
theorem ty_z25 : zeroL Try.prog 25 = some (.int .i64 0) := by kernel_rfl
theorem ty_u29 : Try.prog.underlying 29 = some (TypeDesc.slice 24) := by kernel_rfl
theorem ty_a29 : isAggT Try.prog 29 = some false := by kernel_rfl
theorem ty_s29 : sizeT Try.prog 29 = some 1 := by kernel_rfl
theorem ty_o29 : Try.prog.cellsOf 29 = 1 := by kernel_rfl
theorem ty_b29 : bytesT Try.prog 29 = some 24 := by kernel_rfl
theorem ty_z29 : zeroL Try.prog 29 = some .nils := by kernel_rfl
theorem ty_u30 : Try.prog.underlying 30 = some (TypeDesc.slice 3) := by kernel_rfl
theorem ty_a30 : isAggT Try.prog 30 = some false := by kernel_rfl
theorem ty_s30 : sizeT Try.prog 30 = some 1 := by kernel_rfl
theorem ty_o30 : Try.prog.cellsOf 30 = 1 := by kernel_rfl
theorem ty_b30 : bytesT Try.prog 30 = some 24 := by kernel_rfl
theorem ty_z30 : zeroL Try.prog 30 = some .nils := by kernel_rfl
theorem ty_u35 : Try.prog.underlying 35 = some (TypeDesc.array 3 3) := by kernel_rfl
theorem ty_a35 : isAggT Try.prog 35 = some true := by kernel_rfl
theorem ty_s35 : sizeT Try.prog 35 = some 3 := by kernel_rfl
theorem ty_o35 : Try.prog.cellsOf 35 = 3 := by kernel_rfl
theorem ty_b35 : bytesT Try.prog 35 = some 24 := by kernel_rfl
theorem ty_z35 : zeroL Try.prog 35 = some (.agg [(.int .i64 0), (.int .i64 0), (.int .i64 0)]) := by kernel_rfl
theorem ty_u40 : Try.prog.underlying 40 = some (TypeDesc.int IntKind.u64) := by kernel_rfl
theorem ty_a40 : isAggT Try.prog 40 = some false := by kernel_rfl
theorem ty_s40 : sizeT Try.prog 40 = some 1 := by kernel_rfl
theorem ty_o40 : Try.prog.cellsOf 40 = 1 := by kernel_rfl
theorem ty_b40 : bytesT Try.prog 40 = some 8 := by kernel_rfl
theorem ty_z40 : zeroL Try.prog 40 = some (.int .u64 0) := by kernel_rfl
theorem ty_u41 : Try.prog.underlying 41 = some (TypeDesc.slice 5) := by kernel_rfl
theorem ty_a41 : isAggT Try.prog 41 = some false := by kernel_rfl
theorem ty_s41 : sizeT Try.prog 41 = some 1 := by kernel_rfl
theorem ty_o41 : Try.prog.cellsOf 41 = 1 := by kernel_rfl
theorem ty_b41 : bytesT Try.prog 41 = some 24 := by kernel_rfl
theorem ty_z41 : zeroL Try.prog 41 = some .nils := by kernel_rfl
theorem ty_u52 : Try.prog.underlying 52 = some (TypeDesc.struct #[{ name := "N", type := 2, offset := 0, embedded := false, tag := "", pkgPath := "", byteOffset := 0 }, { name := "Next", type := 3, offset := 1, embedded := false, tag := "", pkgPath := "", byteOffset := 8 }, { name := "E", type := 25, offset := 2, embedded := false, tag := "", pkgPath := "", byteOffset := 16 }]) := by kernel_rfl
theorem ty_a52 : isAggT Try.prog 52 = some true := by kernel_rfl
theorem ty_s52 : sizeT Try.prog 52 = some 3 := by kernel_rfl
theorem ty_o52 : Try.prog.cellsOf 52 = 3 := by kernel_rfl
theorem ty_b52 : bytesT Try.prog 52 = some 24 := by kernel_rfl
theorem ty_z52 : zeroL Try.prog 52 = some (.agg [(.int .i64 0), (.int .i64 0), (.int .i64 0)]) := by kernel_rfl
theorem ty_u57 : Try.prog.underlying 57 = some (TypeDesc.struct #[{ name := "Cols", type := 3, offset := 0, embedded := false, tag := "", pkgPath := "", byteOffset := 0 }, { name := "Wide", type := 22, offset := 1, embedded := false, tag := "", pkgPath := "", byteOffset := 8 }, { name := "Gap", type := 22, offset := 2, embedded := false, tag := "", pkgPath := "", byteOffset := 16 }, { name := "High", type := 22, offset := 3, embedded := false, tag := "", pkgPath := "", byteOffset := 24 }, { name := "First", type := 22, offset := 4, embedded := false, tag := "", pkgPath := "", byteOffset := 32 }, { name := "Grid", type := 22, offset := 5, embedded := false, tag := "", pkgPath := "", byteOffset := 40 }, { name := "Rule", type := 22, offset := 6, embedded := false, tag := "", pkgPath := "", byteOffset := 48 }, { name := "Sep", type := 22, offset := 7, embedded := false, tag := "", pkgPath := "", byteOffset := 56 }, { name := "NoteMost", type := 22, offset := 8, embedded := false, tag := "", pkgPath := "", byteOffset := 64 }, { name := "TopMost", type := 22, offset := 9, embedded := false, tag := "", pkgPath := "", byteOffset := 72 }, { name := "BotMost", type := 22, offset := 10, embedded := false, tag := "", pkgPath := "", byteOffset := 80 }, { name := "TopMany", type := 3, offset := 11, embedded := false, tag := "", pkgPath := "", byteOffset := 88 }, { name := "BotMany", type := 3, offset := 12, embedded := false, tag := "", pkgPath := "", byteOffset := 96 }, { name := "Club", type := 3, offset := 13, embedded := false, tag := "", pkgPath := "", byteOffset := 104 }, { name := "Widow", type := 3, offset := 14, embedded := false, tag := "", pkgPath := "", byteOffset := 112 }, { name := "Split", type := 3, offset := 15, embedded := false, tag := "", pkgPath := "", byteOffset := 120 }, { name := "Defer", type := 3, offset := 16, embedded := false, tag := "", pkgPath := "", byteOffset := 128 }, { name := "Spare", type := 3, offset := 17, embedded := false, tag := "", pkgPath := "", byteOffset := 136 }, { name := "Balance", type := 4, offset := 18, embedded := false, tag := "", pkgPath := "", byteOffset := 144 }]) := by kernel_rfl
theorem ty_a57 : isAggT Try.prog 57 = some true := by kernel_rfl
theorem ty_s57 : sizeT Try.prog 57 = some 19 := by kernel_rfl
theorem ty_o57 : Try.prog.cellsOf 57 = 19 := by kernel_rfl
theorem ty_b57 : bytesT Try.prog 57 = some 152 := by kernel_rfl
theorem ty_z57 : zeroL Try.prog 57 = some (.agg [(.int .i64 0), (.int .i64 0), (.int .i64 0), (.int .i64 0), (.int .i64 0), (.int .i64 0), (.int .i64 0), (.int .i64 0), (.int .i64 0), (.int .i64 0), (.int .i64 0), (.int .i64 0), (.int .i64 0), (.int .i64 0), (.int .i64 0), (.int .i64 0), (.int .i64 0), (.int .i64 0), (.bool false)]) := by kernel_rfl
theorem ty_u63 : Try.prog.underlying 63 = some (TypeDesc.array 2 3) := by kernel_rfl
theorem ty_a63 : isAggT Try.prog 63 = some true := by kernel_rfl
theorem ty_s63 : sizeT Try.prog 63 = some 2 := by kernel_rfl
theorem ty_o63 : Try.prog.cellsOf 63 = 2 := by kernel_rfl
theorem ty_b63 : bytesT Try.prog 63 = some 16 := by kernel_rfl
theorem ty_z63 : zeroL Try.prog 63 = some (.agg [(.int .i64 0), (.int .i64 0)]) := by kernel_rfl
theorem ty_u68 : Try.prog.underlying 68 = some (TypeDesc.slice 95) := by kernel_rfl
theorem ty_a68 : isAggT Try.prog 68 = some false := by kernel_rfl
theorem ty_s68 : sizeT Try.prog 68 = some 1 := by kernel_rfl
theorem ty_o68 : Try.prog.cellsOf 68 = 1 := by kernel_rfl
theorem ty_b68 : bytesT Try.prog 68 = some 24 := by kernel_rfl
theorem ty_z68 : zeroL Try.prog 68 = some .nils := by kernel_rfl
theorem ty_u69 : Try.prog.underlying 69 = some (TypeDesc.pointer 99) := by kernel_rfl
theorem ty_a69 : isAggT Try.prog 69 = some false := by kernel_rfl
theorem ty_s69 : sizeT Try.prog 69 = some 1 := by kernel_rfl
theorem ty_o69 : Try.prog.cellsOf 69 = 1 := by kernel_rfl
theorem ty_b69 : bytesT Try.prog 69 = some 8 := by kernel_rfl
theorem ty_z69 : zeroL Try.prog 69 = some .nilp := by kernel_rfl
theorem ty_u80 : Try.prog.underlying 80 = some (TypeDesc.int IntKind.i64) := by kernel_rfl
theorem ty_a80 : isAggT Try.prog 80 = some false := by kernel_rfl
theorem ty_s80 : sizeT Try.prog 80 = some 1 := by kernel_rfl
theorem ty_o80 : Try.prog.cellsOf 80 = 1 := by kernel_rfl
theorem ty_b80 : bytesT Try.prog 80 = some 8 := by kernel_rfl
theorem ty_z80 : zeroL Try.prog 80 = some (.int .i64 0) := by kernel_rfl
theorem ty_u88 : Try.prog.underlying 88 = some (TypeDesc.array 4 22) := by kernel_rfl
theorem ty_a88 : isAggT Try.prog 88 = some true := by kernel_rfl
theorem ty_s88 : sizeT Try.prog 88 = some 4 := by kernel_rfl
theorem ty_o88 : Try.prog.cellsOf 88 = 4 := by kernel_rfl
theorem ty_b88 : bytesT Try.prog 88 = some 32 := by kernel_rfl
theorem ty_z88 : zeroL Try.prog 88 = some (.agg [(.int .i64 0), (.int .i64 0), (.int .i64 0), (.int .i64 0)]) := by kernel_rfl
theorem ty_u89 : Try.prog.underlying 89 = some (TypeDesc.array 5 3) := by kernel_rfl
theorem ty_a89 : isAggT Try.prog 89 = some true := by kernel_rfl
theorem ty_s89 : sizeT Try.prog 89 = some 5 := by kernel_rfl
theorem ty_o89 : Try.prog.cellsOf 89 = 5 := by kernel_rfl
theorem ty_b89 : bytesT Try.prog 89 = some 40 := by kernel_rfl
theorem ty_z89 : zeroL Try.prog 89 = some (.agg [(.int .i64 0), (.int .i64 0), (.int .i64 0), (.int .i64 0), (.int .i64 0)]) := by kernel_rfl
theorem ty_u90 : Try.prog.underlying 90 = some (TypeDesc.slice 22) := by kernel_rfl
theorem ty_a90 : isAggT Try.prog 90 = some false := by kernel_rfl
theorem ty_s90 : sizeT Try.prog 90 = some 1 := by kernel_rfl
theorem ty_o90 : Try.prog.cellsOf 90 = 1 := by kernel_rfl
theorem ty_b90 : bytesT Try.prog 90 = some 24 := by kernel_rfl
theorem ty_z90 : zeroL Try.prog 90 = some .nils := by kernel_rfl
theorem ty_u91 : Try.prog.underlying 91 = some (TypeDesc.array 3 22) := by kernel_rfl
theorem ty_a91 : isAggT Try.prog 91 = some true := by kernel_rfl
theorem ty_s91 : sizeT Try.prog 91 = some 3 := by kernel_rfl
theorem ty_o91 : Try.prog.cellsOf 91 = 3 := by kernel_rfl
theorem ty_b91 : bytesT Try.prog 91 = some 24 := by kernel_rfl
theorem ty_z91 : zeroL Try.prog 91 = some (.agg [(.int .i64 0), (.int .i64 0), (.int .i64 0)]) := by kernel_rfl
theorem ty_u92 : Try.prog.underlying 92 = some (TypeDesc.array 7 22) := by kernel_rfl
theorem ty_a92 : isAggT Try.prog 92 = some true := by kernel_rfl
theorem ty_s92 : sizeT Try.prog 92 = some 7 := by kernel_rfl
theorem ty_o92 : Try.prog.cellsOf 92 = 7 := by kernel_rfl
theorem ty_b92 : bytesT Try.prog 92 = some 56 := by kernel_rfl
theorem ty_z92 : zeroL Try.prog 92 = some (.agg [(.int .i64 0), (.int .i64 0), (.int .i64 0), (.int .i64 0), (.int .i64 0), (.int .i64 0), (.int .i64 0)]) := by kernel_rfl
theorem ty_u93 : Try.prog.underlying 93 = some (TypeDesc.array 7 3) := by kernel_rfl
theorem ty_a93 : isAggT Try.prog 93 = some true := by kernel_rfl
theorem ty_s93 : sizeT Try.prog 93 = some 7 := by kernel_rfl
theorem ty_o93 : Try.prog.cellsOf 93 = 7 := by kernel_rfl
theorem ty_b93 : bytesT Try.prog 93 = some 56 := by kernel_rfl
theorem ty_z93 : zeroL Try.prog 93 = some (.agg [(.int .i64 0), (.int .i64 0), (.int .i64 0), (.int .i64 0), (.int .i64 0), (.int .i64 0), (.int .i64 0)]) := by kernel_rfl
theorem ty_u95 : Try.prog.underlying 95 = some (TypeDesc.struct #[{ name := "K", type := 3, offset := 0, embedded := false, tag := "", pkgPath := "", byteOffset := 0 }, { name := "H", type := 22, offset := 1, embedded := false, tag := "", pkgPath := "", byteOffset := 8 }, { name := "F", type := 3, offset := 2, embedded := false, tag := "", pkgPath := "", byteOffset := 16 }, { name := "Str", type := 22, offset := 3, embedded := false, tag := "", pkgPath := "", byteOffset := 24 }, { name := "Ord", type := 3, offset := 4, embedded := false, tag := "", pkgPath := "", byteOffset := 32 }, { name := "Shr", type := 22, offset := 5, embedded := false, tag := "", pkgPath := "", byteOffset := 40 }, { name := "N", type := 3, offset := 6, embedded := false, tag := "", pkgPath := "", byteOffset := 48 }]) := by kernel_rfl
theorem ty_a95 : isAggT Try.prog 95 = some true := by kernel_rfl
theorem ty_s95 : sizeT Try.prog 95 = some 7 := by kernel_rfl
theorem ty_o95 : Try.prog.cellsOf 95 = 7 := by kernel_rfl
theorem ty_b95 : bytesT Try.prog 95 = some 56 := by kernel_rfl
theorem ty_z95 : zeroL Try.prog 95 = some (.agg [(.int .i64 0), (.int .i64 0), (.int .i64 0), (.int .i64 0), (.int .i64 0), (.int .i64 0), (.int .i64 0)]) := by kernel_rfl
theorem ty_u97 : Try.prog.underlying 97 = some (TypeDesc.slice 35) := by kernel_rfl
theorem ty_a97 : isAggT Try.prog 97 = some false := by kernel_rfl
theorem ty_s97 : sizeT Try.prog 97 = some 1 := by kernel_rfl
theorem ty_o97 : Try.prog.cellsOf 97 = 1 := by kernel_rfl
theorem ty_b97 : bytesT Try.prog 97 = some 24 := by kernel_rfl
theorem ty_z97 : zeroL Try.prog 97 = some .nils := by kernel_rfl
theorem ty_u99 : Try.prog.underlying 99 = some (TypeDesc.struct #[{ name := "l", type := 68, offset := 0, embedded := false, tag := "", pkgPath := "tympan/anchor", byteOffset := 0 }, { name := "begun", type := 30, offset := 1, embedded := false, tag := "", pkgPath := "tympan/anchor", byteOffset := 24 }, { name := "ahead", type := 97, offset := 2, embedded := false, tag := "", pkgPath := "tympan/anchor", byteOffset := 48 }, { name := "due", type := 97, offset := 3, embedded := false, tag := "", pkgPath := "tympan/anchor", byteOffset := 72 }]) := by kernel_rfl
theorem ty_a99 : isAggT Try.prog 99 = some true := by kernel_rfl
theorem ty_s99 : sizeT Try.prog 99 = some 4 := by kernel_rfl
theorem ty_o99 : Try.prog.cellsOf 99 = 4 := by kernel_rfl
theorem ty_b99 : bytesT Try.prog 99 = some 96 := by kernel_rfl
theorem ty_z99 : zeroL Try.prog 99 = some (.agg [.nils, .nils, .nils, .nils]) := by kernel_rfl
theorem ty_p2 (cs : List LV) (off : Nat) : partL Try.prog 2 cs off = cs[off]? := part_s ty_a2 cs off
theorem ty_v2 (v : LV) (off : Nat) : subL Try.prog 2 v off = sub1 v.cells[off]? := sub_s ty_a2 v off
theorem ty_p3 (cs : List LV) (off : Nat) : partL Try.prog 3 cs off = cs[off]? := part_s ty_a3 cs off
theorem ty_v3 (v : LV) (off : Nat) : subL Try.prog 3 v off = sub1 v.cells[off]? := sub_s ty_a3 v off
theorem ty_p4 (cs : List LV) (off : Nat) : partL Try.prog 4 cs off = cs[off]? := part_s ty_a4 cs off
theorem ty_v4 (v : LV) (off : Nat) : subL Try.prog 4 v off = sub1 v.cells[off]? := sub_s ty_a4 v off
theorem ty_e4 (a b : Bool) : binL Try.prog .eql 4 (.bool a) (.bool b) = some (.bool (a == b)) := bin_eql_bool ty_u4 a b
theorem ty_d4 (a b : Bool) : binL Try.prog .neq 4 (.bool a) (.bool b) = some (.bool !(a == b)) := bin_neq_bool ty_u4 a b
theorem ty_p5 (cs : List LV) (off : Nat) : partL Try.prog 5 cs off = cs[off]? := part_s ty_a5 cs off
theorem ty_v5 (v : LV) (off : Nat) : subL Try.prog 5 v off = sub1 v.cells[off]? := sub_s ty_a5 v off
theorem ty_p22 (cs : List LV) (off : Nat) : partL Try.prog 22 cs off = cs[off]? := part_s ty_a22 cs off
theorem ty_v22 (v : LV) (off : Nat) : subL Try.prog 22 v off = sub1 v.cells[off]? := sub_s ty_a22 v off
theorem ty_p24 (cs : List LV) (off : Nat) : partL Try.prog 24 cs off = partA 3 cs off := part_a ty_a24 ty_s24 cs off
theorem ty_v24 (v : LV) (off : Nat) : subL Try.prog 24 v off = sub2 (partA 3 v.cells off) := sub_a ty_a24 ty_s24 v off
theorem ty_f24_0 (b off : Nat) : fieldAddrL Try.prog 24 (.ptr b off) 0 = some (.ptr b (off + 0)) := by kernel_rfl
theorem ty_g24_0 (v : LV) : fieldAddrL Try.prog 24 (.cptr v) 0 = subL Try.prog 3 v 0 := by kernel_rfl
theorem ty_h24_0 (cs : List LV) : fieldL Try.prog 24 (.agg cs) 0 = partL Try.prog 3 cs 0 := by kernel_rfl
theorem ty_f24_1 (b off : Nat) : fieldAddrL Try.prog 24 (.ptr b off) 1 = some (.ptr b (off + 1)) := by kernel_rfl
theorem ty_g24_1 (v : LV) : fieldAddrL Try.prog 24 (.cptr v) 1 = subL Try.prog 22 v 1 := by kernel_rfl
theorem ty_h24_1 (cs : List LV) : fieldL Try.prog 24 (.agg cs) 1 = partL Try.prog 22 cs 1 := by kernel_rfl
theorem ty_f24_2 (b off : Nat) : fieldAddrL Try.prog 24 (.ptr b off) 2 = some (.ptr b (off + 2)) := by kernel_rfl
theorem ty_g24_2 (v : LV) : fieldAddrL Try.prog 24 (.cptr v) 2 = subL Try.prog 3 v 2 := by kernel_rfl
theorem ty_h24_2 (cs : List LV) : fieldL Try.prog 24 (.agg cs) 2 = partL Try.prog 3 cs 2 := by kernel_rfl
theorem ty_m24 (parts : List (Nat × LV)) : buildL Try.prog 24 parts = aggK (fillL (plS [(0, 1), (1, 1), (2, 1)]) (LV.cells (.agg [(.int .i64 0), (.int .i64 0), (.int .i64 0)])) parts) := build_s ty_z24 rfl ty_u24 (by kernel_rfl) parts
theorem ty_y24 (a0 b0 : Int) (a1 b1 : Int) (a2 b2 : Int) : eqTopL Try.prog 24 (.agg [.int .i64 a0, .int .i64 a1, .int .i64 a2]) (.agg [.int .i64 b0, .int .i64 b1, .int .i64 b2]) = eqSeq [some (a0 == b0), some (a1 == b1), some (a2 == b2)] := by kernel_rfl
theorem ty_p25 (cs : List LV) (off : Nat) : partL Try.prog 25 cs off = cs[off]? := part_s ty_a25 cs off
theorem ty_v25 (v : LV) (off : Nat) : subL Try.prog 25 v off = sub1 v.cells[off]? := sub_s ty_a25 v off
theorem ty_p29 (cs : List LV) (off : Nat) : partL Try.prog 29 cs off = cs[off]? := part_s ty_a29 cs off
theorem ty_v29 (v : LV) (off : Nat) : subL Try.prog 29 v off = sub1 v.cells[off]? := sub_s ty_a29 v off
theorem ty_i29 (r hi : Nat) (xs : List LV) (k : IntKind) (n : Int) : indexAddrL Try.prog 29 (.sl r hi 3 xs) (.int k n) = iaS xs n := ia_sl ty_u29 ty_s24 r hi xs k n
theorem ty_l29 (r hi sz : Nat) (xs : List LV) : lenL Try.prog 29 (.sl r hi sz xs) = some (.int .i64 xs.length) := len_sl ty_u29 r hi sz xs
theorem ty_n29 : lenL Try.prog 29 .nils = some (.int .i64 0) := len_nils ty_u29
theorem ty_q29 (r p : Nat) (xs : List LV) (lo hi : Option LV) (h : H) : sliceL Try.prog 29 (.sl r p 3 xs) lo hi h = slK r p 3 xs h lo (boundL hi xs.length xs.length) := slice_sl ty_u29 ty_s24 r p xs lo hi h
theorem ty_r29 (lo hi : Option LV) (h : H) : sliceL Try.prog 29 .nils lo hi h = slKn h lo (boundL hi 0 0) := slice_nils ty_u29 ty_s24 lo hi h
theorem ty_w29 (s x : LV) (h : H) : appendL Try.prog 29 29 s x h = appS 3 24 s h (elemsL 3 x) := append_eq ty_u29 (.inr ⟨_, ty_u29⟩) ty_s24 ty_b24 ty_z24 rfl rfl (by decide) (by decide) s x h
theorem ty_k29 (len : Nat) (hb : len * 3 ≤ 2 ^ 24) (parts : List (Nat × LV)) (h : H) : buildSliceL Try.prog 29 len parts h = bsK Try.prog 24 3 len h (fillL (plA 3) (repL (LV.cells (.agg [(.int .i64 0), (.int .i64 0), (.int .i64 0)])) len) parts) := buildSlice_eq ty_u29 ty_s24 ty_z24 rfl rfl (by decide) len hb parts h
theorem ty_L29 (o : Option (Nat × Nat)) (sz : Nat) (xs : List LV) : lenL Try.prog 29 (mkS o sz xs) = some (.int .i64 xs.length) := len_mk ty_u29 o sz xs
theorem ty_I29 (o : Option (Nat × Nat)) (xs : List LV) (k : IntKind) (n : Int) : indexAddrL Try.prog 29 (mkS o 3 xs) (.int k n) = iaS xs n := ia_mk ty_u29 ty_s24 o xs k n
theorem ty_Q29 (o : Option (Nat × Nat)) (xs : List LV) (lo hi : Option LV) (h : H) : sliceL Try.prog 29 (mkS o 3 xs) lo hi h = slM o 3 xs h lo (boundL hi xs.length xs.length) := slice_mk ty_u29 ty_s24 o xs lo hi h
theorem ty_E29 (o : Option (Nat × Nat)) (sz : Nat) (xs : List LV) : binL Try.prog .eql 29 (mkS o sz xs) .nils = some (.bool (decide (o = none ∧ xs = []))) := bin_eql_mk ty_u29 o sz xs
theorem ty_D29 (o : Option (Nat × Nat)) (sz : Nat) (xs : List LV) : binL Try.prog .neq 29 (mkS o sz xs) .nils = some (.bool (!decide (o = none ∧ xs = []))) := bin_neq_mk ty_u29 o sz xs
theorem ty_c24 (n : Nat) (cs : List LV) : chunkL Try.prog 24 3 (n + 1) cs = chK cs 3 (chunkL Try.prog 24 3 n (cs.drop 3)) := chunk_a ty_a24 n cs
theorem ty_e29_0 : binL Try.prog .eql 29 .nils .nils = some (.bool true) := bin_eql_of rfl (by rw [eqL_10000]; simp only [eqL, ty_u29]) (by simp)
theorem ty_e29_1 (r hi sz : Nat) (xs : List LV) : binL Try.prog .eql 29 .nils (.sl r hi sz xs) = some (.bool false) := bin_eql_of rfl (by rw [eqL_10000]; simp only [eqL, ty_u29]) (by simp)
theorem ty_e29_2 (r hi sz : Nat) (xs : List LV) : binL Try.prog .eql 29 (.sl r hi sz xs) .nils = some (.bool false) := bin_eql_of rfl (by rw [eqL_10000]; simp only [eqL, ty_u29]) (by simp)
theorem ty_d29_0 : binL Try.prog .neq 29 .nils .nils = some (.bool !true) := bin_neq_of rfl (by rw [eqL_10000]; simp only [eqL, ty_u29]) (by simp)
theorem ty_d29_1 (r hi sz : Nat) (xs : List LV) : binL Try.prog .neq 29 .nils (.sl r hi sz xs) = some (.bool !false) := bin_neq_of rfl (by rw [eqL_10000]; simp only [eqL, ty_u29]) (by simp)
theorem ty_d29_2 (r hi sz : Nat) (xs : List LV) : binL Try.prog .neq 29 (.sl r hi sz xs) .nils = some (.bool !false) := bin_neq_of rfl (by rw [eqL_10000]; simp only [eqL, ty_u29]) (by simp)
theorem ty_p30 (cs : List LV) (off : Nat) : partL Try.prog 30 cs off = cs[off]? := part_s ty_a30 cs off
theorem ty_v30 (v : LV) (off : Nat) : subL Try.prog 30 v off = sub1 v.cells[off]? := sub_s ty_a30 v off
theorem ty_i30 (r hi : Nat) (xs : List LV) (k : IntKind) (n : Int) : indexAddrL Try.prog 30 (.sl r hi 1 xs) (.int k n) = iaS xs n := ia_sl ty_u30 ty_s3 r hi xs k n
theorem ty_l30 (r hi sz : Nat) (xs : List LV) : lenL Try.prog 30 (.sl r hi sz xs) = some (.int .i64 xs.length) := len_sl ty_u30 r hi sz xs
theorem ty_n30 : lenL Try.prog 30 .nils = some (.int .i64 0) := len_nils ty_u30
theorem ty_q30 (r p : Nat) (xs : List LV) (lo hi : Option LV) (h : H) : sliceL Try.prog 30 (.sl r p 1 xs) lo hi h = slK r p 1 xs h lo (boundL hi xs.length xs.length) := slice_sl ty_u30 ty_s3 r p xs lo hi h
theorem ty_r30 (lo hi : Option LV) (h : H) : sliceL Try.prog 30 .nils lo hi h = slKn h lo (boundL hi 0 0) := slice_nils ty_u30 ty_s3 lo hi h
theorem ty_w30 (s x : LV) (h : H) : appendL Try.prog 30 30 s x h = appS 1 8 s h (elemsL 1 x) := append_eq ty_u30 (.inr ⟨_, ty_u30⟩) ty_s3 ty_b3 ty_z3 rfl rfl (by decide) (by decide) s x h
theorem ty_k30 (len : Nat) (hb : len * 1 ≤ 2 ^ 24) (parts : List (Nat × LV)) (h : H) : buildSliceL Try.prog 30 len parts h = bsK Try.prog 3 1 len h (fillL (plA 1) (repL (LV.cells (.int .i64 0)) len) parts) := buildSlice_eq ty_u30 ty_s3 ty_z3 rfl rfl (by decide) len hb parts h
theorem ty_L30 (o : Option (Nat × Nat)) (sz : Nat) (xs : List LV) : lenL Try.prog 30 (mkS o sz xs) = some (.int .i64 xs.length) := len_mk ty_u30 o sz xs
theorem ty_I30 (o : Option (Nat × Nat)) (xs : List LV) (k : IntKind) (n : Int) : indexAddrL Try.prog 30 (mkS o 1 xs) (.int k n) = iaS xs n := ia_mk ty_u30 ty_s3 o xs k n
theorem ty_Q30 (o : Option (Nat × Nat)) (xs : List LV) (lo hi : Option LV) (h : H) : sliceL Try.prog 30 (mkS o 1 xs) lo hi h = slM o 1 xs h lo (boundL hi xs.length xs.length) := slice_mk ty_u30 ty_s3 o xs lo hi h
theorem ty_E30 (o : Option (Nat × Nat)) (sz : Nat) (xs : List LV) : binL Try.prog .eql 30 (mkS o sz xs) .nils = some (.bool (decide (o = none ∧ xs = []))) := bin_eql_mk ty_u30 o sz xs
theorem ty_D30 (o : Option (Nat × Nat)) (sz : Nat) (xs : List LV) : binL Try.prog .neq 30 (mkS o sz xs) .nils = some (.bool (!decide (o = none ∧ xs = []))) := bin_neq_mk ty_u30 o sz xs
theorem ty_c3 (n : Nat) (cs : List LV) : chunkL Try.prog 3 1 (n + 1) cs = chK1 cs (chunkL Try.prog 3 1 n (cs.drop 1)) := chunk_s ty_a3 n cs
theorem ty_e30_0 : binL Try.prog .eql 30 .nils .nils = some (.bool true) := bin_eql_of rfl (by rw [eqL_10000]; simp only [eqL, ty_u30]) (by simp)
theorem ty_e30_1 (r hi sz : Nat) (xs : List LV) : binL Try.prog .eql 30 .nils (.sl r hi sz xs) = some (.bool false) := bin_eql_of rfl (by rw [eqL_10000]; simp only [eqL, ty_u30]) (by simp)
theorem ty_e30_2 (r hi sz : Nat) (xs : List LV) : binL Try.prog .eql 30 (.sl r hi sz xs) .nils = some (.bool false) := bin_eql_of rfl (by rw [eqL_10000]; simp only [eqL, ty_u30]) (by simp)
theorem ty_d30_0 : binL Try.prog .neq 30 .nils .nils = some (.bool !true) := bin_neq_of rfl (by rw [eqL_10000]; simp only [eqL, ty_u30]) (by simp)
theorem ty_d30_1 (r hi sz : Nat) (xs : List LV) : binL Try.prog .neq 30 .nils (.sl r hi sz xs) = some (.bool !false) := bin_neq_of rfl (by rw [eqL_10000]; simp only [eqL, ty_u30]) (by simp)
theorem ty_d30_2 (r hi sz : Nat) (xs : List LV) : binL Try.prog .neq 30 (.sl r hi sz xs) .nils = some (.bool !false) := bin_neq_of rfl (by rw [eqL_10000]; simp only [eqL, ty_u30]) (by simp)
theorem ty_p35 (cs : List LV) (off : Nat) : partL Try.prog 35 cs off = partA 3 cs off := part_a ty_a35 ty_s35 cs off
theorem ty_v35 (v : LV) (off : Nat) : subL Try.prog 35 v off = sub2 (partA 3 v.cells off) := sub_a ty_a35 ty_s35 v off
theorem ty_i35 (b off : Nat) (k : IntKind) (n : Int) : indexAddrL Try.prog 35 (.ptr b off) (.int k n) = if 0 ≤ n ∧ n < (3 : Int) then some (.ptr b (off + n.toNat * 1)) else none := ia_ap ty_u35 ty_s3 b off k n
theorem ty_j35 (v : LV) (k : IntKind) (n : Int) : indexAddrL Try.prog 35 (.cptr v) (.int k n) = if 0 ≤ n ∧ n < (3 : Int) then subL Try.prog 3 v (n.toNat * 1) else none := ia_ac ty_u35 ty_s3 v k n
theorem ty_x35 (cs : List LV) (k : IntKind) (n : Int) : indexL Try.prog 35 (.agg cs) (.int k n) = if 0 ≤ n ∧ n < (3 : Int) then partL Try.prog 3 cs (n.toNat * 1) else none := ix_a ty_u35 ty_s3 cs k n
theorem ty_l35 (v : LV) : lenL Try.prog 35 v = some (.int .i64 (3 : Int)) := len_arr ty_u35 v
theorem ty_m35 (parts : List (Nat × LV)) : buildL Try.prog 35 parts = aggK (fillL (plA 1) (LV.cells (.agg [(.int .i64 0), (.int .i64 0), (.int .i64 0)])) parts) := build_a ty_z35 rfl ty_u35 ty_s3 parts
theorem ty_q35 (b off : Nat) (lo hi : Option LV) (h : H) : sliceL Try.prog 35 (.ptr b off) lo hi h = slA Try.prog 3 1 b off 3 lo hi h (h.get b) := slice_arr ty_u35 ty_s3 b off lo hi h
theorem ty_y35 (a0 b0 : Int) (a1 b1 : Int) (a2 b2 : Int) : eqTopL Try.prog 35 (.agg [.int .i64 a0, .int .i64 a1, .int .i64 a2]) (.agg [.int .i64 b0, .int .i64 b1, .int .i64 b2]) = eqSeq [some (a0 == b0), some (a1 == b1), some (a2 == b2)] := by kernel_rfl
theorem ty_p40 (cs : List LV) (off : Nat) : partL Try.prog 40 cs off = cs[off]? := part_s ty_a40 cs off
theorem ty_v40 (v : LV) (off : Nat) : subL Try.prog 40 v off = sub1 v.cells[off]? := sub_s ty_a40 v off
theorem ty_p41 (cs : List LV) (off : Nat) : partL Try.prog 41 cs off = cs[off]? := part_s ty_a41 cs off
theorem ty_v41 (v : LV) (off : Nat) : subL Try.prog 41 v off = sub1 v.cells[off]? := sub_s ty_a41 v off
theorem ty_i41 (r hi : Nat) (xs : List LV) (k : IntKind) (n : Int) : indexAddrL Try.prog 41 (.sl r hi 1 xs) (.int k n) = iaS xs n := ia_sl ty_u41 ty_s5 r hi xs k n
theorem ty_l41 (r hi sz : Nat) (xs : List LV) : lenL Try.prog 41 (.sl r hi sz xs) = some (.int .i64 xs.length) := len_sl ty_u41 r hi sz xs
theorem ty_n41 : lenL Try.prog 41 .nils = some (.int .i64 0) := len_nils ty_u41
theorem ty_q41 (r p : Nat) (xs : List LV) (lo hi : Option LV) (h : H) : sliceL Try.prog 41 (.sl r p 1 xs) lo hi h = slK r p 1 xs h lo (boundL hi xs.length xs.length) := slice_sl ty_u41 ty_s5 r p xs lo hi h
theorem ty_r41 (lo hi : Option LV) (h : H) : sliceL Try.prog 41 .nils lo hi h = slKn h lo (boundL hi 0 0) := slice_nils ty_u41 ty_s5 lo hi h
theorem ty_w41 (s x : LV) (h : H) : appendL Try.prog 41 41 s x h = appS 1 1 s h (elemsL 1 x) := append_eq ty_u41 (.inr ⟨_, ty_u41⟩) ty_s5 ty_b5 ty_z5 rfl rfl (by decide) (by decide) s x h
theorem ty_k41 (len : Nat) (hb : len * 1 ≤ 2 ^ 24) (parts : List (Nat × LV)) (h : H) : buildSliceL Try.prog 41 len parts h = bsK Try.prog 5 1 len h (fillL (plA 1) (repL (LV.cells (.int .u8 0)) len) parts) := buildSlice_eq ty_u41 ty_s5 ty_z5 rfl rfl (by decide) len hb parts h
theorem ty_L41 (o : Option (Nat × Nat)) (sz : Nat) (xs : List LV) : lenL Try.prog 41 (mkS o sz xs) = some (.int .i64 xs.length) := len_mk ty_u41 o sz xs
theorem ty_I41 (o : Option (Nat × Nat)) (xs : List LV) (k : IntKind) (n : Int) : indexAddrL Try.prog 41 (mkS o 1 xs) (.int k n) = iaS xs n := ia_mk ty_u41 ty_s5 o xs k n
theorem ty_Q41 (o : Option (Nat × Nat)) (xs : List LV) (lo hi : Option LV) (h : H) : sliceL Try.prog 41 (mkS o 1 xs) lo hi h = slM o 1 xs h lo (boundL hi xs.length xs.length) := slice_mk ty_u41 ty_s5 o xs lo hi h
theorem ty_E41 (o : Option (Nat × Nat)) (sz : Nat) (xs : List LV) : binL Try.prog .eql 41 (mkS o sz xs) .nils = some (.bool (decide (o = none ∧ xs = []))) := bin_eql_mk ty_u41 o sz xs
theorem ty_D41 (o : Option (Nat × Nat)) (sz : Nat) (xs : List LV) : binL Try.prog .neq 41 (mkS o sz xs) .nils = some (.bool (!decide (o = none ∧ xs = []))) := bin_neq_mk ty_u41 o sz xs
theorem ty_c5 (n : Nat) (cs : List LV) : chunkL Try.prog 5 1 (n + 1) cs = chK1 cs (chunkL Try.prog 5 1 n (cs.drop 1)) := chunk_s ty_a5 n cs
theorem ty_F41 (s : S) (h : H) (x : Operand) (lo hi mx : Option Operand) : fzO Try.prog s h (.slice 41 x lo hi mx) = h := fzO_sl ty_u41
theorem ty_e41_0 : binL Try.prog .eql 41 .nils .nils = some (.bool true) := bin_eql_of rfl (by rw [eqL_10000]; simp only [eqL, ty_u41]) (by simp)
theorem ty_e41_1 (r hi sz : Nat) (xs : List LV) : binL Try.prog .eql 41 .nils (.sl r hi sz xs) = some (.bool false) := bin_eql_of rfl (by rw [eqL_10000]; simp only [eqL, ty_u41]) (by simp)
theorem ty_e41_2 (r hi sz : Nat) (xs : List LV) : binL Try.prog .eql 41 (.sl r hi sz xs) .nils = some (.bool false) := bin_eql_of rfl (by rw [eqL_10000]; simp only [eqL, ty_u41]) (by simp)
theorem ty_d41_0 : binL Try.prog .neq 41 .nils .nils = some (.bool !true) := bin_neq_of rfl (by rw [eqL_10000]; simp only [eqL, ty_u41]) (by simp)
theorem ty_d41_1 (r hi sz : Nat) (xs : List LV) : binL Try.prog .neq 41 .nils (.sl r hi sz xs) = some (.bool !false) := bin_neq_of rfl (by rw [eqL_10000]; simp only [eqL, ty_u41]) (by simp)
theorem ty_d41_2 (r hi sz : Nat) (xs : List LV) : binL Try.prog .neq 41 (.sl r hi sz xs) .nils = some (.bool !false) := bin_neq_of rfl (by rw [eqL_10000]; simp only [eqL, ty_u41]) (by simp)
theorem ty_p52 (cs : List LV) (off : Nat) : partL Try.prog 52 cs off = partA 3 cs off := part_a ty_a52 ty_s52 cs off
theorem ty_v52 (v : LV) (off : Nat) : subL Try.prog 52 v off = sub2 (partA 3 v.cells off) := sub_a ty_a52 ty_s52 v off
theorem ty_f52_0 (b off : Nat) : fieldAddrL Try.prog 52 (.ptr b off) 0 = some (.ptr b (off + 0)) := by kernel_rfl
theorem ty_g52_0 (v : LV) : fieldAddrL Try.prog 52 (.cptr v) 0 = subL Try.prog 2 v 0 := by kernel_rfl
theorem ty_h52_0 (cs : List LV) : fieldL Try.prog 52 (.agg cs) 0 = partL Try.prog 2 cs 0 := by kernel_rfl
theorem ty_f52_1 (b off : Nat) : fieldAddrL Try.prog 52 (.ptr b off) 1 = some (.ptr b (off + 1)) := by kernel_rfl
theorem ty_g52_1 (v : LV) : fieldAddrL Try.prog 52 (.cptr v) 1 = subL Try.prog 3 v 1 := by kernel_rfl
theorem ty_h52_1 (cs : List LV) : fieldL Try.prog 52 (.agg cs) 1 = partL Try.prog 3 cs 1 := by kernel_rfl
theorem ty_f52_2 (b off : Nat) : fieldAddrL Try.prog 52 (.ptr b off) 2 = some (.ptr b (off + 2)) := by kernel_rfl
theorem ty_g52_2 (v : LV) : fieldAddrL Try.prog 52 (.cptr v) 2 = subL Try.prog 25 v 2 := by kernel_rfl
theorem ty_h52_2 (cs : List LV) : fieldL Try.prog 52 (.agg cs) 2 = partL Try.prog 25 cs 2 := by kernel_rfl
theorem ty_m52 (parts : List (Nat × LV)) : buildL Try.prog 52 parts = aggK (fillL (plS [(0, 1), (1, 1), (2, 1)]) (LV.cells (.agg [(.int .i64 0), (.int .i64 0), (.int .i64 0)])) parts) := build_s ty_z52 rfl ty_u52 (by kernel_rfl) parts
theorem ty_y52 (a0 b0 : Int) (a1 b1 : Int) (a2 b2 : Int) : eqTopL Try.prog 52 (.agg [.int .i64 a0, .int .i64 a1, .int .i64 a2]) (.agg [.int .i64 b0, .int .i64 b1, .int .i64 b2]) = eqSeq [some (a0 == b0), some (a1 == b1), some (a2 == b2)] := by kernel_rfl
theorem ty_p57 (cs : List LV) (off : Nat) : partL Try.prog 57 cs off = partA 19 cs off := part_a ty_a57 ty_s57 cs off
theorem ty_v57 (v : LV) (off : Nat) : subL Try.prog 57 v off = sub2 (partA 19 v.cells off) := sub_a ty_a57 ty_s57 v off
theorem ty_f57_0 (b off : Nat) : fieldAddrL Try.prog 57 (.ptr b off) 0 = some (.ptr b (off + 0)) := by kernel_rfl
theorem ty_g57_0 (v : LV) : fieldAddrL Try.prog 57 (.cptr v) 0 = subL Try.prog 3 v 0 := by kernel_rfl
theorem ty_h57_0 (cs : List LV) : fieldL Try.prog 57 (.agg cs) 0 = partL Try.prog 3 cs 0 := by kernel_rfl
theorem ty_f57_1 (b off : Nat) : fieldAddrL Try.prog 57 (.ptr b off) 1 = some (.ptr b (off + 1)) := by kernel_rfl
theorem ty_g57_1 (v : LV) : fieldAddrL Try.prog 57 (.cptr v) 1 = subL Try.prog 22 v 1 := by kernel_rfl
theorem ty_h57_1 (cs : List LV) : fieldL Try.prog 57 (.agg cs) 1 = partL Try.prog 22 cs 1 := by kernel_rfl
theorem ty_f57_2 (b off : Nat) : fieldAddrL Try.prog 57 (.ptr b off) 2 = some (.ptr b (off + 2)) := by kernel_rfl
theorem ty_g57_2 (v : LV) : fieldAddrL Try.prog 57 (.cptr v) 2 = subL Try.prog 22 v 2 := by kernel_rfl
theorem ty_h57_2 (cs : List LV) : fieldL Try.prog 57 (.agg cs) 2 = partL Try.prog 22 cs 2 := by kernel_rfl
theorem ty_f57_3 (b off : Nat) : fieldAddrL Try.prog 57 (.ptr b off) 3 = some (.ptr b (off + 3)) := by kernel_rfl
theorem ty_g57_3 (v : LV) : fieldAddrL Try.prog 57 (.cptr v) 3 = subL Try.prog 22 v 3 := by kernel_rfl
theorem ty_h57_3 (cs : List LV) : fieldL Try.prog 57 (.agg cs) 3 = partL Try.prog 22 cs 3 := by kernel_rfl
theorem ty_f57_4 (b off : Nat) : fieldAddrL Try.prog 57 (.ptr b off) 4 = some (.ptr b (off + 4)) := by kernel_rfl
theorem ty_g57_4 (v : LV) : fieldAddrL Try.prog 57 (.cptr v) 4 = subL Try.prog 22 v 4 := by kernel_rfl
theorem ty_h57_4 (cs : List LV) : fieldL Try.prog 57 (.agg cs) 4 = partL Try.prog 22 cs 4 := by kernel_rfl
theorem ty_f57_5 (b off : Nat) : fieldAddrL Try.prog 57 (.ptr b off) 5 = some (.ptr b (off + 5)) := by kernel_rfl
theorem ty_g57_5 (v : LV) : fieldAddrL Try.prog 57 (.cptr v) 5 = subL Try.prog 22 v 5 := by kernel_rfl
theorem ty_h57_5 (cs : List LV) : fieldL Try.prog 57 (.agg cs) 5 = partL Try.prog 22 cs 5 := by kernel_rfl
theorem ty_f57_6 (b off : Nat) : fieldAddrL Try.prog 57 (.ptr b off) 6 = some (.ptr b (off + 6)) := by kernel_rfl
theorem ty_g57_6 (v : LV) : fieldAddrL Try.prog 57 (.cptr v) 6 = subL Try.prog 22 v 6 := by kernel_rfl
theorem ty_h57_6 (cs : List LV) : fieldL Try.prog 57 (.agg cs) 6 = partL Try.prog 22 cs 6 := by kernel_rfl
theorem ty_f57_7 (b off : Nat) : fieldAddrL Try.prog 57 (.ptr b off) 7 = some (.ptr b (off + 7)) := by kernel_rfl
theorem ty_g57_7 (v : LV) : fieldAddrL Try.prog 57 (.cptr v) 7 = subL Try.prog 22 v 7 := by kernel_rfl
theorem ty_h57_7 (cs : List LV) : fieldL Try.prog 57 (.agg cs) 7 = partL Try.prog 22 cs 7 := by kernel_rfl
theorem ty_f57_8 (b off : Nat) : fieldAddrL Try.prog 57 (.ptr b off) 8 = some (.ptr b (off + 8)) := by kernel_rfl
theorem ty_g57_8 (v : LV) : fieldAddrL Try.prog 57 (.cptr v) 8 = subL Try.prog 22 v 8 := by kernel_rfl
theorem ty_h57_8 (cs : List LV) : fieldL Try.prog 57 (.agg cs) 8 = partL Try.prog 22 cs 8 := by kernel_rfl
theorem ty_f57_9 (b off : Nat) : fieldAddrL Try.prog 57 (.ptr b off) 9 = some (.ptr b (off + 9)) := by kernel_rfl
theorem ty_g57_9 (v : LV) : fieldAddrL Try.prog 57 (.cptr v) 9 = subL Try.prog 22 v 9 := by kernel_rfl
theorem ty_h57_9 (cs : List LV) : fieldL Try.prog 57 (.agg cs) 9 = partL Try.prog 22 cs 9 := by kernel_rfl
theorem ty_f57_10 (b off : Nat) : fieldAddrL Try.prog 57 (.ptr b off) 10 = some (.ptr b (off + 10)) := by kernel_rfl
theorem ty_g57_10 (v : LV) : fieldAddrL Try.prog 57 (.cptr v) 10 = subL Try.prog 22 v 10 := by kernel_rfl
theorem ty_h57_10 (cs : List LV) : fieldL Try.prog 57 (.agg cs) 10 = partL Try.prog 22 cs 10 := by kernel_rfl
theorem ty_f57_11 (b off : Nat) : fieldAddrL Try.prog 57 (.ptr b off) 11 = some (.ptr b (off + 11)) := by kernel_rfl
theorem ty_g57_11 (v : LV) : fieldAddrL Try.prog 57 (.cptr v) 11 = subL Try.prog 3 v 11 := by kernel_rfl
theorem ty_h57_11 (cs : List LV) : fieldL Try.prog 57 (.agg cs) 11 = partL Try.prog 3 cs 11 := by kernel_rfl
theorem ty_f57_12 (b off : Nat) : fieldAddrL Try.prog 57 (.ptr b off) 12 = some (.ptr b (off + 12)) := by kernel_rfl
theorem ty_g57_12 (v : LV) : fieldAddrL Try.prog 57 (.cptr v) 12 = subL Try.prog 3 v 12 := by kernel_rfl
theorem ty_h57_12 (cs : List LV) : fieldL Try.prog 57 (.agg cs) 12 = partL Try.prog 3 cs 12 := by kernel_rfl
theorem ty_f57_13 (b off : Nat) : fieldAddrL Try.prog 57 (.ptr b off) 13 = some (.ptr b (off + 13)) := by kernel_rfl
theorem ty_g57_13 (v : LV) : fieldAddrL Try.prog 57 (.cptr v) 13 = subL Try.prog 3 v 13 := by kernel_rfl
theorem ty_h57_13 (cs : List LV) : fieldL Try.prog 57 (.agg cs) 13 = partL Try.prog 3 cs 13 := by kernel_rfl
theorem ty_f57_14 (b off : Nat) : fieldAddrL Try.prog 57 (.ptr b off) 14 = some (.ptr b (off + 14)) := by kernel_rfl
theorem ty_g57_14 (v : LV) : fieldAddrL Try.prog 57 (.cptr v) 14 = subL Try.prog 3 v 14 := by kernel_rfl
theorem ty_h57_14 (cs : List LV) : fieldL Try.prog 57 (.agg cs) 14 = partL Try.prog 3 cs 14 := by kernel_rfl
theorem ty_f57_15 (b off : Nat) : fieldAddrL Try.prog 57 (.ptr b off) 15 = some (.ptr b (off + 15)) := by kernel_rfl
theorem ty_g57_15 (v : LV) : fieldAddrL Try.prog 57 (.cptr v) 15 = subL Try.prog 3 v 15 := by kernel_rfl
theorem ty_h57_15 (cs : List LV) : fieldL Try.prog 57 (.agg cs) 15 = partL Try.prog 3 cs 15 := by kernel_rfl
theorem ty_f57_16 (b off : Nat) : fieldAddrL Try.prog 57 (.ptr b off) 16 = some (.ptr b (off + 16)) := by kernel_rfl
theorem ty_g57_16 (v : LV) : fieldAddrL Try.prog 57 (.cptr v) 16 = subL Try.prog 3 v 16 := by kernel_rfl
theorem ty_h57_16 (cs : List LV) : fieldL Try.prog 57 (.agg cs) 16 = partL Try.prog 3 cs 16 := by kernel_rfl
theorem ty_f57_17 (b off : Nat) : fieldAddrL Try.prog 57 (.ptr b off) 17 = some (.ptr b (off + 17)) := by kernel_rfl
theorem ty_g57_17 (v : LV) : fieldAddrL Try.prog 57 (.cptr v) 17 = subL Try.prog 3 v 17 := by kernel_rfl
theorem ty_h57_17 (cs : List LV) : fieldL Try.prog 57 (.agg cs) 17 = partL Try.prog 3 cs 17 := by kernel_rfl
theorem ty_f57_18 (b off : Nat) : fieldAddrL Try.prog 57 (.ptr b off) 18 = some (.ptr b (off + 18)) := by kernel_rfl
theorem ty_g57_18 (v : LV) : fieldAddrL Try.prog 57 (.cptr v) 18 = subL Try.prog 4 v 18 := by kernel_rfl
theorem ty_h57_18 (cs : List LV) : fieldL Try.prog 57 (.agg cs) 18 = partL Try.prog 4 cs 18 := by kernel_rfl
theorem ty_m57 (parts : List (Nat × LV)) : buildL Try.prog 57 parts = aggK (fillL (plS [(0, 1), (1, 1), (2, 1), (3, 1), (4, 1), (5, 1), (6, 1), (7, 1), (8, 1), (9, 1), (10, 1), (11, 1), (12, 1), (13, 1), (14, 1), (15, 1), (16, 1), (17, 1), (18, 1)]) (LV.cells (.agg [(.int .i64 0), (.int .i64 0), (.int .i64 0), (.int .i64 0), (.int .i64 0), (.int .i64 0), (.int .i64 0), (.int .i64 0), (.int .i64 0), (.int .i64 0), (.int .i64 0), (.int .i64 0), (.int .i64 0), (.int .i64 0), (.int .i64 0), (.int .i64 0), (.int .i64 0), (.int .i64 0), (.bool false)])) parts) := build_s ty_z57 rfl ty_u57 (by kernel_rfl) parts
theorem ty_y57 (a0 b0 : Int) (a1 b1 : Int) (a2 b2 : Int) (a3 b3 : Int) (a4 b4 : Int) (a5 b5 : Int) (a6 b6 : Int) (a7 b7 : Int) (a8 b8 : Int) (a9 b9 : Int) (a10 b10 : Int) (a11 b11 : Int) (a12 b12 : Int) (a13 b13 : Int) (a14 b14 : Int) (a15 b15 : Int) (a16 b16 : Int) (a17 b17 : Int) (a18 b18 : Bool) : eqTopL Try.prog 57 (.agg [.int .i64 a0, .int .i64 a1, .int .i64 a2, .int .i64 a3, .int .i64 a4, .int .i64 a5, .int .i64 a6, .int .i64 a7, .int .i64 a8, .int .i64 a9, .int .i64 a10, .int .i64 a11, .int .i64 a12, .int .i64 a13, .int .i64 a14, .int .i64 a15, .int .i64 a16, .int .i64 a17, .bool a18]) (.agg [.int .i64 b0, .int .i64 b1, .int .i64 b2, .int .i64 b3, .int .i64 b4, .int .i64 b5, .int .i64 b6, .int .i64 b7, .int .i64 b8, .int .i64 b9, .int .i64 b10, .int .i64 b11, .int .i64 b12, .int .i64 b13, .int .i64 b14, .int .i64 b15, .int .i64 b16, .int .i64 b17, .bool b18]) = eqSeq [some (a0 == b0), some (a1 == b1), some (a2 == b2), some (a3 == b3), some (a4 == b4), some (a5 == b5), some (a6 == b6), some (a7 == b7), some (a8 == b8), some (a9 == b9), some (a10 == b10), some (a11 == b11), some (a12 == b12), some (a13 == b13), some (a14 == b14), some (a15 == b15), some (a16 == b16), some (a17 == b17), some (a18 == b18)] := by kernel_rfl
theorem ty_p63 (cs : List LV) (off : Nat) : partL Try.prog 63 cs off = partA 2 cs off := part_a ty_a63 ty_s63 cs off
theorem ty_v63 (v : LV) (off : Nat) : subL Try.prog 63 v off = sub2 (partA 2 v.cells off) := sub_a ty_a63 ty_s63 v off
theorem ty_i63 (b off : Nat) (k : IntKind) (n : Int) : indexAddrL Try.prog 63 (.ptr b off) (.int k n) = if 0 ≤ n ∧ n < (2 : Int) then some (.ptr b (off + n.toNat * 1)) else none := ia_ap ty_u63 ty_s3 b off k n
theorem ty_j63 (v : LV) (k : IntKind) (n : Int) : indexAddrL Try.prog 63 (.cptr v) (.int k n) = if 0 ≤ n ∧ n < (2 : Int) then subL Try.prog 3 v (n.toNat * 1) else none := ia_ac ty_u63 ty_s3 v k n
theorem ty_x63 (cs : List LV) (k : IntKind) (n : Int) : indexL Try.prog 63 (.agg cs) (.int k n) = if 0 ≤ n ∧ n < (2 : Int) then partL Try.prog 3 cs (n.toNat * 1) else none := ix_a ty_u63 ty_s3 cs k n
theorem ty_l63 (v : LV) : lenL Try.prog 63 v = some (.int .i64 (2 : Int)) := len_arr ty_u63 v
theorem ty_m63 (parts : List (Nat × LV)) : buildL Try.prog 63 parts = aggK (fillL (plA 1) (LV.cells (.agg [(.int .i64 0), (.int .i64 0)])) parts) := build_a ty_z63 rfl ty_u63 ty_s3 parts
theorem ty_q63 (b off : Nat) (lo hi : Option LV) (h : H) : sliceL Try.prog 63 (.ptr b off) lo hi h = slA Try.prog 2 1 b off 3 lo hi h (h.get b) := slice_arr ty_u63 ty_s3 b off lo hi h
theorem ty_y63 (a0 b0 : Int) (a1 b1 : Int) : eqTopL Try.prog 63 (.agg [.int .i64 a0, .int .i64 a1]) (.agg [.int .i64 b0, .int .i64 b1]) = eqSeq [some (a0 == b0), some (a1 == b1)] := by kernel_rfl
theorem ty_p68 (cs : List LV) (off : Nat) : partL Try.prog 68 cs off = cs[off]? := part_s ty_a68 cs off
theorem ty_v68 (v : LV) (off : Nat) : subL Try.prog 68 v off = sub1 v.cells[off]? := sub_s ty_a68 v off
theorem ty_i68 (r hi : Nat) (xs : List LV) (k : IntKind) (n : Int) : indexAddrL Try.prog 68 (.sl r hi 7 xs) (.int k n) = iaS xs n := ia_sl ty_u68 ty_s95 r hi xs k n
theorem ty_l68 (r hi sz : Nat) (xs : List LV) : lenL Try.prog 68 (.sl r hi sz xs) = some (.int .i64 xs.length) := len_sl ty_u68 r hi sz xs
theorem ty_n68 : lenL Try.prog 68 .nils = some (.int .i64 0) := len_nils ty_u68
theorem ty_q68 (r p : Nat) (xs : List LV) (lo hi : Option LV) (h : H) : sliceL Try.prog 68 (.sl r p 7 xs) lo hi h = slK r p 7 xs h lo (boundL hi xs.length xs.length) := slice_sl ty_u68 ty_s95 r p xs lo hi h
theorem ty_r68 (lo hi : Option LV) (h : H) : sliceL Try.prog 68 .nils lo hi h = slKn h lo (boundL hi 0 0) := slice_nils ty_u68 ty_s95 lo hi h
theorem ty_w68 (s x : LV) (h : H) : appendL Try.prog 68 68 s x h = appS 7 56 s h (elemsL 7 x) := append_eq ty_u68 (.inr ⟨_, ty_u68⟩) ty_s95 ty_b95 ty_z95 rfl rfl (by decide) (by decide) s x h
theorem ty_k68 (len : Nat) (hb : len * 7 ≤ 2 ^ 24) (parts : List (Nat × LV)) (h : H) : buildSliceL Try.prog 68 len parts h = bsK Try.prog 95 7 len h (fillL (plA 7) (repL (LV.cells (.agg [(.int .i64 0), (.int .i64 0), (.int .i64 0), (.int .i64 0), (.int .i64 0), (.int .i64 0), (.int .i64 0)])) len) parts) := buildSlice_eq ty_u68 ty_s95 ty_z95 rfl rfl (by decide) len hb parts h
theorem ty_L68 (o : Option (Nat × Nat)) (sz : Nat) (xs : List LV) : lenL Try.prog 68 (mkS o sz xs) = some (.int .i64 xs.length) := len_mk ty_u68 o sz xs
theorem ty_I68 (o : Option (Nat × Nat)) (xs : List LV) (k : IntKind) (n : Int) : indexAddrL Try.prog 68 (mkS o 7 xs) (.int k n) = iaS xs n := ia_mk ty_u68 ty_s95 o xs k n
theorem ty_Q68 (o : Option (Nat × Nat)) (xs : List LV) (lo hi : Option LV) (h : H) : sliceL Try.prog 68 (mkS o 7 xs) lo hi h = slM o 7 xs h lo (boundL hi xs.length xs.length) := slice_mk ty_u68 ty_s95 o xs lo hi h
theorem ty_E68 (o : Option (Nat × Nat)) (sz : Nat) (xs : List LV) : binL Try.prog .eql 68 (mkS o sz xs) .nils = some (.bool (decide (o = none ∧ xs = []))) := bin_eql_mk ty_u68 o sz xs
theorem ty_D68 (o : Option (Nat × Nat)) (sz : Nat) (xs : List LV) : binL Try.prog .neq 68 (mkS o sz xs) .nils = some (.bool (!decide (o = none ∧ xs = []))) := bin_neq_mk ty_u68 o sz xs
theorem ty_c95 (n : Nat) (cs : List LV) : chunkL Try.prog 95 7 (n + 1) cs = chK cs 7 (chunkL Try.prog 95 7 n (cs.drop 7)) := chunk_a ty_a95 n cs
theorem ty_e68_0 : binL Try.prog .eql 68 .nils .nils = some (.bool true) := bin_eql_of rfl (by rw [eqL_10000]; simp only [eqL, ty_u68]) (by simp)
theorem ty_e68_1 (r hi sz : Nat) (xs : List LV) : binL Try.prog .eql 68 .nils (.sl r hi sz xs) = some (.bool false) := bin_eql_of rfl (by rw [eqL_10000]; simp only [eqL, ty_u68]) (by simp)
theorem ty_e68_2 (r hi sz : Nat) (xs : List LV) : binL Try.prog .eql 68 (.sl r hi sz xs) .nils = some (.bool false) := bin_eql_of rfl (by rw [eqL_10000]; simp only [eqL, ty_u68]) (by simp)
theorem ty_d68_0 : binL Try.prog .neq 68 .nils .nils = some (.bool !true) := bin_neq_of rfl (by rw [eqL_10000]; simp only [eqL, ty_u68]) (by simp)
theorem ty_d68_1 (r hi sz : Nat) (xs : List LV) : binL Try.prog .neq 68 .nils (.sl r hi sz xs) = some (.bool !false) := bin_neq_of rfl (by rw [eqL_10000]; simp only [eqL, ty_u68]) (by simp)
theorem ty_d68_2 (r hi sz : Nat) (xs : List LV) : binL Try.prog .neq 68 (.sl r hi sz xs) .nils = some (.bool !false) := bin_neq_of rfl (by rw [eqL_10000]; simp only [eqL, ty_u68]) (by simp)
theorem ty_p69 (cs : List LV) (off : Nat) : partL Try.prog 69 cs off = cs[off]? := part_s ty_a69 cs off
theorem ty_v69 (v : LV) (off : Nat) : subL Try.prog 69 v off = sub1 v.cells[off]? := sub_s ty_a69 v off
theorem ty_e69_0 : binL Try.prog .eql 69 .nilp .nilp = some (.bool true) := bin_eql_of rfl (by rw [eqL_10000]; simp only [eqL, ty_u69]) (by simp)
theorem ty_e69_1 (b off : Nat) : binL Try.prog .eql 69 .nilp (.ptr b off) = some (.bool false) := bin_eql_of rfl (by rw [eqL_10000]; simp only [eqL, ty_u69]) (by simp)
theorem ty_e69_2 (b off : Nat) : binL Try.prog .eql 69 (.ptr b off) .nilp = some (.bool false) := bin_eql_of rfl (by rw [eqL_10000]; simp only [eqL, ty_u69]) (by simp)
theorem ty_e69_3 (v : LV) : binL Try.prog .eql 69 (.cptr v) .nilp = some (.bool false) := bin_eql_of rfl (by rw [eqL_10000]; simp only [eqL, ty_u69]) (by simp)
theorem ty_e69_4 (v : LV) : binL Try.prog .eql 69 .nilp (.cptr v) = some (.bool false) := bin_eql_of rfl (by rw [eqL_10000]; simp only [eqL, ty_u69]) (by simp)
theorem ty_d69_0 : binL Try.prog .neq 69 .nilp .nilp = some (.bool !true) := bin_neq_of rfl (by rw [eqL_10000]; simp only [eqL, ty_u69]) (by simp)
theorem ty_d69_1 (b off : Nat) : binL Try.prog .neq 69 .nilp (.ptr b off) = some (.bool !false) := bin_neq_of rfl (by rw [eqL_10000]; simp only [eqL, ty_u69]) (by simp)
theorem ty_d69_2 (b off : Nat) : binL Try.prog .neq 69 (.ptr b off) .nilp = some (.bool !false) := bin_neq_of rfl (by rw [eqL_10000]; simp only [eqL, ty_u69]) (by simp)
theorem ty_d69_3 (v : LV) : binL Try.prog .neq 69 (.cptr v) .nilp = some (.bool !false) := bin_neq_of rfl (by rw [eqL_10000]; simp only [eqL, ty_u69]) (by simp)
theorem ty_d69_4 (v : LV) : binL Try.prog .neq 69 .nilp (.cptr v) = some (.bool !false) := bin_neq_of rfl (by rw [eqL_10000]; simp only [eqL, ty_u69]) (by simp)
theorem ty_p80 (cs : List LV) (off : Nat) : partL Try.prog 80 cs off = cs[off]? := part_s ty_a80 cs off
theorem ty_v80 (v : LV) (off : Nat) : subL Try.prog 80 v off = sub1 v.cells[off]? := sub_s ty_a80 v off
theorem ty_p88 (cs : List LV) (off : Nat) : partL Try.prog 88 cs off = partA 4 cs off := part_a ty_a88 ty_s88 cs off
theorem ty_v88 (v : LV) (off : Nat) : subL Try.prog 88 v off = sub2 (partA 4 v.cells off) := sub_a ty_a88 ty_s88 v off
theorem ty_i88 (b off : Nat) (k : IntKind) (n : Int) : indexAddrL Try.prog 88 (.ptr b off) (.int k n) = if 0 ≤ n ∧ n < (4 : Int) then some (.ptr b (off + n.toNat * 1)) else none := ia_ap ty_u88 ty_s22 b off k n
theorem ty_j88 (v : LV) (k : IntKind) (n : Int) : indexAddrL Try.prog 88 (.cptr v) (.int k n) = if 0 ≤ n ∧ n < (4 : Int) then subL Try.prog 22 v (n.toNat * 1) else none := ia_ac ty_u88 ty_s22 v k n
theorem ty_x88 (cs : List LV) (k : IntKind) (n : Int) : indexL Try.prog 88 (.agg cs) (.int k n) = if 0 ≤ n ∧ n < (4 : Int) then partL Try.prog 22 cs (n.toNat * 1) else none := ix_a ty_u88 ty_s22 cs k n
theorem ty_l88 (v : LV) : lenL Try.prog 88 v = some (.int .i64 (4 : Int)) := len_arr ty_u88 v
theorem ty_m88 (parts : List (Nat × LV)) : buildL Try.prog 88 parts = aggK (fillL (plA 1) (LV.cells (.agg [(.int .i64 0), (.int .i64 0), (.int .i64 0), (.int .i64 0)])) parts) := build_a ty_z88 rfl ty_u88 ty_s22 parts
theorem ty_q88 (b off : Nat) (lo hi : Option LV) (h : H) : sliceL Try.prog 88 (.ptr b off) lo hi h = slA Try.prog 4 1 b off 22 lo hi h (h.get b) := slice_arr ty_u88 ty_s22 b off lo hi h
theorem ty_c22 (n : Nat) (cs : List LV) : chunkL Try.prog 22 1 (n + 1) cs = chK1 cs (chunkL Try.prog 22 1 n (cs.drop 1)) := chunk_s ty_a22 n cs
theorem ty_F88 (s : S) (h : H) (x : Nat) (lo hi mx : Option Operand) : fzO Try.prog s h (.slice 88 (.tmp x) lo hi mx) = fzK h (s x) := fzO_arr ty_u88
theorem ty_y88 (a0 b0 : Int) (a1 b1 : Int) (a2 b2 : Int) (a3 b3 : Int) : eqTopL Try.prog 88 (.agg [.int .i64 a0, .int .i64 a1, .int .i64 a2, .int .i64 a3]) (.agg [.int .i64 b0, .int .i64 b1, .int .i64 b2, .int .i64 b3]) = eqSeq [some (a0 == b0), some (a1 == b1), some (a2 == b2), some (a3 == b3)] := by kernel_rfl
theorem ty_p89 (cs : List LV) (off : Nat) : partL Try.prog 89 cs off = partA 5 cs off := part_a ty_a89 ty_s89 cs off
theorem ty_v89 (v : LV) (off : Nat) : subL Try.prog 89 v off = sub2 (partA 5 v.cells off) := sub_a ty_a89 ty_s89 v off
theorem ty_i89 (b off : Nat) (k : IntKind) (n : Int) : indexAddrL Try.prog 89 (.ptr b off) (.int k n) = if 0 ≤ n ∧ n < (5 : Int) then some (.ptr b (off + n.toNat * 1)) else none := ia_ap ty_u89 ty_s3 b off k n
theorem ty_j89 (v : LV) (k : IntKind) (n : Int) : indexAddrL Try.prog 89 (.cptr v) (.int k n) = if 0 ≤ n ∧ n < (5 : Int) then subL Try.prog 3 v (n.toNat * 1) else none := ia_ac ty_u89 ty_s3 v k n
theorem ty_x89 (cs : List LV) (k : IntKind) (n : Int) : indexL Try.prog 89 (.agg cs) (.int k n) = if 0 ≤ n ∧ n < (5 : Int) then partL Try.prog 3 cs (n.toNat * 1) else none := ix_a ty_u89 ty_s3 cs k n
theorem ty_l89 (v : LV) : lenL Try.prog 89 v = some (.int .i64 (5 : Int)) := len_arr ty_u89 v
theorem ty_m89 (parts : List (Nat × LV)) : buildL Try.prog 89 parts = aggK (fillL (plA 1) (LV.cells (.agg [(.int .i64 0), (.int .i64 0), (.int .i64 0), (.int .i64 0), (.int .i64 0)])) parts) := build_a ty_z89 rfl ty_u89 ty_s3 parts
theorem ty_q89 (b off : Nat) (lo hi : Option LV) (h : H) : sliceL Try.prog 89 (.ptr b off) lo hi h = slA Try.prog 5 1 b off 3 lo hi h (h.get b) := slice_arr ty_u89 ty_s3 b off lo hi h
theorem ty_F89 (s : S) (h : H) (x : Nat) (lo hi mx : Option Operand) : fzO Try.prog s h (.slice 89 (.tmp x) lo hi mx) = fzK h (s x) := fzO_arr ty_u89
theorem ty_y89 (a0 b0 : Int) (a1 b1 : Int) (a2 b2 : Int) (a3 b3 : Int) (a4 b4 : Int) : eqTopL Try.prog 89 (.agg [.int .i64 a0, .int .i64 a1, .int .i64 a2, .int .i64 a3, .int .i64 a4]) (.agg [.int .i64 b0, .int .i64 b1, .int .i64 b2, .int .i64 b3, .int .i64 b4]) = eqSeq [some (a0 == b0), some (a1 == b1), some (a2 == b2), some (a3 == b3), some (a4 == b4)] := by kernel_rfl
theorem ty_p90 (cs : List LV) (off : Nat) : partL Try.prog 90 cs off = cs[off]? := part_s ty_a90 cs off
theorem ty_v90 (v : LV) (off : Nat) : subL Try.prog 90 v off = sub1 v.cells[off]? := sub_s ty_a90 v off
theorem ty_i90 (r hi : Nat) (xs : List LV) (k : IntKind) (n : Int) : indexAddrL Try.prog 90 (.sl r hi 1 xs) (.int k n) = iaS xs n := ia_sl ty_u90 ty_s22 r hi xs k n
theorem ty_l90 (r hi sz : Nat) (xs : List LV) : lenL Try.prog 90 (.sl r hi sz xs) = some (.int .i64 xs.length) := len_sl ty_u90 r hi sz xs
theorem ty_n90 : lenL Try.prog 90 .nils = some (.int .i64 0) := len_nils ty_u90
theorem ty_q90 (r p : Nat) (xs : List LV) (lo hi : Option LV) (h : H) : sliceL Try.prog 90 (.sl r p 1 xs) lo hi h = slK r p 1 xs h lo (boundL hi xs.length xs.length) := slice_sl ty_u90 ty_s22 r p xs lo hi h
theorem ty_r90 (lo hi : Option LV) (h : H) : sliceL Try.prog 90 .nils lo hi h = slKn h lo (boundL hi 0 0) := slice_nils ty_u90 ty_s22 lo hi h
theorem ty_w90 (s x : LV) (h : H) : appendL Try.prog 90 90 s x h = appS 1 8 s h (elemsL 1 x) := append_eq ty_u90 (.inr ⟨_, ty_u90⟩) ty_s22 ty_b22 ty_z22 rfl rfl (by decide) (by decide) s x h
theorem ty_k90 (len : Nat) (hb : len * 1 ≤ 2 ^ 24) (parts : List (Nat × LV)) (h : H) : buildSliceL Try.prog 90 len parts h = bsK Try.prog 22 1 len h (fillL (plA 1) (repL (LV.cells (.int .i64 0)) len) parts) := buildSlice_eq ty_u90 ty_s22 ty_z22 rfl rfl (by decide) len hb parts h
theorem ty_L90 (o : Option (Nat × Nat)) (sz : Nat) (xs : List LV) : lenL Try.prog 90 (mkS o sz xs) = some (.int .i64 xs.length) := len_mk ty_u90 o sz xs
theorem ty_I90 (o : Option (Nat × Nat)) (xs : List LV) (k : IntKind) (n : Int) : indexAddrL Try.prog 90 (mkS o 1 xs) (.int k n) = iaS xs n := ia_mk ty_u90 ty_s22 o xs k n
theorem ty_Q90 (o : Option (Nat × Nat)) (xs : List LV) (lo hi : Option LV) (h : H) : sliceL Try.prog 90 (mkS o 1 xs) lo hi h = slM o 1 xs h lo (boundL hi xs.length xs.length) := slice_mk ty_u90 ty_s22 o xs lo hi h
theorem ty_E90 (o : Option (Nat × Nat)) (sz : Nat) (xs : List LV) : binL Try.prog .eql 90 (mkS o sz xs) .nils = some (.bool (decide (o = none ∧ xs = []))) := bin_eql_mk ty_u90 o sz xs
theorem ty_D90 (o : Option (Nat × Nat)) (sz : Nat) (xs : List LV) : binL Try.prog .neq 90 (mkS o sz xs) .nils = some (.bool (!decide (o = none ∧ xs = []))) := bin_neq_mk ty_u90 o sz xs
theorem ty_e90_0 : binL Try.prog .eql 90 .nils .nils = some (.bool true) := bin_eql_of rfl (by rw [eqL_10000]; simp only [eqL, ty_u90]) (by simp)
theorem ty_e90_1 (r hi sz : Nat) (xs : List LV) : binL Try.prog .eql 90 .nils (.sl r hi sz xs) = some (.bool false) := bin_eql_of rfl (by rw [eqL_10000]; simp only [eqL, ty_u90]) (by simp)
theorem ty_e90_2 (r hi sz : Nat) (xs : List LV) : binL Try.prog .eql 90 (.sl r hi sz xs) .nils = some (.bool false) := bin_eql_of rfl (by rw [eqL_10000]; simp only [eqL, ty_u90]) (by simp)
theorem ty_d90_0 : binL Try.prog .neq 90 .nils .nils = some (.bool !true) := bin_neq_of rfl (by rw [eqL_10000]; simp only [eqL, ty_u90]) (by simp)
theorem ty_d90_1 (r hi sz : Nat) (xs : List LV) : binL Try.prog .neq 90 .nils (.sl r hi sz xs) = some (.bool !false) := bin_neq_of rfl (by rw [eqL_10000]; simp only [eqL, ty_u90]) (by simp)
theorem ty_d90_2 (r hi sz : Nat) (xs : List LV) : binL Try.prog .neq 90 (.sl r hi sz xs) .nils = some (.bool !false) := bin_neq_of rfl (by rw [eqL_10000]; simp only [eqL, ty_u90]) (by simp)
theorem ty_p91 (cs : List LV) (off : Nat) : partL Try.prog 91 cs off = partA 3 cs off := part_a ty_a91 ty_s91 cs off
theorem ty_v91 (v : LV) (off : Nat) : subL Try.prog 91 v off = sub2 (partA 3 v.cells off) := sub_a ty_a91 ty_s91 v off
theorem ty_i91 (b off : Nat) (k : IntKind) (n : Int) : indexAddrL Try.prog 91 (.ptr b off) (.int k n) = if 0 ≤ n ∧ n < (3 : Int) then some (.ptr b (off + n.toNat * 1)) else none := ia_ap ty_u91 ty_s22 b off k n
theorem ty_j91 (v : LV) (k : IntKind) (n : Int) : indexAddrL Try.prog 91 (.cptr v) (.int k n) = if 0 ≤ n ∧ n < (3 : Int) then subL Try.prog 22 v (n.toNat * 1) else none := ia_ac ty_u91 ty_s22 v k n
theorem ty_x91 (cs : List LV) (k : IntKind) (n : Int) : indexL Try.prog 91 (.agg cs) (.int k n) = if 0 ≤ n ∧ n < (3 : Int) then partL Try.prog 22 cs (n.toNat * 1) else none := ix_a ty_u91 ty_s22 cs k n
theorem ty_l91 (v : LV) : lenL Try.prog 91 v = some (.int .i64 (3 : Int)) := len_arr ty_u91 v
theorem ty_m91 (parts : List (Nat × LV)) : buildL Try.prog 91 parts = aggK (fillL (plA 1) (LV.cells (.agg [(.int .i64 0), (.int .i64 0), (.int .i64 0)])) parts) := build_a ty_z91 rfl ty_u91 ty_s22 parts
theorem ty_q91 (b off : Nat) (lo hi : Option LV) (h : H) : sliceL Try.prog 91 (.ptr b off) lo hi h = slA Try.prog 3 1 b off 22 lo hi h (h.get b) := slice_arr ty_u91 ty_s22 b off lo hi h
theorem ty_y91 (a0 b0 : Int) (a1 b1 : Int) (a2 b2 : Int) : eqTopL Try.prog 91 (.agg [.int .i64 a0, .int .i64 a1, .int .i64 a2]) (.agg [.int .i64 b0, .int .i64 b1, .int .i64 b2]) = eqSeq [some (a0 == b0), some (a1 == b1), some (a2 == b2)] := by kernel_rfl
theorem ty_p92 (cs : List LV) (off : Nat) : partL Try.prog 92 cs off = partA 7 cs off := part_a ty_a92 ty_s92 cs off
theorem ty_v92 (v : LV) (off : Nat) : subL Try.prog 92 v off = sub2 (partA 7 v.cells off) := sub_a ty_a92 ty_s92 v off
theorem ty_i92 (b off : Nat) (k : IntKind) (n : Int) : indexAddrL Try.prog 92 (.ptr b off) (.int k n) = if 0 ≤ n ∧ n < (7 : Int) then some (.ptr b (off + n.toNat * 1)) else none := ia_ap ty_u92 ty_s22 b off k n
theorem ty_j92 (v : LV) (k : IntKind) (n : Int) : indexAddrL Try.prog 92 (.cptr v) (.int k n) = if 0 ≤ n ∧ n < (7 : Int) then subL Try.prog 22 v (n.toNat * 1) else none := ia_ac ty_u92 ty_s22 v k n
theorem ty_x92 (cs : List LV) (k : IntKind) (n : Int) : indexL Try.prog 92 (.agg cs) (.int k n) = if 0 ≤ n ∧ n < (7 : Int) then partL Try.prog 22 cs (n.toNat * 1) else none := ix_a ty_u92 ty_s22 cs k n
theorem ty_l92 (v : LV) : lenL Try.prog 92 v = some (.int .i64 (7 : Int)) := len_arr ty_u92 v
theorem ty_m92 (parts : List (Nat × LV)) : buildL Try.prog 92 parts = aggK (fillL (plA 1) (LV.cells (.agg [(.int .i64 0), (.int .i64 0), (.int .i64 0), (.int .i64 0), (.int .i64 0), (.int .i64 0), (.int .i64 0)])) parts) := build_a ty_z92 rfl ty_u92 ty_s22 parts
theorem ty_q92 (b off : Nat) (lo hi : Option LV) (h : H) : sliceL Try.prog 92 (.ptr b off) lo hi h = slA Try.prog 7 1 b off 22 lo hi h (h.get b) := slice_arr ty_u92 ty_s22 b off lo hi h
theorem ty_y92 (a0 b0 : Int) (a1 b1 : Int) (a2 b2 : Int) (a3 b3 : Int) (a4 b4 : Int) (a5 b5 : Int) (a6 b6 : Int) : eqTopL Try.prog 92 (.agg [.int .i64 a0, .int .i64 a1, .int .i64 a2, .int .i64 a3, .int .i64 a4, .int .i64 a5, .int .i64 a6]) (.agg [.int .i64 b0, .int .i64 b1, .int .i64 b2, .int .i64 b3, .int .i64 b4, .int .i64 b5, .int .i64 b6]) = eqSeq [some (a0 == b0), some (a1 == b1), some (a2 == b2), some (a3 == b3), some (a4 == b4), some (a5 == b5), some (a6 == b6)] := by kernel_rfl
theorem ty_p93 (cs : List LV) (off : Nat) : partL Try.prog 93 cs off = partA 7 cs off := part_a ty_a93 ty_s93 cs off
theorem ty_v93 (v : LV) (off : Nat) : subL Try.prog 93 v off = sub2 (partA 7 v.cells off) := sub_a ty_a93 ty_s93 v off
theorem ty_i93 (b off : Nat) (k : IntKind) (n : Int) : indexAddrL Try.prog 93 (.ptr b off) (.int k n) = if 0 ≤ n ∧ n < (7 : Int) then some (.ptr b (off + n.toNat * 1)) else none := ia_ap ty_u93 ty_s3 b off k n
theorem ty_j93 (v : LV) (k : IntKind) (n : Int) : indexAddrL Try.prog 93 (.cptr v) (.int k n) = if 0 ≤ n ∧ n < (7 : Int) then subL Try.prog 3 v (n.toNat * 1) else none := ia_ac ty_u93 ty_s3 v k n
theorem ty_x93 (cs : List LV) (k : IntKind) (n : Int) : indexL Try.prog 93 (.agg cs) (.int k n) = if 0 ≤ n ∧ n < (7 : Int) then partL Try.prog 3 cs (n.toNat * 1) else none := ix_a ty_u93 ty_s3 cs k n
theorem ty_l93 (v : LV) : lenL Try.prog 93 v = some (.int .i64 (7 : Int)) := len_arr ty_u93 v
theorem ty_m93 (parts : List (Nat × LV)) : buildL Try.prog 93 parts = aggK (fillL (plA 1) (LV.cells (.agg [(.int .i64 0), (.int .i64 0), (.int .i64 0), (.int .i64 0), (.int .i64 0), (.int .i64 0), (.int .i64 0)])) parts) := build_a ty_z93 rfl ty_u93 ty_s3 parts
theorem ty_q93 (b off : Nat) (lo hi : Option LV) (h : H) : sliceL Try.prog 93 (.ptr b off) lo hi h = slA Try.prog 7 1 b off 3 lo hi h (h.get b) := slice_arr ty_u93 ty_s3 b off lo hi h
theorem ty_y93 (a0 b0 : Int) (a1 b1 : Int) (a2 b2 : Int) (a3 b3 : Int) (a4 b4 : Int) (a5 b5 : Int) (a6 b6 : Int) : eqTopL Try.prog 93 (.agg [.int .i64 a0, .int .i64 a1, .int .i64 a2, .int .i64 a3, .int .i64 a4, .int .i64 a5, .int .i64 a6]) (.agg [.int .i64 b0, .int .i64 b1, .int .i64 b2, .int .i64 b3, .int .i64 b4, .int .i64 b5, .int .i64 b6]) = eqSeq [some (a0 == b0), some (a1 == b1), some (a2 == b2), some (a3 == b3), some (a4 == b4), some (a5 == b5), some (a6 == b6)] := by kernel_rfl
theorem ty_p95 (cs : List LV) (off : Nat) : partL Try.prog 95 cs off = partA 7 cs off := part_a ty_a95 ty_s95 cs off
theorem ty_v95 (v : LV) (off : Nat) : subL Try.prog 95 v off = sub2 (partA 7 v.cells off) := sub_a ty_a95 ty_s95 v off
theorem ty_f95_0 (b off : Nat) : fieldAddrL Try.prog 95 (.ptr b off) 0 = some (.ptr b (off + 0)) := by kernel_rfl
theorem ty_g95_0 (v : LV) : fieldAddrL Try.prog 95 (.cptr v) 0 = subL Try.prog 3 v 0 := by kernel_rfl
theorem ty_h95_0 (cs : List LV) : fieldL Try.prog 95 (.agg cs) 0 = partL Try.prog 3 cs 0 := by kernel_rfl
theorem ty_f95_1 (b off : Nat) : fieldAddrL Try.prog 95 (.ptr b off) 1 = some (.ptr b (off + 1)) := by kernel_rfl
theorem ty_g95_1 (v : LV) : fieldAddrL Try.prog 95 (.cptr v) 1 = subL Try.prog 22 v 1 := by kernel_rfl
theorem ty_h95_1 (cs : List LV) : fieldL Try.prog 95 (.agg cs) 1 = partL Try.prog 22 cs 1 := by kernel_rfl
theorem ty_f95_2 (b off : Nat) : fieldAddrL Try.prog 95 (.ptr b off) 2 = some (.ptr b (off + 2)) := by kernel_rfl
theorem ty_g95_2 (v : LV) : fieldAddrL Try.prog 95 (.cptr v) 2 = subL Try.prog 3 v 2 := by kernel_rfl
theorem ty_h95_2 (cs : List LV) : fieldL Try.prog 95 (.agg cs) 2 = partL Try.prog 3 cs 2 := by kernel_rfl
theorem ty_f95_3 (b off : Nat) : fieldAddrL Try.prog 95 (.ptr b off) 3 = some (.ptr b (off + 3)) := by kernel_rfl
theorem ty_g95_3 (v : LV) : fieldAddrL Try.prog 95 (.cptr v) 3 = subL Try.prog 22 v 3 := by kernel_rfl
theorem ty_h95_3 (cs : List LV) : fieldL Try.prog 95 (.agg cs) 3 = partL Try.prog 22 cs 3 := by kernel_rfl
theorem ty_f95_4 (b off : Nat) : fieldAddrL Try.prog 95 (.ptr b off) 4 = some (.ptr b (off + 4)) := by kernel_rfl
theorem ty_g95_4 (v : LV) : fieldAddrL Try.prog 95 (.cptr v) 4 = subL Try.prog 3 v 4 := by kernel_rfl
theorem ty_h95_4 (cs : List LV) : fieldL Try.prog 95 (.agg cs) 4 = partL Try.prog 3 cs 4 := by kernel_rfl
theorem ty_f95_5 (b off : Nat) : fieldAddrL Try.prog 95 (.ptr b off) 5 = some (.ptr b (off + 5)) := by kernel_rfl
theorem ty_g95_5 (v : LV) : fieldAddrL Try.prog 95 (.cptr v) 5 = subL Try.prog 22 v 5 := by kernel_rfl
theorem ty_h95_5 (cs : List LV) : fieldL Try.prog 95 (.agg cs) 5 = partL Try.prog 22 cs 5 := by kernel_rfl
theorem ty_f95_6 (b off : Nat) : fieldAddrL Try.prog 95 (.ptr b off) 6 = some (.ptr b (off + 6)) := by kernel_rfl
theorem ty_g95_6 (v : LV) : fieldAddrL Try.prog 95 (.cptr v) 6 = subL Try.prog 3 v 6 := by kernel_rfl
theorem ty_h95_6 (cs : List LV) : fieldL Try.prog 95 (.agg cs) 6 = partL Try.prog 3 cs 6 := by kernel_rfl
theorem ty_m95 (parts : List (Nat × LV)) : buildL Try.prog 95 parts = aggK (fillL (plS [(0, 1), (1, 1), (2, 1), (3, 1), (4, 1), (5, 1), (6, 1)]) (LV.cells (.agg [(.int .i64 0), (.int .i64 0), (.int .i64 0), (.int .i64 0), (.int .i64 0), (.int .i64 0), (.int .i64 0)])) parts) := build_s ty_z95 rfl ty_u95 (by kernel_rfl) parts
theorem ty_y95 (a0 b0 : Int) (a1 b1 : Int) (a2 b2 : Int) (a3 b3 : Int) (a4 b4 : Int) (a5 b5 : Int) (a6 b6 : Int) : eqTopL Try.prog 95 (.agg [.int .i64 a0, .int .i64 a1, .int .i64 a2, .int .i64 a3, .int .i64 a4, .int .i64 a5, .int .i64 a6]) (.agg [.int .i64 b0, .int .i64 b1, .int .i64 b2, .int .i64 b3, .int .i64 b4, .int .i64 b5, .int .i64 b6]) = eqSeq [some (a0 == b0), some (a1 == b1), some (a2 == b2), some (a3 == b3), some (a4 == b4), some (a5 == b5), some (a6 == b6)] := by kernel_rfl
theorem ty_p97 (cs : List LV) (off : Nat) : partL Try.prog 97 cs off = cs[off]? := part_s ty_a97 cs off
theorem ty_v97 (v : LV) (off : Nat) : subL Try.prog 97 v off = sub1 v.cells[off]? := sub_s ty_a97 v off
theorem ty_i97 (r hi : Nat) (xs : List LV) (k : IntKind) (n : Int) : indexAddrL Try.prog 97 (.sl r hi 3 xs) (.int k n) = iaS xs n := ia_sl ty_u97 ty_s35 r hi xs k n
theorem ty_l97 (r hi sz : Nat) (xs : List LV) : lenL Try.prog 97 (.sl r hi sz xs) = some (.int .i64 xs.length) := len_sl ty_u97 r hi sz xs
theorem ty_n97 : lenL Try.prog 97 .nils = some (.int .i64 0) := len_nils ty_u97
theorem ty_q97 (r p : Nat) (xs : List LV) (lo hi : Option LV) (h : H) : sliceL Try.prog 97 (.sl r p 3 xs) lo hi h = slK r p 3 xs h lo (boundL hi xs.length xs.length) := slice_sl ty_u97 ty_s35 r p xs lo hi h
theorem ty_r97 (lo hi : Option LV) (h : H) : sliceL Try.prog 97 .nils lo hi h = slKn h lo (boundL hi 0 0) := slice_nils ty_u97 ty_s35 lo hi h
theorem ty_w97 (s x : LV) (h : H) : appendL Try.prog 97 97 s x h = appS 3 24 s h (elemsL 3 x) := append_eq ty_u97 (.inr ⟨_, ty_u97⟩) ty_s35 ty_b35 ty_z35 rfl rfl (by decide) (by decide) s x h
theorem ty_k97 (len : Nat) (hb : len * 3 ≤ 2 ^ 24) (parts : List (Nat × LV)) (h : H) : buildSliceL Try.prog 97 len parts h = bsK Try.prog 35 3 len h (fillL (plA 3) (repL (LV.cells (.agg [(.int .i64 0), (.int .i64 0), (.int .i64 0)])) len) parts) := buildSlice_eq ty_u97 ty_s35 ty_z35 rfl rfl (by decide) len hb parts h
theorem ty_L97 (o : Option (Nat × Nat)) (sz : Nat) (xs : List LV) : lenL Try.prog 97 (mkS o sz xs) = some (.int .i64 xs.length) := len_mk ty_u97 o sz xs
theorem ty_I97 (o : Option (Nat × Nat)) (xs : List LV) (k : IntKind) (n : Int) : indexAddrL Try.prog 97 (mkS o 3 xs) (.int k n) = iaS xs n := ia_mk ty_u97 ty_s35 o xs k n
theorem ty_Q97 (o : Option (Nat × Nat)) (xs : List LV) (lo hi : Option LV) (h : H) : sliceL Try.prog 97 (mkS o 3 xs) lo hi h = slM o 3 xs h lo (boundL hi xs.length xs.length) := slice_mk ty_u97 ty_s35 o xs lo hi h
theorem ty_E97 (o : Option (Nat × Nat)) (sz : Nat) (xs : List LV) : binL Try.prog .eql 97 (mkS o sz xs) .nils = some (.bool (decide (o = none ∧ xs = []))) := bin_eql_mk ty_u97 o sz xs
theorem ty_D97 (o : Option (Nat × Nat)) (sz : Nat) (xs : List LV) : binL Try.prog .neq 97 (mkS o sz xs) .nils = some (.bool (!decide (o = none ∧ xs = []))) := bin_neq_mk ty_u97 o sz xs
theorem ty_c35 (n : Nat) (cs : List LV) : chunkL Try.prog 35 3 (n + 1) cs = chK cs 3 (chunkL Try.prog 35 3 n (cs.drop 3)) := chunk_a ty_a35 n cs
theorem ty_e97_0 : binL Try.prog .eql 97 .nils .nils = some (.bool true) := bin_eql_of rfl (by rw [eqL_10000]; simp only [eqL, ty_u97]) (by simp)
theorem ty_e97_1 (r hi sz : Nat) (xs : List LV) : binL Try.prog .eql 97 .nils (.sl r hi sz xs) = some (.bool false) := bin_eql_of rfl (by rw [eqL_10000]; simp only [eqL, ty_u97]) (by simp)
theorem ty_e97_2 (r hi sz : Nat) (xs : List LV) : binL Try.prog .eql 97 (.sl r hi sz xs) .nils = some (.bool false) := bin_eql_of rfl (by rw [eqL_10000]; simp only [eqL, ty_u97]) (by simp)
theorem ty_d97_0 : binL Try.prog .neq 97 .nils .nils = some (.bool !true) := bin_neq_of rfl (by rw [eqL_10000]; simp only [eqL, ty_u97]) (by simp)
theorem ty_d97_1 (r hi sz : Nat) (xs : List LV) : binL Try.prog .neq 97 .nils (.sl r hi sz xs) = some (.bool !false) := bin_neq_of rfl (by rw [eqL_10000]; simp only [eqL, ty_u97]) (by simp)
theorem ty_d97_2 (r hi sz : Nat) (xs : List LV) : binL Try.prog .neq 97 (.sl r hi sz xs) .nils = some (.bool !false) := bin_neq_of rfl (by rw [eqL_10000]; simp only [eqL, ty_u97]) (by simp)
theorem ty_p99 (cs : List LV) (off : Nat) : partL Try.prog 99 cs off = partA 4 cs off := part_a ty_a99 ty_s99 cs off
theorem ty_v99 (v : LV) (off : Nat) : subL Try.prog 99 v off = sub2 (partA 4 v.cells off) := sub_a ty_a99 ty_s99 v off
theorem ty_f99_0 (b off : Nat) : fieldAddrL Try.prog 99 (.ptr b off) 0 = some (.ptr b (off + 0)) := by kernel_rfl
theorem ty_g99_0 (v : LV) : fieldAddrL Try.prog 99 (.cptr v) 0 = subL Try.prog 68 v 0 := by kernel_rfl
theorem ty_h99_0 (cs : List LV) : fieldL Try.prog 99 (.agg cs) 0 = partL Try.prog 68 cs 0 := by kernel_rfl
theorem ty_f99_1 (b off : Nat) : fieldAddrL Try.prog 99 (.ptr b off) 1 = some (.ptr b (off + 1)) := by kernel_rfl
theorem ty_g99_1 (v : LV) : fieldAddrL Try.prog 99 (.cptr v) 1 = subL Try.prog 30 v 1 := by kernel_rfl
theorem ty_h99_1 (cs : List LV) : fieldL Try.prog 99 (.agg cs) 1 = partL Try.prog 30 cs 1 := by kernel_rfl
theorem ty_f99_2 (b off : Nat) : fieldAddrL Try.prog 99 (.ptr b off) 2 = some (.ptr b (off + 2)) := by kernel_rfl
theorem ty_g99_2 (v : LV) : fieldAddrL Try.prog 99 (.cptr v) 2 = subL Try.prog 97 v 2 := by kernel_rfl
theorem ty_h99_2 (cs : List LV) : fieldL Try.prog 99 (.agg cs) 2 = partL Try.prog 97 cs 2 := by kernel_rfl
theorem ty_f99_3 (b off : Nat) : fieldAddrL Try.prog 99 (.ptr b off) 3 = some (.ptr b (off + 3)) := by kernel_rfl
theorem ty_g99_3 (v : LV) : fieldAddrL Try.prog 99 (.cptr v) 3 = subL Try.prog 97 v 3 := by kernel_rfl
theorem ty_h99_3 (cs : List LV) : fieldL Try.prog 99 (.agg cs) 3 = partL Try.prog 97 cs 3 := by kernel_rfl
theorem ty_m99 (parts : List (Nat × LV)) : buildL Try.prog 99 parts = aggK (fillL (plS [(0, 1), (1, 1), (2, 1), (3, 1)]) (LV.cells (.agg [.nils, .nils, .nils, .nils])) parts) := build_s ty_z99 rfl ty_u99 (by kernel_rfl) parts
theorem ty_cv2_40 (k : IntKind) (n : Int) (h : H) : convL Try.prog 2 40 (.int k n) h = some (.int .u64 (IntKind.wrap .u64 n), h) := cv_int ty_u2 ty_u40 k n h
theorem ty_cv5_40 (k : IntKind) (n : Int) (h : H) : convL Try.prog 5 40 (.int k n) h = some (.int .u64 (IntKind.wrap .u64 n), h) := cv_int ty_u5 ty_u40 k n h
theorem ty_cv40_2 (k : IntKind) (n : Int) (h : H) : convL Try.prog 40 2 (.int k n) h = some (.int .i64 (IntKind.wrap .i64 n), h) := cv_int ty_u40 ty_u2 k n h
theorem ty_cv40_5 (k : IntKind) (n : Int) (h : H) : convL Try.prog 40 5 (.int k n) h = some (.int .u8 (IntKind.wrap .u8 n), h) := cv_int ty_u40 ty_u5 k n h
attribute [go_sem] ty_s2
  ty_z2
  ty_s3
  ty_z3
  ty_s4
  ty_z4
  ty_s5
  ty_z5
  ty_s22
  ty_z22
  ty_s24
  ty_z24
  ty_s25
  ty_z25
  ty_s29
  ty_z29
  ty_s30
  ty_z30
  ty_s35
  ty_z35
  ty_s40
  ty_z40
  ty_s41
  ty_z41
  ty_s52
  ty_z52
  ty_s57
  ty_z57
  ty_s63
  ty_z63
  ty_s68
  ty_z68
  ty_s69
  ty_z69
  ty_s80
  ty_z80
  ty_s88
  ty_z88
  ty_s89
  ty_z89
  ty_s90
  ty_z90
  ty_s91
  ty_z91
  ty_s92
  ty_z92
  ty_s93
  ty_z93
  ty_s95
  ty_z95
  ty_s97
  ty_z97
  ty_s99
  ty_z99
  ty_p2
  ty_v2
  ty_p3
  ty_v3
  ty_p4
  ty_v4
  ty_e4
  ty_d4
  ty_p5
  ty_v5
  ty_p22
  ty_v22
  ty_p24
  ty_v24
  ty_f24_0
  ty_g24_0
  ty_h24_0
  ty_f24_1
  ty_g24_1
  ty_h24_1
  ty_f24_2
  ty_g24_2
  ty_h24_2
  ty_m24
  ty_y24
  ty_p25
  ty_v25
  ty_p29
  ty_v29
  ty_i29
  ty_l29
  ty_n29
  ty_q29
  ty_r29
  ty_w29
  ty_k29
  ty_L29
  ty_I29
  ty_Q29
  ty_E29
  ty_D29
  ty_c24
  ty_e29_0
  ty_e29_1
  ty_e29_2
  ty_d29_0
  ty_d29_1
  ty_d29_2
  ty_p30
  ty_v30
  ty_i30
  ty_l30
  ty_n30
  ty_q30
  ty_r30
  ty_w30
  ty_k30
  ty_L30
  ty_I30
  ty_Q30
  ty_E30
  ty_D30
  ty_c3
  ty_e30_0
  ty_e30_1
  ty_e30_2
  ty_d30_0
  ty_d30_1
  ty_d30_2
  ty_p35
  ty_v35
  ty_i35
  ty_j35
  ty_x35
  ty_l35
  ty_m35
  ty_q35
  ty_y35
  ty_p40
  ty_v40
  ty_p41
  ty_v41
  ty_i41
  ty_l41
  ty_n41
  ty_q41
  ty_r41
  ty_w41
  ty_k41
  ty_L41
  ty_I41
  ty_Q41
  ty_E41
  ty_D41
  ty_c5
  ty_F41
  ty_e41_0
  ty_e41_1
  ty_e41_2
  ty_d41_0
  ty_d41_1
  ty_d41_2
  ty_p52
  ty_v52
  ty_f52_0
  ty_g52_0
  ty_h52_0
  ty_f52_1
  ty_g52_1
  ty_h52_1
  ty_f52_2
  ty_g52_2
  ty_h52_2
  ty_m52
  ty_y52
  ty_p57
  ty_v57
  ty_f57_0
  ty_g57_0
  ty_h57_0
  ty_f57_1
  ty_g57_1
  ty_h57_1
  ty_f57_2
  ty_g57_2
  ty_h57_2
  ty_f57_3
  ty_g57_3
  ty_h57_3
  ty_f57_4
  ty_g57_4
  ty_h57_4
  ty_f57_5
  ty_g57_5
  ty_h57_5
  ty_f57_6
  ty_g57_6
  ty_h57_6
  ty_f57_7
  ty_g57_7
  ty_h57_7
  ty_f57_8
  ty_g57_8
  ty_h57_8
  ty_f57_9
  ty_g57_9
  ty_h57_9
  ty_f57_10
  ty_g57_10
  ty_h57_10
  ty_f57_11
  ty_g57_11
  ty_h57_11
  ty_f57_12
  ty_g57_12
  ty_h57_12
  ty_f57_13
  ty_g57_13
  ty_h57_13
  ty_f57_14
  ty_g57_14
  ty_h57_14
  ty_f57_15
  ty_g57_15
  ty_h57_15
  ty_f57_16
  ty_g57_16
  ty_h57_16
  ty_f57_17
  ty_g57_17
  ty_h57_17
  ty_f57_18
  ty_g57_18
  ty_h57_18
  ty_m57
  ty_y57
  ty_p63
  ty_v63
  ty_i63
  ty_j63
  ty_x63
  ty_l63
  ty_m63
  ty_q63
  ty_y63
  ty_p68
  ty_v68
  ty_i68
  ty_l68
  ty_n68
  ty_q68
  ty_r68
  ty_w68
  ty_k68
  ty_L68
  ty_I68
  ty_Q68
  ty_E68
  ty_D68
  ty_c95
  ty_e68_0
  ty_e68_1
  ty_e68_2
  ty_d68_0
  ty_d68_1
  ty_d68_2
  ty_p69
  ty_v69
  ty_e69_0
  ty_e69_1
  ty_e69_2
  ty_e69_3
  ty_e69_4
  ty_d69_0
  ty_d69_1
  ty_d69_2
  ty_d69_3
  ty_d69_4
  ty_p80
  ty_v80
  ty_p88
  ty_v88
  ty_i88
  ty_j88
  ty_x88
  ty_l88
  ty_m88
  ty_q88
  ty_c22
  ty_F88
  ty_y88
  ty_p89
  ty_v89
  ty_i89
  ty_j89
  ty_x89
  ty_l89
  ty_m89
  ty_q89
  ty_F89
  ty_y89
  ty_p90
  ty_v90
  ty_i90
  ty_l90
  ty_n90
  ty_q90
  ty_r90
  ty_w90
  ty_k90
  ty_L90
  ty_I90
  ty_Q90
  ty_E90
  ty_D90
  ty_e90_0
  ty_e90_1
  ty_e90_2
  ty_d90_0
  ty_d90_1
  ty_d90_2
  ty_p91
  ty_v91
  ty_i91
  ty_j91
  ty_x91
  ty_l91
  ty_m91
  ty_q91
  ty_y91
  ty_p92
  ty_v92
  ty_i92
  ty_j92
  ty_x92
  ty_l92
  ty_m92
  ty_q92
  ty_y92
  ty_p93
  ty_v93
  ty_i93
  ty_j93
  ty_x93
  ty_l93
  ty_m93
  ty_q93
  ty_y93
  ty_p95
  ty_v95
  ty_f95_0
  ty_g95_0
  ty_h95_0
  ty_f95_1
  ty_g95_1
  ty_h95_1
  ty_f95_2
  ty_g95_2
  ty_h95_2
  ty_f95_3
  ty_g95_3
  ty_h95_3
  ty_f95_4
  ty_g95_4
  ty_h95_4
  ty_f95_5
  ty_g95_5
  ty_h95_5
  ty_f95_6
  ty_g95_6
  ty_h95_6
  ty_m95
  ty_y95
  ty_p97
  ty_v97
  ty_i97
  ty_l97
  ty_n97
  ty_q97
  ty_r97
  ty_w97
  ty_k97
  ty_L97
  ty_I97
  ty_Q97
  ty_E97
  ty_D97
  ty_c35
  ty_e97_0
  ty_e97_1
  ty_e97_2
  ty_d97_0
  ty_d97_1
  ty_d97_2
  ty_p99
  ty_v99
  ty_f99_0
  ty_g99_0
  ty_h99_0
  ty_f99_1
  ty_g99_1
  ty_h99_1
  ty_f99_2
  ty_g99_2
  ty_h99_2
  ty_f99_3
  ty_g99_3
  ty_h99_3
  ty_m99
  ty_cv2_40
  ty_cv5_40
  ty_cv40_2
  ty_cv40_5

end Go.LM
