import Derived.Test.YtpmpdidgbbgeeaaLmY
import Derived.Test.YtpmpdidgbbgeeaaProg
import Derived.KernelRfl
namespace Go.LM
open Go.Proofs

theorem ty_u2 : Try.prog.underlying 2 = some (TypeDesc.int IntKind.i64) := by kernel_rfl
theorem ty_a2 : isAggT Try.prog 2 = some false := by kernel_rfl
theorem ty_s2 : sizeT Try.prog 2 = some 1 := by kernel_rfl
theorem ty_o2 : Try.prog.cellsOf 2 = 1 := by kernel_rfl
theorem ty_b2 : bytesT Try.prog 2 = some 8 := by kernel_rfl
theorem ty_z2 : zeroL Try.prog 2 = some (.int .i64 0) := by kernel_rfl
theorem ty_u3 : Try.prog.underlying 3 = some (TypeDesc.int IntKind.i64) := by kernel_rfl
theorem ty_a3 : isAggT Try.prog 3 = some false := by kernel_rfl
theorem ty_s3 : sizeT Try.prog 3 = some 1 := by kernel_rfl
theorem ty_o3 : Try.prog.cellsOf 3 = 1 := by kernel_rfl
theorem ty_b3 : bytesT Try.prog 3 = some 8 := by kernel_rfl
theorem ty_z3 : zeroL Try.prog 3 = some (.int .i64 0) := by kernel_rfl
theorem ty_u4 : Try.prog.underlying 4 = some TypeDesc.bool := by kernel_rfl
theorem ty_a4 : isAggT Try.prog 4 = some false := by kernel_rfl
theorem ty_s4 : sizeT Try.prog 4 = some 1 := by kernel_rfl
theorem ty_o4 : Try.prog.cellsOf 4 = 1 := by kernel_rfl
theorem ty_b4 : bytesT Try.prog 4 = some 1 := by kernel_rfl
theorem ty_z4 : zeroL Try.prog 4 = some (.bool false) := by kernel_rfl
theorem ty_u5 : Try.prog.underlying 5 = some (TypeDesc.int IntKind.u8) := by kernel_rfl
theorem ty_a5 : isAggT Try.prog 5 = some false := by kernel_rfl
theorem ty_s5 : sizeT Try.prog 5 = some 1 := by kernel_rfl
theorem ty_o5 : Try.prog.cellsOf 5 = 1 := by kernel_rfl
theorem ty_b5 : bytesT Try.prog 5 = some 1 := by kernel_rfl
theorem ty_z5 : zeroL Try.prog 5 = some (.int .u8 0) := by kernel_rfl
theorem ty_u9 : Try.prog.underlying 9 = some TypeDesc.string := by kernel_rfl
theorem ty_a9 : isAggT Try.prog 9 = some false := by kernel_rfl
theorem ty_s9 : sizeT Try.prog 9 = some 1 := by kernel_rfl
theorem ty_o9 : Try.prog.cellsOf 9 = 1 := by kernel_rfl
theorem ty_b9 : bytesT Try.prog 9 = some 16 := by kernel_rfl
theorem ty_z9 : zeroL Try.prog 9 = some (.str { data := #[] }) := by kernel_rfl
theorem ty_u22 : Try.prog.underlying 22 = some (TypeDesc.slice 102) := by kernel_rfl
theorem ty_a22 : isAggT Try.prog 22 = some false := by kernel_rfl
theorem ty_s22 : sizeT Try.prog 22 = some 1 := by kernel_rfl
theorem ty_o22 : Try.prog.cellsOf 22 = 1 := by kernel_rfl
theorem ty_b22 : bytesT Try.prog 22 = some 24 := by kernel_rfl
theorem ty_z22 : zeroL Try.prog 22 = some .nils := by kernel_rfl
theorem ty_u26 : Try.prog.underlying 26 = some (TypeDesc.slice 5) := by kernel_rfl
theorem ty_a26 : isAggT Try.prog 26 = some false := by kernel_rfl
theorem ty_s26 : sizeT Try.prog 26 = some 1 := by kernel_rfl
theorem ty_o26 : Try.prog.cellsOf 26 = 1 := by kernel_rfl
theorem ty_b26 : bytesT Try.prog 26 = some 24 := by kernel_rfl
theorem ty_z26 : zeroL Try.prog 26 = some .nils := by kernel_rfl
theorem ty_u28 : Try.prog.underlying 28 = some (TypeDesc.int IntKind.i64) := by kernel_rfl
theorem ty_a28 : isAggT Try.prog 28 = some false := by kernel_rfl
theorem ty_s28 : sizeT Try.prog 28 = some 1 := by kernel_rfl
theorem ty_o28 : Try.prog.cellsOf 28 = 1 := by kernel_rfl
theorem ty_b28 : bytesT Try.prog 28 = some 8 := by kernel_rfl
theorem ty_z28 : zeroL Try.prog 28 = some (.int .i64 0) := by kernel_rfl
theorem ty_u30 : Try.prog.underlying 30 = some (TypeDesc.struct #[{ name := "K", type := 3, offset := 0, embedded := false, tag := "", pkgPath := "", byteOffset := 0 }, { name := "N", type := 3, offset := 1, embedded := false, tag := "", pkgPath := "", byteOffset := 8 }, { name := "L", type := 3, offset := 2, embedded := false, tag := "", pkgPath := "", byteOffset := 16 }, { name := "Y", type := 28, offset := 3, embedded := false, tag := "", pkgPath := "", byteOffset := 24 }, { name := "H", type := 28, offset := 4, embedded := false, tag := "", pkgPath := "", byteOffset := 32 }]) := by kernel_rfl
theorem ty_a30 : isAggT Try.prog 30 = some true := by kernel_rfl
theorem ty_s30 : sizeT Try.prog 30 = some 5 := by kernel_rfl
theorem ty_o30 : Try.prog.cellsOf 30 = 5 := by kernel_rfl
theorem ty_b30 : bytesT Try.prog 30 = some 40 := by kernel_rfl
theorem ty_z30 : zeroL Try.prog 30 = some (.agg [(.int .i64 0), (.int .i64 0), (.int .i64 0), (.int .i64 0), (.int .i64 0)]) := by kernel_rfl
theorem ty_u34 : Try.prog.underlying 34 = some (TypeDesc.slice 42) := by kernel_rfl
theorem ty_a34 : isAggT Try.prog 34 = some false := by kernel_rfl
theorem ty_s34 : sizeT Try.prog 34 = some 1 := by kernel_rfl
theorem ty_o34 : Try.prog.cellsOf 34 = 1 := by kernel_rfl
theorem ty_b34 : bytesT Try.prog 34 = some 24 := by kernel_rfl
theorem ty_z34 : zeroL Try.prog 34 = some .nils := by kernel_rfl
theorem ty_u38 : Try.prog.underlying 38 = some (TypeDesc.struct #[{ name := "B", type := 26, offset := 0, embedded := false, tag := "", pkgPath := "", byteOffset := 0 }, { name := "Ok", type := 4, offset := 1, embedded := false, tag := "", pkgPath := "", byteOffset := 24 }]) := by kernel_rfl
theorem ty_a38 : isAggT Try.prog 38 = some true := by kernel_rfl
theorem ty_s38 : sizeT Try.prog 38 = some 2 := by kernel_rfl
theorem ty_o38 : Try.prog.cellsOf 38 = 2 := by kernel_rfl
theorem ty_b38 : bytesT Try.prog 38 = some 32 := by kernel_rfl
theorem ty_z38 : zeroL Try.prog 38 = some (.agg [.nils, (.bool false)]) := by kernel_rfl
theorem ty_u42 : Try.prog.underlying 42 = some (TypeDesc.struct #[{ name := "K", type := 3, offset := 0, embedded := false, tag := "", pkgPath := "", byteOffset := 0 }, { name := "H", type := 28, offset := 1, embedded := false, tag := "", pkgPath := "", byteOffset := 8 }, { name := "F", type := 3, offset := 2, embedded := false, tag := "", pkgPath := "", byteOffset := 16 }, { name := "Str", type := 28, offset := 3, embedded := false, tag := "", pkgPath := "", byteOffset := 24 }, { name := "Ord", type := 3, offset := 4, embedded := false, tag := "", pkgPath := "", byteOffset := 32 }, { name := "Shr", type := 28, offset := 5, embedded := false, tag := "", pkgPath := "", byteOffset := 40 }, { name := "N", type := 3, offset := 6, embedded := false, tag := "", pkgPath := "", byteOffset := 48 }]) := by kernel_rfl
theorem ty_a42 : isAggT Try.prog 42 = some true := by kernel_rfl
theorem ty_s42 : sizeT Try.prog 42 = some 7 := by kernel_rfl
theorem ty_o42 : Try.prog.cellsOf 42 = 7 := by kernel_rfl
theorem ty_b42 : bytesT Try.prog 42 = some 56 := by kernel_rfl
theorem ty_z42 : zeroL Try.prog 42 = some (.agg [(.int .i64 0), (.int .i64 0), (.int .i64 0), (.int .i64 0), (.int .i64 0), (.int .i64 0), (.int .i64 0)]) := by kernel_rfl
theorem ty_u44 : Try.prog.underlying 44 = some (TypeDesc.slice 67) := by kernel_rfl
theorem ty_a44 : isAggT Try.prog 44 = some false := by kernel_rfl
theorem ty_s44 : sizeT Try.prog 44 = some 1 := by kernel_rfl
theorem ty_o44 : Try.prog.cellsOf 44 = 1 := by kernel_rfl
theorem ty_b44 : bytesT Try.prog 44 = some 24 := by kernel_rfl
theorem ty_z44 : zeroL Try.prog 44 = some .nils := by kernel_rfl
theorem ty_u48 : Try.prog.underlying 48 = some (TypeDesc.struct #[{ name := "Cols", type := 3, offset := 0, embedded := false, tag := "", pkgPath := "", byteOffset := 0 }, { name := "Wide", type := 28, offset := 1, embedded := false, tag := "", pkgPath := "", byteOffset := 8 }, { name := "Gap", type := 28, offset := 2, embedded := false, tag := "", pkgPath := "", byteOffset := 16 }, { name := "High", type := 28, offset := 3, embedded := false, tag := "", pkgPath := "", byteOffset := 24 }, { name := "First", type := 28, offset := 4, embedded := false, tag := "", pkgPath := "", byteOffset := 32 }, { name := "Grid", type := 28, offset := 5, embedded := false, tag := "", pkgPath := "", byteOffset := 40 }, { name := "Rule", type := 28, offset := 6, embedded := false, tag := "", pkgPath := "", byteOffset := 48 }, { name := "Sep", type := 28, offset := 7, embedded := false, tag := "", pkgPath := "", byteOffset := 56 }, { name := "NoteMost", type := 28, offset := 8, embedded := false, tag := "", pkgPath := "", byteOffset := 64 }, { name := "TopMost", type := 28, offset := 9, embedded := false, tag := "", pkgPath := "", byteOffset := 72 }, { name := "BotMost", type := 28, offset := 10, embedded := false, tag := "", pkgPath := "", byteOffset := 80 }, { name := "TopMany", type := 3, offset := 11, embedded := false, tag := "", pkgPath := "", byteOffset := 88 }, { name := "BotMany", type := 3, offset := 12, embedded := false, tag := "", pkgPath := "", byteOffset := 96 }, { name := "Club", type := 3, offset := 13, embedded := false, tag := "", pkgPath := "", byteOffset := 104 }, { name := "Widow", type := 3, offset := 14, embedded := false, tag := "", pkgPath := "", byteOffset := 112 }, { name := "Split", type := 3, offset := 15, embedded := false, tag := "", pkgPath := "", byteOffset := 120 }, { name := "Defer", type := 3, offset := 16, embedded := false, tag := "", pkgPath := "", byteOffset := 128 }, { name := "Spare", type := 3, offset := 17, embedded := false, tag := "", pkgPath := "", byteOffset := 136 }, { name := "Balance", type := 4, offset := 18, embedded := false, tag := "", pkgPath := "", byteOffset := 144 }]) := by kernel_rfl
theorem ty_a48 : isAggT Try.prog 48 = some true := by kernel_rfl
theorem ty_s48 : sizeT Try.prog 48 = some 19 := by kernel_rfl
theorem ty_o48 : Try.prog.cellsOf 48 = 19 := by kernel_rfl
theorem ty_b48 : bytesT Try.prog 48 = some 152 := by kernel_rfl
theorem ty_z48 : zeroL Try.prog 48 = some (.agg [(.int .i64 0), (.int .i64 0), (.int .i64 0), (.int .i64 0), (.int .i64 0), (.int .i64 0), (.int .i64 0), (.int .i64 0), (.int .i64 0), (.int .i64 0), (.int .i64 0), (.int .i64 0), (.int .i64 0), (.int .i64 0), (.int .i64 0), (.int .i64 0), (.int .i64 0), (.int .i64 0), (.bool false)]) := by kernel_rfl
theorem ty_u49 : Try.prog.underlying 49 = some (TypeDesc.slice 126) := by kernel_rfl
theorem ty_a49 : isAggT Try.prog 49 = some false := by kernel_rfl
theorem ty_s49 : sizeT Try.prog 49 = some 1 := by kernel_rfl
theorem ty_o49 : Try.prog.cellsOf 49 = 1 := by kernel_rfl
theorem ty_b49 : bytesT Try.prog 49 = some 24 := by kernel_rfl
theorem ty_z49 : zeroL Try.prog 49 = some .nils := by kernel_rfl
theorem ty_u50 : Try.prog.underlying 50 = some (TypeDesc.slice 131) := by kernel_rfl
theorem ty_a50 : isAggT Try.prog 50 = some false := by kernel_rfl
theorem ty_s50 : sizeT Try.prog 50 = some 1 := by kernel_rfl
theorem ty_o50 : Try.prog.cellsOf 50 = 1 := by kernel_rfl
theorem ty_b50 : bytesT Try.prog 50 = some 24 := by kernel_rfl
theorem ty_z50 : zeroL Try.prog 50 = some .nils := by kernel_rfl
theorem ty_u52 : Try.prog.underlying 52 = some (TypeDesc.struct #[{ name := "G", type := 48, offset := 0, embedded := false, tag := "", pkgPath := "", byteOffset := 0 }, { name := "Items", type := 34, offset := 19, embedded := false, tag := "", pkgPath := "", byteOffset := 152 }, { name := "Notes", type := 49, offset := 20, embedded := false, tag := "", pkgPath := "", byteOffset := 176 }, { name := "Floats", type := 50, offset := 21, embedded := false, tag := "", pkgPath := "", byteOffset := 200 }]) := by kernel_rfl
theorem ty_a52 : isAggT Try.prog 52 = some true := by kernel_rfl
theorem ty_s52 : sizeT Try.prog 52 = some 22 := by kernel_rfl
theorem ty_o52 : Try.prog.cellsOf 52 = 22 := by kernel_rfl
theorem ty_b52 : bytesT Try.prog 52 = some 224 := by kernel_rfl
theorem ty_z52 : zeroL Try.prog 52 = some (.agg [(.int .i64 0), (.int .i64 0), (.int .i64 0), (.int .i64 0), (.int .i64 0), (.int .i64 0), (.int .i64 0), (.int .i64 0), (.int .i64 0), (.int .i64 0), (.int .i64 0), (.int .i64 0), (.int .i64 0), (.int .i64 0), (.int .i64 0), (.int .i64 0), (.int .i64 0), (.int .i64 0), (.bool false), .nils, .nils, .nils]) := by kernel_rfl
theorem ty_u58 : Try.prog.underlying 58 = some (TypeDesc.pointer 137) := by kernel_rfl
theorem ty_a58 : isAggT Try.prog 58 = some false := by kernel_rfl
theorem ty_s58 : sizeT Try.prog 58 = some 1 := by kernel_rfl
theorem ty_o58 : Try.prog.cellsOf 58 = 1 := by kernel_rfl
theorem ty_b58 : bytesT Try.prog 58 = some 8 := by kernel_rfl
theorem ty_z58 : zeroL Try.prog 58 = some .nilp := by kernel_rfl
theorem ty_u60 : Try.prog.underlying 60 = some (TypeDesc.pointer 62) := by kernel_rfl
theorem ty_a60 : isAggT Try.prog 60 = some false := by kernel_rfl
theorem ty_s60 : sizeT Try.prog 60 = some 1 := by kernel_rfl
theorem ty_o60 : Try.prog.cellsOf 60 = 1 := by kernel_rfl
theorem ty_b60 : bytesT Try.prog 60 = some 8 := by kernel_rfl
theorem ty_z60 : zeroL Try.prog 60 = some .nilp := by kernel_rfl
theorem ty_u62 : Try.prog.underlying 62 = some (TypeDesc.struct #[{ name := "B", type := 26, offset := 0, embedded := false, tag := "", pkgPath := "", byteOffset := 0 }, { name := "At", type := 3, offset := 1, embedded := false, tag := "", pkgPath := "", byteOffset := 24 }, { name := "Stop", type := 4, offset := 2, embedded := false, tag := "", pkgPath := "", byteOffset := 32 }]) := by kernel_rfl
theorem ty_a62 : isAggT Try.prog 62 = some true := by kernel_rfl
theorem ty_s62 : sizeT Try.prog 62 = some 3 := by kernel_rfl
theorem ty_o62 : Try.prog.cellsOf 62 = 3 := by kernel_rfl
theorem ty_b62 : bytesT Try.prog 62 = some 40 := by kernel_rfl
theorem ty_z62 : zeroL Try.prog 62 = some (.agg [.nils, (.int .i64 0), (.bool false)]) := by kernel_rfl
theorem ty_u64 : Try.prog.underlying 64 = some (TypeDesc.slice 2) := by kernel_rfl
theorem ty_a64 : isAggT Try.prog 64 = some false := by kernel_rfl
theorem ty_s64 : sizeT Try.prog 64 = some 1 := by kernel_rfl
theorem ty_o64 : Try.prog.cellsOf 64 = 1 := by kernel_rfl
theorem ty_b64 : bytesT Try.prog 64 = some 24 := by kernel_rfl
theorem ty_z64 : zeroL Try.prog 64 = some .nils := by kernel_rfl
theorem ty_u67 : Try.prog.underlying 67 = some (TypeDesc.struct #[{ name := "K", type := 3, offset := 0, embedded := false, tag := "", pkgPath := "", byteOffset := 0 }, { name := "S", type := 9, offset := 1, embedded := false, tag := "", pkgPath := "", byteOffset := 8 }, { name := "N", type := 2, offset := 2, embedded := false, tag := "", pkgPath := "", byteOffset := 24 }, { name := "B", type := 4, offset := 3, embedded := false, tag := "", pkgPath := "", byteOffset := 32 }, { name := "L", type := 64, offset := 4, embedded := false, tag := "", pkgPath := "", byteOffset := 40 }]) := by kernel_rfl
theorem ty_a67 : isAggT Try.prog 67 = some true := by kernel_rfl
theorem ty_s67 : sizeT Try.prog 67 = some 5 := by kernel_rfl
theorem ty_o67 : Try.prog.cellsOf 67 = 5 := by kernel_rfl
theorem ty_b67 : bytesT Try.prog 67 = some 64 := by kernel_rfl
theorem ty_z67 : zeroL Try.prog 67 = some (.agg [(.int .i64 0), (.str { data := #[] }), (.int .i64 0), (.bool false), .nils]) := by kernel_rfl
theorem ty_u70 : Try.prog.underlying 70 = some (TypeDesc.int IntKind.i64) := by kernel_rfl
theorem ty_a70 : isAggT Try.prog 70 = some false := by kernel_rfl
theorem ty_s70 : sizeT Try.prog 70 = some 1 := by kernel_rfl
theorem ty_o70 : Try.prog.cellsOf 70 = 1 := by kernel_rfl
theorem ty_b70 : bytesT Try.prog 70 = some 8 := by kernel_rfl
theorem ty_z70 : zeroL Try.prog 70 = some (.int .i64 0) := by kernel_rfl
theorem ty_u76 : Try.prog.underlying 76 = some (TypeDesc.struct #[{ name := "L", type := 22, offset := 0, embedded := false, tag := "", pkgPath := "", byteOffset := 0 }, { name := "Ok", type := 4, offset := 1, embedded := false, tag := "", pkgPath := "", byteOffset := 24 }]) := by kernel_rfl
theorem ty_a76 : isAggT Try.prog 76 = some true := by kernel_rfl
theorem ty_s76 : sizeT Try.prog 76 = some 2 := by kernel_rfl
theorem ty_o76 : Try.prog.cellsOf 76 = 2 := by kernel_rfl
theorem ty_b76 : bytesT Try.prog 76 = some 32 := by kernel_rfl
theorem ty_z76 : zeroL Try.prog 76 = some (.agg [.nils, (.bool false)]) := by kernel_rfl
theorem ty_u80 : Try.prog.underlying 80 = some (TypeDesc.pointer 108) := by kernel_rfl
theorem ty_a80 : isAggT Try.prog 80 = some false := by kernel_rfl
theorem ty_s80 : sizeT Try.prog 80 = some 1 := by kernel_rfl
theorem ty_o80 : Try.prog.cellsOf 80 = 1 := by kernel_rfl
theorem ty_b80 : bytesT Try.prog 80 = some 8 := by kernel_rfl
theorem ty_z80 : zeroL Try.prog 80 = some .nilp := by kernel_rfl
theorem ty_u96 : Try.prog.underlying 96 = some (TypeDesc.struct #[{ name := "J", type := 52, offset := 0, embedded := false, tag := "", pkgPath := "", byteOffset := 0 }, { name := "Ok", type := 4, offset := 22, embedded := false, tag := "", pkgPath := "", byteOffset := 224 }, { name := "Part", type := 9, offset := 23, embedded := false, tag := "", pkgPath := "", byteOffset := 232 }, { name := "At", type := 3, offset := 24, embedded := false, tag := "", pkgPath := "", byteOffset := 248 }]) := by kernel_rfl
theorem ty_a96 : isAggT Try.prog 96 = some true := by kernel_rfl
theorem ty_s96 : sizeT Try.prog 96 = some 25 := by kernel_rfl
theorem ty_o96 : Try.prog.cellsOf 96 = 25 := by kernel_rfl
theorem ty_b96 : bytesT Try.prog 96 = some 256 := by kernel_rfl
theorem ty_z96 : zeroL Try.prog 96 = some (.agg [(.int .i64 0), (.int .i64 0), (.int .i64 0), (.int .i64 0), (.int .i64 0), (.int .i64 0), (.int .i64 0), (.int .i64 0), (.int .i64 0), (.int .i64 0), (.int .i64 0), (.int .i64 0), (.int .i64 0), (.int .i64 0), (.int .i64 0), (.int .i64 0), (.int .i64 0), (.int .i64 0), (.bool false), .nils, .nils, .nils, (.bool false), (.str { data := #[] }), (.int .i64 0)]) := by kernel_rfl
theorem ty_u100 : Try.prog.underlying 100 = some (TypeDesc.slice 105) := by kernel_rfl
theorem ty_a100 : isAggT Try.prog 100 = some false := by kernel_rfl
theorem ty_s100 : sizeT Try.prog 100 = some 1 := by kernel_rfl
theorem ty_o100 : Try.prog.cellsOf 100 = 1 := by kernel_rfl
theorem ty_b100 : bytesT Try.prog 100 = some 24 := by kernel_rfl
theorem ty_z100 : zeroL Try.prog 100 = some .nils := by kernel_rfl
theorem ty_u102 : Try.prog.underlying 102 = some (TypeDesc.struct #[{ name := "Lanes", type := 100, offset := 0, embedded := false, tag := "", pkgPath := "", byteOffset := 0 }, { name := "Top", type := 3, offset := 1, embedded := false, tag := "", pkgPath := "", byteOffset := 24 }, { name := "First", type := 3, offset := 2, embedded := false, tag := "", pkgPath := "", byteOffset := 32 }, { name := "Last", type := 3, offset := 3, embedded := false, tag := "", pkgPath := "", byteOffset := 40 }]) := by kernel_rfl
theorem ty_a102 : isAggT Try.prog 102 = some true := by kernel_rfl
theorem ty_s102 : sizeT Try.prog 102 = some 4 := by kernel_rfl
theorem ty_o102 : Try.prog.cellsOf 102 = 4 := by kernel_rfl
theorem ty_b102 : bytesT Try.prog 102 = some 48 := by kernel_rfl
theorem ty_z102 : zeroL Try.prog 102 = some (.agg [.nils, (.int .i64 0), (.int .i64 0), (.int .i64 0)]) := by kernel_rfl
theorem ty_u103 : Try.prog.underlying 103 = some (TypeDesc.slice 30) := by kernel_rfl
theorem ty_a103 : isAggT Try.prog 103 = some false := by kernel_rfl
theorem ty_s103 : sizeT Try.prog 103 = some 1 := by kernel_rfl
theorem ty_o103 : Try.prog.cellsOf 103 = 1 := by kernel_rfl
theorem ty_b103 : bytesT Try.prog 103 = some 24 := by kernel_rfl
theorem ty_z103 : zeroL Try.prog 103 = some .nils := by kernel_rfl
theorem ty_u105 : Try.prog.underlying 105 = some (TypeDesc.struct #[{ name := "X", type := 28, offset := 0, embedded := false, tag := "", pkgPath := "", byteOffset := 0 }, { name := "Puts", type := 103, offset := 1, embedded := false, tag := "", pkgPath := "", byteOffset := 8 }]) := by kernel_rfl
theorem ty_a105 : isAggT Try.prog 105 = some true := by kernel_rfl
theorem ty_s105 : sizeT Try.prog 105 = some 2 := by kernel_rfl
theorem ty_o105 : Try.prog.cellsOf 105 = 2 := by kernel_rfl
theorem ty_b105 : bytesT Try.prog 105 = some 32 := by kernel_rfl
theorem ty_z105 : zeroL Try.prog 105 = some (.agg [(.int .i64 0), .nils]) := by kernel_rfl
theorem ty_u108 : Try.prog.underlying 108 = some (TypeDesc.struct #[{ name := "b", type := 26, offset := 0, embedded := false, tag := "", pkgPath := "tympan/codec", byteOffset := 0 }]) := by kernel_rfl
theorem ty_a108 : isAggT Try.prog 108 = some true := by kernel_rfl
theorem ty_s108 : sizeT Try.prog 108 = some 1 := by kernel_rfl
theorem ty_o108 : Try.prog.cellsOf 108 = 1 := by kernel_rfl
theorem ty_b108 : bytesT Try.prog 108 = some 24 := by kernel_rfl
theorem ty_z108 : zeroL Try.prog 108 = some (.agg [.nils]) := by kernel_rfl
theorem ty_u110 : Try.prog.underlying 110 = some (TypeDesc.struct #[{ name := "Writer", type := 108, offset := 0, embedded := true, tag := "", pkgPath := "", byteOffset := 0 }]) := by kernel_rfl
theorem ty_a110 : isAggT Try.prog 110 = some true := by kernel_rfl
theorem ty_s110 : sizeT Try.prog 110 = some 1 := by kernel_rfl
theorem ty_o110 : Try.prog.cellsOf 110 = 1 := by kernel_rfl
theorem ty_b110 : bytesT Try.prog 110 = some 24 := by kernel_rfl
theorem ty_z110 : zeroL Try.prog 110 = some (.agg [.nils]) := by kernel_rfl
theorem ty_u123 : Try.prog.underlying 123 = some (TypeDesc.slice 28) := by kernel_rfl
theorem ty_a123 : isAggT Try.prog 123 = some false := by kernel_rfl
theorem ty_s123 : sizeT Try.prog 123 = some 1 := by kernel_rfl
theorem ty_o123 : Try.prog.cellsOf 123 = 1 := by kernel_rfl
theorem ty_b123 : bytesT Try.prog 123 = some 24 := by kernel_rfl
theorem ty_z123 : zeroL Try.prog 123 = some .nils := by kernel_rfl
theorem ty_u124 : Try.prog.underlying 124 = some (TypeDesc.slice 3) := by kernel_rfl
theorem ty_a124 : isAggT Try.prog 124 = some false := by kernel_rfl
theorem ty_s124 : sizeT Try.prog 124 = some 1 := by kernel_rfl
theorem ty_o124 : Try.prog.cellsOf 124 = 1 := by kernel_rfl
theorem ty_b124 : bytesT Try.prog 124 = some 24 := by kernel_rfl
theorem ty_z124 : zeroL Try.prog 124 = some .nils := by kernel_rfl
theorem ty_u126 : Try.prog.underlying 126 = some (TypeDesc.struct #[{ name := "Lines", type := 123, offset := 0, embedded := false, tag := "", pkgPath := "", byteOffset := 0 }, { name := "Pens", type := 124, offset := 1, embedded := false, tag := "", pkgPath := "", byteOffset := 24 }]) := by kernel_rfl
theorem ty_a126 : isAggT Try.prog 126 = some true := by kernel_rfl
theorem ty_s126 : sizeT Try.prog 126 = some 2 := by kernel_rfl
theorem ty_o126 : Try.prog.cellsOf 126 = 2 := by kernel_rfl
theorem ty_b126 : bytesT Try.prog 126 = some 48 := by kernel_rfl
theorem ty_z126 : zeroL Try.prog 126 = some (.agg [.nils, .nils]) := by kernel_rfl
theorem ty_u131 : Try.prog.underlying 131 = some (TypeDesc.struct #[{ name := "C", type := 3, offset := 0, embedded := false, tag := "", pkgPath := "", byteOffset := 0 }, { name := "H", type := 28, offset := 1, embedded := false, tag := "", pkgPath := "", byteOffset := 8 }, { name := "Where", type := 3, offset := 2, embedded := false, tag := "", pkgPath := "", byteOffset := 16 }]) := by kernel_rfl
theorem ty_a131 : isAggT Try.prog 131 = some true := by kernel_rfl
theorem ty_s131 : sizeT Try.prog 131 = some 3 := by kernel_rfl
theorem ty_o131 : Try.prog.cellsOf 131 = 3 := by kernel_rfl
theorem ty_b131 : bytesT Try.prog 131 = some 24 := by kernel_rfl
theorem ty_z131 : zeroL Try.prog 131 = some (.agg [(.int .i64 0), (.int .i64 0), (.int .i64 0)]) := by kernel_rfl
theorem ty_u132 : Try.prog.underlying 132 = some (TypeDesc.array 3 2) := by kernel_rfl
theorem ty_a132 : isAggT Try.prog 132 = some true := by kernel_rfl
theorem ty_s132 : sizeT Try.prog 132 = some 3 := by kernel_rfl
theorem ty_o132 : Try.prog.cellsOf 132 = 3 := by kernel_rfl
theorem ty_b132 : bytesT Try.prog 132 = some 24 := by kernel_rfl
theorem ty_z132 : zeroL Try.prog 132 = some (.agg [(.int .i64 0), (.int .i64 0), (.int .i64 0)]) := by kernel_rfl
theorem ty_u137 : Try.prog.underlying 137 = some (TypeDesc.struct #[{ name := "b", type := 26, offset := 0, embedded := false, tag := "", pkgPath := "tympan/codec", byteOffset := 0 }, { name := "at", type := 3, offset := 1, embedded := false, tag := "", pkgPath := "tympan/codec", byteOffset := 24 }, { name := "stop", type := 4, offset := 2, embedded := false, tag := "", pkgPath := "tympan/codec", byteOffset := 32 }]) := by kernel_rfl
theorem ty_a137 : isAggT Try.prog 137 = some true := by kernel_rfl
theorem ty_s137 : sizeT Try.prog 137 = some 3 := by kernel_rfl
theorem ty_o137 : Try.prog.cellsOf 137 = 3 := by kernel_rfl
theorem ty_b137 : bytesT Try.prog 137 = some 40 := by kernel_rfl
theorem ty_z137 : zeroL Try.prog 137 = some (.agg [.nils, (.int .i64 0), (.bool false)]) := by kernel_rfl
theorem ty_u138 : Try.prog.underlying 138 = some (TypeDesc.slice 4) := by kernel_rfl
theorem ty_a138 : isAggT Try.prog 138 = some false := by kernel_rfl
theorem ty_s138 : sizeT Try.prog 138 = some 1 := by kernel_rfl
theorem ty_o138 : Try.prog.cellsOf 138 = 1 := by kernel_rfl
theorem ty_b138 : bytesT Try.prog 138 = some 24 := by kernel_rfl
theorem ty_z138 : zeroL Try.prog 138 = some .nils := by kernel_rfl
theorem ty_u141 : Try.prog.underlying 141 = some (TypeDesc.struct #[{ name := "Reader", type := 58, offset := 0, embedded := true, tag := "", pkgPath := "", byteOffset := 0 }]) := by kernel_rfl
theorem ty_a141 : isAggT Try.prog 141 = some true := by kernel_rfl
theorem ty_s141 : sizeT Try.prog 141 = some 1 := by kernel_rfl
theorem ty_o141 : Try.prog.cellsOf 141 = 1 := by kernel_rfl
theorem ty_b141 : bytesT Try.prog 141 = some 8 := by kernel_rfl
theorem ty_z141 : zeroL Try.prog 141 = some (.agg [.nilp]) := by kernel_rfl
theorem ty_u146 : Try.prog.underlying 146 = some (TypeDesc.struct #[{ name := "R", type := 60, offset := 0, embedded := false, tag := "", pkgPath := "", byteOffset := 0 }]) := by kernel_rfl
theorem ty_a146 : isAggT Try.prog 146 = some true := by kernel_rfl
theorem ty_s146 : sizeT Try.prog 146 = some 1 := by kernel_rfl
theorem ty_o146 : Try.prog.cellsOf 146 = 1 := by kernel_rfl
theorem ty_b146 : bytesT Try.prog 146 = some 8 := by kernel_rfl
theorem ty_z146 : zeroL Try.prog 146 = some (.agg [.nilp]) := by kernel_rfl
theorem ty_u157 : Try.prog.underlying 157 = some (TypeDesc.struct #[{ name := "Reader", type := 58, offset := 0, embedded := true, tag := "", pkgPath := "", byteOffset := 0 }, { name := "j", type := 52, offset := 1, embedded := false, tag := "", pkgPath := "tympan/decode", byteOffset := 8 }]) := by kernel_rfl
theorem ty_a157 : isAggT Try.prog 157 = some true := by kernel_rfl
theorem ty_s157 : sizeT Try.prog 157 = some 23 := by kernel_rfl
theorem ty_o157 : Try.prog.cellsOf 157 = 23 := by kernel_rfl
theorem ty_b157 : bytesT Try.prog 157 = some 232 := by kernel_rfl
theorem ty_z157 : zeroL Try.prog 157 = some (.agg [.nilp, (.int .i64 0), (.int .i64 0), (.int .i64 0), (.int .i64 0), (.int .i64 0), (.int .i64 0), (.int .i64 0), (.int .i64 0), (.int .i64 0), (.int .i64 0), (.int .i64 0), (.int .i64 0), (.int .i64 0), (.int .i64 0), (.int .i64 0), (.int .i64 0), (.int .i64 0), (.int .i64 0), (.bool false), .nils, .nils, .nils]) := by kernel_rfl
theorem ty_u160 : Try.prog.underlying 160 = some (TypeDesc.struct #[{ name := "R", type := 60, offset := 0, embedded := false, tag := "", pkgPath := "", byteOffset := 0 }, { name := "Part", type := 9, offset := 1, embedded := false, tag := "", pkgPath := "", byteOffset := 8 }]) := by kernel_rfl
theorem ty_a160 : isAggT Try.prog 160 = some true := by kernel_rfl
theorem ty_s160 : sizeT Try.prog 160 = some 2 := by kernel_rfl
theorem ty_o160 : Try.prog.cellsOf 160 = 2 := by kernel_rfl
theorem ty_b160 : bytesT Try.prog 160 = some 24 := by kernel_rfl
theorem ty_z160 : zeroL Try.prog 160 = some (.agg [.nilp, (.str { data := #[] })]) := by kernel_rfl
theorem ty_u167 : Try.prog.underlying 167 = some (TypeDesc.int IntKind.u64) := by kernel_rfl
theorem ty_a167 : isAggT Try.prog 167 = some false := by kernel_rfl
theorem ty_s167 : sizeT Try.prog 167 = some 1 := by kernel_rfl
theorem ty_o167 : Try.prog.cellsOf 167 = 1 := by kernel_rfl
theorem ty_b167 : bytesT Try.prog 167 = some 8 := by kernel_rfl
theorem ty_z167 : zeroL Try.prog 167 = some (.int .u64 0) := by kernel_rfl
theorem ty_u169 : Try.prog.underlying 169 = some (TypeDesc.array 11 28) := by kernel_rfl
theorem ty_a169 : isAggT Try.prog 169 = some true := by kernel_rfl
theorem ty_s169 : sizeT Try.prog 169 = some 11 := by kernel_rfl
theorem ty_o169 : Try.prog.cellsOf 169 = 11 := by kernel_rfl
theorem ty_b169 : bytesT Try.prog 169 = some 88 := by kernel_rfl
theorem ty_z169 : zeroL Try.prog 169 = some (.agg [(.int .i64 0), (.int .i64 0), (.int .i64 0), (.int .i64 0), (.int .i64 0), (.int .i64 0), (.int .i64 0), (.int .i64 0), (.int .i64 0), (.int .i64 0), (.int .i64 0)]) := by kernel_rfl
theorem ty_u170 : Try.prog.underlying 170 = some (TypeDesc.array 7 3) := by kernel_rfl
theorem ty_a170 : isAggT Try.prog 170 = some true := by kernel_rfl
theorem ty_s170 : sizeT Try.prog 170 = some 7 := by kernel_rfl
theorem ty_o170 : Try.prog.cellsOf 170 = 7 := by kernel_rfl
theorem ty_b170 : bytesT Try.prog 170 = some 56 := by kernel_rfl
theorem ty_z170 : zeroL Try.prog 170 = some (.agg [(.int .i64 0), (.int .i64 0), (.int .i64 0), (.int .i64 0), (.int .i64 0), (.int .i64 0), (.int .i64 0)]) := by kernel_rfl
theorem ty_u173 : Try.prog.underlying 173 = some (TypeDesc.struct #[{ name := "N", type := 2, offset := 0, embedded := false, tag := "", pkgPath := "", byteOffset := 0 }, { name := "Next", type := 3, offset := 1, embedded := false, tag := "", pkgPath := "", byteOffset := 8 }, { name := "E", type := 70, offset := 2, embedded := false, tag := "", pkgPath := "", byteOffset := 16 }]) := by kernel_rfl
theorem ty_a173 : isAggT Try.prog 173 = some true := by kernel_rfl
theorem ty_s173 : sizeT Try.prog 173 = some 3 := by kernel_rfl
theorem ty_o173 : Try.prog.cellsOf 173 = 3 := by kernel_rfl
theorem ty_b173 : bytesT Try.prog 173 = some 24 := by kernel_rfl
theorem ty_z173 : zeroL Try.prog 173 = some (.agg [(.int .i64 0), (.int .i64 0), (.int .i64 0)]) := by kernel_rfl
theorem ty_u176 : Try.prog.underlying 176 = some (TypeDesc.pointer 3) := by kernel_rfl
theorem ty_a176 : isAggT Try.prog 176 = some false := by kernel_rfl
theorem ty_s176 : sizeT Try.prog 176 = some 1 := by kernel_rfl
theorem ty_o176 : Try.prog.cellsOf 176 = 1 := by kernel_rfl
theorem ty_b176 : bytesT Try.prog 176 = some 8 := by kernel_rfl
theorem ty_z176 : zeroL Try.prog 176 = some .nilp := by kernel_rfl
theorem ty_u181 : Try.prog.underlying 181 = some (TypeDesc.slice 185) := by kernel_rfl
theorem ty_a181 : isAggT Try.prog 181 = some false := by kernel_rfl
theorem ty_s181 : sizeT Try.prog 181 = some 1 := by kernel_rfl
theorem ty_o181 : Try.prog.cellsOf 181 = 1 := by kernel_rfl
theorem ty_b181 : bytesT Try.prog 181 = some 24 := by kernel_rfl
theorem ty_z181 : zeroL Try.prog 181 = some .nils := by kernel_rfl
theorem ty_u183 : Try.prog.underlying 183 = some (TypeDesc.func #[153] #[] false) := by kernel_rfl
theorem ty_a183 : isAggT Try.prog 183 = some false := by kernel_rfl
theorem ty_s183 : sizeT Try.prog 183 = some 1 := by kernel_rfl
theorem ty_o183 : Try.prog.cellsOf 183 = 1 := by kernel_rfl
theorem ty_b183 : bytesT Try.prog 183 = some 8 := by kernel_rfl
theorem ty_z183 : zeroL Try.prog 183 = some .nilf := by kernel_rfl
theorem ty_u185 : Try.prog.underlying 185 = some (TypeDesc.struct #[{ name := "name", type := 9, offset := 0, embedded := false, tag := "", pkgPath := "tympan/decode", byteOffset := 0 }, { name := "read", type := 183, offset := 1, embedded := false, tag := "", pkgPath := "tympan/decode", byteOffset := 16 }]) := by kernel_rfl
theorem ty_a185 : isAggT Try.prog 185 = some true := by kernel_rfl
theorem ty_s185 : sizeT Try.prog 185 = some 2 := by kernel_rfl
theorem ty_o185 : Try.prog.cellsOf 185 = 2 := by kernel_rfl
theorem ty_b185 : bytesT Try.prog 185 = some 24 := by kernel_rfl
theorem ty_z185 : zeroL Try.prog 185 = some (.agg [(.str { data := #[] }), .nilf]) := by kernel_rfl
theorem ty_u194 : Try.prog.underlying 194 = some (TypeDesc.pointer 28) := by kernel_rfl
theorem ty_a194 : isAggT Try.prog 194 = some false := by kernel_rfl
theorem ty_s194 : sizeT Try.prog 194 = some 1 := by kernel_rfl
theorem ty_o194 : Try.prog.cellsOf 194 = 1 := by kernel_rfl
theorem ty_b194 : bytesT Try.prog 194 = some 8 := by kernel_rfl
theorem ty_z194 : zeroL Try.prog 194 = some .nilp := by kernel_rfl
theorem ty_u197 : Try.prog.underlying 197 = some (TypeDesc.array 10 194) := by kernel_rfl
theorem ty_a197 : isAggT Try.prog 197 = some true := by kernel_rfl
theorem ty_s197 : sizeT Try.prog 197 = some 10 := by kernel_rfl
theorem ty_o197 : Try.prog.cellsOf 197 = 10 := by kernel_rfl
theorem ty_b197 : bytesT Try.prog 197 = some 80 := by kernel_rfl
theorem ty_z197 : zeroL Try.prog 197 = some (.agg [.nilp, .nilp, .nilp, .nilp, .nilp, .nilp, .nilp, .nilp, .nilp, .nilp]) := by kernel_rfl
theorem ty_u198 : Try.prog.underlying 198 = some (TypeDesc.array 7 176) := by kernel_rfl
theorem ty_a198 : isAggT Try.prog 198 = some true := by kernel_rfl
theorem ty_s198 : sizeT Try.prog 198 = some 7 := by kernel_rfl
theorem ty_o198 : Try.prog.cellsOf 198 = 7 := by kernel_rfl
theorem ty_b198 : bytesT Try.prog 198 = some 56 := by kernel_rfl
theorem ty_z198 : zeroL Try.prog 198 = some (.agg [.nilp, .nilp, .nilp, .nilp, .nilp, .nilp, .nilp]) := by kernel_rfl
theorem ty_p2 (cs : List LV) (off : Nat) : partL Try.prog 2 cs off = cs[off]? := part_s ty_a2 cs off
theorem ty_v2 (v : LV) (off : Nat) : subL Try.prog 2 v off = sub1 v.cells[off]? := sub_s ty_a2 v off
theorem ty_p3 (cs : List LV) (off : Nat) : partL Try.prog 3 cs off = cs[off]? := part_s ty_a3 cs off
theorem ty_v3 (v : LV) (off : Nat) : subL Try.prog 3 v off = sub1 v.cells[off]? := sub_s ty_a3 v off
theorem ty_p4 (cs : List LV) (off : Nat) : partL Try.prog 4 cs off = cs[off]? := part_s ty_a4 cs off
theorem ty_v4 (v : LV) (off : Nat) : subL Try.prog 4 v off = sub1 v.cells[off]? := sub_s ty_a4 v off
theorem ty_e4 (a b : Bool) : binL Try.prog .eql 4 (.bool a) (.bool b) = some (.bool (a == b)) := bin_eql_bool ty_u4 a b
theorem ty_d4 (a b : Bool) : binL Try.prog .neq 4 (.bool a) (.bool b) = some (.bool !(a == b)) := bin_neq_bool ty_u4 a b
theorem ty_p5 (cs : List LV) (off : Nat) : partL Try.prog 5 cs off = cs[off]? := part_s ty_a5 cs off
theorem ty_v5 (v : LV) (off : Nat) : subL Try.prog 5 v off = sub1 v.cells[off]? := sub_s ty_a5 v off
theorem ty_p9 (cs : List LV) (off : Nat) : partL Try.prog 9 cs off = cs[off]? := part_s ty_a9 cs off
theorem ty_v9 (v : LV) (off : Nat) : subL Try.prog 9 v off = sub1 v.cells[off]? := sub_s ty_a9 v off
theorem ty_F9 (s : S) (h : H) (x : Operand) (lo hi mx : Option Operand) : fzO Try.prog s h (.slice 9 x lo hi mx) = h := fzO_str ty_u9
theorem ty_l9 (s : ByteArray) : lenL Try.prog 9 (.str s) = some (.int .i64 s.size) := len_str ty_u9 s
theorem ty_x9 (s : ByteArray) (k : IntKind) (n : Int) : indexL Try.prog 9 (.str s) (.int k n) = if 0 ≤ n then (s.data[n.toNat]?).map fun b => .int .u8 b.toNat else none := ix_s ty_u9 s k n
theorem ty_p22 (cs : List LV) (off : Nat) : partL Try.prog 22 cs off = cs[off]? := part_s ty_a22 cs off
theorem ty_v22 (v : LV) (off : Nat) : subL Try.prog 22 v off = sub1 v.cells[off]? := sub_s ty_a22 v off
theorem ty_i22 (r hi : Nat) (xs : List LV) (k : IntKind) (n : Int) : indexAddrL Try.prog 22 (.sl r hi 4 xs) (.int k n) = iaS xs n := ia_sl ty_u22 ty_s102 r hi xs k n
theorem ty_l22 (r hi sz : Nat) (xs : List LV) : lenL Try.prog 22 (.sl r hi sz xs) = some (.int .i64 xs.length) := len_sl ty_u22 r hi sz xs
theorem ty_n22 : lenL Try.prog 22 .nils = some (.int .i64 0) := len_nils ty_u22
theorem ty_q22 (r p : Nat) (xs : List LV) (lo hi : Option LV) (h : H) : sliceL Try.prog 22 (.sl r p 4 xs) lo hi h = slK r p 4 xs h lo (boundL hi xs.length xs.length) := slice_sl ty_u22 ty_s102 r p xs lo hi h
theorem ty_r22 (lo hi : Option LV) (h : H) : sliceL Try.prog 22 .nils lo hi h = slKn h lo (boundL hi 0 0) := slice_nils ty_u22 ty_s102 lo hi h
theorem ty_w22 (s x : LV) (h : H) : appendL Try.prog 22 22 s x h = appS 4 48 s h (elemsL 4 x) := append_eq ty_u22 (.inr ⟨_, ty_u22⟩) ty_s102 ty_b102 ty_z102 rfl rfl (by decide) (by decide) s x h
theorem ty_k22 (len : Nat) (hb : len * 4 ≤ 2 ^ 24) (parts : List (Nat × LV)) (h : H) : buildSliceL Try.prog 22 len parts h = bsK Try.prog 102 4 len h (fillL (plA 4) (repL (LV.cells (.agg [.nils, (.int .i64 0), (.int .i64 0), (.int .i64 0)])) len) parts) := buildSlice_eq ty_u22 ty_s102 ty_z102 rfl rfl (by decide) len hb parts h
theorem ty_L22 (o : Option (Nat × Nat)) (sz : Nat) (xs : List LV) : lenL Try.prog 22 (mkS o sz xs) = some (.int .i64 xs.length) := len_mk ty_u22 o sz xs
theorem ty_I22 (o : Option (Nat × Nat)) (xs : List LV) (k : IntKind) (n : Int) : indexAddrL Try.prog 22 (mkS o 4 xs) (.int k n) = iaS xs n := ia_mk ty_u22 ty_s102 o xs k n
theorem ty_Q22 (o : Option (Nat × Nat)) (xs : List LV) (lo hi : Option LV) (h : H) : sliceL Try.prog 22 (mkS o 4 xs) lo hi h = slM o 4 xs h lo (boundL hi xs.length xs.length) := slice_mk ty_u22 ty_s102 o xs lo hi h
theorem ty_E22 (o : Option (Nat × Nat)) (sz : Nat) (xs : List LV) : binL Try.prog .eql 22 (mkS o sz xs) .nils = some (.bool (decide (o = none ∧ xs = []))) := bin_eql_mk ty_u22 o sz xs
theorem ty_D22 (o : Option (Nat × Nat)) (sz : Nat) (xs : List LV) : binL Try.prog .neq 22 (mkS o sz xs) .nils = some (.bool (!decide (o = none ∧ xs = []))) := bin_neq_mk ty_u22 o sz xs
theorem ty_c102 (n : Nat) (cs : List LV) : chunkL Try.prog 102 4 (n + 1) cs = chK cs 4 (chunkL Try.prog 102 4 n (cs.drop 4)) := chunk_a ty_a102 n cs
theorem ty_e22_0 : binL Try.prog .eql 22 .nils .nils = some (.bool true) := bin_eql_of rfl (by rw [eqL_10000]; simp only [eqL, ty_u22]) (by simp)
theorem ty_e22_1 (r hi sz : Nat) (xs : List LV) : binL Try.prog .eql 22 .nils (.sl r hi sz xs) = some (.bool false) := bin_eql_of rfl (by rw [eqL_10000]; simp only [eqL, ty_u22]) (by simp)
theorem ty_e22_2 (r hi sz : Nat) (xs : List LV) : binL Try.prog .eql 22 (.sl r hi sz xs) .nils = some (.bool false) := bin_eql_of rfl (by rw [eqL_10000]; simp only [eqL, ty_u22]) (by simp)
theorem ty_d22_0 : binL Try.prog .neq 22 .nils .nils = some (.bool !true) := bin_neq_of rfl (by rw [eqL_10000]; simp only [eqL, ty_u22]) (by simp)
theorem ty_d22_1 (r hi sz : Nat) (xs : List LV) : binL Try.prog .neq 22 .nils (.sl r hi sz xs) = some (.bool !false) := bin_neq_of rfl (by rw [eqL_10000]; simp only [eqL, ty_u22]) (by simp)
theorem ty_d22_2 (r hi sz : Nat) (xs : List LV) : binL Try.prog .neq 22 (.sl r hi sz xs) .nils = some (.bool !false) := bin_neq_of rfl (by rw [eqL_10000]; simp only [eqL, ty_u22]) (by simp)
theorem ty_p26 (cs : List LV) (off : Nat) : partL Try.prog 26 cs off = cs[off]? := part_s ty_a26 cs off
theorem ty_v26 (v : LV) (off : Nat) : subL Try.prog 26 v off = sub1 v.cells[off]? := sub_s ty_a26 v off
theorem ty_i26 (r hi : Nat) (xs : List LV) (k : IntKind) (n : Int) : indexAddrL Try.prog 26 (.sl r hi 1 xs) (.int k n) = iaS xs n := ia_sl ty_u26 ty_s5 r hi xs k n
theorem ty_l26 (r hi sz : Nat) (xs : List LV) : lenL Try.prog 26 (.sl r hi sz xs) = some (.int .i64 xs.length) := len_sl ty_u26 r hi sz xs
theorem ty_n26 : lenL Try.prog 26 .nils = some (.int .i64 0) := len_nils ty_u26
theorem ty_q26 (r p : Nat) (xs : List LV) (lo hi : Option LV) (h : H) : sliceL Try.prog 26 (.sl r p 1 xs) lo hi h = slK r p 1 xs h lo (boundL hi xs.length xs.length) := slice_sl ty_u26 ty_s5 r p xs lo hi h
theorem ty_r26 (lo hi : Option LV) (h : H) : sliceL Try.prog 26 .nils lo hi h = slKn h lo (boundL hi 0 0) := slice_nils ty_u26 ty_s5 lo hi h
theorem ty_w26 (s x : LV) (h : H) : appendL Try.prog 26 26 s x h = appS 1 1 s h (elemsL 1 x) := append_eq ty_u26 (.inr ⟨_, ty_u26⟩) ty_s5 ty_b5 ty_z5 rfl rfl (by decide) (by decide) s x h
theorem ty_k26 (len : Nat) (hb : len * 1 ≤ 2 ^ 24) (parts : List (Nat × LV)) (h : H) : buildSliceL Try.prog 26 len parts h = bsK Try.prog 5 1 len h (fillL (plA 1) (repL (LV.cells (.int .u8 0)) len) parts) := buildSlice_eq ty_u26 ty_s5 ty_z5 rfl rfl (by decide) len hb parts h
theorem ty_L26 (o : Option (Nat × Nat)) (sz : Nat) (xs : List LV) : lenL Try.prog 26 (mkS o sz xs) = some (.int .i64 xs.length) := len_mk ty_u26 o sz xs
theorem ty_I26 (o : Option (Nat × Nat)) (xs : List LV) (k : IntKind) (n : Int) : indexAddrL Try.prog 26 (mkS o 1 xs) (.int k n) = iaS xs n := ia_mk ty_u26 ty_s5 o xs k n
theorem ty_Q26 (o : Option (Nat × Nat)) (xs : List LV) (lo hi : Option LV) (h : H) : sliceL Try.prog 26 (mkS o 1 xs) lo hi h = slM o 1 xs h lo (boundL hi xs.length xs.length) := slice_mk ty_u26 ty_s5 o xs lo hi h
theorem ty_E26 (o : Option (Nat × Nat)) (sz : Nat) (xs : List LV) : binL Try.prog .eql 26 (mkS o sz xs) .nils = some (.bool (decide (o = none ∧ xs = []))) := bin_eql_mk ty_u26 o sz xs
theorem ty_D26 (o : Option (Nat × Nat)) (sz : Nat) (xs : List LV) : binL Try.prog .neq 26 (mkS o sz xs) .nils = some (.bool (!decide (o = none ∧ xs = []))) := bin_neq_mk ty_u26 o sz xs
theorem ty_c5 (n : Nat) (cs : List LV) : chunkL Try.prog 5 1 (n + 1) cs = chK1 cs (chunkL Try.prog 5 1 n (cs.drop 1)) := chunk_s ty_a5 n cs
theorem ty_F26 (s : S) (h : H) (x : Operand) (lo hi mx : Option Operand) : fzO Try.prog s h (.slice 26 x lo hi mx) = h := fzO_sl ty_u26
theorem ty_e26_0 : binL Try.prog .eql 26 .nils .nils = some (.bool true) := bin_eql_of rfl (by rw [eqL_10000]; simp only [eqL, ty_u26]) (by simp)
theorem ty_e26_1 (r hi sz : Nat) (xs : List LV) : binL Try.prog .eql 26 .nils (.sl r hi sz xs) = some (.bool false) := bin_eql_of rfl (by rw [eqL_10000]; simp only [eqL, ty_u26]) (by simp)
theorem ty_e26_2 (r hi sz : Nat) (xs : List LV) : binL Try.prog .eql 26 (.sl r hi sz xs) .nils = some (.bool false) := bin_eql_of rfl (by rw [eqL_10000]; simp only [eqL, ty_u26]) (by simp)
theorem ty_d26_0 : binL Try.prog .neq 26 .nils .nils = some (.bool !true) := bin_neq_of rfl (by rw [eqL_10000]; simp only [eqL, ty_u26]) (by simp)
theorem ty_d26_1 (r hi sz : Nat) (xs : List LV) : binL Try.prog .neq 26 .nils (.sl r hi sz xs) = some (.bool !false) := bin_neq_of rfl (by rw [eqL_10000]; simp only [eqL, ty_u26]) (by simp)
theorem ty_d26_2 (r hi sz : Nat) (xs : List LV) : binL Try.prog .neq 26 (.sl r hi sz xs) .nils = some (.bool !false) := bin_neq_of rfl (by rw [eqL_10000]; simp only [eqL, ty_u26]) (by simp)
theorem ty_p28 (cs : List LV) (off : Nat) : partL Try.prog 28 cs off = cs[off]? := part_s ty_a28 cs off
theorem ty_v28 (v : LV) (off : Nat) : subL Try.prog 28 v off = sub1 v.cells[off]? := sub_s ty_a28 v off
theorem ty_p30 (cs : List LV) (off : Nat) : partL Try.prog 30 cs off = partA 5 cs off := part_a ty_a30 ty_s30 cs off
theorem ty_v30 (v : LV) (off : Nat) : subL Try.prog 30 v off = sub2 (partA 5 v.cells off) := sub_a ty_a30 ty_s30 v off
theorem ty_f30_0 (b off : Nat) : fieldAddrL Try.prog 30 (.ptr b off) 0 = some (.ptr b (off + 0)) := by kernel_rfl
theorem ty_g30_0 (v : LV) : fieldAddrL Try.prog 30 (.cptr v) 0 = subL Try.prog 3 v 0 := by kernel_rfl
theorem ty_f30_1 (b off : Nat) : fieldAddrL Try.prog 30 (.ptr b off) 1 = some (.ptr b (off + 1)) := by kernel_rfl
theorem ty_g30_1 (v : LV) : fieldAddrL Try.prog 30 (.cptr v) 1 = subL Try.prog 3 v 1 := by kernel_rfl
theorem ty_f30_2 (b off : Nat) : fieldAddrL Try.prog 30 (.ptr b off) 2 = some (.ptr b (off + 2)) := by kernel_rfl
theorem ty_g30_2 (v : LV) : fieldAddrL Try.prog 30 (.cptr v) 2 = subL Try.prog 3 v 2 := by kernel_rfl
theorem ty_f30_3 (b off : Nat) : fieldAddrL Try.prog 30 (.ptr b off) 3 = some (.ptr b (off + 3)) := by kernel_rfl
theorem ty_g30_3 (v : LV) : fieldAddrL Try.prog 30 (.cptr v) 3 = subL Try.prog 28 v 3 := by kernel_rfl
theorem ty_f30_4 (b off : Nat) : fieldAddrL Try.prog 30 (.ptr b off) 4 = some (.ptr b (off + 4)) := by kernel_rfl
theorem ty_g30_4 (v : LV) : fieldAddrL Try.prog 30 (.cptr v) 4 = subL Try.prog 28 v 4 := by kernel_rfl
theorem ty_m30 (parts : List (Nat × LV)) : buildL Try.prog 30 parts = aggK (fillL (plS [(0, 1), (1, 1), (2, 1), (3, 1), (4, 1)]) (LV.cells (.agg [(.int .i64 0), (.int .i64 0), (.int .i64 0), (.int .i64 0), (.int .i64 0)])) parts) := build_s ty_z30 rfl ty_u30 (by kernel_rfl) parts
theorem ty_y30 (a0 b0 : Int) (a1 b1 : Int) (a2 b2 : Int) (a3 b3 : Int) (a4 b4 : Int) : eqTopL Try.prog 30 (.agg [.int .i64 a0, .int .i64 a1, .int .i64 a2, .int .i64 a3, .int .i64 a4]) (.agg [.int .i64 b0, .int .i64 b1, .int .i64 b2, .int .i64 b3, .int .i64 b4]) = eqSeq [some (a0 == b0), some (a1 == b1), some (a2 == b2), some (a3 == b3), some (a4 == b4)] := by kernel_rfl
theorem ty_p34 (cs : List LV) (off : Nat) : partL Try.prog 34 cs off = cs[off]? := part_s ty_a34 cs off
theorem ty_v34 (v : LV) (off : Nat) : subL Try.prog 34 v off = sub1 v.cells[off]? := sub_s ty_a34 v off
theorem ty_i34 (r hi : Nat) (xs : List LV) (k : IntKind) (n : Int) : indexAddrL Try.prog 34 (.sl r hi 7 xs) (.int k n) = iaS xs n := ia_sl ty_u34 ty_s42 r hi xs k n
theorem ty_l34 (r hi sz : Nat) (xs : List LV) : lenL Try.prog 34 (.sl r hi sz xs) = some (.int .i64 xs.length) := len_sl ty_u34 r hi sz xs
theorem ty_n34 : lenL Try.prog 34 .nils = some (.int .i64 0) := len_nils ty_u34
theorem ty_q34 (r p : Nat) (xs : List LV) (lo hi : Option LV) (h : H) : sliceL Try.prog 34 (.sl r p 7 xs) lo hi h = slK r p 7 xs h lo (boundL hi xs.length xs.length) := slice_sl ty_u34 ty_s42 r p xs lo hi h
theorem ty_r34 (lo hi : Option LV) (h : H) : sliceL Try.prog 34 .nils lo hi h = slKn h lo (boundL hi 0 0) := slice_nils ty_u34 ty_s42 lo hi h
theorem ty_w34 (s x : LV) (h : H) : appendL Try.prog 34 34 s x h = appS 7 56 s h (elemsL 7 x) := append_eq ty_u34 (.inr ⟨_, ty_u34⟩) ty_s42 ty_b42 ty_z42 rfl rfl (by decide) (by decide) s x h
theorem ty_k34 (len : Nat) (hb : len * 7 ≤ 2 ^ 24) (parts : List (Nat × LV)) (h : H) : buildSliceL Try.prog 34 len parts h = bsK Try.prog 42 7 len h (fillL (plA 7) (repL (LV.cells (.agg [(.int .i64 0), (.int .i64 0), (.int .i64 0), (.int .i64 0), (.int .i64 0), (.int .i64 0), (.int .i64 0)])) len) parts) := buildSlice_eq ty_u34 ty_s42 ty_z42 rfl rfl (by decide) len hb parts h
theorem ty_L34 (o : Option (Nat × Nat)) (sz : Nat) (xs : List LV) : lenL Try.prog 34 (mkS o sz xs) = some (.int .i64 xs.length) := len_mk ty_u34 o sz xs
theorem ty_I34 (o : Option (Nat × Nat)) (xs : List LV) (k : IntKind) (n : Int) : indexAddrL Try.prog 34 (mkS o 7 xs) (.int k n) = iaS xs n := ia_mk ty_u34 ty_s42 o xs k n
theorem ty_Q34 (o : Option (Nat × Nat)) (xs : List LV) (lo hi : Option LV) (h : H) : sliceL Try.prog 34 (mkS o 7 xs) lo hi h = slM o 7 xs h lo (boundL hi xs.length xs.length) := slice_mk ty_u34 ty_s42 o xs lo hi h
theorem ty_E34 (o : Option (Nat × Nat)) (sz : Nat) (xs : List LV) : binL Try.prog .eql 34 (mkS o sz xs) .nils = some (.bool (decide (o = none ∧ xs = []))) := bin_eql_mk ty_u34 o sz xs
theorem ty_D34 (o : Option (Nat × Nat)) (sz : Nat) (xs : List LV) : binL Try.prog .neq 34 (mkS o sz xs) .nils = some (.bool (!decide (o = none ∧ xs = []))) := bin_neq_mk ty_u34 o sz xs
theorem ty_c42 (n : Nat) (cs : List LV) : chunkL Try.prog 42 7 (n + 1) cs = chK cs 7 (chunkL Try.prog 42 7 n (cs.drop 7)) := chunk_a ty_a42 n cs
theorem ty_e34_0 : binL Try.prog .eql 34 .nils .nils = some (.bool true) := bin_eql_of rfl (by rw [eqL_10000]; simp only [eqL, ty_u34]) (by simp)
theorem ty_e34_1 (r hi sz : Nat) (xs : List LV) : binL Try.prog .eql 34 .nils (.sl r hi sz xs) = some (.bool false) := bin_eql_of rfl (by rw [eqL_10000]; simp only [eqL, ty_u34]) (by simp)
theorem ty_e34_2 (r hi sz : Nat) (xs : List LV) : binL Try.prog .eql 34 (.sl r hi sz xs) .nils = some (.bool false) := bin_eql_of rfl (by rw [eqL_10000]; simp only [eqL, ty_u34]) (by simp)
theorem ty_d34_0 : binL Try.prog .neq 34 .nils .nils = some (.bool !true) := bin_neq_of rfl (by rw [eqL_10000]; simp only [eqL, ty_u34]) (by simp)
theorem ty_d34_1 (r hi sz : Nat) (xs : List LV) : binL Try.prog .neq 34 .nils (.sl r hi sz xs) = some (.bool !false) := bin_neq_of rfl (by rw [eqL_10000]; simp only [eqL, ty_u34]) (by simp)
theorem ty_d34_2 (r hi sz : Nat) (xs : List LV) : binL Try.prog .neq 34 (.sl r hi sz xs) .nils = some (.bool !false) := bin_neq_of rfl (by rw [eqL_10000]; simp only [eqL, ty_u34]) (by simp)
theorem ty_p38 (cs : List LV) (off : Nat) : partL Try.prog 38 cs off = partA 2 cs off := part_a ty_a38 ty_s38 cs off
theorem ty_v38 (v : LV) (off : Nat) : subL Try.prog 38 v off = sub2 (partA 2 v.cells off) := sub_a ty_a38 ty_s38 v off
theorem ty_f38_0 (b off : Nat) : fieldAddrL Try.prog 38 (.ptr b off) 0 = some (.ptr b (off + 0)) := by kernel_rfl
theorem ty_g38_0 (v : LV) : fieldAddrL Try.prog 38 (.cptr v) 0 = subL Try.prog 26 v 0 := by kernel_rfl
theorem ty_f38_1 (b off : Nat) : fieldAddrL Try.prog 38 (.ptr b off) 1 = some (.ptr b (off + 1)) := by kernel_rfl
theorem ty_g38_1 (v : LV) : fieldAddrL Try.prog 38 (.cptr v) 1 = subL Try.prog 4 v 1 := by kernel_rfl
theorem ty_m38 (parts : List (Nat × LV)) : buildL Try.prog 38 parts = aggK (fillL (plS [(0, 1), (1, 1)]) (LV.cells (.agg [.nils, (.bool false)])) parts) := build_s ty_z38 rfl ty_u38 (by kernel_rfl) parts
theorem ty_p42 (cs : List LV) (off : Nat) : partL Try.prog 42 cs off = partA 7 cs off := part_a ty_a42 ty_s42 cs off
theorem ty_v42 (v : LV) (off : Nat) : subL Try.prog 42 v off = sub2 (partA 7 v.cells off) := sub_a ty_a42 ty_s42 v off
theorem ty_f42_0 (b off : Nat) : fieldAddrL Try.prog 42 (.ptr b off) 0 = some (.ptr b (off + 0)) := by kernel_rfl
theorem ty_g42_0 (v : LV) : fieldAddrL Try.prog 42 (.cptr v) 0 = subL Try.prog 3 v 0 := by kernel_rfl
theorem ty_f42_1 (b off : Nat) : fieldAddrL Try.prog 42 (.ptr b off) 1 = some (.ptr b (off + 1)) := by kernel_rfl
theorem ty_g42_1 (v : LV) : fieldAddrL Try.prog 42 (.cptr v) 1 = subL Try.prog 28 v 1 := by kernel_rfl
theorem ty_f42_2 (b off : Nat) : fieldAddrL Try.prog 42 (.ptr b off) 2 = some (.ptr b (off + 2)) := by kernel_rfl
theorem ty_g42_2 (v : LV) : fieldAddrL Try.prog 42 (.cptr v) 2 = subL Try.prog 3 v 2 := by kernel_rfl
theorem ty_f42_3 (b off : Nat) : fieldAddrL Try.prog 42 (.ptr b off) 3 = some (.ptr b (off + 3)) := by kernel_rfl
theorem ty_g42_3 (v : LV) : fieldAddrL Try.prog 42 (.cptr v) 3 = subL Try.prog 28 v 3 := by kernel_rfl
theorem ty_f42_4 (b off : Nat) : fieldAddrL Try.prog 42 (.ptr b off) 4 = some (.ptr b (off + 4)) := by kernel_rfl
theorem ty_g42_4 (v : LV) : fieldAddrL Try.prog 42 (.cptr v) 4 = subL Try.prog 3 v 4 := by kernel_rfl
theorem ty_f42_5 (b off : Nat) : fieldAddrL Try.prog 42 (.ptr b off) 5 = some (.ptr b (off + 5)) := by kernel_rfl
theorem ty_g42_5 (v : LV) : fieldAddrL Try.prog 42 (.cptr v) 5 = subL Try.prog 28 v 5 := by kernel_rfl
theorem ty_f42_6 (b off : Nat) : fieldAddrL Try.prog 42 (.ptr b off) 6 = some (.ptr b (off + 6)) := by kernel_rfl
theorem ty_g42_6 (v : LV) : fieldAddrL Try.prog 42 (.cptr v) 6 = subL Try.prog 3 v 6 := by kernel_rfl
theorem ty_m42 (parts : List (Nat × LV)) : buildL Try.prog 42 parts = aggK (fillL (plS [(0, 1), (1, 1), (2, 1), (3, 1), (4, 1), (5, 1), (6, 1)]) (LV.cells (.agg [(.int .i64 0), (.int .i64 0), (.int .i64 0), (.int .i64 0), (.int .i64 0), (.int .i64 0), (.int .i64 0)])) parts) := build_s ty_z42 rfl ty_u42 (by kernel_rfl) parts
theorem ty_y42 (a0 b0 : Int) (a1 b1 : Int) (a2 b2 : Int) (a3 b3 : Int) (a4 b4 : Int) (a5 b5 : Int) (a6 b6 : Int) : eqTopL Try.prog 42 (.agg [.int .i64 a0, .int .i64 a1, .int .i64 a2, .int .i64 a3, .int .i64 a4, .int .i64 a5, .int .i64 a6]) (.agg [.int .i64 b0, .int .i64 b1, .int .i64 b2, .int .i64 b3, .int .i64 b4, .int .i64 b5, .int .i64 b6]) = eqSeq [some (a0 == b0), some (a1 == b1), some (a2 == b2), some (a3 == b3), some (a4 == b4), some (a5 == b5), some (a6 == b6)] := by kernel_rfl
theorem ty_p44 (cs : List LV) (off : Nat) : partL Try.prog 44 cs off = cs[off]? := part_s ty_a44 cs off
theorem ty_v44 (v : LV) (off : Nat) : subL Try.prog 44 v off = sub1 v.cells[off]? := sub_s ty_a44 v off
theorem ty_i44 (r hi : Nat) (xs : List LV) (k : IntKind) (n : Int) : indexAddrL Try.prog 44 (.sl r hi 5 xs) (.int k n) = iaS xs n := ia_sl ty_u44 ty_s67 r hi xs k n
theorem ty_l44 (r hi sz : Nat) (xs : List LV) : lenL Try.prog 44 (.sl r hi sz xs) = some (.int .i64 xs.length) := len_sl ty_u44 r hi sz xs
theorem ty_n44 : lenL Try.prog 44 .nils = some (.int .i64 0) := len_nils ty_u44
theorem ty_q44 (r p : Nat) (xs : List LV) (lo hi : Option LV) (h : H) : sliceL Try.prog 44 (.sl r p 5 xs) lo hi h = slK r p 5 xs h lo (boundL hi xs.length xs.length) := slice_sl ty_u44 ty_s67 r p xs lo hi h
theorem ty_r44 (lo hi : Option LV) (h : H) : sliceL Try.prog 44 .nils lo hi h = slKn h lo (boundL hi 0 0) := slice_nils ty_u44 ty_s67 lo hi h
theorem ty_w44 (s x : LV) (h : H) : appendL Try.prog 44 44 s x h = appS 5 64 s h (elemsL 5 x) := append_eq ty_u44 (.inr ⟨_, ty_u44⟩) ty_s67 ty_b67 ty_z67 rfl rfl (by decide) (by decide) s x h
theorem ty_k44 (len : Nat) (hb : len * 5 ≤ 2 ^ 24) (parts : List (Nat × LV)) (h : H) : buildSliceL Try.prog 44 len parts h = bsK Try.prog 67 5 len h (fillL (plA 5) (repL (LV.cells (.agg [(.int .i64 0), (.str { data := #[] }), (.int .i64 0), (.bool false), .nils])) len) parts) := buildSlice_eq ty_u44 ty_s67 ty_z67 rfl rfl (by decide) len hb parts h
theorem ty_L44 (o : Option (Nat × Nat)) (sz : Nat) (xs : List LV) : lenL Try.prog 44 (mkS o sz xs) = some (.int .i64 xs.length) := len_mk ty_u44 o sz xs
theorem ty_I44 (o : Option (Nat × Nat)) (xs : List LV) (k : IntKind) (n : Int) : indexAddrL Try.prog 44 (mkS o 5 xs) (.int k n) = iaS xs n := ia_mk ty_u44 ty_s67 o xs k n
theorem ty_Q44 (o : Option (Nat × Nat)) (xs : List LV) (lo hi : Option LV) (h : H) : sliceL Try.prog 44 (mkS o 5 xs) lo hi h = slM o 5 xs h lo (boundL hi xs.length xs.length) := slice_mk ty_u44 ty_s67 o xs lo hi h
theorem ty_E44 (o : Option (Nat × Nat)) (sz : Nat) (xs : List LV) : binL Try.prog .eql 44 (mkS o sz xs) .nils = some (.bool (decide (o = none ∧ xs = []))) := bin_eql_mk ty_u44 o sz xs
theorem ty_D44 (o : Option (Nat × Nat)) (sz : Nat) (xs : List LV) : binL Try.prog .neq 44 (mkS o sz xs) .nils = some (.bool (!decide (o = none ∧ xs = []))) := bin_neq_mk ty_u44 o sz xs
theorem ty_c67 (n : Nat) (cs : List LV) : chunkL Try.prog 67 5 (n + 1) cs = chK cs 5 (chunkL Try.prog 67 5 n (cs.drop 5)) := chunk_a ty_a67 n cs
theorem ty_e44_0 : binL Try.prog .eql 44 .nils .nils = some (.bool true) := bin_eql_of rfl (by rw [eqL_10000]; simp only [eqL, ty_u44]) (by simp)
theorem ty_e44_1 (r hi sz : Nat) (xs : List LV) : binL Try.prog .eql 44 .nils (.sl r hi sz xs) = some (.bool false) := bin_eql_of rfl (by rw [eqL_10000]; simp only [eqL, ty_u44]) (by simp)
theorem ty_e44_2 (r hi sz : Nat) (xs : List LV) : binL Try.prog .eql 44 (.sl r hi sz xs) .nils = some (.bool false) := bin_eql_of rfl (by rw [eqL_10000]; simp only [eqL, ty_u44]) (by simp)
theorem ty_d44_0 : binL Try.prog .neq 44 .nils .nils = some (.bool !true) := bin_neq_of rfl (by rw [eqL_10000]; simp only [eqL, ty_u44]) (by simp)
theorem ty_d44_1 (r hi sz : Nat) (xs : List LV) : binL Try.prog .neq 44 .nils (.sl r hi sz xs) = some (.bool !false) := bin_neq_of rfl (by rw [eqL_10000]; simp only [eqL, ty_u44]) (by simp)
theorem ty_d44_2 (r hi sz : Nat) (xs : List LV) : binL Try.prog .neq 44 (.sl r hi sz xs) .nils = some (.bool !false) := bin_neq_of rfl (by rw [eqL_10000]; simp only [eqL, ty_u44]) (by simp)
theorem ty_p48 (cs : List LV) (off : Nat) : partL Try.prog 48 cs off = partA 19 cs off := part_a ty_a48 ty_s48 cs off
theorem ty_v48 (v : LV) (off : Nat) : subL Try.prog 48 v off = sub2 (partA 19 v.cells off) := sub_a ty_a48 ty_s48 v off
theorem ty_f48_0 (b off : Nat) : fieldAddrL Try.prog 48 (.ptr b off) 0 = some (.ptr b (off + 0)) := by kernel_rfl
theorem ty_g48_0 (v : LV) : fieldAddrL Try.prog 48 (.cptr v) 0 = subL Try.prog 3 v 0 := by kernel_rfl
theorem ty_f48_1 (b off : Nat) : fieldAddrL Try.prog 48 (.ptr b off) 1 = some (.ptr b (off + 1)) := by kernel_rfl
theorem ty_g48_1 (v : LV) : fieldAddrL Try.prog 48 (.cptr v) 1 = subL Try.prog 28 v 1 := by kernel_rfl
theorem ty_f48_2 (b off : Nat) : fieldAddrL Try.prog 48 (.ptr b off) 2 = some (.ptr b (off + 2)) := by kernel_rfl
theorem ty_g48_2 (v : LV) : fieldAddrL Try.prog 48 (.cptr v) 2 = subL Try.prog 28 v 2 := by kernel_rfl
theorem ty_f48_3 (b off : Nat) : fieldAddrL Try.prog 48 (.ptr b off) 3 = some (.ptr b (off + 3)) := by kernel_rfl
theorem ty_g48_3 (v : LV) : fieldAddrL Try.prog 48 (.cptr v) 3 = subL Try.prog 28 v 3 := by kernel_rfl
theorem ty_f48_4 (b off : Nat) : fieldAddrL Try.prog 48 (.ptr b off) 4 = some (.ptr b (off + 4)) := by kernel_rfl
theorem ty_g48_4 (v : LV) : fieldAddrL Try.prog 48 (.cptr v) 4 = subL Try.prog 28 v 4 := by kernel_rfl
theorem ty_f48_5 (b off : Nat) : fieldAddrL Try.prog 48 (.ptr b off) 5 = some (.ptr b (off + 5)) := by kernel_rfl
theorem ty_g48_5 (v : LV) : fieldAddrL Try.prog 48 (.cptr v) 5 = subL Try.prog 28 v 5 := by kernel_rfl
theorem ty_f48_6 (b off : Nat) : fieldAddrL Try.prog 48 (.ptr b off) 6 = some (.ptr b (off + 6)) := by kernel_rfl
theorem ty_g48_6 (v : LV) : fieldAddrL Try.prog 48 (.cptr v) 6 = subL Try.prog 28 v 6 := by kernel_rfl
theorem ty_f48_7 (b off : Nat) : fieldAddrL Try.prog 48 (.ptr b off) 7 = some (.ptr b (off + 7)) := by kernel_rfl
theorem ty_g48_7 (v : LV) : fieldAddrL Try.prog 48 (.cptr v) 7 = subL Try.prog 28 v 7 := by kernel_rfl
theorem ty_f48_8 (b off : Nat) : fieldAddrL Try.prog 48 (.ptr b off) 8 = some (.ptr b (off + 8)) := by kernel_rfl
theorem ty_g48_8 (v : LV) : fieldAddrL Try.prog 48 (.cptr v) 8 = subL Try.prog 28 v 8 := by kernel_rfl
theorem ty_f48_9 (b off : Nat) : fieldAddrL Try.prog 48 (.ptr b off) 9 = some (.ptr b (off + 9)) := by kernel_rfl
theorem ty_g48_9 (v : LV) : fieldAddrL Try.prog 48 (.cptr v) 9 = subL Try.prog 28 v 9 := by kernel_rfl
theorem ty_f48_10 (b off : Nat) : fieldAddrL Try.prog 48 (.ptr b off) 10 = some (.ptr b (off + 10)) := by kernel_rfl
theorem ty_g48_10 (v : LV) : fieldAddrL Try.prog 48 (.cptr v) 10 = subL Try.prog 28 v 10 := by kernel_rfl
theorem ty_f48_11 (b off : Nat) : fieldAddrL Try.prog 48 (.ptr b off) 11 = some (.ptr b (off + 11)) := by kernel_rfl
theorem ty_g48_11 (v : LV) : fieldAddrL Try.prog 48 (.cptr v) 11 = subL Try.prog 3 v 11 := by kernel_rfl
theorem ty_f48_12 (b off : Nat) : fieldAddrL Try.prog 48 (.ptr b off) 12 = some (.ptr b (off + 12)) := by kernel_rfl
theorem ty_g48_12 (v : LV) : fieldAddrL Try.prog 48 (.cptr v) 12 = subL Try.prog 3 v 12 := by kernel_rfl
theorem ty_f48_13 (b off : Nat) : fieldAddrL Try.prog 48 (.ptr b off) 13 = some (.ptr b (off + 13)) := by kernel_rfl
theorem ty_g48_13 (v : LV) : fieldAddrL Try.prog 48 (.cptr v) 13 = subL Try.prog 3 v 13 := by kernel_rfl
theorem ty_f48_14 (b off : Nat) : fieldAddrL Try.prog 48 (.ptr b off) 14 = some (.ptr b (off + 14)) := by kernel_rfl
theorem ty_g48_14 (v : LV) : fieldAddrL Try.prog 48 (.cptr v) 14 = subL Try.prog 3 v 14 := by kernel_rfl
theorem ty_f48_15 (b off : Nat) : fieldAddrL Try.prog 48 (.ptr b off) 15 = some (.ptr b (off + 15)) := by kernel_rfl
theorem ty_g48_15 (v : LV) : fieldAddrL Try.prog 48 (.cptr v) 15 = subL Try.prog 3 v 15 := by kernel_rfl
theorem ty_f48_16 (b off : Nat) : fieldAddrL Try.prog 48 (.ptr b off) 16 = some (.ptr b (off + 16)) := by kernel_rfl
theorem ty_g48_16 (v : LV) : fieldAddrL Try.prog 48 (.cptr v) 16 = subL Try.prog 3 v 16 := by kernel_rfl
theorem ty_f48_17 (b off : Nat) : fieldAddrL Try.prog 48 (.ptr b off) 17 = some (.ptr b (off + 17)) := by kernel_rfl
theorem ty_g48_17 (v : LV) : fieldAddrL Try.prog 48 (.cptr v) 17 = subL Try.prog 3 v 17 := by kernel_rfl
theorem ty_f48_18 (b off : Nat) : fieldAddrL Try.prog 48 (.ptr b off) 18 = some (.ptr b (off + 18)) := by kernel_rfl
theorem ty_g48_18 (v : LV) : fieldAddrL Try.prog 48 (.cptr v) 18 = subL Try.prog 4 v 18 := by kernel_rfl
theorem ty_m48 (parts : List (Nat × LV)) : buildL Try.prog 48 parts = aggK (fillL (plS [(0, 1), (1, 1), (2, 1), (3, 1), (4, 1), (5, 1), (6, 1), (7, 1), (8, 1), (9, 1), (10, 1), (11, 1), (12, 1), (13, 1), (14, 1), (15, 1), (16, 1), (17, 1), (18, 1)]) (LV.cells (.agg [(.int .i64 0), (.int .i64 0), (.int .i64 0), (.int .i64 0), (.int .i64 0), (.int .i64 0), (.int .i64 0), (.int .i64 0), (.int .i64 0), (.int .i64 0), (.int .i64 0), (.int .i64 0), (.int .i64 0), (.int .i64 0), (.int .i64 0), (.int .i64 0), (.int .i64 0), (.int .i64 0), (.bool false)])) parts) := build_s ty_z48 rfl ty_u48 (by kernel_rfl) parts
theorem ty_y48 (a0 b0 : Int) (a1 b1 : Int) (a2 b2 : Int) (a3 b3 : Int) (a4 b4 : Int) (a5 b5 : Int) (a6 b6 : Int) (a7 b7 : Int) (a8 b8 : Int) (a9 b9 : Int) (a10 b10 : Int) (a11 b11 : Int) (a12 b12 : Int) (a13 b13 : Int) (a14 b14 : Int) (a15 b15 : Int) (a16 b16 : Int) (a17 b17 : Int) (a18 b18 : Bool) : eqTopL Try.prog 48 (.agg [.int .i64 a0, .int .i64 a1, .int .i64 a2, .int .i64 a3, .int .i64 a4, .int .i64 a5, .int .i64 a6, .int .i64 a7, .int .i64 a8, .int .i64 a9, .int .i64 a10, .int .i64 a11, .int .i64 a12, .int .i64 a13, .int .i64 a14, .int .i64 a15, .int .i64 a16, .int .i64 a17, .bool a18]) (.agg [.int .i64 b0, .int .i64 b1, .int .i64 b2, .int .i64 b3, .int .i64 b4, .int .i64 b5, .int .i64 b6, .int .i64 b7, .int .i64 b8, .int .i64 b9, .int .i64 b10, .int .i64 b11, .int .i64 b12, .int .i64 b13, .int .i64 b14, .int .i64 b15, .int .i64 b16, .int .i64 b17, .bool b18]) = eqSeq [some (a0 == b0), some (a1 == b1), some (a2 == b2), some (a3 == b3), some (a4 == b4), some (a5 == b5), some (a6 == b6), some (a7 == b7), some (a8 == b8), some (a9 == b9), some (a10 == b10), some (a11 == b11), some (a12 == b12), some (a13 == b13), some (a14 == b14), some (a15 == b15), some (a16 == b16), some (a17 == b17), some (a18 == b18)] := by kernel_rfl
theorem ty_p49 (cs : List LV) (off : Nat) : partL Try.prog 49 cs off = cs[off]? := part_s ty_a49 cs off
theorem ty_v49 (v : LV) (off : Nat) : subL Try.prog 49 v off = sub1 v.cells[off]? := sub_s ty_a49 v off
theorem ty_i49 (r hi : Nat) (xs : List LV) (k : IntKind) (n : Int) : indexAddrL Try.prog 49 (.sl r hi 2 xs) (.int k n) = iaS xs n := ia_sl ty_u49 ty_s126 r hi xs k n
theorem ty_l49 (r hi sz : Nat) (xs : List LV) : lenL Try.prog 49 (.sl r hi sz xs) = some (.int .i64 xs.length) := len_sl ty_u49 r hi sz xs
theorem ty_n49 : lenL Try.prog 49 .nils = some (.int .i64 0) := len_nils ty_u49
theorem ty_q49 (r p : Nat) (xs : List LV) (lo hi : Option LV) (h : H) : sliceL Try.prog 49 (.sl r p 2 xs) lo hi h = slK r p 2 xs h lo (boundL hi xs.length xs.length) := slice_sl ty_u49 ty_s126 r p xs lo hi h
theorem ty_r49 (lo hi : Option LV) (h : H) : sliceL Try.prog 49 .nils lo hi h = slKn h lo (boundL hi 0 0) := slice_nils ty_u49 ty_s126 lo hi h
theorem ty_w49 (s x : LV) (h : H) : appendL Try.prog 49 49 s x h = appS 2 48 s h (elemsL 2 x) := append_eq ty_u49 (.inr ⟨_, ty_u49⟩) ty_s126 ty_b126 ty_z126 rfl rfl (by decide) (by decide) s x h
theorem ty_k49 (len : Nat) (hb : len * 2 ≤ 2 ^ 24) (parts : List (Nat × LV)) (h : H) : buildSliceL Try.prog 49 len parts h = bsK Try.prog 126 2 len h (fillL (plA 2) (repL (LV.cells (.agg [.nils, .nils])) len) parts) := buildSlice_eq ty_u49 ty_s126 ty_z126 rfl rfl (by decide) len hb parts h
theorem ty_L49 (o : Option (Nat × Nat)) (sz : Nat) (xs : List LV) : lenL Try.prog 49 (mkS o sz xs) = some (.int .i64 xs.length) := len_mk ty_u49 o sz xs
theorem ty_I49 (o : Option (Nat × Nat)) (xs : List LV) (k : IntKind) (n : Int) : indexAddrL Try.prog 49 (mkS o 2 xs) (.int k n) = iaS xs n := ia_mk ty_u49 ty_s126 o xs k n
theorem ty_Q49 (o : Option (Nat × Nat)) (xs : List LV) (lo hi : Option LV) (h : H) : sliceL Try.prog 49 (mkS o 2 xs) lo hi h = slM o 2 xs h lo (boundL hi xs.length xs.length) := slice_mk ty_u49 ty_s126 o xs lo hi h
theorem ty_E49 (o : Option (Nat × Nat)) (sz : Nat) (xs : List LV) : binL Try.prog .eql 49 (mkS o sz xs) .nils = some (.bool (decide (o = none ∧ xs = []))) := bin_eql_mk ty_u49 o sz xs
theorem ty_D49 (o : Option (Nat × Nat)) (sz : Nat) (xs : List LV) : binL Try.prog .neq 49 (mkS o sz xs) .nils = some (.bool (!decide (o = none ∧ xs = []))) := bin_neq_mk ty_u49 o sz xs
theorem ty_c126 (n : Nat) (cs : List LV) : chunkL Try.prog 126 2 (n + 1) cs = chK cs 2 (chunkL Try.prog 126 2 n (cs.drop 2)) := chunk_a ty_a126 n cs
theorem ty_e49_0 : binL Try.prog .eql 49 .nils .nils = some (.bool true) := bin_eql_of rfl (by rw [eqL_10000]; simp only [eqL, ty_u49]) (by simp)
theorem ty_e49_1 (r hi sz : Nat) (xs : List LV) : binL Try.prog .eql 49 .nils (.sl r hi sz xs) = some (.bool false) := bin_eql_of rfl (by rw [eqL_10000]; simp only [eqL, ty_u49]) (by simp)
theorem ty_e49_2 (r hi sz : Nat) (xs : List LV) : binL Try.prog .eql 49 (.sl r hi sz xs) .nils = some (.bool false) := bin_eql_of rfl (by rw [eqL_10000]; simp only [eqL, ty_u49]) (by simp)
theorem ty_d49_0 : binL Try.prog .neq 49 .nils .nils = some (.bool !true) := bin_neq_of rfl (by rw [eqL_10000]; simp only [eqL, ty_u49]) (by simp)
theorem ty_d49_1 (r hi sz : Nat) (xs : List LV) : binL Try.prog .neq 49 .nils (.sl r hi sz xs) = some (.bool !false) := bin_neq_of rfl (by rw [eqL_10000]; simp only [eqL, ty_u49]) (by simp)
theorem ty_d49_2 (r hi sz : Nat) (xs : List LV) : binL Try.prog .neq 49 (.sl r hi sz xs) .nils = some (.bool !false) := bin_neq_of rfl (by rw [eqL_10000]; simp only [eqL, ty_u49]) (by simp)
theorem ty_p50 (cs : List LV) (off : Nat) : partL Try.prog 50 cs off = cs[off]? := part_s ty_a50 cs off
theorem ty_v50 (v : LV) (off : Nat) : subL Try.prog 50 v off = sub1 v.cells[off]? := sub_s ty_a50 v off
theorem ty_i50 (r hi : Nat) (xs : List LV) (k : IntKind) (n : Int) : indexAddrL Try.prog 50 (.sl r hi 3 xs) (.int k n) = iaS xs n := ia_sl ty_u50 ty_s131 r hi xs k n
theorem ty_l50 (r hi sz : Nat) (xs : List LV) : lenL Try.prog 50 (.sl r hi sz xs) = some (.int .i64 xs.length) := len_sl ty_u50 r hi sz xs
theorem ty_n50 : lenL Try.prog 50 .nils = some (.int .i64 0) := len_nils ty_u50
theorem ty_q50 (r p : Nat) (xs : List LV) (lo hi : Option LV) (h : H) : sliceL Try.prog 50 (.sl r p 3 xs) lo hi h = slK r p 3 xs h lo (boundL hi xs.length xs.length) := slice_sl ty_u50 ty_s131 r p xs lo hi h
theorem ty_r50 (lo hi : Option LV) (h : H) : sliceL Try.prog 50 .nils lo hi h = slKn h lo (boundL hi 0 0) := slice_nils ty_u50 ty_s131 lo hi h
theorem ty_w50 (s x : LV) (h : H) : appendL Try.prog 50 50 s x h = appS 3 24 s h (elemsL 3 x) := append_eq ty_u50 (.inr ⟨_, ty_u50⟩) ty_s131 ty_b131 ty_z131 rfl rfl (by decide) (by decide) s x h
theorem ty_k50 (len : Nat) (hb : len * 3 ≤ 2 ^ 24) (parts : List (Nat × LV)) (h : H) : buildSliceL Try.prog 50 len parts h = bsK Try.prog 131 3 len h (fillL (plA 3) (repL (LV.cells (.agg [(.int .i64 0), (.int .i64 0), (.int .i64 0)])) len) parts) := buildSlice_eq ty_u50 ty_s131 ty_z131 rfl rfl (by decide) len hb parts h
theorem ty_L50 (o : Option (Nat × Nat)) (sz : Nat) (xs : List LV) : lenL Try.prog 50 (mkS o sz xs) = some (.int .i64 xs.length) := len_mk ty_u50 o sz xs
theorem ty_I50 (o : Option (Nat × Nat)) (xs : List LV) (k : IntKind) (n : Int) : indexAddrL Try.prog 50 (mkS o 3 xs) (.int k n) = iaS xs n := ia_mk ty_u50 ty_s131 o xs k n
theorem ty_Q50 (o : Option (Nat × Nat)) (xs : List LV) (lo hi : Option LV) (h : H) : sliceL Try.prog 50 (mkS o 3 xs) lo hi h = slM o 3 xs h lo (boundL hi xs.length xs.length) := slice_mk ty_u50 ty_s131 o xs lo hi h
theorem ty_E50 (o : Option (Nat × Nat)) (sz : Nat) (xs : List LV) : binL Try.prog .eql 50 (mkS o sz xs) .nils = some (.bool (decide (o = none ∧ xs = []))) := bin_eql_mk ty_u50 o sz xs
theorem ty_D50 (o : Option (Nat × Nat)) (sz : Nat) (xs : List LV) : binL Try.prog .neq 50 (mkS o sz xs) .nils = some (.bool (!decide (o = none ∧ xs = []))) := bin_neq_mk ty_u50 o sz xs
theorem ty_c131 (n : Nat) (cs : List LV) : chunkL Try.prog 131 3 (n + 1) cs = chK cs 3 (chunkL Try.prog 131 3 n (cs.drop 3)) := chunk_a ty_a131 n cs
theorem ty_e50_0 : binL Try.prog .eql 50 .nils .nils = some (.bool true) := bin_eql_of rfl (by rw [eqL_10000]; simp only [eqL, ty_u50]) (by simp)
theorem ty_e50_1 (r hi sz : Nat) (xs : List LV) : binL Try.prog .eql 50 .nils (.sl r hi sz xs) = some (.bool false) := bin_eql_of rfl (by rw [eqL_10000]; simp only [eqL, ty_u50]) (by simp)
theorem ty_e50_2 (r hi sz : Nat) (xs : List LV) : binL Try.prog .eql 50 (.sl r hi sz xs) .nils = some (.bool false) := bin_eql_of rfl (by rw [eqL_10000]; simp only [eqL, ty_u50]) (by simp)
theorem ty_d50_0 : binL Try.prog .neq 50 .nils .nils = some (.bool !true) := bin_neq_of rfl (by rw [eqL_10000]; simp only [eqL, ty_u50]) (by simp)
theorem ty_d50_1 (r hi sz : Nat) (xs : List LV) : binL Try.prog .neq 50 .nils (.sl r hi sz xs) = some (.bool !false) := bin_neq_of rfl (by rw [eqL_10000]; simp only [eqL, ty_u50]) (by simp)
theorem ty_d50_2 (r hi sz : Nat) (xs : List LV) : binL Try.prog .neq 50 (.sl r hi sz xs) .nils = some (.bool !false) := bin_neq_of rfl (by rw [eqL_10000]; simp only [eqL, ty_u50]) (by simp)
theorem ty_p52 (cs : List LV) (off : Nat) : partL Try.prog 52 cs off = partA 22 cs off := part_a ty_a52 ty_s52 cs off
theorem ty_v52 (v : LV) (off : Nat) : subL Try.prog 52 v off = sub2 (partA 22 v.cells off) := sub_a ty_a52 ty_s52 v off
theorem ty_f52_0 (b off : Nat) : fieldAddrL Try.prog 52 (.ptr b off) 0 = some (.ptr b (off + 0)) := by kernel_rfl
theorem ty_g52_0 (v : LV) : fieldAddrL Try.prog 52 (.cptr v) 0 = subL Try.prog 48 v 0 := by kernel_rfl
theorem ty_f52_1 (b off : Nat) : fieldAddrL Try.prog 52 (.ptr b off) 1 = some (.ptr b (off + 19)) := by kernel_rfl
theorem ty_g52_1 (v : LV) : fieldAddrL Try.prog 52 (.cptr v) 1 = subL Try.prog 34 v 19 := by kernel_rfl
theorem ty_f52_2 (b off : Nat) : fieldAddrL Try.prog 52 (.ptr b off) 2 = some (.ptr b (off + 20)) := by kernel_rfl
theorem ty_g52_2 (v : LV) : fieldAddrL Try.prog 52 (.cptr v) 2 = subL Try.prog 49 v 20 := by kernel_rfl
theorem ty_f52_3 (b off : Nat) : fieldAddrL Try.prog 52 (.ptr b off) 3 = some (.ptr b (off + 21)) := by kernel_rfl
theorem ty_g52_3 (v : LV) : fieldAddrL Try.prog 52 (.cptr v) 3 = subL Try.prog 50 v 21 := by kernel_rfl
theorem ty_m52 (parts : List (Nat × LV)) : buildL Try.prog 52 parts = aggK (fillL (plS [(0, 19), (19, 1), (20, 1), (21, 1)]) (LV.cells (.agg [(.int .i64 0), (.int .i64 0), (.int .i64 0), (.int .i64 0), (.int .i64 0), (.int .i64 0), (.int .i64 0), (.int .i64 0), (.int .i64 0), (.int .i64 0), (.int .i64 0), (.int .i64 0), (.int .i64 0), (.int .i64 0), (.int .i64 0), (.int .i64 0), (.int .i64 0), (.int .i64 0), (.bool false), .nils, .nils, .nils])) parts) := build_s ty_z52 rfl ty_u52 (by kernel_rfl) parts
theorem ty_p58 (cs : List LV) (off : Nat) : partL Try.prog 58 cs off = cs[off]? := part_s ty_a58 cs off
theorem ty_v58 (v : LV) (off : Nat) : subL Try.prog 58 v off = sub1 v.cells[off]? := sub_s ty_a58 v off
theorem ty_e58_0 : binL Try.prog .eql 58 .nilp .nilp = some (.bool true) := bin_eql_of rfl (by rw [eqL_10000]; simp only [eqL, ty_u58]) (by simp)
theorem ty_e58_1 (b off : Nat) : binL Try.prog .eql 58 .nilp (.ptr b off) = some (.bool false) := bin_eql_of rfl (by rw [eqL_10000]; simp only [eqL, ty_u58]) (by simp)
theorem ty_e58_2 (b off : Nat) : binL Try.prog .eql 58 (.ptr b off) .nilp = some (.bool false) := bin_eql_of rfl (by rw [eqL_10000]; simp only [eqL, ty_u58]) (by simp)
theorem ty_e58_3 (v : LV) : binL Try.prog .eql 58 (.cptr v) .nilp = some (.bool false) := bin_eql_of rfl (by rw [eqL_10000]; simp only [eqL, ty_u58]) (by simp)
theorem ty_e58_4 (v : LV) : binL Try.prog .eql 58 .nilp (.cptr v) = some (.bool false) := bin_eql_of rfl (by rw [eqL_10000]; simp only [eqL, ty_u58]) (by simp)
theorem ty_d58_0 : binL Try.prog .neq 58 .nilp .nilp = some (.bool !true) := bin_neq_of rfl (by rw [eqL_10000]; simp only [eqL, ty_u58]) (by simp)
theorem ty_d58_1 (b off : Nat) : binL Try.prog .neq 58 .nilp (.ptr b off) = some (.bool !false) := bin_neq_of rfl (by rw [eqL_10000]; simp only [eqL, ty_u58]) (by simp)
theorem ty_d58_2 (b off : Nat) : binL Try.prog .neq 58 (.ptr b off) .nilp = some (.bool !false) := bin_neq_of rfl (by rw [eqL_10000]; simp only [eqL, ty_u58]) (by simp)
theorem ty_d58_3 (v : LV) : binL Try.prog .neq 58 (.cptr v) .nilp = some (.bool !false) := bin_neq_of rfl (by rw [eqL_10000]; simp only [eqL, ty_u58]) (by simp)
theorem ty_d58_4 (v : LV) : binL Try.prog .neq 58 .nilp (.cptr v) = some (.bool !false) := bin_neq_of rfl (by rw [eqL_10000]; simp only [eqL, ty_u58]) (by simp)
theorem ty_p60 (cs : List LV) (off : Nat) : partL Try.prog 60 cs off = cs[off]? := part_s ty_a60 cs off
theorem ty_v60 (v : LV) (off : Nat) : subL Try.prog 60 v off = sub1 v.cells[off]? := sub_s ty_a60 v off
theorem ty_e60_0 : binL Try.prog .eql 60 .nilp .nilp = some (.bool true) := bin_eql_of rfl (by rw [eqL_10000]; simp only [eqL, ty_u60]) (by simp)
theorem ty_e60_1 (b off : Nat) : binL Try.prog .eql 60 .nilp (.ptr b off) = some (.bool false) := bin_eql_of rfl (by rw [eqL_10000]; simp only [eqL, ty_u60]) (by simp)
theorem ty_e60_2 (b off : Nat) : binL Try.prog .eql 60 (.ptr b off) .nilp = some (.bool false) := bin_eql_of rfl (by rw [eqL_10000]; simp only [eqL, ty_u60]) (by simp)
theorem ty_e60_3 (v : LV) : binL Try.prog .eql 60 (.cptr v) .nilp = some (.bool false) := bin_eql_of rfl (by rw [eqL_10000]; simp only [eqL, ty_u60]) (by simp)
theorem ty_e60_4 (v : LV) : binL Try.prog .eql 60 .nilp (.cptr v) = some (.bool false) := bin_eql_of rfl (by rw [eqL_10000]; simp only [eqL, ty_u60]) (by simp)
theorem ty_d60_0 : binL Try.prog .neq 60 .nilp .nilp = some (.bool !true) := bin_neq_of rfl (by rw [eqL_10000]; simp only [eqL, ty_u60]) (by simp)
theorem ty_d60_1 (b off : Nat) : binL Try.prog .neq 60 .nilp (.ptr b off) = some (.bool !false) := bin_neq_of rfl (by rw [eqL_10000]; simp only [eqL, ty_u60]) (by simp)
theorem ty_d60_2 (b off : Nat) : binL Try.prog .neq 60 (.ptr b off) .nilp = some (.bool !false) := bin_neq_of rfl (by rw [eqL_10000]; simp only [eqL, ty_u60]) (by simp)
theorem ty_d60_3 (v : LV) : binL Try.prog .neq 60 (.cptr v) .nilp = some (.bool !false) := bin_neq_of rfl (by rw [eqL_10000]; simp only [eqL, ty_u60]) (by simp)
theorem ty_d60_4 (v : LV) : binL Try.prog .neq 60 .nilp (.cptr v) = some (.bool !false) := bin_neq_of rfl (by rw [eqL_10000]; simp only [eqL, ty_u60]) (by simp)
theorem ty_p62 (cs : List LV) (off : Nat) : partL Try.prog 62 cs off = partA 3 cs off := part_a ty_a62 ty_s62 cs off
theorem ty_v62 (v : LV) (off : Nat) : subL Try.prog 62 v off = sub2 (partA 3 v.cells off) := sub_a ty_a62 ty_s62 v off
theorem ty_f62_0 (b off : Nat) : fieldAddrL Try.prog 62 (.ptr b off) 0 = some (.ptr b (off + 0)) := by kernel_rfl
theorem ty_g62_0 (v : LV) : fieldAddrL Try.prog 62 (.cptr v) 0 = subL Try.prog 26 v 0 := by kernel_rfl
theorem ty_f62_1 (b off : Nat) : fieldAddrL Try.prog 62 (.ptr b off) 1 = some (.ptr b (off + 1)) := by kernel_rfl
theorem ty_g62_1 (v : LV) : fieldAddrL Try.prog 62 (.cptr v) 1 = subL Try.prog 3 v 1 := by kernel_rfl
theorem ty_f62_2 (b off : Nat) : fieldAddrL Try.prog 62 (.ptr b off) 2 = some (.ptr b (off + 2)) := by kernel_rfl
theorem ty_g62_2 (v : LV) : fieldAddrL Try.prog 62 (.cptr v) 2 = subL Try.prog 4 v 2 := by kernel_rfl
theorem ty_m62 (parts : List (Nat × LV)) : buildL Try.prog 62 parts = aggK (fillL (plS [(0, 1), (1, 1), (2, 1)]) (LV.cells (.agg [.nils, (.int .i64 0), (.bool false)])) parts) := build_s ty_z62 rfl ty_u62 (by kernel_rfl) parts
theorem ty_p64 (cs : List LV) (off : Nat) : partL Try.prog 64 cs off = cs[off]? := part_s ty_a64 cs off
theorem ty_v64 (v : LV) (off : Nat) : subL Try.prog 64 v off = sub1 v.cells[off]? := sub_s ty_a64 v off
theorem ty_i64 (r hi : Nat) (xs : List LV) (k : IntKind) (n : Int) : indexAddrL Try.prog 64 (.sl r hi 1 xs) (.int k n) = iaS xs n := ia_sl ty_u64 ty_s2 r hi xs k n
theorem ty_l64 (r hi sz : Nat) (xs : List LV) : lenL Try.prog 64 (.sl r hi sz xs) = some (.int .i64 xs.length) := len_sl ty_u64 r hi sz xs
theorem ty_n64 : lenL Try.prog 64 .nils = some (.int .i64 0) := len_nils ty_u64
theorem ty_q64 (r p : Nat) (xs : List LV) (lo hi : Option LV) (h : H) : sliceL Try.prog 64 (.sl r p 1 xs) lo hi h = slK r p 1 xs h lo (boundL hi xs.length xs.length) := slice_sl ty_u64 ty_s2 r p xs lo hi h
theorem ty_r64 (lo hi : Option LV) (h : H) : sliceL Try.prog 64 .nils lo hi h = slKn h lo (boundL hi 0 0) := slice_nils ty_u64 ty_s2 lo hi h
theorem ty_w64 (s x : LV) (h : H) : appendL Try.prog 64 64 s x h = appS 1 8 s h (elemsL 1 x) := append_eq ty_u64 (.inr ⟨_, ty_u64⟩) ty_s2 ty_b2 ty_z2 rfl rfl (by decide) (by decide) s x h
theorem ty_k64 (len : Nat) (hb : len * 1 ≤ 2 ^ 24) (parts : List (Nat × LV)) (h : H) : buildSliceL Try.prog 64 len parts h = bsK Try.prog 2 1 len h (fillL (plA 1) (repL (LV.cells (.int .i64 0)) len) parts) := buildSlice_eq ty_u64 ty_s2 ty_z2 rfl rfl (by decide) len hb parts h
theorem ty_L64 (o : Option (Nat × Nat)) (sz : Nat) (xs : List LV) : lenL Try.prog 64 (mkS o sz xs) = some (.int .i64 xs.length) := len_mk ty_u64 o sz xs
theorem ty_I64 (o : Option (Nat × Nat)) (xs : List LV) (k : IntKind) (n : Int) : indexAddrL Try.prog 64 (mkS o 1 xs) (.int k n) = iaS xs n := ia_mk ty_u64 ty_s2 o xs k n
theorem ty_Q64 (o : Option (Nat × Nat)) (xs : List LV) (lo hi : Option LV) (h : H) : sliceL Try.prog 64 (mkS o 1 xs) lo hi h = slM o 1 xs h lo (boundL hi xs.length xs.length) := slice_mk ty_u64 ty_s2 o xs lo hi h
theorem ty_E64 (o : Option (Nat × Nat)) (sz : Nat) (xs : List LV) : binL Try.prog .eql 64 (mkS o sz xs) .nils = some (.bool (decide (o = none ∧ xs = []))) := bin_eql_mk ty_u64 o sz xs
theorem ty_D64 (o : Option (Nat × Nat)) (sz : Nat) (xs : List LV) : binL Try.prog .neq 64 (mkS o sz xs) .nils = some (.bool (!decide (o = none ∧ xs = []))) := bin_neq_mk ty_u64 o sz xs
theorem ty_c2 (n : Nat) (cs : List LV) : chunkL Try.prog 2 1 (n + 1) cs = chK1 cs (chunkL Try.prog 2 1 n (cs.drop 1)) := chunk_s ty_a2 n cs
theorem ty_e64_0 : binL Try.prog .eql 64 .nils .nils = some (.bool true) := bin_eql_of rfl (by rw [eqL_10000]; simp only [eqL, ty_u64]) (by simp)
theorem ty_e64_1 (r hi sz : Nat) (xs : List LV) : binL Try.prog .eql 64 .nils (.sl r hi sz xs) = some (.bool false) := bin_eql_of rfl (by rw [eqL_10000]; simp only [eqL, ty_u64]) (by simp)
theorem ty_e64_2 (r hi sz : Nat) (xs : List LV) : binL Try.prog .eql 64 (.sl r hi sz xs) .nils = some (.bool false) := bin_eql_of rfl (by rw [eqL_10000]; simp only [eqL, ty_u64]) (by simp)
theorem ty_d64_0 : binL Try.prog .neq 64 .nils .nils = some (.bool !true) := bin_neq_of rfl (by rw [eqL_10000]; simp only [eqL, ty_u64]) (by simp)
theorem ty_d64_1 (r hi sz : Nat) (xs : List LV) : binL Try.prog .neq 64 .nils (.sl r hi sz xs) = some (.bool !false) := bin_neq_of rfl (by rw [eqL_10000]; simp only [eqL, ty_u64]) (by simp)
theorem ty_d64_2 (r hi sz : Nat) (xs : List LV) : binL Try.prog .neq 64 (.sl r hi sz xs) .nils = some (.bool !false) := bin_neq_of rfl (by rw [eqL_10000]; simp only [eqL, ty_u64]) (by simp)
theorem ty_p67 (cs : List LV) (off : Nat) : partL Try.prog 67 cs off = partA 5 cs off := part_a ty_a67 ty_s67 cs off
theorem ty_v67 (v : LV) (off : Nat) : subL Try.prog 67 v off = sub2 (partA 5 v.cells off) := sub_a ty_a67 ty_s67 v off
theorem ty_f67_0 (b off : Nat) : fieldAddrL Try.prog 67 (.ptr b off) 0 = some (.ptr b (off + 0)) := by kernel_rfl
theorem ty_g67_0 (v : LV) : fieldAddrL Try.prog 67 (.cptr v) 0 = subL Try.prog 3 v 0 := by kernel_rfl
theorem ty_f67_1 (b off : Nat) : fieldAddrL Try.prog 67 (.ptr b off) 1 = some (.ptr b (off + 1)) := by kernel_rfl
theorem ty_g67_1 (v : LV) : fieldAddrL Try.prog 67 (.cptr v) 1 = subL Try.prog 9 v 1 := by kernel_rfl
theorem ty_f67_2 (b off : Nat) : fieldAddrL Try.prog 67 (.ptr b off) 2 = some (.ptr b (off + 2)) := by kernel_rfl
theorem ty_g67_2 (v : LV) : fieldAddrL Try.prog 67 (.cptr v) 2 = subL Try.prog 2 v 2 := by kernel_rfl
theorem ty_f67_3 (b off : Nat) : fieldAddrL Try.prog 67 (.ptr b off) 3 = some (.ptr b (off + 3)) := by kernel_rfl
theorem ty_g67_3 (v : LV) : fieldAddrL Try.prog 67 (.cptr v) 3 = subL Try.prog 4 v 3 := by kernel_rfl
theorem ty_f67_4 (b off : Nat) : fieldAddrL Try.prog 67 (.ptr b off) 4 = some (.ptr b (off + 4)) := by kernel_rfl
theorem ty_g67_4 (v : LV) : fieldAddrL Try.prog 67 (.cptr v) 4 = subL Try.prog 64 v 4 := by kernel_rfl
theorem ty_m67 (parts : List (Nat × LV)) : buildL Try.prog 67 parts = aggK (fillL (plS [(0, 1), (1, 1), (2, 1), (3, 1), (4, 1)]) (LV.cells (.agg [(.int .i64 0), (.str { data := #[] }), (.int .i64 0), (.bool false), .nils])) parts) := build_s ty_z67 rfl ty_u67 (by kernel_rfl) parts
theorem ty_p70 (cs : List LV) (off : Nat) : partL Try.prog 70 cs off = cs[off]? := part_s ty_a70 cs off
theorem ty_v70 (v : LV) (off : Nat) : subL Try.prog 70 v off = sub1 v.cells[off]? := sub_s ty_a70 v off
theorem ty_p76 (cs : List LV) (off : Nat) : partL Try.prog 76 cs off = partA 2 cs off := part_a ty_a76 ty_s76 cs off
theorem ty_v76 (v : LV) (off : Nat) : subL Try.prog 76 v off = sub2 (partA 2 v.cells off) := sub_a ty_a76 ty_s76 v off
theorem ty_f76_0 (b off : Nat) : fieldAddrL Try.prog 76 (.ptr b off) 0 = some (.ptr b (off + 0)) := by kernel_rfl
theorem ty_g76_0 (v : LV) : fieldAddrL Try.prog 76 (.cptr v) 0 = subL Try.prog 22 v 0 := by kernel_rfl
theorem ty_f76_1 (b off : Nat) : fieldAddrL Try.prog 76 (.ptr b off) 1 = some (.ptr b (off + 1)) := by kernel_rfl
theorem ty_g76_1 (v : LV) : fieldAddrL Try.prog 76 (.cptr v) 1 = subL Try.prog 4 v 1 := by kernel_rfl
theorem ty_m76 (parts : List (Nat × LV)) : buildL Try.prog 76 parts = aggK (fillL (plS [(0, 1), (1, 1)]) (LV.cells (.agg [.nils, (.bool false)])) parts) := build_s ty_z76 rfl ty_u76 (by kernel_rfl) parts
theorem ty_p80 (cs : List LV) (off : Nat) : partL Try.prog 80 cs off = cs[off]? := part_s ty_a80 cs off
theorem ty_v80 (v : LV) (off : Nat) : subL Try.prog 80 v off = sub1 v.cells[off]? := sub_s ty_a80 v off
theorem ty_e80_0 : binL Try.prog .eql 80 .nilp .nilp = some (.bool true) := bin_eql_of rfl (by rw [eqL_10000]; simp only [eqL, ty_u80]) (by simp)
theorem ty_e80_1 (b off : Nat) : binL Try.prog .eql 80 .nilp (.ptr b off) = some (.bool false) := bin_eql_of rfl (by rw [eqL_10000]; simp only [eqL, ty_u80]) (by simp)
theorem ty_e80_2 (b off : Nat) : binL Try.prog .eql 80 (.ptr b off) .nilp = some (.bool false) := bin_eql_of rfl (by rw [eqL_10000]; simp only [eqL, ty_u80]) (by simp)
theorem ty_e80_3 (v : LV) : binL Try.prog .eql 80 (.cptr v) .nilp = some (.bool false) := bin_eql_of rfl (by rw [eqL_10000]; simp only [eqL, ty_u80]) (by simp)
theorem ty_e80_4 (v : LV) : binL Try.prog .eql 80 .nilp (.cptr v) = some (.bool false) := bin_eql_of rfl (by rw [eqL_10000]; simp only [eqL, ty_u80]) (by simp)
theorem ty_d80_0 : binL Try.prog .neq 80 .nilp .nilp = some (.bool !true) := bin_neq_of rfl (by rw [eqL_10000]; simp only [eqL, ty_u80]) (by simp)
theorem ty_d80_1 (b off : Nat) : binL Try.prog .neq 80 .nilp (.ptr b off) = some (.bool !false) := bin_neq_of rfl (by rw [eqL_10000]; simp only [eqL, ty_u80]) (by simp)
theorem ty_d80_2 (b off : Nat) : binL Try.prog .neq 80 (.ptr b off) .nilp = some (.bool !false) := bin_neq_of rfl (by rw [eqL_10000]; simp only [eqL, ty_u80]) (by simp)
theorem ty_d80_3 (v : LV) : binL Try.prog .neq 80 (.cptr v) .nilp = some (.bool !false) := bin_neq_of rfl (by rw [eqL_10000]; simp only [eqL, ty_u80]) (by simp)
theorem ty_d80_4 (v : LV) : binL Try.prog .neq 80 .nilp (.cptr v) = some (.bool !false) := bin_neq_of rfl (by rw [eqL_10000]; simp only [eqL, ty_u80]) (by simp)
theorem ty_p96 (cs : List LV) (off : Nat) : partL Try.prog 96 cs off = partA 25 cs off := part_a ty_a96 ty_s96 cs off
theorem ty_v96 (v : LV) (off : Nat) : subL Try.prog 96 v off = sub2 (partA 25 v.cells off) := sub_a ty_a96 ty_s96 v off
theorem ty_f96_0 (b off : Nat) : fieldAddrL Try.prog 96 (.ptr b off) 0 = some (.ptr b (off + 0)) := by kernel_rfl
theorem ty_g96_0 (v : LV) : fieldAddrL Try.prog 96 (.cptr v) 0 = subL Try.prog 52 v 0 := by kernel_rfl
theorem ty_f96_1 (b off : Nat) : fieldAddrL Try.prog 96 (.ptr b off) 1 = some (.ptr b (off + 22)) := by kernel_rfl
theorem ty_g96_1 (v : LV) : fieldAddrL Try.prog 96 (.cptr v) 1 = subL Try.prog 4 v 22 := by kernel_rfl
theorem ty_f96_2 (b off : Nat) : fieldAddrL Try.prog 96 (.ptr b off) 2 = some (.ptr b (off + 23)) := by kernel_rfl
theorem ty_g96_2 (v : LV) : fieldAddrL Try.prog 96 (.cptr v) 2 = subL Try.prog 9 v 23 := by kernel_rfl
theorem ty_f96_3 (b off : Nat) : fieldAddrL Try.prog 96 (.ptr b off) 3 = some (.ptr b (off + 24)) := by kernel_rfl
theorem ty_g96_3 (v : LV) : fieldAddrL Try.prog 96 (.cptr v) 3 = subL Try.prog 3 v 24 := by kernel_rfl
theorem ty_m96 (parts : List (Nat × LV)) : buildL Try.prog 96 parts = aggK (fillL (plS [(0, 22), (22, 1), (23, 1), (24, 1)]) (LV.cells (.agg [(.int .i64 0), (.int .i64 0), (.int .i64 0), (.int .i64 0), (.int .i64 0), (.int .i64 0), (.int .i64 0), (.int .i64 0), (.int .i64 0), (.int .i64 0), (.int .i64 0), (.int .i64 0), (.int .i64 0), (.int .i64 0), (.int .i64 0), (.int .i64 0), (.int .i64 0), (.int .i64 0), (.bool false), .nils, .nils, .nils, (.bool false), (.str { data := #[] }), (.int .i64 0)])) parts) := build_s ty_z96 rfl ty_u96 (by kernel_rfl) parts
theorem ty_p100 (cs : List LV) (off : Nat) : partL Try.prog 100 cs off = cs[off]? := part_s ty_a100 cs off
theorem ty_v100 (v : LV) (off : Nat) : subL Try.prog 100 v off = sub1 v.cells[off]? := sub_s ty_a100 v off
theorem ty_i100 (r hi : Nat) (xs : List LV) (k : IntKind) (n : Int) : indexAddrL Try.prog 100 (.sl r hi 2 xs) (.int k n) = iaS xs n := ia_sl ty_u100 ty_s105 r hi xs k n
theorem ty_l100 (r hi sz : Nat) (xs : List LV) : lenL Try.prog 100 (.sl r hi sz xs) = some (.int .i64 xs.length) := len_sl ty_u100 r hi sz xs
theorem ty_n100 : lenL Try.prog 100 .nils = some (.int .i64 0) := len_nils ty_u100
theorem ty_q100 (r p : Nat) (xs : List LV) (lo hi : Option LV) (h : H) : sliceL Try.prog 100 (.sl r p 2 xs) lo hi h = slK r p 2 xs h lo (boundL hi xs.length xs.length) := slice_sl ty_u100 ty_s105 r p xs lo hi h
theorem ty_r100 (lo hi : Option LV) (h : H) : sliceL Try.prog 100 .nils lo hi h = slKn h lo (boundL hi 0 0) := slice_nils ty_u100 ty_s105 lo hi h
theorem ty_w100 (s x : LV) (h : H) : appendL Try.prog 100 100 s x h = appS 2 32 s h (elemsL 2 x) := append_eq ty_u100 (.inr ⟨_, ty_u100⟩) ty_s105 ty_b105 ty_z105 rfl rfl (by decide) (by decide) s x h
theorem ty_k100 (len : Nat) (hb : len * 2 ≤ 2 ^ 24) (parts : List (Nat × LV)) (h : H) : buildSliceL Try.prog 100 len parts h = bsK Try.prog 105 2 len h (fillL (plA 2) (repL (LV.cells (.agg [(.int .i64 0), .nils])) len) parts) := buildSlice_eq ty_u100 ty_s105 ty_z105 rfl rfl (by decide) len hb parts h
theorem ty_L100 (o : Option (Nat × Nat)) (sz : Nat) (xs : List LV) : lenL Try.prog 100 (mkS o sz xs) = some (.int .i64 xs.length) := len_mk ty_u100 o sz xs
theorem ty_I100 (o : Option (Nat × Nat)) (xs : List LV) (k : IntKind) (n : Int) : indexAddrL Try.prog 100 (mkS o 2 xs) (.int k n) = iaS xs n := ia_mk ty_u100 ty_s105 o xs k n
theorem ty_Q100 (o : Option (Nat × Nat)) (xs : List LV) (lo hi : Option LV) (h : H) : sliceL Try.prog 100 (mkS o 2 xs) lo hi h = slM o 2 xs h lo (boundL hi xs.length xs.length) := slice_mk ty_u100 ty_s105 o xs lo hi h
theorem ty_E100 (o : Option (Nat × Nat)) (sz : Nat) (xs : List LV) : binL Try.prog .eql 100 (mkS o sz xs) .nils = some (.bool (decide (o = none ∧ xs = []))) := bin_eql_mk ty_u100 o sz xs
theorem ty_D100 (o : Option (Nat × Nat)) (sz : Nat) (xs : List LV) : binL Try.prog .neq 100 (mkS o sz xs) .nils = some (.bool (!decide (o = none ∧ xs = []))) := bin_neq_mk ty_u100 o sz xs
theorem ty_c105 (n : Nat) (cs : List LV) : chunkL Try.prog 105 2 (n + 1) cs = chK cs 2 (chunkL Try.prog 105 2 n (cs.drop 2)) := chunk_a ty_a105 n cs
theorem ty_e100_0 : binL Try.prog .eql 100 .nils .nils = some (.bool true) := bin_eql_of rfl (by rw [eqL_10000]; simp only [eqL, ty_u100]) (by simp)
theorem ty_e100_1 (r hi sz : Nat) (xs : List LV) : binL Try.prog .eql 100 .nils (.sl r hi sz xs) = some (.bool false) := bin_eql_of rfl (by rw [eqL_10000]; simp only [eqL, ty_u100]) (by simp)
theorem ty_e100_2 (r hi sz : Nat) (xs : List LV) : binL Try.prog .eql 100 (.sl r hi sz xs) .nils = some (.bool false) := bin_eql_of rfl (by rw [eqL_10000]; simp only [eqL, ty_u100]) (by simp)
theorem ty_d100_0 : binL Try.prog .neq 100 .nils .nils = some (.bool !true) := bin_neq_of rfl (by rw [eqL_10000]; simp only [eqL, ty_u100]) (by simp)
theorem ty_d100_1 (r hi sz : Nat) (xs : List LV) : binL Try.prog .neq 100 .nils (.sl r hi sz xs) = some (.bool !false) := bin_neq_of rfl (by rw [eqL_10000]; simp only [eqL, ty_u100]) (by simp)
theorem ty_d100_2 (r hi sz : Nat) (xs : List LV) : binL Try.prog .neq 100 (.sl r hi sz xs) .nils = some (.bool !false) := bin_neq_of rfl (by rw [eqL_10000]; simp only [eqL, ty_u100]) (by simp)
theorem ty_p102 (cs : List LV) (off : Nat) : partL Try.prog 102 cs off = partA 4 cs off := part_a ty_a102 ty_s102 cs off
theorem ty_v102 (v : LV) (off : Nat) : subL Try.prog 102 v off = sub2 (partA 4 v.cells off) := sub_a ty_a102 ty_s102 v off
theorem ty_f102_0 (b off : Nat) : fieldAddrL Try.prog 102 (.ptr b off) 0 = some (.ptr b (off + 0)) := by kernel_rfl
theorem ty_g102_0 (v : LV) : fieldAddrL Try.prog 102 (.cptr v) 0 = subL Try.prog 100 v 0 := by kernel_rfl
theorem ty_f102_1 (b off : Nat) : fieldAddrL Try.prog 102 (.ptr b off) 1 = some (.ptr b (off + 1)) := by kernel_rfl
theorem ty_g102_1 (v : LV) : fieldAddrL Try.prog 102 (.cptr v) 1 = subL Try.prog 3 v 1 := by kernel_rfl
theorem ty_f102_2 (b off : Nat) : fieldAddrL Try.prog 102 (.ptr b off) 2 = some (.ptr b (off + 2)) := by kernel_rfl
theorem ty_g102_2 (v : LV) : fieldAddrL Try.prog 102 (.cptr v) 2 = subL Try.prog 3 v 2 := by kernel_rfl
theorem ty_f102_3 (b off : Nat) : fieldAddrL Try.prog 102 (.ptr b off) 3 = some (.ptr b (off + 3)) := by kernel_rfl
theorem ty_g102_3 (v : LV) : fieldAddrL Try.prog 102 (.cptr v) 3 = subL Try.prog 3 v 3 := by kernel_rfl
theorem ty_m102 (parts : List (Nat × LV)) : buildL Try.prog 102 parts = aggK (fillL (plS [(0, 1), (1, 1), (2, 1), (3, 1)]) (LV.cells (.agg [.nils, (.int .i64 0), (.int .i64 0), (.int .i64 0)])) parts) := build_s ty_z102 rfl ty_u102 (by kernel_rfl) parts
theorem ty_p103 (cs : List LV) (off : Nat) : partL Try.prog 103 cs off = cs[off]? := part_s ty_a103 cs off
theorem ty_v103 (v : LV) (off : Nat) : subL Try.prog 103 v off = sub1 v.cells[off]? := sub_s ty_a103 v off
theorem ty_i103 (r hi : Nat) (xs : List LV) (k : IntKind) (n : Int) : indexAddrL Try.prog 103 (.sl r hi 5 xs) (.int k n) = iaS xs n := ia_sl ty_u103 ty_s30 r hi xs k n
theorem ty_l103 (r hi sz : Nat) (xs : List LV) : lenL Try.prog 103 (.sl r hi sz xs) = some (.int .i64 xs.length) := len_sl ty_u103 r hi sz xs
theorem ty_n103 : lenL Try.prog 103 .nils = some (.int .i64 0) := len_nils ty_u103
theorem ty_q103 (r p : Nat) (xs : List LV) (lo hi : Option LV) (h : H) : sliceL Try.prog 103 (.sl r p 5 xs) lo hi h = slK r p 5 xs h lo (boundL hi xs.length xs.length) := slice_sl ty_u103 ty_s30 r p xs lo hi h
theorem ty_r103 (lo hi : Option LV) (h : H) : sliceL Try.prog 103 .nils lo hi h = slKn h lo (boundL hi 0 0) := slice_nils ty_u103 ty_s30 lo hi h
theorem ty_w103 (s x : LV) (h : H) : appendL Try.prog 103 103 s x h = appS 5 40 s h (elemsL 5 x) := append_eq ty_u103 (.inr ⟨_, ty_u103⟩) ty_s30 ty_b30 ty_z30 rfl rfl (by decide) (by decide) s x h
theorem ty_k103 (len : Nat) (hb : len * 5 ≤ 2 ^ 24) (parts : List (Nat × LV)) (h : H) : buildSliceL Try.prog 103 len parts h = bsK Try.prog 30 5 len h (fillL (plA 5) (repL (LV.cells (.agg [(.int .i64 0), (.int .i64 0), (.int .i64 0), (.int .i64 0), (.int .i64 0)])) len) parts) := buildSlice_eq ty_u103 ty_s30 ty_z30 rfl rfl (by decide) len hb parts h
theorem ty_L103 (o : Option (Nat × Nat)) (sz : Nat) (xs : List LV) : lenL Try.prog 103 (mkS o sz xs) = some (.int .i64 xs.length) := len_mk ty_u103 o sz xs
theorem ty_I103 (o : Option (Nat × Nat)) (xs : List LV) (k : IntKind) (n : Int) : indexAddrL Try.prog 103 (mkS o 5 xs) (.int k n) = iaS xs n := ia_mk ty_u103 ty_s30 o xs k n
theorem ty_Q103 (o : Option (Nat × Nat)) (xs : List LV) (lo hi : Option LV) (h : H) : sliceL Try.prog 103 (mkS o 5 xs) lo hi h = slM o 5 xs h lo (boundL hi xs.length xs.length) := slice_mk ty_u103 ty_s30 o xs lo hi h
theorem ty_E103 (o : Option (Nat × Nat)) (sz : Nat) (xs : List LV) : binL Try.prog .eql 103 (mkS o sz xs) .nils = some (.bool (decide (o = none ∧ xs = []))) := bin_eql_mk ty_u103 o sz xs
theorem ty_D103 (o : Option (Nat × Nat)) (sz : Nat) (xs : List LV) : binL Try.prog .neq 103 (mkS o sz xs) .nils = some (.bool (!decide (o = none ∧ xs = []))) := bin_neq_mk ty_u103 o sz xs
theorem ty_c30 (n : Nat) (cs : List LV) : chunkL Try.prog 30 5 (n + 1) cs = chK cs 5 (chunkL Try.prog 30 5 n (cs.drop 5)) := chunk_a ty_a30 n cs
theorem ty_e103_0 : binL Try.prog .eql 103 .nils .nils = some (.bool true) := bin_eql_of rfl (by rw [eqL_10000]; simp only [eqL, ty_u103]) (by simp)
theorem ty_e103_1 (r hi sz : Nat) (xs : List LV) : binL Try.prog .eql 103 .nils (.sl r hi sz xs) = some (.bool false) := bin_eql_of rfl (by rw [eqL_10000]; simp only [eqL, ty_u103]) (by simp)
theorem ty_e103_2 (r hi sz : Nat) (xs : List LV) : binL Try.prog .eql 103 (.sl r hi sz xs) .nils = some (.bool false) := bin_eql_of rfl (by rw [eqL_10000]; simp only [eqL, ty_u103]) (by simp)
theorem ty_d103_0 : binL Try.prog .neq 103 .nils .nils = some (.bool !true) := bin_neq_of rfl (by rw [eqL_10000]; simp only [eqL, ty_u103]) (by simp)
theorem ty_d103_1 (r hi sz : Nat) (xs : List LV) : binL Try.prog .neq 103 .nils (.sl r hi sz xs) = some (.bool !false) := bin_neq_of rfl (by rw [eqL_10000]; simp only [eqL, ty_u103]) (by simp)
theorem ty_d103_2 (r hi sz : Nat) (xs : List LV) : binL Try.prog .neq 103 (.sl r hi sz xs) .nils = some (.bool !false) := bin_neq_of rfl (by rw [eqL_10000]; simp only [eqL, ty_u103]) (by simp)
theorem ty_p105 (cs : List LV) (off : Nat) : partL Try.prog 105 cs off = partA 2 cs off := part_a ty_a105 ty_s105 cs off
theorem ty_v105 (v : LV) (off : Nat) : subL Try.prog 105 v off = sub2 (partA 2 v.cells off) := sub_a ty_a105 ty_s105 v off
theorem ty_f105_0 (b off : Nat) : fieldAddrL Try.prog 105 (.ptr b off) 0 = some (.ptr b (off + 0)) := by kernel_rfl
theorem ty_g105_0 (v : LV) : fieldAddrL Try.prog 105 (.cptr v) 0 = subL Try.prog 28 v 0 := by kernel_rfl
theorem ty_f105_1 (b off : Nat) : fieldAddrL Try.prog 105 (.ptr b off) 1 = some (.ptr b (off + 1)) := by kernel_rfl
theorem ty_g105_1 (v : LV) : fieldAddrL Try.prog 105 (.cptr v) 1 = subL Try.prog 103 v 1 := by kernel_rfl
theorem ty_m105 (parts : List (Nat × LV)) : buildL Try.prog 105 parts = aggK (fillL (plS [(0, 1), (1, 1)]) (LV.cells (.agg [(.int .i64 0), .nils])) parts) := build_s ty_z105 rfl ty_u105 (by kernel_rfl) parts
theorem ty_p108 (cs : List LV) (off : Nat) : partL Try.prog 108 cs off = partA 1 cs off := part_a ty_a108 ty_s108 cs off
theorem ty_v108 (v : LV) (off : Nat) : subL Try.prog 108 v off = sub2 (partA 1 v.cells off) := sub_a ty_a108 ty_s108 v off
theorem ty_f108_0 (b off : Nat) : fieldAddrL Try.prog 108 (.ptr b off) 0 = some (.ptr b (off + 0)) := by kernel_rfl
theorem ty_g108_0 (v : LV) : fieldAddrL Try.prog 108 (.cptr v) 0 = subL Try.prog 26 v 0 := by kernel_rfl
theorem ty_m108 (parts : List (Nat × LV)) : buildL Try.prog 108 parts = aggK (fillL (plS [(0, 1)]) (LV.cells (.agg [.nils])) parts) := build_s ty_z108 rfl ty_u108 (by kernel_rfl) parts
theorem ty_p110 (cs : List LV) (off : Nat) : partL Try.prog 110 cs off = partA 1 cs off := part_a ty_a110 ty_s110 cs off
theorem ty_v110 (v : LV) (off : Nat) : subL Try.prog 110 v off = sub2 (partA 1 v.cells off) := sub_a ty_a110 ty_s110 v off
theorem ty_f110_0 (b off : Nat) : fieldAddrL Try.prog 110 (.ptr b off) 0 = some (.ptr b (off + 0)) := by kernel_rfl
theorem ty_g110_0 (v : LV) : fieldAddrL Try.prog 110 (.cptr v) 0 = subL Try.prog 108 v 0 := by kernel_rfl
theorem ty_m110 (parts : List (Nat × LV)) : buildL Try.prog 110 parts = aggK (fillL (plS [(0, 1)]) (LV.cells (.agg [.nils])) parts) := build_s ty_z110 rfl ty_u110 (by kernel_rfl) parts
theorem ty_p123 (cs : List LV) (off : Nat) : partL Try.prog 123 cs off = cs[off]? := part_s ty_a123 cs off
theorem ty_v123 (v : LV) (off : Nat) : subL Try.prog 123 v off = sub1 v.cells[off]? := sub_s ty_a123 v off
theorem ty_i123 (r hi : Nat) (xs : List LV) (k : IntKind) (n : Int) : indexAddrL Try.prog 123 (.sl r hi 1 xs) (.int k n) = iaS xs n := ia_sl ty_u123 ty_s28 r hi xs k n
theorem ty_l123 (r hi sz : Nat) (xs : List LV) : lenL Try.prog 123 (.sl r hi sz xs) = some (.int .i64 xs.length) := len_sl ty_u123 r hi sz xs
theorem ty_n123 : lenL Try.prog 123 .nils = some (.int .i64 0) := len_nils ty_u123
theorem ty_q123 (r p : Nat) (xs : List LV) (lo hi : Option LV) (h : H) : sliceL Try.prog 123 (.sl r p 1 xs) lo hi h = slK r p 1 xs h lo (boundL hi xs.length xs.length) := slice_sl ty_u123 ty_s28 r p xs lo hi h
theorem ty_r123 (lo hi : Option LV) (h : H) : sliceL Try.prog 123 .nils lo hi h = slKn h lo (boundL hi 0 0) := slice_nils ty_u123 ty_s28 lo hi h
theorem ty_w123 (s x : LV) (h : H) : appendL Try.prog 123 123 s x h = appS 1 8 s h (elemsL 1 x) := append_eq ty_u123 (.inr ⟨_, ty_u123⟩) ty_s28 ty_b28 ty_z28 rfl rfl (by decide) (by decide) s x h
theorem ty_k123 (len : Nat) (hb : len * 1 ≤ 2 ^ 24) (parts : List (Nat × LV)) (h : H) : buildSliceL Try.prog 123 len parts h = bsK Try.prog 28 1 len h (fillL (plA 1) (repL (LV.cells (.int .i64 0)) len) parts) := buildSlice_eq ty_u123 ty_s28 ty_z28 rfl rfl (by decide) len hb parts h
theorem ty_L123 (o : Option (Nat × Nat)) (sz : Nat) (xs : List LV) : lenL Try.prog 123 (mkS o sz xs) = some (.int .i64 xs.length) := len_mk ty_u123 o sz xs
theorem ty_I123 (o : Option (Nat × Nat)) (xs : List LV) (k : IntKind) (n : Int) : indexAddrL Try.prog 123 (mkS o 1 xs) (.int k n) = iaS xs n := ia_mk ty_u123 ty_s28 o xs k n
theorem ty_Q123 (o : Option (Nat × Nat)) (xs : List LV) (lo hi : Option LV) (h : H) : sliceL Try.prog 123 (mkS o 1 xs) lo hi h = slM o 1 xs h lo (boundL hi xs.length xs.length) := slice_mk ty_u123 ty_s28 o xs lo hi h
theorem ty_E123 (o : Option (Nat × Nat)) (sz : Nat) (xs : List LV) : binL Try.prog .eql 123 (mkS o sz xs) .nils = some (.bool (decide (o = none ∧ xs = []))) := bin_eql_mk ty_u123 o sz xs
theorem ty_D123 (o : Option (Nat × Nat)) (sz : Nat) (xs : List LV) : binL Try.prog .neq 123 (mkS o sz xs) .nils = some (.bool (!decide (o = none ∧ xs = []))) := bin_neq_mk ty_u123 o sz xs
theorem ty_c28 (n : Nat) (cs : List LV) : chunkL Try.prog 28 1 (n + 1) cs = chK1 cs (chunkL Try.prog 28 1 n (cs.drop 1)) := chunk_s ty_a28 n cs
theorem ty_e123_0 : binL Try.prog .eql 123 .nils .nils = some (.bool true) := bin_eql_of rfl (by rw [eqL_10000]; simp only [eqL, ty_u123]) (by simp)
theorem ty_e123_1 (r hi sz : Nat) (xs : List LV) : binL Try.prog .eql 123 .nils (.sl r hi sz xs) = some (.bool false) := bin_eql_of rfl (by rw [eqL_10000]; simp only [eqL, ty_u123]) (by simp)
theorem ty_e123_2 (r hi sz : Nat) (xs : List LV) : binL Try.prog .eql 123 (.sl r hi sz xs) .nils = some (.bool false) := bin_eql_of rfl (by rw [eqL_10000]; simp only [eqL, ty_u123]) (by simp)
theorem ty_d123_0 : binL Try.prog .neq 123 .nils .nils = some (.bool !true) := bin_neq_of rfl (by rw [eqL_10000]; simp only [eqL, ty_u123]) (by simp)
theorem ty_d123_1 (r hi sz : Nat) (xs : List LV) : binL Try.prog .neq 123 .nils (.sl r hi sz xs) = some (.bool !false) := bin_neq_of rfl (by rw [eqL_10000]; simp only [eqL, ty_u123]) (by simp)
theorem ty_d123_2 (r hi sz : Nat) (xs : List LV) : binL Try.prog .neq 123 (.sl r hi sz xs) .nils = some (.bool !false) := bin_neq_of rfl (by rw [eqL_10000]; simp only [eqL, ty_u123]) (by simp)
theorem ty_p124 (cs : List LV) (off : Nat) : partL Try.prog 124 cs off = cs[off]? := part_s ty_a124 cs off
theorem ty_v124 (v : LV) (off : Nat) : subL Try.prog 124 v off = sub1 v.cells[off]? := sub_s ty_a124 v off
theorem ty_i124 (r hi : Nat) (xs : List LV) (k : IntKind) (n : Int) : indexAddrL Try.prog 124 (.sl r hi 1 xs) (.int k n) = iaS xs n := ia_sl ty_u124 ty_s3 r hi xs k n
theorem ty_l124 (r hi sz : Nat) (xs : List LV) : lenL Try.prog 124 (.sl r hi sz xs) = some (.int .i64 xs.length) := len_sl ty_u124 r hi sz xs
theorem ty_n124 : lenL Try.prog 124 .nils = some (.int .i64 0) := len_nils ty_u124
theorem ty_q124 (r p : Nat) (xs : List LV) (lo hi : Option LV) (h : H) : sliceL Try.prog 124 (.sl r p 1 xs) lo hi h = slK r p 1 xs h lo (boundL hi xs.length xs.length) := slice_sl ty_u124 ty_s3 r p xs lo hi h
theorem ty_r124 (lo hi : Option LV) (h : H) : sliceL Try.prog 124 .nils lo hi h = slKn h lo (boundL hi 0 0) := slice_nils ty_u124 ty_s3 lo hi h
theorem ty_w124 (s x : LV) (h : H) : appendL Try.prog 124 124 s x h = appS 1 8 s h (elemsL 1 x) := append_eq ty_u124 (.inr ⟨_, ty_u124⟩) ty_s3 ty_b3 ty_z3 rfl rfl (by decide) (by decide) s x h
theorem ty_k124 (len : Nat) (hb : len * 1 ≤ 2 ^ 24) (parts : List (Nat × LV)) (h : H) : buildSliceL Try.prog 124 len parts h = bsK Try.prog 3 1 len h (fillL (plA 1) (repL (LV.cells (.int .i64 0)) len) parts) := buildSlice_eq ty_u124 ty_s3 ty_z3 rfl rfl (by decide) len hb parts h
theorem ty_L124 (o : Option (Nat × Nat)) (sz : Nat) (xs : List LV) : lenL Try.prog 124 (mkS o sz xs) = some (.int .i64 xs.length) := len_mk ty_u124 o sz xs
theorem ty_I124 (o : Option (Nat × Nat)) (xs : List LV) (k : IntKind) (n : Int) : indexAddrL Try.prog 124 (mkS o 1 xs) (.int k n) = iaS xs n := ia_mk ty_u124 ty_s3 o xs k n
theorem ty_Q124 (o : Option (Nat × Nat)) (xs : List LV) (lo hi : Option LV) (h : H) : sliceL Try.prog 124 (mkS o 1 xs) lo hi h = slM o 1 xs h lo (boundL hi xs.length xs.length) := slice_mk ty_u124 ty_s3 o xs lo hi h
theorem ty_E124 (o : Option (Nat × Nat)) (sz : Nat) (xs : List LV) : binL Try.prog .eql 124 (mkS o sz xs) .nils = some (.bool (decide (o = none ∧ xs = []))) := bin_eql_mk ty_u124 o sz xs
theorem ty_D124 (o : Option (Nat × Nat)) (sz : Nat) (xs : List LV) : binL Try.prog .neq 124 (mkS o sz xs) .nils = some (.bool (!decide (o = none ∧ xs = []))) := bin_neq_mk ty_u124 o sz xs
theorem ty_c3 (n : Nat) (cs : List LV) : chunkL Try.prog 3 1 (n + 1) cs = chK1 cs (chunkL Try.prog 3 1 n (cs.drop 1)) := chunk_s ty_a3 n cs
theorem ty_e124_0 : binL Try.prog .eql 124 .nils .nils = some (.bool true) := bin_eql_of rfl (by rw [eqL_10000]; simp only [eqL, ty_u124]) (by simp)
theorem ty_e124_1 (r hi sz : Nat) (xs : List LV) : binL Try.prog .eql 124 .nils (.sl r hi sz xs) = some (.bool false) := bin_eql_of rfl (by rw [eqL_10000]; simp only [eqL, ty_u124]) (by simp)
theorem ty_e124_2 (r hi sz : Nat) (xs : List LV) : binL Try.prog .eql 124 (.sl r hi sz xs) .nils = some (.bool false) := bin_eql_of rfl (by rw [eqL_10000]; simp only [eqL, ty_u124]) (by simp)
theorem ty_d124_0 : binL Try.prog .neq 124 .nils .nils = some (.bool !true) := bin_neq_of rfl (by rw [eqL_10000]; simp only [eqL, ty_u124]) (by simp)
theorem ty_d124_1 (r hi sz : Nat) (xs : List LV) : binL Try.prog .neq 124 .nils (.sl r hi sz xs) = some (.bool !false) := bin_neq_of rfl (by rw [eqL_10000]; simp only [eqL, ty_u124]) (by simp)
theorem ty_d124_2 (r hi sz : Nat) (xs : List LV) : binL Try.prog .neq 124 (.sl r hi sz xs) .nils = some (.bool !false) := bin_neq_of rfl (by rw [eqL_10000]; simp only [eqL, ty_u124]) (by simp)
theorem ty_p126 (cs : List LV) (off : Nat) : partL Try.prog 126 cs off = partA 2 cs off := part_a ty_a126 ty_s126 cs off
theorem ty_v126 (v : LV) (off : Nat) : subL Try.prog 126 v off = sub2 (partA 2 v.cells off) := sub_a ty_a126 ty_s126 v off
theorem ty_f126_0 (b off : Nat) : fieldAddrL Try.prog 126 (.ptr b off) 0 = some (.ptr b (off + 0)) := by kernel_rfl
theorem ty_g126_0 (v : LV) : fieldAddrL Try.prog 126 (.cptr v) 0 = subL Try.prog 123 v 0 := by kernel_rfl
theorem ty_f126_1 (b off : Nat) : fieldAddrL Try.prog 126 (.ptr b off) 1 = some (.ptr b (off + 1)) := by kernel_rfl
theorem ty_g126_1 (v : LV) : fieldAddrL Try.prog 126 (.cptr v) 1 = subL Try.prog 124 v 1 := by kernel_rfl
theorem ty_m126 (parts : List (Nat × LV)) : buildL Try.prog 126 parts = aggK (fillL (plS [(0, 1), (1, 1)]) (LV.cells (.agg [.nils, .nils])) parts) := build_s ty_z126 rfl ty_u126 (by kernel_rfl) parts
theorem ty_p131 (cs : List LV) (off : Nat) : partL Try.prog 131 cs off = partA 3 cs off := part_a ty_a131 ty_s131 cs off
theorem ty_v131 (v : LV) (off : Nat) : subL Try.prog 131 v off = sub2 (partA 3 v.cells off) := sub_a ty_a131 ty_s131 v off
theorem ty_f131_0 (b off : Nat) : fieldAddrL Try.prog 131 (.ptr b off) 0 = some (.ptr b (off + 0)) := by kernel_rfl
theorem ty_g131_0 (v : LV) : fieldAddrL Try.prog 131 (.cptr v) 0 = subL Try.prog 3 v 0 := by kernel_rfl
theorem ty_f131_1 (b off : Nat) : fieldAddrL Try.prog 131 (.ptr b off) 1 = some (.ptr b (off + 1)) := by kernel_rfl
theorem ty_g131_1 (v : LV) : fieldAddrL Try.prog 131 (.cptr v) 1 = subL Try.prog 28 v 1 := by kernel_rfl
theorem ty_f131_2 (b off : Nat) : fieldAddrL Try.prog 131 (.ptr b off) 2 = some (.ptr b (off + 2)) := by kernel_rfl
theorem ty_g131_2 (v : LV) : fieldAddrL Try.prog 131 (.cptr v) 2 = subL Try.prog 3 v 2 := by kernel_rfl
theorem ty_m131 (parts : List (Nat × LV)) : buildL Try.prog 131 parts = aggK (fillL (plS [(0, 1), (1, 1), (2, 1)]) (LV.cells (.agg [(.int .i64 0), (.int .i64 0), (.int .i64 0)])) parts) := build_s ty_z131 rfl ty_u131 (by kernel_rfl) parts
theorem ty_y131 (a0 b0 : Int) (a1 b1 : Int) (a2 b2 : Int) : eqTopL Try.prog 131 (.agg [.int .i64 a0, .int .i64 a1, .int .i64 a2]) (.agg [.int .i64 b0, .int .i64 b1, .int .i64 b2]) = eqSeq [some (a0 == b0), some (a1 == b1), some (a2 == b2)] := by kernel_rfl
theorem ty_p132 (cs : List LV) (off : Nat) : partL Try.prog 132 cs off = partA 3 cs off := part_a ty_a132 ty_s132 cs off
theorem ty_v132 (v : LV) (off : Nat) : subL Try.prog 132 v off = sub2 (partA 3 v.cells off) := sub_a ty_a132 ty_s132 v off
theorem ty_i132 (b off : Nat) (k : IntKind) (n : Int) : indexAddrL Try.prog 132 (.ptr b off) (.int k n) = if 0 ≤ n ∧ n < (3 : Int) then some (.ptr b (off + n.toNat * 1)) else none := ia_ap ty_u132 ty_s2 b off k n
theorem ty_j132 (v : LV) (k : IntKind) (n : Int) : indexAddrL Try.prog 132 (.cptr v) (.int k n) = if 0 ≤ n ∧ n < (3 : Int) then subL Try.prog 2 v (n.toNat * 1) else none := ia_ac ty_u132 ty_s2 v k n
theorem ty_x132 (cs : List LV) (k : IntKind) (n : Int) : indexL Try.prog 132 (.agg cs) (.int k n) = if 0 ≤ n ∧ n < (3 : Int) then partL Try.prog 2 cs (n.toNat * 1) else none := ix_a ty_u132 ty_s2 cs k n
theorem ty_l132 (v : LV) : lenL Try.prog 132 v = some (.int .i64 (3 : Int)) := len_arr ty_u132 v
theorem ty_m132 (parts : List (Nat × LV)) : buildL Try.prog 132 parts = aggK (fillL (plA 1) (LV.cells (.agg [(.int .i64 0), (.int .i64 0), (.int .i64 0)])) parts) := build_a ty_z132 rfl ty_u132 ty_s2 parts
theorem ty_q132 (b off : Nat) (lo hi : Option LV) (h : H) : sliceL Try.prog 132 (.ptr b off) lo hi h = slA Try.prog 3 1 b off 2 lo hi h (h.get b) := slice_arr ty_u132 ty_s2 b off lo hi h
theorem ty_y132 (a0 b0 : Int) (a1 b1 : Int) (a2 b2 : Int) : eqTopL Try.prog 132 (.agg [.int .i64 a0, .int .i64 a1, .int .i64 a2]) (.agg [.int .i64 b0, .int .i64 b1, .int .i64 b2]) = eqSeq [some (a0 == b0), some (a1 == b1), some (a2 == b2)] := by kernel_rfl
theorem ty_p137 (cs : List LV) (off : Nat) : partL Try.prog 137 cs off = partA 3 cs off := part_a ty_a137 ty_s137 cs off
theorem ty_v137 (v : LV) (off : Nat) : subL Try.prog 137 v off = sub2 (partA 3 v.cells off) := sub_a ty_a137 ty_s137 v off
theorem ty_f137_0 (b off : Nat) : fieldAddrL Try.prog 137 (.ptr b off) 0 = some (.ptr b (off + 0)) := by kernel_rfl
theorem ty_g137_0 (v : LV) : fieldAddrL Try.prog 137 (.cptr v) 0 = subL Try.prog 26 v 0 := by kernel_rfl
theorem ty_f137_1 (b off : Nat) : fieldAddrL Try.prog 137 (.ptr b off) 1 = some (.ptr b (off + 1)) := by kernel_rfl
theorem ty_g137_1 (v : LV) : fieldAddrL Try.prog 137 (.cptr v) 1 = subL Try.prog 3 v 1 := by kernel_rfl
theorem ty_f137_2 (b off : Nat) : fieldAddrL Try.prog 137 (.ptr b off) 2 = some (.ptr b (off + 2)) := by kernel_rfl
theorem ty_g137_2 (v : LV) : fieldAddrL Try.prog 137 (.cptr v) 2 = subL Try.prog 4 v 2 := by kernel_rfl
theorem ty_m137 (parts : List (Nat × LV)) : buildL Try.prog 137 parts = aggK (fillL (plS [(0, 1), (1, 1), (2, 1)]) (LV.cells (.agg [.nils, (.int .i64 0), (.bool false)])) parts) := build_s ty_z137 rfl ty_u137 (by kernel_rfl) parts
theorem ty_p138 (cs : List LV) (off : Nat) : partL Try.prog 138 cs off = cs[off]? := part_s ty_a138 cs off
theorem ty_v138 (v : LV) (off : Nat) : subL Try.prog 138 v off = sub1 v.cells[off]? := sub_s ty_a138 v off
theorem ty_i138 (r hi : Nat) (xs : List LV) (k : IntKind) (n : Int) : indexAddrL Try.prog 138 (.sl r hi 1 xs) (.int k n) = iaS xs n := ia_sl ty_u138 ty_s4 r hi xs k n
theorem ty_l138 (r hi sz : Nat) (xs : List LV) : lenL Try.prog 138 (.sl r hi sz xs) = some (.int .i64 xs.length) := len_sl ty_u138 r hi sz xs
theorem ty_n138 : lenL Try.prog 138 .nils = some (.int .i64 0) := len_nils ty_u138
theorem ty_q138 (r p : Nat) (xs : List LV) (lo hi : Option LV) (h : H) : sliceL Try.prog 138 (.sl r p 1 xs) lo hi h = slK r p 1 xs h lo (boundL hi xs.length xs.length) := slice_sl ty_u138 ty_s4 r p xs lo hi h
theorem ty_r138 (lo hi : Option LV) (h : H) : sliceL Try.prog 138 .nils lo hi h = slKn h lo (boundL hi 0 0) := slice_nils ty_u138 ty_s4 lo hi h
theorem ty_w138 (s x : LV) (h : H) : appendL Try.prog 138 138 s x h = appS 1 1 s h (elemsL 1 x) := append_eq ty_u138 (.inr ⟨_, ty_u138⟩) ty_s4 ty_b4 ty_z4 rfl rfl (by decide) (by decide) s x h
theorem ty_k138 (len : Nat) (hb : len * 1 ≤ 2 ^ 24) (parts : List (Nat × LV)) (h : H) : buildSliceL Try.prog 138 len parts h = bsK Try.prog 4 1 len h (fillL (plA 1) (repL (LV.cells (.bool false)) len) parts) := buildSlice_eq ty_u138 ty_s4 ty_z4 rfl rfl (by decide) len hb parts h
theorem ty_L138 (o : Option (Nat × Nat)) (sz : Nat) (xs : List LV) : lenL Try.prog 138 (mkS o sz xs) = some (.int .i64 xs.length) := len_mk ty_u138 o sz xs
theorem ty_I138 (o : Option (Nat × Nat)) (xs : List LV) (k : IntKind) (n : Int) : indexAddrL Try.prog 138 (mkS o 1 xs) (.int k n) = iaS xs n := ia_mk ty_u138 ty_s4 o xs k n
theorem ty_Q138 (o : Option (Nat × Nat)) (xs : List LV) (lo hi : Option LV) (h : H) : sliceL Try.prog 138 (mkS o 1 xs) lo hi h = slM o 1 xs h lo (boundL hi xs.length xs.length) := slice_mk ty_u138 ty_s4 o xs lo hi h
theorem ty_E138 (o : Option (Nat × Nat)) (sz : Nat) (xs : List LV) : binL Try.prog .eql 138 (mkS o sz xs) .nils = some (.bool (decide (o = none ∧ xs = []))) := bin_eql_mk ty_u138 o sz xs
theorem ty_D138 (o : Option (Nat × Nat)) (sz : Nat) (xs : List LV) : binL Try.prog .neq 138 (mkS o sz xs) .nils = some (.bool (!decide (o = none ∧ xs = []))) := bin_neq_mk ty_u138 o sz xs
theorem ty_c4 (n : Nat) (cs : List LV) : chunkL Try.prog 4 1 (n + 1) cs = chK1 cs (chunkL Try.prog 4 1 n (cs.drop 1)) := chunk_s ty_a4 n cs
theorem ty_e138_0 : binL Try.prog .eql 138 .nils .nils = some (.bool true) := bin_eql_of rfl (by rw [eqL_10000]; simp only [eqL, ty_u138]) (by simp)
theorem ty_e138_1 (r hi sz : Nat) (xs : List LV) : binL Try.prog .eql 138 .nils (.sl r hi sz xs) = some (.bool false) := bin_eql_of rfl (by rw [eqL_10000]; simp only [eqL, ty_u138]) (by simp)
theorem ty_e138_2 (r hi sz : Nat) (xs : List LV) : binL Try.prog .eql 138 (.sl r hi sz xs) .nils = some (.bool false) := bin_eql_of rfl (by rw [eqL_10000]; simp only [eqL, ty_u138]) (by simp)
theorem ty_d138_0 : binL Try.prog .neq 138 .nils .nils = some (.bool !true) := bin_neq_of rfl (by rw [eqL_10000]; simp only [eqL, ty_u138]) (by simp)
theorem ty_d138_1 (r hi sz : Nat) (xs : List LV) : binL Try.prog .neq 138 .nils (.sl r hi sz xs) = some (.bool !false) := bin_neq_of rfl (by rw [eqL_10000]; simp only [eqL, ty_u138]) (by simp)
theorem ty_d138_2 (r hi sz : Nat) (xs : List LV) : binL Try.prog .neq 138 (.sl r hi sz xs) .nils = some (.bool !false) := bin_neq_of rfl (by rw [eqL_10000]; simp only [eqL, ty_u138]) (by simp)
theorem ty_p141 (cs : List LV) (off : Nat) : partL Try.prog 141 cs off = partA 1 cs off := part_a ty_a141 ty_s141 cs off
theorem ty_v141 (v : LV) (off : Nat) : subL Try.prog 141 v off = sub2 (partA 1 v.cells off) := sub_a ty_a141 ty_s141 v off
theorem ty_f141_0 (b off : Nat) : fieldAddrL Try.prog 141 (.ptr b off) 0 = some (.ptr b (off + 0)) := by kernel_rfl
theorem ty_g141_0 (v : LV) : fieldAddrL Try.prog 141 (.cptr v) 0 = subL Try.prog 58 v 0 := by kernel_rfl
theorem ty_m141 (parts : List (Nat × LV)) : buildL Try.prog 141 parts = aggK (fillL (plS [(0, 1)]) (LV.cells (.agg [.nilp])) parts) := build_s ty_z141 rfl ty_u141 (by kernel_rfl) parts
theorem ty_p146 (cs : List LV) (off : Nat) : partL Try.prog 146 cs off = partA 1 cs off := part_a ty_a146 ty_s146 cs off
theorem ty_v146 (v : LV) (off : Nat) : subL Try.prog 146 v off = sub2 (partA 1 v.cells off) := sub_a ty_a146 ty_s146 v off
theorem ty_f146_0 (b off : Nat) : fieldAddrL Try.prog 146 (.ptr b off) 0 = some (.ptr b (off + 0)) := by kernel_rfl
theorem ty_g146_0 (v : LV) : fieldAddrL Try.prog 146 (.cptr v) 0 = subL Try.prog 60 v 0 := by kernel_rfl
theorem ty_m146 (parts : List (Nat × LV)) : buildL Try.prog 146 parts = aggK (fillL (plS [(0, 1)]) (LV.cells (.agg [.nilp])) parts) := build_s ty_z146 rfl ty_u146 (by kernel_rfl) parts
theorem ty_p157 (cs : List LV) (off : Nat) : partL Try.prog 157 cs off = partA 23 cs off := part_a ty_a157 ty_s157 cs off
theorem ty_v157 (v : LV) (off : Nat) : subL Try.prog 157 v off = sub2 (partA 23 v.cells off) := sub_a ty_a157 ty_s157 v off
theorem ty_f157_0 (b off : Nat) : fieldAddrL Try.prog 157 (.ptr b off) 0 = some (.ptr b (off + 0)) := by kernel_rfl
theorem ty_g157_0 (v : LV) : fieldAddrL Try.prog 157 (.cptr v) 0 = subL Try.prog 58 v 0 := by kernel_rfl
theorem ty_f157_1 (b off : Nat) : fieldAddrL Try.prog 157 (.ptr b off) 1 = some (.ptr b (off + 1)) := by kernel_rfl
theorem ty_g157_1 (v : LV) : fieldAddrL Try.prog 157 (.cptr v) 1 = subL Try.prog 52 v 1 := by kernel_rfl
theorem ty_m157 (parts : List (Nat × LV)) : buildL Try.prog 157 parts = aggK (fillL (plS [(0, 1), (1, 22)]) (LV.cells (.agg [.nilp, (.int .i64 0), (.int .i64 0), (.int .i64 0), (.int .i64 0), (.int .i64 0), (.int .i64 0), (.int .i64 0), (.int .i64 0), (.int .i64 0), (.int .i64 0), (.int .i64 0), (.int .i64 0), (.int .i64 0), (.int .i64 0), (.int .i64 0), (.int .i64 0), (.int .i64 0), (.int .i64 0), (.bool false), .nils, .nils, .nils])) parts) := build_s ty_z157 rfl ty_u157 (by kernel_rfl) parts
theorem ty_p160 (cs : List LV) (off : Nat) : partL Try.prog 160 cs off = partA 2 cs off := part_a ty_a160 ty_s160 cs off
theorem ty_v160 (v : LV) (off : Nat) : subL Try.prog 160 v off = sub2 (partA 2 v.cells off) := sub_a ty_a160 ty_s160 v off
theorem ty_f160_0 (b off : Nat) : fieldAddrL Try.prog 160 (.ptr b off) 0 = some (.ptr b (off + 0)) := by kernel_rfl
theorem ty_g160_0 (v : LV) : fieldAddrL Try.prog 160 (.cptr v) 0 = subL Try.prog 60 v 0 := by kernel_rfl
theorem ty_f160_1 (b off : Nat) : fieldAddrL Try.prog 160 (.ptr b off) 1 = some (.ptr b (off + 1)) := by kernel_rfl
theorem ty_g160_1 (v : LV) : fieldAddrL Try.prog 160 (.cptr v) 1 = subL Try.prog 9 v 1 := by kernel_rfl
theorem ty_m160 (parts : List (Nat × LV)) : buildL Try.prog 160 parts = aggK (fillL (plS [(0, 1), (1, 1)]) (LV.cells (.agg [.nilp, (.str { data := #[] })])) parts) := build_s ty_z160 rfl ty_u160 (by kernel_rfl) parts
theorem ty_p167 (cs : List LV) (off : Nat) : partL Try.prog 167 cs off = cs[off]? := part_s ty_a167 cs off
theorem ty_v167 (v : LV) (off : Nat) : subL Try.prog 167 v off = sub1 v.cells[off]? := sub_s ty_a167 v off
theorem ty_p169 (cs : List LV) (off : Nat) : partL Try.prog 169 cs off = partA 11 cs off := part_a ty_a169 ty_s169 cs off
theorem ty_v169 (v : LV) (off : Nat) : subL Try.prog 169 v off = sub2 (partA 11 v.cells off) := sub_a ty_a169 ty_s169 v off
theorem ty_i169 (b off : Nat) (k : IntKind) (n : Int) : indexAddrL Try.prog 169 (.ptr b off) (.int k n) = if 0 ≤ n ∧ n < (11 : Int) then some (.ptr b (off + n.toNat * 1)) else none := ia_ap ty_u169 ty_s28 b off k n
theorem ty_j169 (v : LV) (k : IntKind) (n : Int) : indexAddrL Try.prog 169 (.cptr v) (.int k n) = if 0 ≤ n ∧ n < (11 : Int) then subL Try.prog 28 v (n.toNat * 1) else none := ia_ac ty_u169 ty_s28 v k n
theorem ty_x169 (cs : List LV) (k : IntKind) (n : Int) : indexL Try.prog 169 (.agg cs) (.int k n) = if 0 ≤ n ∧ n < (11 : Int) then partL Try.prog 28 cs (n.toNat * 1) else none := ix_a ty_u169 ty_s28 cs k n
theorem ty_l169 (v : LV) : lenL Try.prog 169 v = some (.int .i64 (11 : Int)) := len_arr ty_u169 v
theorem ty_m169 (parts : List (Nat × LV)) : buildL Try.prog 169 parts = aggK (fillL (plA 1) (LV.cells (.agg [(.int .i64 0), (.int .i64 0), (.int .i64 0), (.int .i64 0), (.int .i64 0), (.int .i64 0), (.int .i64 0), (.int .i64 0), (.int .i64 0), (.int .i64 0), (.int .i64 0)])) parts) := build_a ty_z169 rfl ty_u169 ty_s28 parts
theorem ty_q169 (b off : Nat) (lo hi : Option LV) (h : H) : sliceL Try.prog 169 (.ptr b off) lo hi h = slA Try.prog 11 1 b off 28 lo hi h (h.get b) := slice_arr ty_u169 ty_s28 b off lo hi h
theorem ty_y169 (a0 b0 : Int) (a1 b1 : Int) (a2 b2 : Int) (a3 b3 : Int) (a4 b4 : Int) (a5 b5 : Int) (a6 b6 : Int) (a7 b7 : Int) (a8 b8 : Int) (a9 b9 : Int) (a10 b10 : Int) : eqTopL Try.prog 169 (.agg [.int .i64 a0, .int .i64 a1, .int .i64 a2, .int .i64 a3, .int .i64 a4, .int .i64 a5, .int .i64 a6, .int .i64 a7, .int .i64 a8, .int .i64 a9, .int .i64 a10]) (.agg [.int .i64 b0, .int .i64 b1, .int .i64 b2, .int .i64 b3, .int .i64 b4, .int .i64 b5, .int .i64 b6, .int .i64 b7, .int .i64 b8, .int .i64 b9, .int .i64 b10]) = eqSeq [some (a0 == b0), some (a1 == b1), some (a2 == b2), some (a3 == b3), some (a4 == b4), some (a5 == b5), some (a6 == b6), some (a7 == b7), some (a8 == b8), some (a9 == b9), some (a10 == b10)] := by kernel_rfl
theorem ty_p170 (cs : List LV) (off : Nat) : partL Try.prog 170 cs off = partA 7 cs off := part_a ty_a170 ty_s170 cs off
theorem ty_v170 (v : LV) (off : Nat) : subL Try.prog 170 v off = sub2 (partA 7 v.cells off) := sub_a ty_a170 ty_s170 v off
theorem ty_i170 (b off : Nat) (k : IntKind) (n : Int) : indexAddrL Try.prog 170 (.ptr b off) (.int k n) = if 0 ≤ n ∧ n < (7 : Int) then some (.ptr b (off + n.toNat * 1)) else none := ia_ap ty_u170 ty_s3 b off k n
theorem ty_j170 (v : LV) (k : IntKind) (n : Int) : indexAddrL Try.prog 170 (.cptr v) (.int k n) = if 0 ≤ n ∧ n < (7 : Int) then subL Try.prog 3 v (n.toNat * 1) else none := ia_ac ty_u170 ty_s3 v k n
theorem ty_x170 (cs : List LV) (k : IntKind) (n : Int) : indexL Try.prog 170 (.agg cs) (.int k n) = if 0 ≤ n ∧ n < (7 : Int) then partL Try.prog 3 cs (n.toNat * 1) else none := ix_a ty_u170 ty_s3 cs k n
theorem ty_l170 (v : LV) : lenL Try.prog 170 v = some (.int .i64 (7 : Int)) := len_arr ty_u170 v
theorem ty_m170 (parts : List (Nat × LV)) : buildL Try.prog 170 parts = aggK (fillL (plA 1) (LV.cells (.agg [(.int .i64 0), (.int .i64 0), (.int .i64 0), (.int .i64 0), (.int .i64 0), (.int .i64 0), (.int .i64 0)])) parts) := build_a ty_z170 rfl ty_u170 ty_s3 parts
theorem ty_q170 (b off : Nat) (lo hi : Option LV) (h : H) : sliceL Try.prog 170 (.ptr b off) lo hi h = slA Try.prog 7 1 b off 3 lo hi h (h.get b) := slice_arr ty_u170 ty_s3 b off lo hi h
theorem ty_y170 (a0 b0 : Int) (a1 b1 : Int) (a2 b2 : Int) (a3 b3 : Int) (a4 b4 : Int) (a5 b5 : Int) (a6 b6 : Int) : eqTopL Try.prog 170 (.agg [.int .i64 a0, .int .i64 a1, .int .i64 a2, .int .i64 a3, .int .i64 a4, .int .i64 a5, .int .i64 a6]) (.agg [.int .i64 b0, .int .i64 b1, .int .i64 b2, .int .i64 b3, .int .i64 b4, .int .i64 b5, .int .i64 b6]) = eqSeq [some (a0 == b0), some (a1 == b1), some (a2 == b2), some (a3 == b3), some (a4 == b4), some (a5 == b5), some (a6 == b6)] := by kernel_rfl
theorem ty_p173 (cs : List LV) (off : Nat) : partL Try.prog 173 cs off = partA 3 cs off := part_a ty_a173 ty_s173 cs off
theorem ty_v173 (v : LV) (off : Nat) : subL Try.prog 173 v off = sub2 (partA 3 v.cells off) := sub_a ty_a173 ty_s173 v off
theorem ty_f173_0 (b off : Nat) : fieldAddrL Try.prog 173 (.ptr b off) 0 = some (.ptr b (off + 0)) := by kernel_rfl
theorem ty_g173_0 (v : LV) : fieldAddrL Try.prog 173 (.cptr v) 0 = subL Try.prog 2 v 0 := by kernel_rfl
theorem ty_f173_1 (b off : Nat) : fieldAddrL Try.prog 173 (.ptr b off) 1 = some (.ptr b (off + 1)) := by kernel_rfl
theorem ty_g173_1 (v : LV) : fieldAddrL Try.prog 173 (.cptr v) 1 = subL Try.prog 3 v 1 := by kernel_rfl
theorem ty_f173_2 (b off : Nat) : fieldAddrL Try.prog 173 (.ptr b off) 2 = some (.ptr b (off + 2)) := by kernel_rfl
theorem ty_g173_2 (v : LV) : fieldAddrL Try.prog 173 (.cptr v) 2 = subL Try.prog 70 v 2 := by kernel_rfl
theorem ty_m173 (parts : List (Nat × LV)) : buildL Try.prog 173 parts = aggK (fillL (plS [(0, 1), (1, 1), (2, 1)]) (LV.cells (.agg [(.int .i64 0), (.int .i64 0), (.int .i64 0)])) parts) := build_s ty_z173 rfl ty_u173 (by kernel_rfl) parts
theorem ty_y173 (a0 b0 : Int) (a1 b1 : Int) (a2 b2 : Int) : eqTopL Try.prog 173 (.agg [.int .i64 a0, .int .i64 a1, .int .i64 a2]) (.agg [.int .i64 b0, .int .i64 b1, .int .i64 b2]) = eqSeq [some (a0 == b0), some (a1 == b1), some (a2 == b2)] := by kernel_rfl
theorem ty_p176 (cs : List LV) (off : Nat) : partL Try.prog 176 cs off = cs[off]? := part_s ty_a176 cs off
theorem ty_v176 (v : LV) (off : Nat) : subL Try.prog 176 v off = sub1 v.cells[off]? := sub_s ty_a176 v off
theorem ty_e176_0 : binL Try.prog .eql 176 .nilp .nilp = some (.bool true) := bin_eql_of rfl (by rw [eqL_10000]; simp only [eqL, ty_u176]) (by simp)
theorem ty_e176_1 (b off : Nat) : binL Try.prog .eql 176 .nilp (.ptr b off) = some (.bool false) := bin_eql_of rfl (by rw [eqL_10000]; simp only [eqL, ty_u176]) (by simp)
theorem ty_e176_2 (b off : Nat) : binL Try.prog .eql 176 (.ptr b off) .nilp = some (.bool false) := bin_eql_of rfl (by rw [eqL_10000]; simp only [eqL, ty_u176]) (by simp)
theorem ty_e176_3 (v : LV) : binL Try.prog .eql 176 (.cptr v) .nilp = some (.bool false) := bin_eql_of rfl (by rw [eqL_10000]; simp only [eqL, ty_u176]) (by simp)
theorem ty_e176_4 (v : LV) : binL Try.prog .eql 176 .nilp (.cptr v) = some (.bool false) := bin_eql_of rfl (by rw [eqL_10000]; simp only [eqL, ty_u176]) (by simp)
theorem ty_d176_0 : binL Try.prog .neq 176 .nilp .nilp = some (.bool !true) := bin_neq_of rfl (by rw [eqL_10000]; simp only [eqL, ty_u176]) (by simp)
theorem ty_d176_1 (b off : Nat) : binL Try.prog .neq 176 .nilp (.ptr b off) = some (.bool !false) := bin_neq_of rfl (by rw [eqL_10000]; simp only [eqL, ty_u176]) (by simp)
theorem ty_d176_2 (b off : Nat) : binL Try.prog .neq 176 (.ptr b off) .nilp = some (.bool !false) := bin_neq_of rfl (by rw [eqL_10000]; simp only [eqL, ty_u176]) (by simp)
theorem ty_d176_3 (v : LV) : binL Try.prog .neq 176 (.cptr v) .nilp = some (.bool !false) := bin_neq_of rfl (by rw [eqL_10000]; simp only [eqL, ty_u176]) (by simp)
theorem ty_d176_4 (v : LV) : binL Try.prog .neq 176 .nilp (.cptr v) = some (.bool !false) := bin_neq_of rfl (by rw [eqL_10000]; simp only [eqL, ty_u176]) (by simp)
theorem ty_p181 (cs : List LV) (off : Nat) : partL Try.prog 181 cs off = cs[off]? := part_s ty_a181 cs off
theorem ty_v181 (v : LV) (off : Nat) : subL Try.prog 181 v off = sub1 v.cells[off]? := sub_s ty_a181 v off
theorem ty_i181 (r hi : Nat) (xs : List LV) (k : IntKind) (n : Int) : indexAddrL Try.prog 181 (.sl r hi 2 xs) (.int k n) = iaS xs n := ia_sl ty_u181 ty_s185 r hi xs k n
theorem ty_l181 (r hi sz : Nat) (xs : List LV) : lenL Try.prog 181 (.sl r hi sz xs) = some (.int .i64 xs.length) := len_sl ty_u181 r hi sz xs
theorem ty_n181 : lenL Try.prog 181 .nils = some (.int .i64 0) := len_nils ty_u181
theorem ty_q181 (r p : Nat) (xs : List LV) (lo hi : Option LV) (h : H) : sliceL Try.prog 181 (.sl r p 2 xs) lo hi h = slK r p 2 xs h lo (boundL hi xs.length xs.length) := slice_sl ty_u181 ty_s185 r p xs lo hi h
theorem ty_r181 (lo hi : Option LV) (h : H) : sliceL Try.prog 181 .nils lo hi h = slKn h lo (boundL hi 0 0) := slice_nils ty_u181 ty_s185 lo hi h
theorem ty_w181 (s x : LV) (h : H) : appendL Try.prog 181 181 s x h = appS 2 24 s h (elemsL 2 x) := append_eq ty_u181 (.inr ⟨_, ty_u181⟩) ty_s185 ty_b185 ty_z185 rfl rfl (by decide) (by decide) s x h
theorem ty_k181 (len : Nat) (hb : len * 2 ≤ 2 ^ 24) (parts : List (Nat × LV)) (h : H) : buildSliceL Try.prog 181 len parts h = bsK Try.prog 185 2 len h (fillL (plA 2) (repL (LV.cells (.agg [(.str { data := #[] }), .nilf])) len) parts) := buildSlice_eq ty_u181 ty_s185 ty_z185 rfl rfl (by decide) len hb parts h
theorem ty_L181 (o : Option (Nat × Nat)) (sz : Nat) (xs : List LV) : lenL Try.prog 181 (mkS o sz xs) = some (.int .i64 xs.length) := len_mk ty_u181 o sz xs
theorem ty_I181 (o : Option (Nat × Nat)) (xs : List LV) (k : IntKind) (n : Int) : indexAddrL Try.prog 181 (mkS o 2 xs) (.int k n) = iaS xs n := ia_mk ty_u181 ty_s185 o xs k n
theorem ty_Q181 (o : Option (Nat × Nat)) (xs : List LV) (lo hi : Option LV) (h : H) : sliceL Try.prog 181 (mkS o 2 xs) lo hi h = slM o 2 xs h lo (boundL hi xs.length xs.length) := slice_mk ty_u181 ty_s185 o xs lo hi h
theorem ty_E181 (o : Option (Nat × Nat)) (sz : Nat) (xs : List LV) : binL Try.prog .eql 181 (mkS o sz xs) .nils = some (.bool (decide (o = none ∧ xs = []))) := bin_eql_mk ty_u181 o sz xs
theorem ty_D181 (o : Option (Nat × Nat)) (sz : Nat) (xs : List LV) : binL Try.prog .neq 181 (mkS o sz xs) .nils = some (.bool (!decide (o = none ∧ xs = []))) := bin_neq_mk ty_u181 o sz xs
theorem ty_c185 (n : Nat) (cs : List LV) : chunkL Try.prog 185 2 (n + 1) cs = chK cs 2 (chunkL Try.prog 185 2 n (cs.drop 2)) := chunk_a ty_a185 n cs
theorem ty_e181_0 : binL Try.prog .eql 181 .nils .nils = some (.bool true) := bin_eql_of rfl (by rw [eqL_10000]; simp only [eqL, ty_u181]) (by simp)
theorem ty_e181_1 (r hi sz : Nat) (xs : List LV) : binL Try.prog .eql 181 .nils (.sl r hi sz xs) = some (.bool false) := bin_eql_of rfl (by rw [eqL_10000]; simp only [eqL, ty_u181]) (by simp)
theorem ty_e181_2 (r hi sz : Nat) (xs : List LV) : binL Try.prog .eql 181 (.sl r hi sz xs) .nils = some (.bool false) := bin_eql_of rfl (by rw [eqL_10000]; simp only [eqL, ty_u181]) (by simp)
theorem ty_d181_0 : binL Try.prog .neq 181 .nils .nils = some (.bool !true) := bin_neq_of rfl (by rw [eqL_10000]; simp only [eqL, ty_u181]) (by simp)
theorem ty_d181_1 (r hi sz : Nat) (xs : List LV) : binL Try.prog .neq 181 .nils (.sl r hi sz xs) = some (.bool !false) := bin_neq_of rfl (by rw [eqL_10000]; simp only [eqL, ty_u181]) (by simp)
theorem ty_d181_2 (r hi sz : Nat) (xs : List LV) : binL Try.prog .neq 181 (.sl r hi sz xs) .nils = some (.bool !false) := bin_neq_of rfl (by rw [eqL_10000]; simp only [eqL, ty_u181]) (by simp)
theorem ty_p183 (cs : List LV) (off : Nat) : partL Try.prog 183 cs off = cs[off]? := part_s ty_a183 cs off
theorem ty_v183 (v : LV) (off : Nat) : subL Try.prog 183 v off = sub1 v.cells[off]? := sub_s ty_a183 v off
theorem ty_e183_0 : binL Try.prog .eql 183 .nilf .nilf = some (.bool true) := bin_eql_of rfl (by rw [eqL_10000]; simp only [eqL, ty_u183]) (by simp)
theorem ty_e183_1 (f : Nat) (a b : List LV) : binL Try.prog .eql 183 .nilf (.fn f a b) = some (.bool false) := bin_eql_of rfl (by rw [eqL_10000]; simp only [eqL, ty_u183]) (by simp)
theorem ty_e183_2 (f : Nat) (a b : List LV) : binL Try.prog .eql 183 (.fn f a b) .nilf = some (.bool false) := bin_eql_of rfl (by rw [eqL_10000]; simp only [eqL, ty_u183]) (by simp)
theorem ty_d183_0 : binL Try.prog .neq 183 .nilf .nilf = some (.bool !true) := bin_neq_of rfl (by rw [eqL_10000]; simp only [eqL, ty_u183]) (by simp)
theorem ty_d183_1 (f : Nat) (a b : List LV) : binL Try.prog .neq 183 .nilf (.fn f a b) = some (.bool !false) := bin_neq_of rfl (by rw [eqL_10000]; simp only [eqL, ty_u183]) (by simp)
theorem ty_d183_2 (f : Nat) (a b : List LV) : binL Try.prog .neq 183 (.fn f a b) .nilf = some (.bool !false) := bin_neq_of rfl (by rw [eqL_10000]; simp only [eqL, ty_u183]) (by simp)
theorem ty_p185 (cs : List LV) (off : Nat) : partL Try.prog 185 cs off = partA 2 cs off := part_a ty_a185 ty_s185 cs off
theorem ty_v185 (v : LV) (off : Nat) : subL Try.prog 185 v off = sub2 (partA 2 v.cells off) := sub_a ty_a185 ty_s185 v off
theorem ty_f185_0 (b off : Nat) : fieldAddrL Try.prog 185 (.ptr b off) 0 = some (.ptr b (off + 0)) := by kernel_rfl
theorem ty_g185_0 (v : LV) : fieldAddrL Try.prog 185 (.cptr v) 0 = subL Try.prog 9 v 0 := by kernel_rfl
theorem ty_f185_1 (b off : Nat) : fieldAddrL Try.prog 185 (.ptr b off) 1 = some (.ptr b (off + 1)) := by kernel_rfl
theorem ty_g185_1 (v : LV) : fieldAddrL Try.prog 185 (.cptr v) 1 = subL Try.prog 183 v 1 := by kernel_rfl
theorem ty_m185 (parts : List (Nat × LV)) : buildL Try.prog 185 parts = aggK (fillL (plS [(0, 1), (1, 1)]) (LV.cells (.agg [(.str { data := #[] }), .nilf])) parts) := build_s ty_z185 rfl ty_u185 (by kernel_rfl) parts
theorem ty_c176 (n : Nat) (cs : List LV) : chunkL Try.prog 176 1 (n + 1) cs = chK1 cs (chunkL Try.prog 176 1 n (cs.drop 1)) := chunk_s ty_a176 n cs
theorem ty_p194 (cs : List LV) (off : Nat) : partL Try.prog 194 cs off = cs[off]? := part_s ty_a194 cs off
theorem ty_v194 (v : LV) (off : Nat) : subL Try.prog 194 v off = sub1 v.cells[off]? := sub_s ty_a194 v off
theorem ty_e194_0 : binL Try.prog .eql 194 .nilp .nilp = some (.bool true) := bin_eql_of rfl (by rw [eqL_10000]; simp only [eqL, ty_u194]) (by simp)
theorem ty_e194_1 (b off : Nat) : binL Try.prog .eql 194 .nilp (.ptr b off) = some (.bool false) := bin_eql_of rfl (by rw [eqL_10000]; simp only [eqL, ty_u194]) (by simp)
theorem ty_e194_2 (b off : Nat) : binL Try.prog .eql 194 (.ptr b off) .nilp = some (.bool false) := bin_eql_of rfl (by rw [eqL_10000]; simp only [eqL, ty_u194]) (by simp)
theorem ty_e194_3 (v : LV) : binL Try.prog .eql 194 (.cptr v) .nilp = some (.bool false) := bin_eql_of rfl (by rw [eqL_10000]; simp only [eqL, ty_u194]) (by simp)
theorem ty_e194_4 (v : LV) : binL Try.prog .eql 194 .nilp (.cptr v) = some (.bool false) := bin_eql_of rfl (by rw [eqL_10000]; simp only [eqL, ty_u194]) (by simp)
theorem ty_d194_0 : binL Try.prog .neq 194 .nilp .nilp = some (.bool !true) := bin_neq_of rfl (by rw [eqL_10000]; simp only [eqL, ty_u194]) (by simp)
theorem ty_d194_1 (b off : Nat) : binL Try.prog .neq 194 .nilp (.ptr b off) = some (.bool !false) := bin_neq_of rfl (by rw [eqL_10000]; simp only [eqL, ty_u194]) (by simp)
theorem ty_d194_2 (b off : Nat) : binL Try.prog .neq 194 (.ptr b off) .nilp = some (.bool !false) := bin_neq_of rfl (by rw [eqL_10000]; simp only [eqL, ty_u194]) (by simp)
theorem ty_d194_3 (v : LV) : binL Try.prog .neq 194 (.cptr v) .nilp = some (.bool !false) := bin_neq_of rfl (by rw [eqL_10000]; simp only [eqL, ty_u194]) (by simp)
theorem ty_d194_4 (v : LV) : binL Try.prog .neq 194 .nilp (.cptr v) = some (.bool !false) := bin_neq_of rfl (by rw [eqL_10000]; simp only [eqL, ty_u194]) (by simp)
theorem ty_c194 (n : Nat) (cs : List LV) : chunkL Try.prog 194 1 (n + 1) cs = chK1 cs (chunkL Try.prog 194 1 n (cs.drop 1)) := chunk_s ty_a194 n cs
theorem ty_p197 (cs : List LV) (off : Nat) : partL Try.prog 197 cs off = partA 10 cs off := part_a ty_a197 ty_s197 cs off
theorem ty_v197 (v : LV) (off : Nat) : subL Try.prog 197 v off = sub2 (partA 10 v.cells off) := sub_a ty_a197 ty_s197 v off
theorem ty_i197 (b off : Nat) (k : IntKind) (n : Int) : indexAddrL Try.prog 197 (.ptr b off) (.int k n) = if 0 ≤ n ∧ n < (10 : Int) then some (.ptr b (off + n.toNat * 1)) else none := ia_ap ty_u197 ty_s194 b off k n
theorem ty_j197 (v : LV) (k : IntKind) (n : Int) : indexAddrL Try.prog 197 (.cptr v) (.int k n) = if 0 ≤ n ∧ n < (10 : Int) then subL Try.prog 194 v (n.toNat * 1) else none := ia_ac ty_u197 ty_s194 v k n
theorem ty_x197 (cs : List LV) (k : IntKind) (n : Int) : indexL Try.prog 197 (.agg cs) (.int k n) = if 0 ≤ n ∧ n < (10 : Int) then partL Try.prog 194 cs (n.toNat * 1) else none := ix_a ty_u197 ty_s194 cs k n
theorem ty_l197 (v : LV) : lenL Try.prog 197 v = some (.int .i64 (10 : Int)) := len_arr ty_u197 v
theorem ty_m197 (parts : List (Nat × LV)) : buildL Try.prog 197 parts = aggK (fillL (plA 1) (LV.cells (.agg [.nilp, .nilp, .nilp, .nilp, .nilp, .nilp, .nilp, .nilp, .nilp, .nilp])) parts) := build_a ty_z197 rfl ty_u197 ty_s194 parts
theorem ty_q197 (b off : Nat) (lo hi : Option LV) (h : H) : sliceL Try.prog 197 (.ptr b off) lo hi h = slA Try.prog 10 1 b off 194 lo hi h (h.get b) := slice_arr ty_u197 ty_s194 b off lo hi h
theorem ty_p198 (cs : List LV) (off : Nat) : partL Try.prog 198 cs off = partA 7 cs off := part_a ty_a198 ty_s198 cs off
theorem ty_v198 (v : LV) (off : Nat) : subL Try.prog 198 v off = sub2 (partA 7 v.cells off) := sub_a ty_a198 ty_s198 v off
theorem ty_i198 (b off : Nat) (k : IntKind) (n : Int) : indexAddrL Try.prog 198 (.ptr b off) (.int k n) = if 0 ≤ n ∧ n < (7 : Int) then some (.ptr b (off + n.toNat * 1)) else none := ia_ap ty_u198 ty_s176 b off k n
theorem ty_j198 (v : LV) (k : IntKind) (n : Int) : indexAddrL Try.prog 198 (.cptr v) (.int k n) = if 0 ≤ n ∧ n < (7 : Int) then subL Try.prog 176 v (n.toNat * 1) else none := ia_ac ty_u198 ty_s176 v k n
theorem ty_x198 (cs : List LV) (k : IntKind) (n : Int) : indexL Try.prog 198 (.agg cs) (.int k n) = if 0 ≤ n ∧ n < (7 : Int) then partL Try.prog 176 cs (n.toNat * 1) else none := ix_a ty_u198 ty_s176 cs k n
theorem ty_l198 (v : LV) : lenL Try.prog 198 v = some (.int .i64 (7 : Int)) := len_arr ty_u198 v
theorem ty_m198 (parts : List (Nat × LV)) : buildL Try.prog 198 parts = aggK (fillL (plA 1) (LV.cells (.agg [.nilp, .nilp, .nilp, .nilp, .nilp, .nilp, .nilp])) parts) := build_a ty_z198 rfl ty_u198 ty_s176 parts
theorem ty_q198 (b off : Nat) (lo hi : Option LV) (h : H) : sliceL Try.prog 198 (.ptr b off) lo hi h = slA Try.prog 7 1 b off 176 lo hi h (h.get b) := slice_arr ty_u198 ty_s176 b off lo hi h
theorem ty_cv2_167 (k : IntKind) (n : Int) (h : H) : convL Try.prog 2 167 (.int k n) h = some (.int .u64 (IntKind.wrap .u64 n), h) := cv_int ty_u2 ty_u167 k n h
theorem ty_cv5_2 (k : IntKind) (n : Int) (h : H) : convL Try.prog 5 2 (.int k n) h = some (.int .i64 (IntKind.wrap .i64 n), h) := cv_int ty_u5 ty_u2 k n h
theorem ty_cv5_167 (k : IntKind) (n : Int) (h : H) : convL Try.prog 5 167 (.int k n) h = some (.int .u64 (IntKind.wrap .u64 n), h) := cv_int ty_u5 ty_u167 k n h
theorem ty_cv9_26 (s : ByteArray) (h : H) : convL Try.prog 9 26 (.str s) h = some (mkS (some (h.rlen, (bytesL s).length)) 1 (bytesL s), h.nrow (bytesL s).length) := (cv_bytes ty_u9 ty_u26 ty_u5 s h).trans rfl
theorem ty_cv26_9 (o : Option (Nat × Nat)) (l : List Int) (h : H) : convL Try.prog 26 9 (mkS o 1 (l.map (LV.int .u8))) h = some (.str (strOf l), h) := cv_strB ty_u26 ty_u9 ty_u5 o l h
theorem ty_cv26_26 (r hi sz : Nat) (xs : List LV) (h : H) : convL Try.prog 26 26 (mkS (some (r, hi)) sz xs) h = if 1 ≤ r ∧ h.lor ≤ r ∧ h.rget r = some hi then some (mkS (some (r, hi)) sz xs, h) else none := cv_same ty_u26 ty_u5 r hi sz xs h
theorem ty_cv167_2 (k : IntKind) (n : Int) (h : H) : convL Try.prog 167 2 (.int k n) h = some (.int .i64 (IntKind.wrap .i64 n), h) := cv_int ty_u167 ty_u2 k n h
theorem ty_cv167_5 (k : IntKind) (n : Int) (h : H) : convL Try.prog 167 5 (.int k n) h = some (.int .u8 (IntKind.wrap .u8 n), h) := cv_int ty_u167 ty_u5 k n h
attribute [go_sem] ty_s2
  ty_z2
  ty_s3
  ty_z3
  ty_s4
  ty_z4
  ty_s5
  ty_z5
  ty_s9
  ty_z9
  ty_s22
  ty_z22
  ty_s26
  ty_z26
  ty_s28
  ty_z28
  ty_s30
  ty_z30
  ty_s34
  ty_z34
  ty_s38
  ty_z38
  ty_s42
  ty_z42
  ty_s44
  ty_z44
  ty_s48
  ty_z48
  ty_s49
  ty_z49
  ty_s50
  ty_z50
  ty_s52
  ty_z52
  ty_s58
  ty_z58
  ty_s60
  ty_z60
  ty_s62
  ty_z62
  ty_s64
  ty_z64
  ty_s67
  ty_z67
  ty_s70
  ty_z70
  ty_s76
  ty_z76
  ty_s80
  ty_z80
  ty_s96
  ty_z96
  ty_s100
  ty_z100
  ty_s102
  ty_z102
  ty_s103
  ty_z103
  ty_s105
  ty_z105
  ty_s108
  ty_z108
  ty_s110
  ty_z110
  ty_s123
  ty_z123
  ty_s124
  ty_z124
  ty_s126
  ty_z126
  ty_s131
  ty_z131
  ty_s132
  ty_z132
  ty_s137
  ty_z137
  ty_s138
  ty_z138
  ty_s141
  ty_z141
  ty_s146
  ty_z146
  ty_s157
  ty_z157
  ty_s160
  ty_z160
  ty_s167
  ty_z167
  ty_s169
  ty_z169
  ty_s170
  ty_z170
  ty_s173
  ty_z173
  ty_s176
  ty_z176
  ty_s181
  ty_z181
  ty_s183
  ty_z183
  ty_s185
  ty_z185
  ty_s194
  ty_z194
  ty_s197
  ty_z197
  ty_s198
  ty_z198
  ty_p2
  ty_v2
  ty_p3
  ty_v3
  ty_p4
  ty_v4
  ty_e4
  ty_d4
  ty_p5
  ty_v5
  ty_p9
  ty_v9
  ty_F9
  ty_l9
  ty_x9
  ty_p22
  ty_v22
  ty_i22
  ty_l22
  ty_n22
  ty_q22
  ty_r22
  ty_w22
  ty_k22
  ty_L22
  ty_I22
  ty_Q22
  ty_E22
  ty_D22
  ty_c102
  ty_e22_0
  ty_e22_1
  ty_e22_2
  ty_d22_0
  ty_d22_1
  ty_d22_2
  ty_p26
  ty_v26
  ty_i26
  ty_l26
  ty_n26
  ty_q26
  ty_r26
  ty_w26
  ty_k26
  ty_L26
  ty_I26
  ty_Q26
  ty_E26
  ty_D26
  ty_c5
  ty_F26
  ty_e26_0
  ty_e26_1
  ty_e26_2
  ty_d26_0
  ty_d26_1
  ty_d26_2
  ty_p28
  ty_v28
  ty_p30
  ty_v30
  ty_f30_0
  ty_g30_0
  ty_f30_1
  ty_g30_1
  ty_f30_2
  ty_g30_2
  ty_f30_3
  ty_g30_3
  ty_f30_4
  ty_g30_4
  ty_m30
  ty_y30
  ty_p34
  ty_v34
  ty_i34
  ty_l34
  ty_n34
  ty_q34
  ty_r34
  ty_w34
  ty_k34
  ty_L34
  ty_I34
  ty_Q34
  ty_E34
  ty_D34
  ty_c42
  ty_e34_0
  ty_e34_1
  ty_e34_2
  ty_d34_0
  ty_d34_1
  ty_d34_2
  ty_p38
  ty_v38
  ty_f38_0
  ty_g38_0
  ty_f38_1
  ty_g38_1
  ty_m38
  ty_p42
  ty_v42
  ty_f42_0
  ty_g42_0
  ty_f42_1
  ty_g42_1
  ty_f42_2
  ty_g42_2
  ty_f42_3
  ty_g42_3
  ty_f42_4
  ty_g42_4
  ty_f42_5
  ty_g42_5
  ty_f42_6
  ty_g42_6
  ty_m42
  ty_y42
  ty_p44
  ty_v44
  ty_i44
  ty_l44
  ty_n44
  ty_q44
  ty_r44
  ty_w44
  ty_k44
  ty_L44
  ty_I44
  ty_Q44
  ty_E44
  ty_D44
  ty_c67
  ty_e44_0
  ty_e44_1
  ty_e44_2
  ty_d44_0
  ty_d44_1
  ty_d44_2
  ty_p48
  ty_v48
  ty_f48_0
  ty_g48_0
  ty_f48_1
  ty_g48_1
  ty_f48_2
  ty_g48_2
  ty_f48_3
  ty_g48_3
  ty_f48_4
  ty_g48_4
  ty_f48_5
  ty_g48_5
  ty_f48_6
  ty_g48_6
  ty_f48_7
  ty_g48_7
  ty_f48_8
  ty_g48_8
  ty_f48_9
  ty_g48_9
  ty_f48_10
  ty_g48_10
  ty_f48_11
  ty_g48_11
  ty_f48_12
  ty_g48_12
  ty_f48_13
  ty_g48_13
  ty_f48_14
  ty_g48_14
  ty_f48_15
  ty_g48_15
  ty_f48_16
  ty_g48_16
  ty_f48_17
  ty_g48_17
  ty_f48_18
  ty_g48_18
  ty_m48
  ty_y48
  ty_p49
  ty_v49
  ty_i49
  ty_l49
  ty_n49
  ty_q49
  ty_r49
  ty_w49
  ty_k49
  ty_L49
  ty_I49
  ty_Q49
  ty_E49
  ty_D49
  ty_c126
  ty_e49_0
  ty_e49_1
  ty_e49_2
  ty_d49_0
  ty_d49_1
  ty_d49_2
  ty_p50
  ty_v50
  ty_i50
  ty_l50
  ty_n50
  ty_q50
  ty_r50
  ty_w50
  ty_k50
  ty_L50
  ty_I50
  ty_Q50
  ty_E50
  ty_D50
  ty_c131
  ty_e50_0
  ty_e50_1
  ty_e50_2
  ty_d50_0
  ty_d50_1
  ty_d50_2
  ty_p52
  ty_v52
  ty_f52_0
  ty_g52_0
  ty_f52_1
  ty_g52_1
  ty_f52_2
  ty_g52_2
  ty_f52_3
  ty_g52_3
  ty_m52
  ty_p58
  ty_v58
  ty_e58_0
  ty_e58_1
  ty_e58_2
  ty_e58_3
  ty_e58_4
  ty_d58_0
  ty_d58_1
  ty_d58_2
  ty_d58_3
  ty_d58_4
  ty_p60
  ty_v60
  ty_e60_0
  ty_e60_1
  ty_e60_2
  ty_e60_3
  ty_e60_4
  ty_d60_0
  ty_d60_1
  ty_d60_2
  ty_d60_3
  ty_d60_4
  ty_p62
  ty_v62
  ty_f62_0
  ty_g62_0
  ty_f62_1
  ty_g62_1
  ty_f62_2
  ty_g62_2
  ty_m62
  ty_p64
  ty_v64
  ty_i64
  ty_l64
  ty_n64
  ty_q64
  ty_r64
  ty_w64
  ty_k64
  ty_L64
  ty_I64
  ty_Q64
  ty_E64
  ty_D64
  ty_c2
  ty_e64_0
  ty_e64_1
  ty_e64_2
  ty_d64_0
  ty_d64_1
  ty_d64_2
  ty_p67
  ty_v67
  ty_f67_0
  ty_g67_0
  ty_f67_1
  ty_g67_1
  ty_f67_2
  ty_g67_2
  ty_f67_3
  ty_g67_3
  ty_f67_4
  ty_g67_4
  ty_m67
  ty_p70
  ty_v70
  ty_p76
  ty_v76
  ty_f76_0
  ty_g76_0
  ty_f76_1
  ty_g76_1
  ty_m76
  ty_p80
  ty_v80
  ty_e80_0
  ty_e80_1
  ty_e80_2
  ty_e80_3
  ty_e80_4
  ty_d80_0
  ty_d80_1
  ty_d80_2
  ty_d80_3
  ty_d80_4
  ty_p96
  ty_v96
  ty_f96_0
  ty_g96_0
  ty_f96_1
  ty_g96_1
  ty_f96_2
  ty_g96_2
  ty_f96_3
  ty_g96_3
  ty_m96
  ty_p100
  ty_v100
  ty_i100
  ty_l100
  ty_n100
  ty_q100
  ty_r100
  ty_w100
  ty_k100
  ty_L100
  ty_I100
  ty_Q100
  ty_E100
  ty_D100
  ty_c105
  ty_e100_0
  ty_e100_1
  ty_e100_2
  ty_d100_0
  ty_d100_1
  ty_d100_2
  ty_p102
  ty_v102
  ty_f102_0
  ty_g102_0
  ty_f102_1
  ty_g102_1
  ty_f102_2
  ty_g102_2
  ty_f102_3
  ty_g102_3
  ty_m102
  ty_p103
  ty_v103
  ty_i103
  ty_l103
  ty_n103
  ty_q103
  ty_r103
  ty_w103
  ty_k103
  ty_L103
  ty_I103
  ty_Q103
  ty_E103
  ty_D103
  ty_c30
  ty_e103_0
  ty_e103_1
  ty_e103_2
  ty_d103_0
  ty_d103_1
  ty_d103_2
  ty_p105
  ty_v105
  ty_f105_0
  ty_g105_0
  ty_f105_1
  ty_g105_1
  ty_m105
  ty_p108
  ty_v108
  ty_f108_0
  ty_g108_0
  ty_m108
  ty_p110
  ty_v110
  ty_f110_0
  ty_g110_0
  ty_m110
  ty_p123
  ty_v123
  ty_i123
  ty_l123
  ty_n123
  ty_q123
  ty_r123
  ty_w123
  ty_k123
  ty_L123
  ty_I123
  ty_Q123
  ty_E123
  ty_D123
  ty_c28
  ty_e123_0
  ty_e123_1
  ty_e123_2
  ty_d123_0
  ty_d123_1
  ty_d123_2
  ty_p124
  ty_v124
  ty_i124
  ty_l124
  ty_n124
  ty_q124
  ty_r124
  ty_w124
  ty_k124
  ty_L124
  ty_I124
  ty_Q124
  ty_E124
  ty_D124
  ty_c3
  ty_e124_0
  ty_e124_1
  ty_e124_2
  ty_d124_0
  ty_d124_1
  ty_d124_2
  ty_p126
  ty_v126
  ty_f126_0
  ty_g126_0
  ty_f126_1
  ty_g126_1
  ty_m126
  ty_p131
  ty_v131
  ty_f131_0
  ty_g131_0
  ty_f131_1
  ty_g131_1
  ty_f131_2
  ty_g131_2
  ty_m131
  ty_y131
  ty_p132
  ty_v132
  ty_i132
  ty_j132
  ty_x132
  ty_l132
  ty_m132
  ty_q132
  ty_y132
  ty_p137
  ty_v137
  ty_f137_0
  ty_g137_0
  ty_f137_1
  ty_g137_1
  ty_f137_2
  ty_g137_2
  ty_m137
  ty_p138
  ty_v138
  ty_i138
  ty_l138
  ty_n138
  ty_q138
  ty_r138
  ty_w138
  ty_k138
  ty_L138
  ty_I138
  ty_Q138
  ty_E138
  ty_D138
  ty_c4
  ty_e138_0
  ty_e138_1
  ty_e138_2
  ty_d138_0
  ty_d138_1
  ty_d138_2
  ty_p141
  ty_v141
  ty_f141_0
  ty_g141_0
  ty_m141
  ty_p146
  ty_v146
  ty_f146_0
  ty_g146_0
  ty_m146
  ty_p157
  ty_v157
  ty_f157_0
  ty_g157_0
  ty_f157_1
  ty_g157_1
  ty_m157
  ty_p160
  ty_v160
  ty_f160_0
  ty_g160_0
  ty_f160_1
  ty_g160_1
  ty_m160
  ty_p167
  ty_v167
  ty_p169
  ty_v169
  ty_i169
  ty_j169
  ty_x169
  ty_l169
  ty_m169
  ty_q169
  ty_y169
  ty_p170
  ty_v170
  ty_i170
  ty_j170
  ty_x170
  ty_l170
  ty_m170
  ty_q170
  ty_y170
  ty_p173
  ty_v173
  ty_f173_0
  ty_g173_0
  ty_f173_1
  ty_g173_1
  ty_f173_2
  ty_g173_2
  ty_m173
  ty_y173
  ty_p176
  ty_v176
  ty_e176_0
  ty_e176_1
  ty_e176_2
  ty_e176_3
  ty_e176_4
  ty_d176_0
  ty_d176_1
  ty_d176_2
  ty_d176_3
  ty_d176_4
  ty_p181
  ty_v181
  ty_i181
  ty_l181
  ty_n181
  ty_q181
  ty_r181
  ty_w181
  ty_k181
  ty_L181
  ty_I181
  ty_Q181
  ty_E181
  ty_D181
  ty_c185
  ty_e181_0
  ty_e181_1
  ty_e181_2
  ty_d181_0
  ty_d181_1
  ty_d181_2
  ty_p183
  ty_v183
  ty_e183_0
  ty_e183_1
  ty_e183_2
  ty_d183_0
  ty_d183_1
  ty_d183_2
  ty_p185
  ty_v185
  ty_f185_0
  ty_g185_0
  ty_f185_1
  ty_g185_1
  ty_m185
  ty_c176
  ty_p194
  ty_v194
  ty_e194_0
  ty_e194_1
  ty_e194_2
  ty_e194_3
  ty_e194_4
  ty_d194_0
  ty_d194_1
  ty_d194_2
  ty_d194_3
  ty_d194_4
  ty_c194
  ty_p197
  ty_v197
  ty_i197
  ty_j197
  ty_x197
  ty_l197
  ty_m197
  ty_q197
  ty_p198
  ty_v198
  ty_i198
  ty_j198
  ty_x198
  ty_l198
  ty_m198
  ty_q198
  ty_cv2_167
  ty_cv5_2
  ty_cv5_167
  ty_cv9_26
  ty_cv26_9
  ty_cv26_26
  ty_cv167_2
  ty_cv167_5

end Go.LM
