import Derived.Test.YtgbhkmgmpodnkaaLmY
import Derived.Test.YtgbhkmgmpodnkaaProg
import Derived.KernelRfl
namespace Go.LM
open Go.Proofs

theorem ty_u2 : Try.prog.underlying 2 = some (TypeDesc.int IntKind.i64) := by kernel_rfl
theorem ty_a2 : isAggT Try.prog 2 = some false := by kernel_rfl
theorem ty_s2 : sizeT Try.prog 2 = some 1 := by kernel_rfl
theorem ty_o2 : Try.prog.cellsOf 2 = 1 := by kernel_rfl
theorem ty_b2 : bytesT Try.prog 2 = some 8 := by kernel_rfl
theorem ty_z2 : zeroL Try.prog 2 = some (.int .i64 0) := by kernel_rfl
theorem ty_u3 : Try.prog.underlying 3 = some (TypeDesc.int IntKind.i64) := by kernel_rfl
theorem ty_a3 : isAggT Try.prog 3 = some false := by kernel_rfl
theorem ty_s3 : sizeT Try.prog 3 = some 1 := by kernel_rfl
theorem ty_o3 : Try.prog.cellsOf 3 = 1 := by kernel_rfl
theorem ty_b3 : bytesT Try.prog 3 = some 8 := by kernel_rfl
theorem ty_z3 : zeroL Try.prog 3 = some (.int .i64 0) := by kernel_rfl
theorem ty_u4 : Try.prog.underlying 4 = some TypeDesc.bool := by kernel_rfl
theorem ty_a4 : isAggT Try.prog 4 = some false := by kernel_rfl
theorem ty_s4 : sizeT Try.prog 4 = some 1 := by kernel_rfl
theorem ty_o4 : Try.prog.cellsOf 4 = 1 := by kernel_rfl
theorem ty_b4 : bytesT Try.prog 4 = some 1 := by kernel_rfl
theorem ty_z4 : zeroL Try.prog 4 = some (.bool false) := by kernel_rfl
theorem ty_u22 : Try.prog.underlying 22 = some (TypeDesc.slice 33) := by kernel_rfl
theorem ty_a22 : isAggT Try.prog 22 = some false := by kernel_rfl
theorem ty_s22 : sizeT Try.prog 22 = some 1 := by kernel_rfl
theorem ty_o22 : Try.prog.cellsOf 22 = 1 := by kernel_rfl
theorem ty_b22 : bytesT Try.prog 22 = some 24 := by kernel_rfl
theorem ty_z22 : zeroL Try.prog 22 = some .nils := by kernel_rfl
theorem ty_u29 : Try.prog.underlying 29 = some (TypeDesc.int IntKind.i64) := by kernel_rfl
theorem ty_a29 : isAggT Try.prog 29 = some false := by kernel_rfl
theorem ty_s29 : sizeT Try.prog 29 = some 1 := by kernel_rfl
theorem ty_o29 : Try.prog.cellsOf 29 = 1 := by kernel_rfl
theorem ty_b29 : bytesT Try.prog 29 = some 8 := by kernel_rfl
theorem ty_z29 : zeroL Try.prog 29 = some (.int .i64 0) := by kernel_rfl
theorem ty_u31 : Try.prog.underlying 31 = some (TypeDesc.struct #[{ name := "Cols", type := 3, offset := 0, embedded := false, tag := "", pkgPath := "", byteOffset := 0 }, { name := "Wide", type := 29, offset := 1, embedded := false, tag := "", pkgPath := "", byteOffset := 8 }, { name := "Gap", type := 29, offset := 2, embedded := false, tag := "", pkgPath := "", byteOffset := 16 }, { name := "High", type := 29, offset := 3, embedded := false, tag := "", pkgPath := "", byteOffset := 24 }, { name := "First", type := 29, offset := 4, embedded := false, tag := "", pkgPath := "", byteOffset := 32 }, { name := "Grid", type := 29, offset := 5, embedded := false, tag := "", pkgPath := "", byteOffset := 40 }, { name := "Rule", type := 29, offset := 6, embedded := false, tag := "", pkgPath := "", byteOffset := 48 }, { name := "Sep", type := 29, offset := 7, embedded := false, tag := "", pkgPath := "", byteOffset := 56 }, { name := "NoteMost", type := 29, offset := 8, embedded := false, tag := "", pkgPath := "", byteOffset := 64 }, { name := "TopMost", type := 29, offset := 9, embedded := false, tag := "", pkgPath := "", byteOffset := 72 }, { name := "BotMost", type := 29, offset := 10, embedded := false, tag := "", pkgPath := "", byteOffset := 80 }, { name := "TopMany", type := 3, offset := 11, embedded := false, tag := "", pkgPath := "", byteOffset := 88 }, { name := "BotMany", type := 3, offset := 12, embedded := false, tag := "", pkgPath := "", byteOffset := 96 }, { name := "Club", type := 3, offset := 13, embedded := false, tag := "", pkgPath := "", byteOffset := 104 }, { name := "Widow", type := 3, offset := 14, embedded := false, tag := "", pkgPath := "", byteOffset := 112 }, { name := "Split", type := 3, offset := 15, embedded := false, tag := "", pkgPath := "", byteOffset := 120 }, { name := "Defer", type := 3, offset := 16, embedded := false, tag := "", pkgPath := "", byteOffset := 128 }, { name := "Spare", type := 3, offset := 17, embedded := false, tag := "", pkgPath := "", byteOffset := 136 }, { name := "Balance", type := 4, offset := 18, embedded := false, tag := "", pkgPath := "", byteOffset := 144 }]) := by kernel_rfl
theorem ty_a31 : isAggT Try.prog 31 = some true := by kernel_rfl
theorem ty_s31 : sizeT Try.prog 31 = some 19 := by kernel_rfl
theorem ty_o31 : Try.prog.cellsOf 31 = 19 := by kernel_rfl
theorem ty_b31 : bytesT Try.prog 31 = some 152 := by kernel_rfl
theorem ty_z31 : zeroL Try.prog 31 = some (.agg [(.int .i64 0), (.int .i64 0), (.int .i64 0), (.int .i64 0), (.int .i64 0), (.int .i64 0), (.int .i64 0), (.int .i64 0), (.int .i64 0), (.int .i64 0), (.int .i64 0), (.int .i64 0), (.int .i64 0), (.int .i64 0), (.int .i64 0), (.int .i64 0), (.int .i64 0), (.int .i64 0), (.bool false)]) := by kernel_rfl
theorem ty_u33 : Try.prog.underlying 33 = some (TypeDesc.struct #[{ name := "K", type := 3, offset := 0, embedded := false, tag := "", pkgPath := "", byteOffset := 0 }, { name := "H", type := 29, offset := 1, embedded := false, tag := "", pkgPath := "", byteOffset := 8 }, { name := "F", type := 3, offset := 2, embedded := false, tag := "", pkgPath := "", byteOffset := 16 }, { name := "Str", type := 29, offset := 3, embedded := false, tag := "", pkgPath := "", byteOffset := 24 }, { name := "Ord", type := 3, offset := 4, embedded := false, tag := "", pkgPath := "", byteOffset := 32 }, { name := "Shr", type := 29, offset := 5, embedded := false, tag := "", pkgPath := "", byteOffset := 40 }, { name := "N", type := 3, offset := 6, embedded := false, tag := "", pkgPath := "", byteOffset := 48 }]) := by kernel_rfl
theorem ty_a33 : isAggT Try.prog 33 = some true := by kernel_rfl
theorem ty_s33 : sizeT Try.prog 33 = some 7 := by kernel_rfl
theorem ty_o33 : Try.prog.cellsOf 33 = 7 := by kernel_rfl
theorem ty_b33 : bytesT Try.prog 33 = some 56 := by kernel_rfl
theorem ty_z33 : zeroL Try.prog 33 = some (.agg [(.int .i64 0), (.int .i64 0), (.int .i64 0), (.int .i64 0), (.int .i64 0), (.int .i64 0), (.int .i64 0)]) := by kernel_rfl
theorem ty_u44 : Try.prog.underlying 44 = some (TypeDesc.slice 3) := by kernel_rfl
theorem ty_a44 : isAggT Try.prog 44 = some false := by kernel_rfl
theorem ty_s44 : sizeT Try.prog 44 = some 1 := by kernel_rfl
theorem ty_o44 : Try.prog.cellsOf 44 = 1 := by kernel_rfl
theorem ty_b44 : bytesT Try.prog 44 = some 24 := by kernel_rfl
theorem ty_z44 : zeroL Try.prog 44 = some .nils := by kernel_rfl
theorem ty_u48 : Try.prog.underlying 48 = some (TypeDesc.slice 57) := by kernel_rfl
theorem ty_a48 : isAggT Try.prog 48 = some false := by kernel_rfl
theorem ty_s48 : sizeT Try.prog 48 = some 1 := by kernel_rfl
theorem ty_o48 : Try.prog.cellsOf 48 = 1 := by kernel_rfl
theorem ty_b48 : bytesT Try.prog 48 = some 24 := by kernel_rfl
theorem ty_z48 : zeroL Try.prog 48 = some .nils := by kernel_rfl
theorem ty_u50 : Try.prog.underlying 50 = some (TypeDesc.pointer 77) := by kernel_rfl
theorem ty_a50 : isAggT Try.prog 50 = some false := by kernel_rfl
theorem ty_s50 : sizeT Try.prog 50 = some 1 := by kernel_rfl
theorem ty_o50 : Try.prog.cellsOf 50 = 1 := by kernel_rfl
theorem ty_b50 : bytesT Try.prog 50 = some 8 := by kernel_rfl
theorem ty_z50 : zeroL Try.prog 50 = some .nilp := by kernel_rfl
theorem ty_u53 : Try.prog.underlying 53 = some (TypeDesc.struct #[{ name := "A", type := 3, offset := 0, embedded := false, tag := "", pkgPath := "", byteOffset := 0 }, { name := "B", type := 3, offset := 1, embedded := false, tag := "", pkgPath := "", byteOffset := 8 }]) := by kernel_rfl
theorem ty_a53 : isAggT Try.prog 53 = some true := by kernel_rfl
theorem ty_s53 : sizeT Try.prog 53 = some 2 := by kernel_rfl
theorem ty_o53 : Try.prog.cellsOf 53 = 2 := by kernel_rfl
theorem ty_b53 : bytesT Try.prog 53 = some 16 := by kernel_rfl
theorem ty_z53 : zeroL Try.prog 53 = some (.agg [(.int .i64 0), (.int .i64 0)]) := by kernel_rfl
theorem ty_u54 : Try.prog.underlying 54 = some (TypeDesc.func #[53, 53] #[3] false) := by kernel_rfl
theorem ty_a54 : isAggT Try.prog 54 = some false := by kernel_rfl
theorem ty_s54 : sizeT Try.prog 54 = some 1 := by kernel_rfl
theorem ty_o54 : Try.prog.cellsOf 54 = 1 := by kernel_rfl
theorem ty_b54 : bytesT Try.prog 54 = some 8 := by kernel_rfl
theorem ty_z54 : zeroL Try.prog 54 = some .nilf := by kernel_rfl
theorem ty_u55 : Try.prog.underlying 55 = some (TypeDesc.slice 53) := by kernel_rfl
theorem ty_a55 : isAggT Try.prog 55 = some false := by kernel_rfl
theorem ty_s55 : sizeT Try.prog 55 = some 1 := by kernel_rfl
theorem ty_o55 : Try.prog.cellsOf 55 = 1 := by kernel_rfl
theorem ty_b55 : bytesT Try.prog 55 = some 24 := by kernel_rfl
theorem ty_z55 : zeroL Try.prog 55 = some .nils := by kernel_rfl
theorem ty_u57 : Try.prog.underlying 57 = some (TypeDesc.struct #[{ name := "K", type := 3, offset := 0, embedded := false, tag := "", pkgPath := "", byteOffset := 0 }, { name := "X", type := 53, offset := 1, embedded := false, tag := "", pkgPath := "", byteOffset := 8 }]) := by kernel_rfl
theorem ty_a57 : isAggT Try.prog 57 = some true := by kernel_rfl
theorem ty_s57 : sizeT Try.prog 57 = some 3 := by kernel_rfl
theorem ty_o57 : Try.prog.cellsOf 57 = 3 := by kernel_rfl
theorem ty_b57 : bytesT Try.prog 57 = some 24 := by kernel_rfl
theorem ty_z57 : zeroL Try.prog 57 = some (.agg [(.int .i64 0), (.int .i64 0), (.int .i64 0)]) := by kernel_rfl
theorem ty_u75 : Try.prog.underlying 75 = some (TypeDesc.pointer 79) := by kernel_rfl
theorem ty_a75 : isAggT Try.prog 75 = some false := by kernel_rfl
theorem ty_s75 : sizeT Try.prog 75 = some 1 := by kernel_rfl
theorem ty_o75 : Try.prog.cellsOf 75 = 1 := by kernel_rfl
theorem ty_b75 : bytesT Try.prog 75 = some 8 := by kernel_rfl
theorem ty_z75 : zeroL Try.prog 75 = some .nilp := by kernel_rfl
theorem ty_u77 : Try.prog.underlying 77 = some (TypeDesc.struct #[{ name := "row", type := 75, offset := 0, embedded := false, tag := "", pkgPath := "tympan/pile", byteOffset := 0 }]) := by kernel_rfl
theorem ty_a77 : isAggT Try.prog 77 = some true := by kernel_rfl
theorem ty_s77 : sizeT Try.prog 77 = some 1 := by kernel_rfl
theorem ty_o77 : Try.prog.cellsOf 77 = 1 := by kernel_rfl
theorem ty_b77 : bytesT Try.prog 77 = some 8 := by kernel_rfl
theorem ty_z77 : zeroL Try.prog 77 = some (.agg [.nilp]) := by kernel_rfl
theorem ty_u79 : Try.prog.underlying 79 = some (TypeDesc.struct #[{ name := "l", type := 55, offset := 0, embedded := false, tag := "", pkgPath := "tympan/pile", byteOffset := 0 }, { name := "cmp", type := 54, offset := 1, embedded := false, tag := "", pkgPath := "tympan/pile", byteOffset := 24 }]) := by kernel_rfl
theorem ty_a79 : isAggT Try.prog 79 = some true := by kernel_rfl
theorem ty_s79 : sizeT Try.prog 79 = some 2 := by kernel_rfl
theorem ty_o79 : Try.prog.cellsOf 79 = 2 := by kernel_rfl
theorem ty_b79 : bytesT Try.prog 79 = some 32 := by kernel_rfl
theorem ty_z79 : zeroL Try.prog 79 = some (.agg [.nils, .nilf]) := by kernel_rfl
theorem ty_p2 (cs : List LV) (off : Nat) : partL Try.prog 2 cs off = cs[off]? := part_s ty_a2 cs off
theorem ty_v2 (v : LV) (off : Nat) : subL Try.prog 2 v off = sub1 v.cells[off]? := sub_s ty_a2 v off
theorem ty_p3 (cs : List LV) (off : Nat) : partL Try.prog 3 cs off = cs[off]? := part_s ty_a3 cs off
theorem ty_v3 (v : LV) (off : Nat) : subL Try.prog 3 v off = sub1 v.cells[off]? := sub_s ty_a3 v off
theorem ty_p4 (cs : List LV) (off : Nat) : partL Try.prog 4 cs off = cs[off]? := part_s ty_a4 cs off
theorem ty_v4 (v : LV) (off : Nat) : subL Try.prog 4 v off = sub1 v.cells[off]? := sub_s ty_a4 v off
theorem ty_e4 (a b : Bool) : binL Try.prog .eql 4 (.bool a) (.bool b) = some (.bool (a == b)) := bin_eql_bool ty_u4 a b
theorem ty_d4 (a b : Bool) : binL Try.prog .neq 4 (.bool a) (.bool b) = some (.bool !(a == b)) := bin_neq_bool ty_u4 a b
theorem ty_p22 (cs : List LV) (off : Nat) : partL Try.prog 22 cs off = cs[off]? := part_s ty_a22 cs off
theorem ty_v22 (v : LV) (off : Nat) : subL Try.prog 22 v off = sub1 v.cells[off]? := sub_s ty_a22 v off
theorem ty_i22 (r hi : Nat) (xs : List LV) (k : IntKind) (n : Int) : indexAddrL Try.prog 22 (.sl r hi 7 xs) (.int k n) = iaS xs n := ia_sl ty_u22 ty_s33 r hi xs k n
theorem ty_l22 (r hi sz : Nat) (xs : List LV) : lenL Try.prog 22 (.sl r hi sz xs) = some (.int .i64 xs.length) := len_sl ty_u22 r hi sz xs
theorem ty_n22 : lenL Try.prog 22 .nils = some (.int .i64 0) := len_nils ty_u22
theorem ty_q22 (r p : Nat) (xs : List LV) (lo hi : Option LV) (h : H) : sliceL Try.prog 22 (.sl r p 7 xs) lo hi h = slK r p 7 xs h lo (boundL hi xs.length xs.length) := slice_sl ty_u22 ty_s33 r p xs lo hi h
theorem ty_r22 (lo hi : Option LV) (h : H) : sliceL Try.prog 22 .nils lo hi h = slKn h lo (boundL hi 0 0) := slice_nils ty_u22 ty_s33 lo hi h
theorem ty_w22 (s x : LV) (h : H) : appendL Try.prog 22 22 s x h = appS 7 56 s h (elemsL 7 x) := append_eq ty_u22 (.inr ⟨_, ty_u22⟩) ty_s33 ty_b33 ty_z33 rfl rfl (by decide) (by decide) s x h
theorem ty_k22 (len : Nat) (hb : len * 7 ≤ 2 ^ 24) (parts : List (Nat × LV)) (h : H) : buildSliceL Try.prog 22 len parts h = bsK Try.prog 33 7 len h (fillL (plA 7) (repL (LV.cells (.agg [(.int .i64 0), (.int .i64 0), (.int .i64 0), (.int .i64 0), (.int .i64 0), (.int .i64 0), (.int .i64 0)])) len) parts) := buildSlice_eq ty_u22 ty_s33 ty_z33 rfl rfl (by decide) len hb parts h
theorem ty_L22 (o : Option (Nat × Nat)) (sz : Nat) (xs : List LV) : lenL Try.prog 22 (mkS o sz xs) = some (.int .i64 xs.length) := len_mk ty_u22 o sz xs
theorem ty_I22 (o : Option (Nat × Nat)) (xs : List LV) (k : IntKind) (n : Int) : indexAddrL Try.prog 22 (mkS o 7 xs) (.int k n) = iaS xs n := ia_mk ty_u22 ty_s33 o xs k n
theorem ty_Q22 (o : Option (Nat × Nat)) (xs : List LV) (lo hi : Option LV) (h : H) : sliceL Try.prog 22 (mkS o 7 xs) lo hi h = slM o 7 xs h lo (boundL hi xs.length xs.length) := slice_mk ty_u22 ty_s33 o xs lo hi h
theorem ty_E22 (o : Option (Nat × Nat)) (sz : Nat) (xs : List LV) : binL Try.prog .eql 22 (mkS o sz xs) .nils = some (.bool (decide (o = none ∧ xs = []))) := bin_eql_mk ty_u22 o sz xs
theorem ty_D22 (o : Option (Nat × Nat)) (sz : Nat) (xs : List LV) : binL Try.prog .neq 22 (mkS o sz xs) .nils = some (.bool (!decide (o = none ∧ xs = []))) := bin_neq_mk ty_u22 o sz xs
theorem ty_c33 (n : Nat) (cs : List LV) : chunkL Try.prog 33 7 (n + 1) cs = chK cs 7 (chunkL Try.prog 33 7 n (cs.drop 7)) := chunk_a ty_a33 n cs
theorem ty_e22_0 : binL Try.prog .eql 22 .nils .nils = some (.bool true) := bin_eql_of rfl (by rw [eqL_10000]; simp only [eqL, ty_u22]) (by simp)
theorem ty_e22_1 (r hi sz : Nat) (xs : List LV) : binL Try.prog .eql 22 .nils (.sl r hi sz xs) = some (.bool false) := bin_eql_of rfl (by rw [eqL_10000]; simp only [eqL, ty_u22]) (by simp)
theorem ty_e22_2 (r hi sz : Nat) (xs : List LV) : binL Try.prog .eql 22 (.sl r hi sz xs) .nils = some (.bool false) := bin_eql_of rfl (by rw [eqL_10000]; simp only [eqL, ty_u22]) (by simp)
theorem ty_d22_0 : binL Try.prog .neq 22 .nils .nils = some (.bool !true) := bin_neq_of rfl (by rw [eqL_10000]; simp only [eqL, ty_u22]) (by simp)
theorem ty_d22_1 (r hi sz : Nat) (xs : List LV) : binL Try.prog .neq 22 .nils (.sl r hi sz xs) = some (.bool !false) := bin_neq_of rfl (by rw [eqL_10000]; simp only [eqL, ty_u22]) (by simp)
theorem ty_d22_2 (r hi sz : Nat) (xs : List LV) : binL Try.prog .neq 22 (.sl r hi sz xs) .nils = some (.bool !false) := bin_neq_of rfl (by rw [eqL_10000]; simp only [eqL, ty_u22]) (by simp)
theorem ty_p29 (cs : List LV) (off : Nat) : partL Try.prog 29 cs off = cs[off]? := part_s ty_a29 cs off
theorem ty_v29 (v : LV) (off : Nat) : subL Try.prog 29 v off = sub1 v.cells[off]? := sub_s ty_a29 v off
theorem ty_p31 (cs : List LV) (off : Nat) : partL Try.prog 31 cs off = partA 19 cs off := part_a ty_a31 ty_s31 cs off
theorem ty_v31 (v : LV) (off : Nat) : subL Try.prog 31 v off = sub2 (partA 19 v.cells off) := sub_a ty_a31 ty_s31 v off
theorem ty_f31_0 (b off : Nat) : fieldAddrL Try.prog 31 (.ptr b off) 0 = some (.ptr b (off + 0)) := by kernel_rfl
theorem ty_g31_0 (v : LV) : fieldAddrL Try.prog 31 (.cptr v) 0 = subL Try.prog 3 v 0 := by kernel_rfl
theorem ty_h31_0 (cs : List LV) : fieldL Try.prog 31 (.agg cs) 0 = partL Try.prog 3 cs 0 := by kernel_rfl
theorem ty_f31_1 (b off : Nat) : fieldAddrL Try.prog 31 (.ptr b off) 1 = some (.ptr b (off + 1)) := by kernel_rfl
theorem ty_g31_1 (v : LV) : fieldAddrL Try.prog 31 (.cptr v) 1 = subL Try.prog 29 v 1 := by kernel_rfl
theorem ty_h31_1 (cs : List LV) : fieldL Try.prog 31 (.agg cs) 1 = partL Try.prog 29 cs 1 := by kernel_rfl
theorem ty_f31_2 (b off : Nat) : fieldAddrL Try.prog 31 (.ptr b off) 2 = some (.ptr b (off + 2)) := by kernel_rfl
theorem ty_g31_2 (v : LV) : fieldAddrL Try.prog 31 (.cptr v) 2 = subL Try.prog 29 v 2 := by kernel_rfl
theorem ty_h31_2 (cs : List LV) : fieldL Try.prog 31 (.agg cs) 2 = partL Try.prog 29 cs 2 := by kernel_rfl
theorem ty_f31_3 (b off : Nat) : fieldAddrL Try.prog 31 (.ptr b off) 3 = some (.ptr b (off + 3)) := by kernel_rfl
theorem ty_g31_3 (v : LV) : fieldAddrL Try.prog 31 (.cptr v) 3 = subL Try.prog 29 v 3 := by kernel_rfl
theorem ty_h31_3 (cs : List LV) : fieldL Try.prog 31 (.agg cs) 3 = partL Try.prog 29 cs 3 := by kernel_rfl
theorem ty_f31_4 (b off : Nat) : fieldAddrL Try.prog 31 (.ptr b off) 4 = some (.ptr b (off + 4)) := by kernel_rfl
theorem ty_g31_4 (v : LV) : fieldAddrL Try.prog 31 (.cptr v) 4 = subL Try.prog 29 v 4 := by kernel_rfl
theorem ty_h31_4 (cs : List LV) : fieldL Try.prog 31 (.agg cs) 4 = partL Try.prog 29 cs 4 := by kernel_rfl
theorem ty_f31_5 (b off : Nat) : fieldAddrL Try.prog 31 (.ptr b off) 5 = some (.ptr b (off + 5)) := by kernel_rfl
theorem ty_g31_5 (v : LV) : fieldAddrL Try.prog 31 (.cptr v) 5 = subL Try.prog 29 v 5 := by kernel_rfl
theorem ty_h31_5 (cs : List LV) : fieldL Try.prog 31 (.agg cs) 5 = partL Try.prog 29 cs 5 := by kernel_rfl
theorem ty_f31_6 (b off : Nat) : fieldAddrL Try.prog 31 (.ptr b off) 6 = some (.ptr b (off + 6)) := by kernel_rfl
theorem ty_g31_6 (v : LV) : fieldAddrL Try.prog 31 (.cptr v) 6 = subL Try.prog 29 v 6 := by kernel_rfl
theorem ty_h31_6 (cs : List LV) : fieldL Try.prog 31 (.agg cs) 6 = partL Try.prog 29 cs 6 := by kernel_rfl
theorem ty_f31_7 (b off : Nat) : fieldAddrL Try.prog 31 (.ptr b off) 7 = some (.ptr b (off + 7)) := by kernel_rfl
theorem ty_g31_7 (v : LV) : fieldAddrL Try.prog 31 (.cptr v) 7 = subL Try.prog 29 v 7 := by kernel_rfl
theorem ty_h31_7 (cs : List LV) : fieldL Try.prog 31 (.agg cs) 7 = partL Try.prog 29 cs 7 := by kernel_rfl
theorem ty_f31_8 (b off : Nat) : fieldAddrL Try.prog 31 (.ptr b off) 8 = some (.ptr b (off + 8)) := by kernel_rfl
theorem ty_g31_8 (v : LV) : fieldAddrL Try.prog 31 (.cptr v) 8 = subL Try.prog 29 v 8 := by kernel_rfl
theorem ty_h31_8 (cs : List LV) : fieldL Try.prog 31 (.agg cs) 8 = partL Try.prog 29 cs 8 := by kernel_rfl
theorem ty_f31_9 (b off : Nat) : fieldAddrL Try.prog 31 (.ptr b off) 9 = some (.ptr b (off + 9)) := by kernel_rfl
theorem ty_g31_9 (v : LV) : fieldAddrL Try.prog 31 (.cptr v) 9 = subL Try.prog 29 v 9 := by kernel_rfl
theorem ty_h31_9 (cs : List LV) : fieldL Try.prog 31 (.agg cs) 9 = partL Try.prog 29 cs 9 := by kernel_rfl
theorem ty_f31_10 (b off : Nat) : fieldAddrL Try.prog 31 (.ptr b off) 10 = some (.ptr b (off + 10)) := by kernel_rfl
theorem ty_g31_10 (v : LV) : fieldAddrL Try.prog 31 (.cptr v) 10 = subL Try.prog 29 v 10 := by kernel_rfl
theorem ty_h31_10 (cs : List LV) : fieldL Try.prog 31 (.agg cs) 10 = partL Try.prog 29 cs 10 := by kernel_rfl
theorem ty_f31_11 (b off : Nat) : fieldAddrL Try.prog 31 (.ptr b off) 11 = some (.ptr b (off + 11)) := by kernel_rfl
theorem ty_g31_11 (v : LV) : fieldAddrL Try.prog 31 (.cptr v) 11 = subL Try.prog 3 v 11 := by kernel_rfl
theorem ty_h31_11 (cs : List LV) : fieldL Try.prog 31 (.agg cs) 11 = partL Try.prog 3 cs 11 := by kernel_rfl
theorem ty_f31_12 (b off : Nat) : fieldAddrL Try.prog 31 (.ptr b off) 12 = some (.ptr b (off + 12)) := by kernel_rfl
theorem ty_g31_12 (v : LV) : fieldAddrL Try.prog 31 (.cptr v) 12 = subL Try.prog 3 v 12 := by kernel_rfl
theorem ty_h31_12 (cs : List LV) : fieldL Try.prog 31 (.agg cs) 12 = partL Try.prog 3 cs 12 := by kernel_rfl
theorem ty_f31_13 (b off : Nat) : fieldAddrL Try.prog 31 (.ptr b off) 13 = some (.ptr b (off + 13)) := by kernel_rfl
theorem ty_g31_13 (v : LV) : fieldAddrL Try.prog 31 (.cptr v) 13 = subL Try.prog 3 v 13 := by kernel_rfl
theorem ty_h31_13 (cs : List LV) : fieldL Try.prog 31 (.agg cs) 13 = partL Try.prog 3 cs 13 := by kernel_rfl
theorem ty_f31_14 (b off : Nat) : fieldAddrL Try.prog 31 (.ptr b off) 14 = some (.ptr b (off + 14)) := by kernel_rfl
theorem ty_g31_14 (v : LV) : fieldAddrL Try.prog 31 (.cptr v) 14 = subL Try.prog 3 v 14 := by kernel_rfl
theorem ty_h31_14 (cs : List LV) : fieldL Try.prog 31 (.agg cs) 14 = partL Try.prog 3 cs 14 := by kernel_rfl
theorem ty_f31_15 (b off : Nat) : fieldAddrL Try.prog 31 (.ptr b off) 15 = some (.ptr b (off + 15)) := by kernel_rfl
theorem ty_g31_15 (v : LV) : fieldAddrL Try.prog 31 (.cptr v) 15 = subL Try.prog 3 v 15 := by kernel_rfl
theorem ty_h31_15 (cs : List LV) : fieldL Try.prog 31 (.agg cs) 15 = partL Try.prog 3 cs 15 := by kernel_rfl
theorem ty_f31_16 (b off : Nat) : fieldAddrL Try.prog 31 (.ptr b off) 16 = some (.ptr b (off + 16)) := by kernel_rfl
theorem ty_g31_16 (v : LV) : fieldAddrL Try.prog 31 (.cptr v) 16 = subL Try.prog 3 v 16 := by kernel_rfl
theorem ty_h31_16 (cs : List LV) : fieldL Try.prog 31 (.agg cs) 16 = partL Try.prog 3 cs 16 := by kernel_rfl
theorem ty_f31_17 (b off : Nat) : fieldAddrL Try.prog 31 (.ptr b off) 17 = some (.ptr b (off + 17)) := by kernel_rfl
theorem ty_g31_17 (v : LV) : fieldAddrL Try.prog 31 (.cptr v) 17 = subL Try.prog 3 v 17 := by kernel_rfl
theorem ty_h31_17 (cs : List LV) : fieldL Try.prog 31 (.agg cs) 17 = partL Try.prog 3 cs 17 := by kernel_rfl
theorem ty_f31_18 (b off : Nat) : fieldAddrL Try.prog 31 (.ptr b off) 18 = some (.ptr b (off + 18)) := by kernel_rfl
theorem ty_g31_18 (v : LV) : fieldAddrL Try.prog 31 (.cptr v) 18 = subL Try.prog 4 v 18 := by kernel_rfl
theorem ty_h31_18 (cs : List LV) : fieldL Try.prog 31 (.agg cs) 18 = partL Try.prog 4 cs 18 := by kernel_rfl
theorem ty_m31 (parts : List (Nat × LV)) : buildL Try.prog 31 parts = aggK (fillL (plS [(0, 1), (1, 1), (2, 1), (3, 1), (4, 1), (5, 1), (6, 1), (7, 1), (8, 1), (9, 1), (10, 1), (11, 1), (12, 1), (13, 1), (14, 1), (15, 1), (16, 1), (17, 1), (18, 1)]) (LV.cells (.agg [(.int .i64 0), (.int .i64 0), (.int .i64 0), (.int .i64 0), (.int .i64 0), (.int .i64 0), (.int .i64 0), (.int .i64 0), (.int .i64 0), (.int .i64 0), (.int .i64 0), (.int .i64 0), (.int .i64 0), (.int .i64 0), (.int .i64 0), (.int .i64 0), (.int .i64 0), (.int .i64 0), (.bool false)])) parts) := build_s ty_z31 rfl ty_u31 (by kernel_rfl) parts (by kernel_rfl)
theorem ty_y31 (a0 b0 : Int) (a1 b1 : Int) (a2 b2 : Int) (a3 b3 : Int) (a4 b4 : Int) (a5 b5 : Int) (a6 b6 : Int) (a7 b7 : Int) (a8 b8 : Int) (a9 b9 : Int) (a10 b10 : Int) (a11 b11 : Int) (a12 b12 : Int) (a13 b13 : Int) (a14 b14 : Int) (a15 b15 : Int) (a16 b16 : Int) (a17 b17 : Int) (a18 b18 : Bool) : eqTopL Try.prog 31 (.agg [.int .i64 a0, .int .i64 a1, .int .i64 a2, .int .i64 a3, .int .i64 a4, .int .i64 a5, .int .i64 a6, .int .i64 a7, .int .i64 a8, .int .i64 a9, .int .i64 a10, .int .i64 a11, .int .i64 a12, .int .i64 a13, .int .i64 a14, .int .i64 a15, .int .i64 a16, .int .i64 a17, .bool a18]) (.agg [.int .i64 b0, .int .i64 b1, .int .i64 b2, .int .i64 b3, .int .i64 b4, .int .i64 b5, .int .i64 b6, .int .i64 b7, .int .i64 b8, .int .i64 b9, .int .i64 b10, .int .i64 b11, .int .i64 b12, .int .i64 b13, .int .i64 b14, .int .i64 b15, .int .i64 b16, .int .i64 b17, .bool b18]) = eqSeq [some (a0 == b0), some (a1 == b1), some (a2 == b2), some (a3 == b3), some (a4 == b4), some (a5 == b5), some (a6 == b6), some (a7 == b7), some (a8 == b8), some (a9 == b9), some (a10 == b10), some (a11 == b11), some (a12 == b12), some (a13 == b13), some (a14 == b14), some (a15 == b15), some (a16 == b16), some (a17 == b17), some (a18 == b18)] := by kernel_rfl
theorem ty_p33 (cs : List LV) (off : Nat) : partL Try.prog 33 cs off = partA 7 cs off := part_a ty_a33 ty_s33 cs off
theorem ty_v33 (v : LV) (off : Nat) : subL Try.prog 33 v off = sub2 (partA 7 v.cells off) := sub_a ty_a33 ty_s33 v off
theorem ty_f33_0 (b off : Nat) : fieldAddrL Try.prog 33 (.ptr b off) 0 = some (.ptr b (off + 0)) := by kernel_rfl
theorem ty_g33_0 (v : LV) : fieldAddrL Try.prog 33 (.cptr v) 0 = subL Try.prog 3 v 0 := by kernel_rfl
theorem ty_h33_0 (cs : List LV) : fieldL Try.prog 33 (.agg cs) 0 = partL Try.prog 3 cs 0 := by kernel_rfl
theorem ty_f33_1 (b off : Nat) : fieldAddrL Try.prog 33 (.ptr b off) 1 = some (.ptr b (off + 1)) := by kernel_rfl
theorem ty_g33_1 (v : LV) : fieldAddrL Try.prog 33 (.cptr v) 1 = subL Try.prog 29 v 1 := by kernel_rfl
theorem ty_h33_1 (cs : List LV) : fieldL Try.prog 33 (.agg cs) 1 = partL Try.prog 29 cs 1 := by kernel_rfl
theorem ty_f33_2 (b off : Nat) : fieldAddrL Try.prog 33 (.ptr b off) 2 = some (.ptr b (off + 2)) := by kernel_rfl
theorem ty_g33_2 (v : LV) : fieldAddrL Try.prog 33 (.cptr v) 2 = subL Try.prog 3 v 2 := by kernel_rfl
theorem ty_h33_2 (cs : List LV) : fieldL Try.prog 33 (.agg cs) 2 = partL Try.prog 3 cs 2 := by kernel_rfl
theorem ty_f33_3 (b off : Nat) : fieldAddrL Try.prog 33 (.ptr b off) 3 = some (.ptr b (off + 3)) := by kernel_rfl
theorem ty_g33_3 (v : LV) : fieldAddrL Try.prog 33 (.cptr v) 3 = subL Try.prog 29 v 3 := by kernel_rfl
theorem ty_h33_3 (cs : List LV) : fieldL Try.prog 33 (.agg cs) 3 = partL Try.prog 29 cs 3 := by kernel_rfl
theorem ty_f33_4 (b off : Nat) : fieldAddrL Try.prog 33 (.ptr b off) 4 = some (.ptr b (off + 4)) := by kernel_rfl
theorem ty_g33_4 (v : LV) : fieldAddrL Try.prog 33 (.cptr v) 4 = subL Try.prog 3 v 4 := by kernel_rfl
theorem ty_h33_4 (cs : List LV) : fieldL Try.prog 33 (.agg cs) 4 = partL Try.prog 3 cs 4 := by kernel_rfl
theorem ty_f33_5 (b off : Nat) : fieldAddrL Try.prog 33 (.ptr b off) 5 = some (.ptr b (off + 5)) := by kernel_rfl
theorem ty_g33_5 (v : LV) : fieldAddrL Try.prog 33 (.cptr v) 5 = subL Try.prog 29 v 5 := by kernel_rfl
theorem ty_h33_5 (cs : List LV) : fieldL Try.prog 33 (.agg cs) 5 = partL Try.prog 29 cs 5 := by kernel_rfl
theorem ty_f33_6 (b off : Nat) : fieldAddrL Try.prog 33 (.ptr b off) 6 = some (.ptr b (off + 6)) := by kernel_rfl
theorem ty_g33_6 (v : LV) : fieldAddrL Try.prog 33 (.cptr v) 6 = subL Try.prog 3 v 6 := by kernel_rfl
theorem ty_h33_6 (cs : List LV) : fieldL Try.prog 33 (.agg cs) 6 = partL Try.prog 3 cs 6 := by kernel_rfl
theorem ty_m33 (parts : List (Nat × LV)) : buildL Try.prog 33 parts = aggK (fillL (plS [(0, 1), (1, 1), (2, 1), (3, 1), (4, 1), (5, 1), (6, 1)]) (LV.cells (.agg [(.int .i64 0), (.int .i64 0), (.int .i64 0), (.int .i64 0), (.int .i64 0), (.int .i64 0), (.int .i64 0)])) parts) := build_s ty_z33 rfl ty_u33 (by kernel_rfl) parts (by kernel_rfl)
theorem ty_y33 (a0 b0 : Int) (a1 b1 : Int) (a2 b2 : Int) (a3 b3 : Int) (a4 b4 : Int) (a5 b5 : Int) (a6 b6 : Int) : eqTopL Try.prog 33 (.agg [.int .i64 a0, .int .i64 a1, .int .i64 a2, .int .i64 a3, .int .i64 a4, .int .i64 a5, .int .i64 a6]) (.agg [.int .i64 b0, .int .i64 b1, .int .i64 b2, .int .i64 b3, .int .i64 b4, .int .i64 b5, .int .i64 b6]) = eqSeq [some (a0 == b0), some (a1 == b1), some (a2 == b2), some (a3 == b3), some (a4 == b4), some (a5 == b5), some (a6 == b6)] := by kernel_rfl
theorem ty_p44 (cs : List LV) (off : Nat) : partL Try.prog 44 cs off = cs[off]? := part_s ty_a44 cs off
theorem ty_v44 (v : LV) (off : Nat) : subL Try.prog 44 v off = sub1 v.cells[off]? := sub_s ty_a44 v off
theorem ty_i44 (r hi : Nat) (xs : List LV) (k : IntKind) (n : Int) : indexAddrL Try.prog 44 (.sl r hi 1 xs) (.int k n) = iaS xs n := ia_sl ty_u44 ty_s3 r hi xs k n
theorem ty_l44 (r hi sz : Nat) (xs : List LV) : lenL Try.prog 44 (.sl r hi sz xs) = some (.int .i64 xs.length) := len_sl ty_u44 r hi sz xs
theorem ty_n44 : lenL Try.prog 44 .nils = some (.int .i64 0) := len_nils ty_u44
theorem ty_q44 (r p : Nat) (xs : List LV) (lo hi : Option LV) (h : H) : sliceL Try.prog 44 (.sl r p 1 xs) lo hi h = slK r p 1 xs h lo (boundL hi xs.length xs.length) := slice_sl ty_u44 ty_s3 r p xs lo hi h
theorem ty_r44 (lo hi : Option LV) (h : H) : sliceL Try.prog 44 .nils lo hi h = slKn h lo (boundL hi 0 0) := slice_nils ty_u44 ty_s3 lo hi h
theorem ty_w44 (s x : LV) (h : H) : appendL Try.prog 44 44 s x h = appS 1 8 s h (elemsL 1 x) := append_eq ty_u44 (.inr ⟨_, ty_u44⟩) ty_s3 ty_b3 ty_z3 rfl rfl (by decide) (by decide) s x h
theorem ty_k44 (len : Nat) (hb : len * 1 ≤ 2 ^ 24) (parts : List (Nat × LV)) (h : H) : buildSliceL Try.prog 44 len parts h = bsK Try.prog 3 1 len h (fillL (plA 1) (repL (LV.cells (.int .i64 0)) len) parts) := buildSlice_eq ty_u44 ty_s3 ty_z3 rfl rfl (by decide) len hb parts h
theorem ty_L44 (o : Option (Nat × Nat)) (sz : Nat) (xs : List LV) : lenL Try.prog 44 (mkS o sz xs) = some (.int .i64 xs.length) := len_mk ty_u44 o sz xs
theorem ty_I44 (o : Option (Nat × Nat)) (xs : List LV) (k : IntKind) (n : Int) : indexAddrL Try.prog 44 (mkS o 1 xs) (.int k n) = iaS xs n := ia_mk ty_u44 ty_s3 o xs k n
theorem ty_Q44 (o : Option (Nat × Nat)) (xs : List LV) (lo hi : Option LV) (h : H) : sliceL Try.prog 44 (mkS o 1 xs) lo hi h = slM o 1 xs h lo (boundL hi xs.length xs.length) := slice_mk ty_u44 ty_s3 o xs lo hi h
theorem ty_E44 (o : Option (Nat × Nat)) (sz : Nat) (xs : List LV) : binL Try.prog .eql 44 (mkS o sz xs) .nils = some (.bool (decide (o = none ∧ xs = []))) := bin_eql_mk ty_u44 o sz xs
theorem ty_D44 (o : Option (Nat × Nat)) (sz : Nat) (xs : List LV) : binL Try.prog .neq 44 (mkS o sz xs) .nils = some (.bool (!decide (o = none ∧ xs = []))) := bin_neq_mk ty_u44 o sz xs
theorem ty_c3 (n : Nat) (cs : List LV) : chunkL Try.prog 3 1 (n + 1) cs = chK1 cs (chunkL Try.prog 3 1 n (cs.drop 1)) := chunk_s ty_a3 n cs
theorem ty_e44_0 : binL Try.prog .eql 44 .nils .nils = some (.bool true) := bin_eql_of rfl (by rw [eqL_10000]; simp only [eqL, ty_u44]) (by simp)
theorem ty_e44_1 (r hi sz : Nat) (xs : List LV) : binL Try.prog .eql 44 .nils (.sl r hi sz xs) = some (.bool false) := bin_eql_of rfl (by rw [eqL_10000]; simp only [eqL, ty_u44]) (by simp)
theorem ty_e44_2 (r hi sz : Nat) (xs : List LV) : binL Try.prog .eql 44 (.sl r hi sz xs) .nils = some (.bool false) := bin_eql_of rfl (by rw [eqL_10000]; simp only [eqL, ty_u44]) (by simp)
theorem ty_d44_0 : binL Try.prog .neq 44 .nils .nils = some (.bool !true) := bin_neq_of rfl (by rw [eqL_10000]; simp only [eqL, ty_u44]) (by simp)
theorem ty_d44_1 (r hi sz : Nat) (xs : List LV) : binL Try.prog .neq 44 .nils (.sl r hi sz xs) = some (.bool !false) := bin_neq_of rfl (by rw [eqL_10000]; simp only [eqL, ty_u44]) (by simp)
theorem ty_d44_2 (r hi sz : Nat) (xs : List LV) : binL Try.prog .neq 44 (.sl r hi sz xs) .nils = some (.bool !false) := bin_neq_of rfl (by rw [eqL_10000]; simp only [eqL, ty_u44]) (by simp)
theorem ty_p48 (cs : List LV) (off : Nat) : partL Try.prog 48 cs off = cs[off]? := part_s ty_a48 cs off
theorem ty_v48 (v : LV) (off : Nat) : subL Try.prog 48 v off = sub1 v.cells[off]? := sub_s ty_a48 v off
theorem ty_i48 (r hi : Nat) (xs : List LV) (k : IntKind) (n : Int) : indexAddrL Try.prog 48 (.sl r hi 3 xs) (.int k n) = iaS xs n := ia_sl ty_u48 ty_s57 r hi xs k n
theorem ty_l48 (r hi sz : Nat) (xs : List LV) : lenL Try.prog 48 (.sl r hi sz xs) = some (.int .i64 xs.length) := len_sl ty_u48 r hi sz xs
theorem ty_n48 : lenL Try.prog 48 .nils = some (.int .i64 0) := len_nils ty_u48
theorem ty_q48 (r p : Nat) (xs : List LV) (lo hi : Option LV) (h : H) : sliceL Try.prog 48 (.sl r p 3 xs) lo hi h = slK r p 3 xs h lo (boundL hi xs.length xs.length) := slice_sl ty_u48 ty_s57 r p xs lo hi h
theorem ty_r48 (lo hi : Option LV) (h : H) : sliceL Try.prog 48 .nils lo hi h = slKn h lo (boundL hi 0 0) := slice_nils ty_u48 ty_s57 lo hi h
theorem ty_w48 (s x : LV) (h : H) : appendL Try.prog 48 48 s x h = appS 3 24 s h (elemsL 3 x) := append_eq ty_u48 (.inr ⟨_, ty_u48⟩) ty_s57 ty_b57 ty_z57 rfl rfl (by decide) (by decide) s x h
theorem ty_k48 (len : Nat) (hb : len * 3 ≤ 2 ^ 24) (parts : List (Nat × LV)) (h : H) : buildSliceL Try.prog 48 len parts h = bsK Try.prog 57 3 len h (fillL (plA 3) (repL (LV.cells (.agg [(.int .i64 0), (.int .i64 0), (.int .i64 0)])) len) parts) := buildSlice_eq ty_u48 ty_s57 ty_z57 rfl rfl (by decide) len hb parts h
theorem ty_L48 (o : Option (Nat × Nat)) (sz : Nat) (xs : List LV) : lenL Try.prog 48 (mkS o sz xs) = some (.int .i64 xs.length) := len_mk ty_u48 o sz xs
theorem ty_I48 (o : Option (Nat × Nat)) (xs : List LV) (k : IntKind) (n : Int) : indexAddrL Try.prog 48 (mkS o 3 xs) (.int k n) = iaS xs n := ia_mk ty_u48 ty_s57 o xs k n
theorem ty_Q48 (o : Option (Nat × Nat)) (xs : List LV) (lo hi : Option LV) (h : H) : sliceL Try.prog 48 (mkS o 3 xs) lo hi h = slM o 3 xs h lo (boundL hi xs.length xs.length) := slice_mk ty_u48 ty_s57 o xs lo hi h
theorem ty_E48 (o : Option (Nat × Nat)) (sz : Nat) (xs : List LV) : binL Try.prog .eql 48 (mkS o sz xs) .nils = some (.bool (decide (o = none ∧ xs = []))) := bin_eql_mk ty_u48 o sz xs
theorem ty_D48 (o : Option (Nat × Nat)) (sz : Nat) (xs : List LV) : binL Try.prog .neq 48 (mkS o sz xs) .nils = some (.bool (!decide (o = none ∧ xs = []))) := bin_neq_mk ty_u48 o sz xs
theorem ty_c57 (n : Nat) (cs : List LV) : chunkL Try.prog 57 3 (n + 1) cs = chK cs 3 (chunkL Try.prog 57 3 n (cs.drop 3)) := chunk_a ty_a57 n cs
theorem ty_e48_0 : binL Try.prog .eql 48 .nils .nils = some (.bool true) := bin_eql_of rfl (by rw [eqL_10000]; simp only [eqL, ty_u48]) (by simp)
theorem ty_e48_1 (r hi sz : Nat) (xs : List LV) : binL Try.prog .eql 48 .nils (.sl r hi sz xs) = some (.bool false) := bin_eql_of rfl (by rw [eqL_10000]; simp only [eqL, ty_u48]) (by simp)
theorem ty_e48_2 (r hi sz : Nat) (xs : List LV) : binL Try.prog .eql 48 (.sl r hi sz xs) .nils = some (.bool false) := bin_eql_of rfl (by rw [eqL_10000]; simp only [eqL, ty_u48]) (by simp)
theorem ty_d48_0 : binL Try.prog .neq 48 .nils .nils = some (.bool !true) := bin_neq_of rfl (by rw [eqL_10000]; simp only [eqL, ty_u48]) (by simp)
theorem ty_d48_1 (r hi sz : Nat) (xs : List LV) : binL Try.prog .neq 48 .nils (.sl r hi sz xs) = some (.bool !false) := bin_neq_of rfl (by rw [eqL_10000]; simp only [eqL, ty_u48]) (by simp)
theorem ty_d48_2 (r hi sz : Nat) (xs : List LV) : binL Try.prog .neq 48 (.sl r hi sz xs) .nils = some (.bool !false) := bin_neq_of rfl (by rw [eqL_10000]; simp only [eqL, ty_u48]) (by simp)
theorem ty_p50 (cs : List LV) (off : Nat) : partL Try.prog 50 cs off = cs[off]? := part_s ty_a50 cs off
theorem ty_v50 (v : LV) (off : Nat) : subL Try.prog 50 v off = sub1 v.cells[off]? := sub_s ty_a50 v off
theorem ty_e50_0 : binL Try.prog .eql 50 .nilp .nilp = some (.bool true) := bin_eql_of rfl (by rw [eqL_10000]; simp only [eqL, ty_u50]) (by simp)
theorem ty_e50_1 (b off : Nat) : binL Try.prog .eql 50 .nilp (.ptr b off) = some (.bool false) := bin_eql_of rfl (by rw [eqL_10000]; simp only [eqL, ty_u50]) (by simp)
theorem ty_e50_2 (b off : Nat) : binL Try.prog .eql 50 (.ptr b off) .nilp = some (.bool false) := bin_eql_of rfl (by rw [eqL_10000]; simp only [eqL, ty_u50]) (by simp)
theorem ty_e50_3 (v : LV) : binL Try.prog .eql 50 (.cptr v) .nilp = some (.bool false) := bin_eql_of rfl (by rw [eqL_10000]; simp only [eqL, ty_u50]) (by simp)
theorem ty_e50_4 (v : LV) : binL Try.prog .eql 50 .nilp (.cptr v) = some (.bool false) := bin_eql_of rfl (by rw [eqL_10000]; simp only [eqL, ty_u50]) (by simp)
theorem ty_d50_0 : binL Try.prog .neq 50 .nilp .nilp = some (.bool !true) := bin_neq_of rfl (by rw [eqL_10000]; simp only [eqL, ty_u50]) (by simp)
theorem ty_d50_1 (b off : Nat) : binL Try.prog .neq 50 .nilp (.ptr b off) = some (.bool !false) := bin_neq_of rfl (by rw [eqL_10000]; simp only [eqL, ty_u50]) (by simp)
theorem ty_d50_2 (b off : Nat) : binL Try.prog .neq 50 (.ptr b off) .nilp = some (.bool !false) := bin_neq_of rfl (by rw [eqL_10000]; simp only [eqL, ty_u50]) (by simp)
theorem ty_d50_3 (v : LV) : binL Try.prog .neq 50 (.cptr v) .nilp = some (.bool !false) := bin_neq_of rfl (by rw [eqL_10000]; simp only [eqL, ty_u50]) (by simp)
theorem ty_d50_4 (v : LV) : binL Try.prog .neq 50 .nilp (.cptr v) = some (.bool !false) := bin_neq_of rfl (by rw [eqL_10000]; simp only [eqL, ty_u50]) (by simp)
theorem ty_p53 (cs : List LV) (off : Nat) : partL Try.prog 53 cs off = partA 2 cs off := part_a ty_a53 ty_s53 cs off
theorem ty_v53 (v : LV) (off : Nat) : subL Try.prog 53 v off = sub2 (partA 2 v.cells off) := sub_a ty_a53 ty_s53 v off
theorem ty_f53_0 (b off : Nat) : fieldAddrL Try.prog 53 (.ptr b off) 0 = some (.ptr b (off + 0)) := by kernel_rfl
theorem ty_g53_0 (v : LV) : fieldAddrL Try.prog 53 (.cptr v) 0 = subL Try.prog 3 v 0 := by kernel_rfl
theorem ty_h53_0 (cs : List LV) : fieldL Try.prog 53 (.agg cs) 0 = partL Try.prog 3 cs 0 := by kernel_rfl
theorem ty_f53_1 (b off : Nat) : fieldAddrL Try.prog 53 (.ptr b off) 1 = some (.ptr b (off + 1)) := by kernel_rfl
theorem ty_g53_1 (v : LV) : fieldAddrL Try.prog 53 (.cptr v) 1 = subL Try.prog 3 v 1 := by kernel_rfl
theorem ty_h53_1 (cs : List LV) : fieldL Try.prog 53 (.agg cs) 1 = partL Try.prog 3 cs 1 := by kernel_rfl
theorem ty_m53 (parts : List (Nat × LV)) : buildL Try.prog 53 parts = aggK (fillL (plS [(0, 1), (1, 1)]) (LV.cells (.agg [(.int .i64 0), (.int .i64 0)])) parts) := build_s ty_z53 rfl ty_u53 (by kernel_rfl) parts (by kernel_rfl)
theorem ty_y53 (a0 b0 : Int) (a1 b1 : Int) : eqTopL Try.prog 53 (.agg [.int .i64 a0, .int .i64 a1]) (.agg [.int .i64 b0, .int .i64 b1]) = eqSeq [some (a0 == b0), some (a1 == b1)] := by kernel_rfl
theorem ty_p54 (cs : List LV) (off : Nat) : partL Try.prog 54 cs off = cs[off]? := part_s ty_a54 cs off
theorem ty_v54 (v : LV) (off : Nat) : subL Try.prog 54 v off = sub1 v.cells[off]? := sub_s ty_a54 v off
theorem ty_e54_0 : binL Try.prog .eql 54 .nilf .nilf = some (.bool true) := bin_eql_of rfl (by rw [eqL_10000]; simp only [eqL, ty_u54]) (by simp)
theorem ty_e54_1 (f : Nat) (a b : List LV) : binL Try.prog .eql 54 .nilf (.fn f a b) = some (.bool false) := bin_eql_of rfl (by rw [eqL_10000]; simp only [eqL, ty_u54]) (by simp)
theorem ty_e54_2 (f : Nat) (a b : List LV) : binL Try.prog .eql 54 (.fn f a b) .nilf = some (.bool false) := bin_eql_of rfl (by rw [eqL_10000]; simp only [eqL, ty_u54]) (by simp)
theorem ty_d54_0 : binL Try.prog .neq 54 .nilf .nilf = some (.bool !true) := bin_neq_of rfl (by rw [eqL_10000]; simp only [eqL, ty_u54]) (by simp)
theorem ty_d54_1 (f : Nat) (a b : List LV) : binL Try.prog .neq 54 .nilf (.fn f a b) = some (.bool !false) := bin_neq_of rfl (by rw [eqL_10000]; simp only [eqL, ty_u54]) (by simp)
theorem ty_d54_2 (f : Nat) (a b : List LV) : binL Try.prog .neq 54 (.fn f a b) .nilf = some (.bool !false) := bin_neq_of rfl (by rw [eqL_10000]; simp only [eqL, ty_u54]) (by simp)
theorem ty_p55 (cs : List LV) (off : Nat) : partL Try.prog 55 cs off = cs[off]? := part_s ty_a55 cs off
theorem ty_v55 (v : LV) (off : Nat) : subL Try.prog 55 v off = sub1 v.cells[off]? := sub_s ty_a55 v off
theorem ty_i55 (r hi : Nat) (xs : List LV) (k : IntKind) (n : Int) : indexAddrL Try.prog 55 (.sl r hi 2 xs) (.int k n) = iaS xs n := ia_sl ty_u55 ty_s53 r hi xs k n
theorem ty_l55 (r hi sz : Nat) (xs : List LV) : lenL Try.prog 55 (.sl r hi sz xs) = some (.int .i64 xs.length) := len_sl ty_u55 r hi sz xs
theorem ty_n55 : lenL Try.prog 55 .nils = some (.int .i64 0) := len_nils ty_u55
theorem ty_q55 (r p : Nat) (xs : List LV) (lo hi : Option LV) (h : H) : sliceL Try.prog 55 (.sl r p 2 xs) lo hi h = slK r p 2 xs h lo (boundL hi xs.length xs.length) := slice_sl ty_u55 ty_s53 r p xs lo hi h
theorem ty_r55 (lo hi : Option LV) (h : H) : sliceL Try.prog 55 .nils lo hi h = slKn h lo (boundL hi 0 0) := slice_nils ty_u55 ty_s53 lo hi h
theorem ty_w55 (s x : LV) (h : H) : appendL Try.prog 55 55 s x h = appS 2 16 s h (elemsL 2 x) := append_eq ty_u55 (.inr ⟨_, ty_u55⟩) ty_s53 ty_b53 ty_z53 rfl rfl (by decide) (by decide) s x h
theorem ty_k55 (len : Nat) (hb : len * 2 ≤ 2 ^ 24) (parts : List (Nat × LV)) (h : H) : buildSliceL Try.prog 55 len parts h = bsK Try.prog 53 2 len h (fillL (plA 2) (repL (LV.cells (.agg [(.int .i64 0), (.int .i64 0)])) len) parts) := buildSlice_eq ty_u55 ty_s53 ty_z53 rfl rfl (by decide) len hb parts h
theorem ty_L55 (o : Option (Nat × Nat)) (sz : Nat) (xs : List LV) : lenL Try.prog 55 (mkS o sz xs) = some (.int .i64 xs.length) := len_mk ty_u55 o sz xs
theorem ty_I55 (o : Option (Nat × Nat)) (xs : List LV) (k : IntKind) (n : Int) : indexAddrL Try.prog 55 (mkS o 2 xs) (.int k n) = iaS xs n := ia_mk ty_u55 ty_s53 o xs k n
theorem ty_Q55 (o : Option (Nat × Nat)) (xs : List LV) (lo hi : Option LV) (h : H) : sliceL Try.prog 55 (mkS o 2 xs) lo hi h = slM o 2 xs h lo (boundL hi xs.length xs.length) := slice_mk ty_u55 ty_s53 o xs lo hi h
theorem ty_E55 (o : Option (Nat × Nat)) (sz : Nat) (xs : List LV) : binL Try.prog .eql 55 (mkS o sz xs) .nils = some (.bool (decide (o = none ∧ xs = []))) := bin_eql_mk ty_u55 o sz xs
theorem ty_D55 (o : Option (Nat × Nat)) (sz : Nat) (xs : List LV) : binL Try.prog .neq 55 (mkS o sz xs) .nils = some (.bool (!decide (o = none ∧ xs = []))) := bin_neq_mk ty_u55 o sz xs
theorem ty_c53 (n : Nat) (cs : List LV) : chunkL Try.prog 53 2 (n + 1) cs = chK cs 2 (chunkL Try.prog 53 2 n (cs.drop 2)) := chunk_a ty_a53 n cs
theorem ty_F55 (s : S) (h : H) (x : Operand) (lo hi mx : Option Operand) : fzO Try.prog s h (.slice 55 x lo hi mx) = h := fzO_sl ty_u55
theorem ty_e55_0 : binL Try.prog .eql 55 .nils .nils = some (.bool true) := bin_eql_of rfl (by rw [eqL_10000]; simp only [eqL, ty_u55]) (by simp)
theorem ty_e55_1 (r hi sz : Nat) (xs : List LV) : binL Try.prog .eql 55 .nils (.sl r hi sz xs) = some (.bool false) := bin_eql_of rfl (by rw [eqL_10000]; simp only [eqL, ty_u55]) (by simp)
theorem ty_e55_2 (r hi sz : Nat) (xs : List LV) : binL Try.prog .eql 55 (.sl r hi sz xs) .nils = some (.bool false) := bin_eql_of rfl (by rw [eqL_10000]; simp only [eqL, ty_u55]) (by simp)
theorem ty_d55_0 : binL Try.prog .neq 55 .nils .nils = some (.bool !true) := bin_neq_of rfl (by rw [eqL_10000]; simp only [eqL, ty_u55]) (by simp)
theorem ty_d55_1 (r hi sz : Nat) (xs : List LV) : binL Try.prog .neq 55 .nils (.sl r hi sz xs) = some (.bool !false) := bin_neq_of rfl (by rw [eqL_10000]; simp only [eqL, ty_u55]) (by simp)
theorem ty_d55_2 (r hi sz : Nat) (xs : List LV) : binL Try.prog .neq 55 (.sl r hi sz xs) .nils = some (.bool !false) := bin_neq_of rfl (by rw [eqL_10000]; simp only [eqL, ty_u55]) (by simp)
theorem ty_p57 (cs : List LV) (off : Nat) : partL Try.prog 57 cs off = partA 3 cs off := part_a ty_a57 ty_s57 cs off
theorem ty_v57 (v : LV) (off : Nat) : subL Try.prog 57 v off = sub2 (partA 3 v.cells off) := sub_a ty_a57 ty_s57 v off
theorem ty_f57_0 (b off : Nat) : fieldAddrL Try.prog 57 (.ptr b off) 0 = some (.ptr b (off + 0)) := by kernel_rfl
theorem ty_g57_0 (v : LV) : fieldAddrL Try.prog 57 (.cptr v) 0 = subL Try.prog 3 v 0 := by kernel_rfl
theorem ty_h57_0 (cs : List LV) : fieldL Try.prog 57 (.agg cs) 0 = partL Try.prog 3 cs 0 := by kernel_rfl
theorem ty_f57_1 (b off : Nat) : fieldAddrL Try.prog 57 (.ptr b off) 1 = some (.ptr b (off + 1)) := by kernel_rfl
theorem ty_g57_1 (v : LV) : fieldAddrL Try.prog 57 (.cptr v) 1 = subL Try.prog 53 v 1 := by kernel_rfl
theorem ty_h57_1 (cs : List LV) : fieldL Try.prog 57 (.agg cs) 1 = partL Try.prog 53 cs 1 := by kernel_rfl
theorem ty_m57 (parts : List (Nat × LV)) : buildL Try.prog 57 parts = aggK (fillL (plS [(0, 1), (1, 2)]) (LV.cells (.agg [(.int .i64 0), (.int .i64 0), (.int .i64 0)])) parts) := build_s ty_z57 rfl ty_u57 (by kernel_rfl) parts (by kernel_rfl)
theorem ty_p75 (cs : List LV) (off : Nat) : partL Try.prog 75 cs off = cs[off]? := part_s ty_a75 cs off
theorem ty_v75 (v : LV) (off : Nat) : subL Try.prog 75 v off = sub1 v.cells[off]? := sub_s ty_a75 v off
theorem ty_e75_0 : binL Try.prog .eql 75 .nilp .nilp = some (.bool true) := bin_eql_of rfl (by rw [eqL_10000]; simp only [eqL, ty_u75]) (by simp)
theorem ty_e75_1 (b off : Nat) : binL Try.prog .eql 75 .nilp (.ptr b off) = some (.bool false) := bin_eql_of rfl (by rw [eqL_10000]; simp only [eqL, ty_u75]) (by simp)
theorem ty_e75_2 (b off : Nat) : binL Try.prog .eql 75 (.ptr b off) .nilp = some (.bool false) := bin_eql_of rfl (by rw [eqL_10000]; simp only [eqL, ty_u75]) (by simp)
theorem ty_e75_3 (v : LV) : binL Try.prog .eql 75 (.cptr v) .nilp = some (.bool false) := bin_eql_of rfl (by rw [eqL_10000]; simp only [eqL, ty_u75]) (by simp)
theorem ty_e75_4 (v : LV) : binL Try.prog .eql 75 .nilp (.cptr v) = some (.bool false) := bin_eql_of rfl (by rw [eqL_10000]; simp only [eqL, ty_u75]) (by simp)
theorem ty_d75_0 : binL Try.prog .neq 75 .nilp .nilp = some (.bool !true) := bin_neq_of rfl (by rw [eqL_10000]; simp only [eqL, ty_u75]) (by simp)
theorem ty_d75_1 (b off : Nat) : binL Try.prog .neq 75 .nilp (.ptr b off) = some (.bool !false) := bin_neq_of rfl (by rw [eqL_10000]; simp only [eqL, ty_u75]) (by simp)
theorem ty_d75_2 (b off : Nat) : binL Try.prog .neq 75 (.ptr b off) .nilp = some (.bool !false) := bin_neq_of rfl (by rw [eqL_10000]; simp only [eqL, ty_u75]) (by simp)
theorem ty_d75_3 (v : LV) : binL Try.prog .neq 75 (.cptr v) .nilp = some (.bool !false) := bin_neq_of rfl (by rw [eqL_10000]; simp only [eqL, ty_u75]) (by simp)
theorem ty_d75_4 (v : LV) : binL Try.prog .neq 75 .nilp (.cptr v) = some (.bool !false) := bin_neq_of rfl (by rw [eqL_10000]; simp only [eqL, ty_u75]) (by simp)
theorem ty_p77 (cs : List LV) (off : Nat) : partL Try.prog 77 cs off = partA 1 cs off := part_a ty_a77 ty_s77 cs off
theorem ty_v77 (v : LV) (off : Nat) : subL Try.prog 77 v off = sub2 (partA 1 v.cells off) := sub_a ty_a77 ty_s77 v off
theorem ty_f77_0 (b off : Nat) : fieldAddrL Try.prog 77 (.ptr b off) 0 = some (.ptr b (off + 0)) := by kernel_rfl
theorem ty_g77_0 (v : LV) : fieldAddrL Try.prog 77 (.cptr v) 0 = subL Try.prog 75 v 0 := by kernel_rfl
theorem ty_h77_0 (cs : List LV) : fieldL Try.prog 77 (.agg cs) 0 = partL Try.prog 75 cs 0 := by kernel_rfl
theorem ty_m77 (parts : List (Nat × LV)) : buildL Try.prog 77 parts = aggK (fillL (plS [(0, 1)]) (LV.cells (.agg [.nilp])) parts) := build_s ty_z77 rfl ty_u77 (by kernel_rfl) parts (by kernel_rfl)
theorem ty_p79 (cs : List LV) (off : Nat) : partL Try.prog 79 cs off = partA 2 cs off := part_a ty_a79 ty_s79 cs off
theorem ty_v79 (v : LV) (off : Nat) : subL Try.prog 79 v off = sub2 (partA 2 v.cells off) := sub_a ty_a79 ty_s79 v off
theorem ty_f79_0 (b off : Nat) : fieldAddrL Try.prog 79 (.ptr b off) 0 = some (.ptr b (off + 0)) := by kernel_rfl
theorem ty_g79_0 (v : LV) : fieldAddrL Try.prog 79 (.cptr v) 0 = subL Try.prog 55 v 0 := by kernel_rfl
theorem ty_h79_0 (cs : List LV) : fieldL Try.prog 79 (.agg cs) 0 = partL Try.prog 55 cs 0 := by kernel_rfl
theorem ty_f79_1 (b off : Nat) : fieldAddrL Try.prog 79 (.ptr b off) 1 = some (.ptr b (off + 1)) := by kernel_rfl
theorem ty_g79_1 (v : LV) : fieldAddrL Try.prog 79 (.cptr v) 1 = subL Try.prog 54 v 1 := by kernel_rfl
theorem ty_h79_1 (cs : List LV) : fieldL Try.prog 79 (.agg cs) 1 = partL Try.prog 54 cs 1 := by kernel_rfl
theorem ty_m79 (parts : List (Nat × LV)) : buildL Try.prog 79 parts = aggK (fillL (plS [(0, 1), (1, 1)]) (mutZ (LV.cells (.agg [.nils, .nilf]))) parts) := build_m ty_z79 rfl ty_u79 (by kernel_rfl) parts (by kernel_rfl)
attribute [go_sem] ty_s2
  ty_z2
  ty_s3
  ty_z3
  ty_s4
  ty_z4
  ty_s22
  ty_z22
  ty_s29
  ty_z29
  ty_s31
  ty_z31
  ty_s33
  ty_z33
  ty_s44
  ty_z44
  ty_s48
  ty_z48
  ty_s50
  ty_z50
  ty_s53
  ty_z53
  ty_s54
  ty_z54
  ty_s55
  ty_z55
  ty_s57
  ty_z57
  ty_s75
  ty_z75
  ty_s77
  ty_z77
  ty_s79
  ty_z79
  ty_p2
  ty_v2
  ty_p3
  ty_v3
  ty_p4
  ty_v4
  ty_e4
  ty_d4
  ty_p22
  ty_v22
  ty_i22
  ty_l22
  ty_n22
  ty_q22
  ty_r22
  ty_w22
  ty_k22
  ty_L22
  ty_I22
  ty_Q22
  ty_E22
  ty_D22
  ty_c33
  ty_e22_0
  ty_e22_1
  ty_e22_2
  ty_d22_0
  ty_d22_1
  ty_d22_2
  ty_p29
  ty_v29
  ty_p31
  ty_v31
  ty_f31_0
  ty_g31_0
  ty_h31_0
  ty_f31_1
  ty_g31_1
  ty_h31_1
  ty_f31_2
  ty_g31_2
  ty_h31_2
  ty_f31_3
  ty_g31_3
  ty_h31_3
  ty_f31_4
  ty_g31_4
  ty_h31_4
  ty_f31_5
  ty_g31_5
  ty_h31_5
  ty_f31_6
  ty_g31_6
  ty_h31_6
  ty_f31_7
  ty_g31_7
  ty_h31_7
  ty_f31_8
  ty_g31_8
  ty_h31_8
  ty_f31_9
  ty_g31_9
  ty_h31_9
  ty_f31_10
  ty_g31_10
  ty_h31_10
  ty_f31_11
  ty_g31_11
  ty_h31_11
  ty_f31_12
  ty_g31_12
  ty_h31_12
  ty_f31_13
  ty_g31_13
  ty_h31_13
  ty_f31_14
  ty_g31_14
  ty_h31_14
  ty_f31_15
  ty_g31_15
  ty_h31_15
  ty_f31_16
  ty_g31_16
  ty_h31_16
  ty_f31_17
  ty_g31_17
  ty_h31_17
  ty_f31_18
  ty_g31_18
  ty_h31_18
  ty_m31
  ty_y31
  ty_p33
  ty_v33
  ty_f33_0
  ty_g33_0
  ty_h33_0
  ty_f33_1
  ty_g33_1
  ty_h33_1
  ty_f33_2
  ty_g33_2
  ty_h33_2
  ty_f33_3
  ty_g33_3
  ty_h33_3
  ty_f33_4
  ty_g33_4
  ty_h33_4
  ty_f33_5
  ty_g33_5
  ty_h33_5
  ty_f33_6
  ty_g33_6
  ty_h33_6
  ty_m33
  ty_y33
  ty_p44
  ty_v44
  ty_i44
  ty_l44
  ty_n44
  ty_q44
  ty_r44
  ty_w44
  ty_k44
  ty_L44
  ty_I44
  ty_Q44
  ty_E44
  ty_D44
  ty_c3
  ty_e44_0
  ty_e44_1
  ty_e44_2
  ty_d44_0
  ty_d44_1
  ty_d44_2
  ty_p48
  ty_v48
  ty_i48
  ty_l48
  ty_n48
  ty_q48
  ty_r48
  ty_w48
  ty_k48
  ty_L48
  ty_I48
  ty_Q48
  ty_E48
  ty_D48
  ty_c57
  ty_e48_0
  ty_e48_1
  ty_e48_2
  ty_d48_0
  ty_d48_1
  ty_d48_2
  ty_p50
  ty_v50
  ty_e50_0
  ty_e50_1
  ty_e50_2
  ty_e50_3
  ty_e50_4
  ty_d50_0
  ty_d50_1
  ty_d50_2
  ty_d50_3
  ty_d50_4
  ty_p53
  ty_v53
  ty_f53_0
  ty_g53_0
  ty_h53_0
  ty_f53_1
  ty_g53_1
  ty_h53_1
  ty_m53
  ty_y53
  ty_p54
  ty_v54
  ty_e54_0
  ty_e54_1
  ty_e54_2
  ty_d54_0
  ty_d54_1
  ty_d54_2
  ty_p55
  ty_v55
  ty_i55
  ty_l55
  ty_n55
  ty_q55
  ty_r55
  ty_w55
  ty_k55
  ty_L55
  ty_I55
  ty_Q55
  ty_E55
  ty_D55
  ty_c53
  ty_F55
  ty_e55_0
  ty_e55_1
  ty_e55_2
  ty_d55_0
  ty_d55_1
  ty_d55_2
  ty_p57
  ty_v57
  ty_f57_0
  ty_g57_0
  ty_h57_0
  ty_f57_1
  ty_g57_1
  ty_h57_1
  ty_m57
  ty_p75
  ty_v75
  ty_e75_0
  ty_e75_1
  ty_e75_2
  ty_e75_3
  ty_e75_4
  ty_d75_0
  ty_d75_1
  ty_d75_2
  ty_d75_3
  ty_d75_4
  ty_p77
  ty_v77
  ty_f77_0
  ty_g77_0
  ty_h77_0
  ty_m77
  ty_p79
  ty_v79
  ty_f79_0
  ty_g79_0
  ty_h79_0
  ty_f79_1
  ty_g79_1
  ty_h79_1
  ty_m79

end Go.LM
