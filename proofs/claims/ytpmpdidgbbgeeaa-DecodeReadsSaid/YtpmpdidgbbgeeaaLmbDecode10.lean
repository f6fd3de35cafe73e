import Derived.Test.YtpmpdidgbbgeeaaLmTrbR3
import Derived.Test.YtpmpdidgbbgeeaaLmbDecode7
import Derived.Test.YtpmpdidgbbgeeaaLmbDecode9
namespace Go.LM
open Go.Proofs
set_option maxRecDepth 16000
set_option maxHeartbeats 8000000
set_option linter.unusedSimpArgs false
set_option linter.unusedVariables false
/-- The document's reader of a job at work. -/
structure WJ (h0 : H) (q d a c : Nat) (pt : ByteArray) (C : List LV) (r : RS) (hh : H) : Prop where
  rdr : Rdr h0 q r hh
  gd : hh.get d = some ⟨false, [.ptr q 0, .str pt]⟩
  ga : hh.get a = some ⟨false, jZ⟩
  gc : hh.get c = some ⟨false, C⟩
  dq : d ≠ q
  aq : a ≠ q
  cq : c ≠ q
  da : d ≠ a
  dc : d ≠ c
  ac : a ≠ c
  h0d : h0.len ≤ d
  h0a : h0.len ≤ a
  h0c : h0.len ≤ c
  lo : h0.lob ≤ h0.len
theorem WJ.call {h0 hh h' : H} {q d a c : Nat} {pt : ByteArray} {C : List LV} {r r' : RS} (w : WJ h0 q d a c pt C r hh) (R : Rdr h0 q r' h') (O : Otr q hh h') : WJ h0 q d a c pt C r' h' :=
  ⟨R, (O.get (lt_of_get w.gd) w.dq).trans w.gd, (O.get (lt_of_get w.ga) w.aq).trans w.ga, (O.get (lt_of_get w.gc) w.cq).trans w.gc, w.dq, w.aq, w.cq, w.da, w.dc, w.ac, w.h0d, w.h0a, w.h0c, w.lo⟩
theorem WJ.same {h0 hh h' : H} {q d a c : Nat} {pt : ByteArray} {C : List LV} {r r' : RS} (w : WJ h0 q d a c pt C r hh) (R : Rdr h0 q r' h') (e : ∀ y, h'.get y = hh.get y) : WJ h0 q d a c pt C r' h' :=
  ⟨R, (e d).trans w.gd, (e a).trans w.ga, (e c).trans w.gc, w.dq, w.aq, w.cq, w.da, w.dc, w.ac, w.h0d, w.h0a, w.h0c, w.lo⟩
theorem WJ.putc {h0 hh : H} {q d a c : Nat} {pt : ByteArray} {C : List LV} {r : RS} (w : WJ h0 q d a c pt C r hh) (C' : List LV) : WJ h0 q d a c pt C' r (hh.put c ⟨false, C'⟩) :=
  ⟨w.rdr.put2 w.cq w.h0c _, (get_put_ne (Ne.symm w.dc)).trans w.gd, (get_put_ne (Ne.symm w.ac)).trans w.ga, get_put_eq (lt_of_get w.gc), w.dq, w.aq, w.cq, w.da, w.dc, w.ac, w.h0d, w.h0a, w.h0c, w.lo⟩
theorem WJ.putd {h0 hh : H} {q d a c : Nat} {pt : ByteArray} {C : List LV} {r : RS} (w : WJ h0 q d a c pt C r hh) (pt' : ByteArray) : WJ h0 q d a c pt' C r (hh.put d ⟨false, [.ptr q 0, .str pt']⟩) :=
  ⟨w.rdr.put2 w.dq w.h0d _, get_put_eq (lt_of_get w.gd), (get_put_ne w.da).trans w.ga, (get_put_ne w.dc).trans w.gc, w.dq, w.aq, w.cq, w.da, w.dc, w.ac, w.h0d, w.h0a, w.h0c, w.lo⟩
theorem WJ.lob {h0 hh : H} {q d a c : Nat} {pt : ByteArray} {C : List LV} {r : RS} (w : WJ h0 q d a c pt C r hh) : hh.lob ≤ d ∧ hh.lob ≤ a ∧ hh.lob ≤ c := by
  have := w.rdr.keep.lob; have := w.lo; have := w.h0d; have := w.h0a; have := w.h0c
  omega
theorem WJ.lt {h0 hh : H} {q d a c : Nat} {pt : ByteArray} {C : List LV} {r : RS} (w : WJ h0 q d a c pt C r hh) : d < hh.len ∧ a < hh.len ∧ c < hh.len := ⟨lt_of_get w.gd, lt_of_get w.ga, lt_of_get w.gc⟩
/-- What the document's reader of a job answers. -/
def okJobD (h0 : H) (q d : Nat) (b : List Int) (v : LV) (h' : H) : Prop :=
  (∃ x : JobR, v = x.e ∧ okJR x ∧ ((jS5 b).2.stop = false → x.plain = jobOf b)) ∧ Rdr h0 q (jS5 b).2 h' ∧ h'.get d = some ⟨false, [.ptr q 0, .str (partS (partN b))]⟩
theorem okJobD.leave {h0 hh : H} {q d a c i : Nat} {b : List Int} {C : List LV} {r : RS} (x : JobR) (W : WJ h0 q d a c (partS i) C r hh) (hi : i < 5) (hp : ∀ k, k ≤ i → (jSt b k).stop = false)
    (hr : jSt b (i + 1) = r) (hs : r.stop = true) (ok : okJR x) (B : Box) : okJobD h0 q d b x.e (hh.put a B) := by
  obtain ⟨p1, p2⟩ := jfin hi hp (by rw [hr]; exact hs)
  refine ⟨⟨x, rfl, ok, fun h => ?_⟩, ?_, ?_⟩
  · rw [p2, hr, hs] at h; cases h
  · rw [p2, hr]; exact W.rdr.put2 W.aq W.h0a B
  · rw [p1]; exact (get_put_ne (Ne.symm W.da)).trans W.gd
theorem okJobD.fin {h0 hh : H} {q d a c : Nat} {b : List Int} {C : List LV} (x : JobR) (W : WJ h0 q d a c (partS 5) C (jS5 b).2 hh) (hs : (jS5 b).2.stop = false) (ok : okJR x) (hx : x.plain = jobOf b) (B : Box) : okJobD h0 q d b x.e (hh.put a B) := by
  refine ⟨⟨x, rfl, ok, fun _ => hx⟩, W.rdr.put2 W.aq W.h0a B, ?_⟩
  rw [partN_end hs]; exact (get_put_ne (Ne.symm W.da)).trans W.gd
theorem each_fin {α : Type} {one : RS → α × RS} {r r' : RS} {zs : List α} (h : gather one r.count.1.toNat r.count.2 = (zs, r')) : (eachL one r).2 = r' ∧ (r'.stop = false → (eachL one r).1 = zs) := by
  unfold eachL
  rw [h]
  dsimp only
  split
  · rename_i hs; exact ⟨rfl, fun h => by rw [h] at hs; cases hs⟩
  · exact ⟨rfl, fun _ => rfl⟩
theorem read_mark (r : RS) (s : ByteArray) : (r.read ⟨0, s, 0, false, none, []⟩).2 = r.mark (strB s) := by unfold RS.read; rw [if_pos rfl]
def AllI (l : List ItemR) : Prop := ∀ x ∈ l, x.ok
def okN (x : NoteR) : Prop := x.plain.1.length ≤ 2000 ∧ x.plain.2.length ≤ 2000 ∧ (∀ n ∈ x.plain.1, I64 n) ∧ ∀ n ∈ x.plain.2, I64 n
def AllN (l : List NoteR) : Prop := ∀ x ∈ l, okN x
def AllF (l : List FloatR) : Prop := ∀ x ∈ l, x.ok
theorem AllI.snoc {l : List ItemR} {x : ItemR} (h : AllI l) (hx : x.ok) : AllI (l ++ [x]) := by
  intro y hy
  rcases List.mem_append.1 hy with hy | hy
  · exact h y hy
  · obtain rfl := List.mem_singleton.1 hy; exact hx
theorem AllN.snoc {l : List NoteR} {x : NoteR} (h : AllN l) (hx : okN x) : AllN (l ++ [x]) := by
  intro y hy
  rcases List.mem_append.1 hy with hy | hy
  · exact h y hy
  · obtain rfl := List.mem_singleton.1 hy; exact hx
theorem AllF.snoc {l : List FloatR} {x : FloatR} (h : AllF l) (hx : x.ok) : AllF (l ++ [x]) := by
  intro y hy
  rcases List.mem_append.1 hy with hy | hy
  · exact h y hy
  · obtain rfl := List.mem_singleton.1 hy; exact hx
theorem okN_of {x : NoteR} {r : RS} {b : List Int} (hx : x.plain = (noteRd r).1) (ok : r.ok) (hb : r.b = b) (hl : b.length ≤ 2000) : okN x := by
  have l1 := each_len RS.int_one ok
  have ok2 := (each_one RS.int_one).ok r ok
  have b2 := ((each_one RS.int_one).b r).trans hb
  have l2 := each_len RS.int_one ok2
  rw [hb] at l1
  rw [b2] at l2
  unfold okN
  rw [hx]
  exact ⟨Nat.le_trans l1 hl, Nat.le_trans l2 hl, each_all (B := b) RS.int_one (fun q okq _ => (RS.int_ok okq).2.1) ok hb, each_all (B := b) RS.int_one (fun q okq _ => (RS.int_ok okq).2.1) ok2 b2⟩
theorem okJ_mk {g : GeomR} {oi on of : Option (Nat × Nat)} {zs1 : List ItemR} {zs2 : List NoteR} {zs3 : List FloatR} (hg : g.ok) (l1 : zs1.length ≤ 2000) (a1 : AllI zs1) (l2 : zs2.length ≤ 2000) (a2 : AllN zs2) (l3 : zs3.length ≤ 2000) (a3 : AllF zs3) :
    okJR ⟨g, oi, zs1, on, zs2, of, zs3⟩ :=
  ⟨hg, l1, a1, by simpa [JobR.plain] using l2, fun x hx => by
    obtain ⟨y, hy, rfl⟩ := List.mem_map.1 hx
    exact a2 y hy, l3, a3⟩
theorem allI_nil : AllI [] := fun x h => by cases h
theorem allN_nil : AllN [] := fun x h => by cases h
theorem allF_nil : AllF [] := fun x h => by cases h
def IJ1x (h0 : H) (b : List Int) (q d a c n : Nat) (g : GeomR) (i : Nat) (hh : H) : Prop :=
  ∃ (o : Option (Nat × Nat)) (zs : List ItemR) (r' : RS), WJ h0 q d a c ⟨#[105, 116, 101, 109, 115]⟩ [.int .i64 g.c0, .int .i64 g.c1, .int .i64 g.c2, .int .i64 g.c3, .int .i64 g.c4, .int .i64 g.c5, .int .i64 g.c6, .int .i64 g.c7, .int .i64 g.c8, .int .i64 g.c9, .int .i64 g.c10, .int .i64 g.c11, .int .i64 g.c12, .int .i64 g.c13, .int .i64 g.c14, .int .i64 g.c15, .int .i64 g.c16, .int .i64 g.c17, .bool g.bal, mkS o 7 (zs.map ItemR.e), .nils, .nils] r' hh ∧ Gth h0 h0 q r' o zs.length hh ∧ zs.length = i ∧ i ≤ n ∧ r'.ok ∧ r'.b = b ∧ AllI zs ∧
    gather itemRd n (jS2 b).2.count.2 = (zs.map id ++ (gather itemRd (n - i) r').1, (gather itemRd (n - i) r').2)
def IJ1 (h0 : H) (b : List Int) (q d a c n : Nat) (g : GeomR) (i : Nat) (s : S) (hh : H) : Prop :=
  s 0 = .ptr d 0 ∧ s 2 = .ptr a 0 ∧ s 3 = .ptr c 0 ∧ s 4 = .int .i64 n ∧ s 5 = .int .i64 i ∧ IJ1x h0 b q d a c n g i hh
def IJ2x (h0 : H) (b : List Int) (q d a c n : Nat) (g : GeomR) (o1 : Option (Nat × Nat)) (zs1 : List ItemR) (i : Nat) (hh : H) : Prop :=
  ∃ (o : Option (Nat × Nat)) (zs : List NoteR) (r' : RS), WJ h0 q d a c ⟨#[110, 111, 116, 101, 115]⟩ [.int .i64 g.c0, .int .i64 g.c1, .int .i64 g.c2, .int .i64 g.c3, .int .i64 g.c4, .int .i64 g.c5, .int .i64 g.c6, .int .i64 g.c7, .int .i64 g.c8, .int .i64 g.c9, .int .i64 g.c10, .int .i64 g.c11, .int .i64 g.c12, .int .i64 g.c13, .int .i64 g.c14, .int .i64 g.c15, .int .i64 g.c16, .int .i64 g.c17, .bool g.bal, mkS o1 7 (zs1.map ItemR.e), mkS o 2 (zs.map NoteR.e), .nils] r' hh ∧ Gth h0 h0 q r' o zs.length hh ∧ zs.length = i ∧ i ≤ n ∧ r'.ok ∧ r'.b = b ∧ AllN zs ∧
    gather noteRd n (jS3 b).2.count.2 = (zs.map NoteR.plain ++ (gather noteRd (n - i) r').1, (gather noteRd (n - i) r').2)
def IJ2 (h0 : H) (b : List Int) (q d a c n : Nat) (g : GeomR) (o1 : Option (Nat × Nat)) (zs1 : List ItemR) (i : Nat) (s : S) (hh : H) : Prop :=
  s 0 = .ptr d 0 ∧ s 2 = .ptr a 0 ∧ s 3 = .ptr c 0 ∧ s 4 = .int .i64 n ∧ s 6 = .int .i64 i ∧ IJ2x h0 b q d a c n g o1 zs1 i hh
def IJ3x (h0 : H) (b : List Int) (q d a c n : Nat) (g : GeomR) (o1 : Option (Nat × Nat)) (zs1 : List ItemR) (o2 : Option (Nat × Nat)) (zs2 : List NoteR) (i : Nat) (hh : H) : Prop :=
  ∃ (o : Option (Nat × Nat)) (zs : List FloatR) (r' : RS), WJ h0 q d a c ⟨#[102, 108, 111, 97, 116, 115]⟩ [.int .i64 g.c0, .int .i64 g.c1, .int .i64 g.c2, .int .i64 g.c3, .int .i64 g.c4, .int .i64 g.c5, .int .i64 g.c6, .int .i64 g.c7, .int .i64 g.c8, .int .i64 g.c9, .int .i64 g.c10, .int .i64 g.c11, .int .i64 g.c12, .int .i64 g.c13, .int .i64 g.c14, .int .i64 g.c15, .int .i64 g.c16, .int .i64 g.c17, .bool g.bal, mkS o1 7 (zs1.map ItemR.e), mkS o2 2 (zs2.map NoteR.e), mkS o 3 (zs.map FloatR.e)] r' hh ∧ Gth h0 h0 q r' o zs.length hh ∧ zs.length = i ∧ i ≤ n ∧ r'.ok ∧ r'.b = b ∧ AllF zs ∧
    gather floatRd n (jS4 b).2.count.2 = (zs.map id ++ (gather floatRd (n - i) r').1, (gather floatRd (n - i) r').2)
def IJ3 (h0 : H) (b : List Int) (q d a c n : Nat) (g : GeomR) (o1 : Option (Nat × Nat)) (zs1 : List ItemR) (o2 : Option (Nat × Nat)) (zs2 : List NoteR) (i : Nat) (s : S) (hh : H) : Prop :=
  s 0 = .ptr d 0 ∧ s 2 = .ptr a 0 ∧ s 3 = .ptr c 0 ∧ s 4 = .int .i64 n ∧ s 7 = .int .i64 i ∧ IJ3x h0 b q d a c n g o1 zs1 o2 zs2 i hh
theorem cRJobR17 (h0 : H) (b : List Int) (hb : ∀ c ∈ b, 0 ≤ c ∧ c < 256) (hl : b.length ≤ 2000) (q d : Nat) (p0 : ByteArray) (h : H) (R : Rdr h0 q ⟨b, 0, false⟩ h) (gd0 : h.get d = some ⟨false, [.ptr q 0, .str p0]⟩)
    (dq : d ≠ q) (h0d : h0.len ≤ d) (lo : h0.lob ≤ h0.len) :
    ∃ v h', runI Try.prog TA 103 [.ptr d 0] h = some (v, h') ∧ okJobD h0 q d b v h' := by
  refine calls_of rfl res103 rfl ?_
  have J := jok hb
  have ok0 := rs0_ok hb
  have ld := lt_of_get gd0
  have lq := R.lt
  have hk := R.keep.len
  have lobd : h.lob ≤ d := by rw [R.keep.lob]; omega
  have hp0 : ∀ k, k ≤ 0 → (jSt b k).stop = false := by
    intro k hk; obtain rfl : k = 0 := by omega
    rfl
  have ld1 : d < h.len + 1 := by omega
  have ld2 : d < h.len + 1 + 1 := by omega
  simp (maxSteps := 10000000) (maxDischargeDepth := 30) only [q103, r103, gd0, ld, ld1, ld2, lobd, go_sem, Nat.reduceEqDiff, ↓reduceIte, Nat.reduceAdd, Nat.reduceMul, Nat.reduceLeDiff, Nat.reduceLT, reduceCtorEq, Int.reduceToNat, Int.reduceLE, Int.reduceLT, Int.reduceEq, Int.reduceNeg, Int.reduceNe, Nat.reduceSub, IntKind.bits]
  generalize hgg : H.put (H.alloc _ _) _ _ = g
  have W : WJ h0 q d h.len (h.len + 1) ⟨#[109, 97, 103, 105, 99]⟩ jZ ⟨b, 0, false⟩ g := by
    have W0 : WJ h0 q d h.len (h.len + 1) p0 jZ ⟨b, 0, false⟩ ((h.alloc jZ).alloc jZ) := by
      refine ⟨R.next (((Keep.refl h).alloc _).alloc _), ?_, ?_, ?_, dq, by omega, by omega, by omega, by omega, by omega, h0d, by omega, by omega, lo⟩
      · rw [get_alloc_lt (by rw [len_alloc]; omega), get_alloc_lt ld]; exact gd0
      · rw [get_alloc_lt (by rw [len_alloc]; omega), get_alloc_eq]
      · rw [show h.len + 1 = (h.alloc jZ).len by rw [len_alloc]]; exact get_alloc_eq _ _
    rw [← hgg]; exact W0.putd _
  clear hgg
  try (simp (maxSteps := 10000000) (maxDischargeDepth := 30) only [go_sem, Nat.reduceEqDiff, ↓reduceIte, Nat.reduceAdd, Nat.reduceMul, Nat.reduceLeDiff, Nat.reduceLT, reduceCtorEq, Int.reduceToNat, Int.reduceLE, Int.reduceLT, Int.reduceEq, Int.reduceNeg, Int.reduceNe, Nat.reduceSub, IntKind.bits])
  refine ro_vcall (cRRead06 h0 q ⟨b, 0, false⟩ ⟨0, ⟨#[84, 89, 77, 49]⟩, 0, false, none, []⟩ g W.rdr ok0 (by show b.length ≤ _; omega) (by decide)) (fun v h1 J1 => ?_)
  obtain ⟨⟨o0, rfl⟩, R1, O1⟩ := J1
  rw [read_mark] at R1
  have W1 : WJ h0 q d h.len (h.len + 1) ⟨#[109, 97, 103, 105, 99]⟩ jZ (jS1 b) h1 := W.call R1 O1
  clear W R1 O1
  have ga := W1.ga
  have gc := W1.gc
  have gd := W1.gd
  obtain ⟨lobd, loba, lobc⟩ := W1.lob
  obtain ⟨ltd, lta, ltc⟩ := W1.lt
  obtain ⟨t, hq⟩ := W1.rdr.get
  cases hs1 : (jS1 b).stop
  rotate_left
  · simp (maxSteps := 10000000) (maxDischargeDepth := 30) only [gd, hq, hs1, gc, ga, lta, loba, go_sem, Nat.reduceEqDiff, ↓reduceIte, Nat.reduceAdd, Nat.reduceMul, Nat.reduceLeDiff, Nat.reduceLT, reduceCtorEq, Int.reduceToNat, Int.reduceLE, Int.reduceLT, Int.reduceEq, Int.reduceNeg, Int.reduceNe, Nat.reduceSub, IntKind.bits]
    exact okJobD.leave (i := 0) jobZ W1 (by omega) hp0 rfl hs1 okZ _
  have hp1 : ∀ k, k ≤ 1 → (jSt b k).stop = false := by
    intro k hk; obtain rfl | rfl : k = 0 ∨ k = 1 := by omega
    · rfl
    · exact hs1
  simp (maxSteps := 10000000) (maxDischargeDepth := 30) only [gd, hq, hs1, ltd, lobd, go_sem, Nat.reduceEqDiff, ↓reduceIte, Nat.reduceAdd, Nat.reduceMul, Nat.reduceLeDiff, Nat.reduceLT, reduceCtorEq, Int.reduceToNat, Int.reduceLE, Int.reduceLT, Int.reduceEq, Int.reduceNeg, Int.reduceNe, Nat.reduceSub, IntKind.bits]
  generalize hgg : H.put _ _ _ = g
  have W2 : WJ h0 q d h.len (h.len + 1) ⟨#[103, 101, 111, 109, 101, 116, 114, 121]⟩ jZ (jS1 b) g := by rw [← hgg]; exact W1.putd _
  clear hgg W1 ga gc gd lobd loba lobc ltd lta ltc hq
  try (simp (maxSteps := 10000000) (maxDischargeDepth := 30) only [go_sem, Nat.reduceEqDiff, ↓reduceIte, Nat.reduceAdd, Nat.reduceMul, Nat.reduceLeDiff, Nat.reduceLT, reduceCtorEq, Int.reduceToNat, Int.reduceLE, Int.reduceLT, Int.reduceEq, Int.reduceNeg, Int.reduceNe, Nat.reduceSub, IntKind.bits])
  refine ro_vcall (cRGeom17 h0 q d [.str ⟨#[103, 101, 111, 109, 101, 116, 114, 121]⟩] (jS1 b) g W2.rdr W2.gd dq J.o1 (by rw [J.b1]; omega)) (fun v h3 J3 => ?_)
  obtain ⟨rfl, R3, O3⟩ := J3
  have W3 : WJ h0 q d h.len (h.len + 1) ⟨#[103, 101, 111, 109, 101, 116, 114, 121]⟩ jZ (jS2 b).2 h3 := W2.call R3 O3
  have hge : ∃ g, g = (jS2 b).1 := ⟨_, rfl⟩
  obtain ⟨g, hge⟩ := hge
  have ev : (geomRd (jS1 b)).1.e = .agg [.int .i64 g.c0, .int .i64 g.c1, .int .i64 g.c2, .int .i64 g.c3, .int .i64 g.c4, .int .i64 g.c5, .int .i64 g.c6, .int .i64 g.c7, .int .i64 g.c8, .int .i64 g.c9, .int .i64 g.c10, .int .i64 g.c11, .int .i64 g.c12, .int .i64 g.c13, .int .i64 g.c14, .int .i64 g.c15, .int .i64 g.c16, .int .i64 g.c17, .bool g.bal] := by rw [hge]; rfl
  have hgo : g.ok := by rw [hge]; exact geomRd_ok J.o1
  clear W2 R3 O3
  have W4 := W3.putc [.int .i64 g.c0, .int .i64 g.c1, .int .i64 g.c2, .int .i64 g.c3, .int .i64 g.c4, .int .i64 g.c5, .int .i64 g.c6, .int .i64 g.c7, .int .i64 g.c8, .int .i64 g.c9, .int .i64 g.c10, .int .i64 g.c11, .int .i64 g.c12, .int .i64 g.c13, .int .i64 g.c14, .int .i64 g.c15, .int .i64 g.c16, .int .i64 g.c17, .bool g.bal, .nils, .nils, .nils]
  have gc3 := W3.gc
  obtain ⟨lobd, loba, lobc⟩ := W3.lob
  obtain ⟨ltd, lta, ltc⟩ := W3.lt
  have ga := W4.ga
  have gc := W4.gc
  have gd := W4.gd
  obtain ⟨t, hq⟩ := W4.rdr.get
  cases hs2 : (jS2 b).2.stop
  rotate_left
  · rw [hs2] at hq
    simp (maxSteps := 10000000) (maxDischargeDepth := 30) only [ev, gc3, lobc, ltc, gd, hq, hs2, gc, ga, lta, loba, go_sem, Nat.reduceEqDiff, ↓reduceIte, Nat.reduceAdd, Nat.reduceMul, Nat.reduceLeDiff, Nat.reduceLT, reduceCtorEq, Int.reduceToNat, Int.reduceLE, Int.reduceLT, Int.reduceEq, Int.reduceNeg, Int.reduceNe, Nat.reduceSub, IntKind.bits]
    exact okJobD.leave (i := 1) ⟨g, none, [], none, [], none, []⟩ W4 (by omega) hp1 rfl hs2 (okJ_mk hgo (by simp) allI_nil (by simp) allN_nil (by simp) allF_nil) _
  have hp2 : ∀ k, k ≤ 2 → (jSt b k).stop = false := by
    intro k hk; obtain hk | rfl : k ≤ 1 ∨ k = 2 := by omega
    · exact hp1 k hk
    · exact hs2
  rw [hs2] at hq
  simp (maxSteps := 10000000) (maxDischargeDepth := 30) only [ev, gc3, lobc, ltc, gd, hq, hs2, ltd, lobd, go_sem, Nat.reduceEqDiff, ↓reduceIte, Nat.reduceAdd, Nat.reduceMul, Nat.reduceLeDiff, Nat.reduceLT, reduceCtorEq, Int.reduceToNat, Int.reduceLE, Int.reduceLT, Int.reduceEq, Int.reduceNeg, Int.reduceNe, Nat.reduceSub, IntKind.bits]
  generalize hgg : H.put _ _ _ = m
  have W5 : WJ h0 q d h.len (h.len + 1) ⟨#[105, 116, 101, 109, 115]⟩ [.int .i64 g.c0, .int .i64 g.c1, .int .i64 g.c2, .int .i64 g.c3, .int .i64 g.c4, .int .i64 g.c5, .int .i64 g.c6, .int .i64 g.c7, .int .i64 g.c8, .int .i64 g.c9, .int .i64 g.c10, .int .i64 g.c11, .int .i64 g.c12, .int .i64 g.c13, .int .i64 g.c14, .int .i64 g.c15, .int .i64 g.c16, .int .i64 g.c17, .bool g.bal, .nils, .nils, .nils] (jS2 b).2 m := by rw [← hgg]; exact W4.putd _
  clear hgg W4 W3 ga gc gc3 gd lobd loba lobc ltd lta ltc hq
  try (simp (maxSteps := 10000000) (maxDischargeDepth := 30) only [go_sem, Nat.reduceEqDiff, ↓reduceIte, Nat.reduceAdd, Nat.reduceMul, Nat.reduceLeDiff, Nat.reduceLT, reduceCtorEq, Int.reduceToNat, Int.reduceLE, Int.reduceLT, Int.reduceEq, Int.reduceNeg, Int.reduceNe, Nat.reduceSub, IntKind.bits])
  refine ro_wcall (cXCount h0 q (jS2 b).2 _ W5.rdr J.o2 (by rw [J.b2]; omega)) (fun hc J6 => ?_)
  have Wc := W5.call J6.1 J6.2
  clear J6 W5
  have hc1 := RS.count_ok J.o2
  have hcb1 := RS.count_b (jS2 b).2
  obtain ⟨n1, hn1⟩ : ∃ n : Nat, (jS2 b).2.count.1 = (n : Int) := ⟨(jS2 b).2.count.1.toNat, by omega⟩
  have hnt1 : (jS2 b).2.count.1.toNat = n1 := by omega
  have hnb1 : n1 ≤ 2000 := by have := hc1.2.2; rw [J.b2] at this; omega
  rw [hn1]
  simp (maxSteps := 10000000) (maxDischargeDepth := 30) only [go_sem, Nat.reduceEqDiff, ↓reduceIte, Nat.reduceAdd, Nat.reduceMul, Nat.reduceLeDiff, Nat.reduceLT, reduceCtorEq, Int.reduceToNat, Int.reduceLE, Int.reduceLT, Int.reduceEq, Int.reduceNeg, Int.reduceNe, Nat.reduceSub, IntKind.bits]
  refine ru_loop (fun i => n1 - i) (IJ1 h0 b q d h.len (h.len + 1) n1 g) 0 ?_ ?_
  · unfold IJ1
    simp (maxSteps := 10000000) (maxDischargeDepth := 30) only [Int.natCast_zero, go_sem, Nat.reduceEqDiff, ↓reduceIte, Nat.reduceAdd, Nat.reduceMul, Nat.reduceLeDiff, Nat.reduceLT, reduceCtorEq, Int.reduceToNat, Int.reduceLE, Int.reduceLT, Int.reduceEq, Int.reduceNeg, Int.reduceNe, Nat.reduceSub, IntKind.bits]
    exact ⟨none, [], (jS2 b).2.count.2, Wc, .start Wc.rdr (Wc.rdr.keep.otr q), rfl, Nat.zero_le _, hc1.1, hcb1.trans J.b2, allI_nil, by simp⟩
  clear Wc
  rintro i s hh ⟨e0, e2, e3, e4, e5, o, zs, r', W, G, hz, hi, ok', hb', hA, hg⟩
  obtain ⟨lobd, loba, lobc⟩ := W.lob
  obtain ⟨ltd, lta, ltc⟩ := W.lt
  have ga := W.ga
  have gc := W.gc
  have gd := W.gd
  obtain ⟨t, hq⟩ := W.rdr.get
  cases hs : r'.stop
  rotate_left
  · have e := (each_fin (one := itemRd) (r := (jS2 b).2) (r' := r') (zs := zs.map id) (by rw [hnt1]; exact fin_gather hg (.inr hs))).1
    have hj : jSt b 3 = r' := e
    rw [hs] at hq
    have okx := okJ_mk (oi := o) (on := none) (of := none) hgo (by omega) hA (by simp) allN_nil (by simp) allF_nil
    by_cases c1 : (i : Int) < n1
    · simp (maxSteps := 10000000) (maxDischargeDepth := 30) only [e0, e2, e3, e4, e5, c1, gd, hq, hs, gc, ga, lta, loba, go_sem, Nat.reduceEqDiff, ↓reduceIte, Nat.reduceAdd, Nat.reduceMul, Nat.reduceLeDiff, Nat.reduceLT, reduceCtorEq, Int.reduceToNat, Int.reduceLE, Int.reduceLT, Int.reduceEq, Int.reduceNeg, Int.reduceNe, Nat.reduceSub, IntKind.bits]
      exact okJobD.leave (i := 2) ⟨g, o, zs, none, [], none, []⟩ W (by omega) hp2 hj hs okx _
    · simp (maxSteps := 10000000) (maxDischargeDepth := 30) only [e0, e2, e3, e4, e5, c1, gd, hq, hs, gc, ga, lta, loba, go_sem, Nat.reduceEqDiff, ↓reduceIte, Nat.reduceAdd, Nat.reduceMul, Nat.reduceLeDiff, Nat.reduceLT, reduceCtorEq, Int.reduceToNat, Int.reduceLE, Int.reduceLT, Int.reduceEq, Int.reduceNeg, Int.reduceNe, Nat.reduceSub, IntKind.bits]
      exact okJobD.leave (i := 2) ⟨g, o, zs, none, [], none, []⟩ W (by omega) hp2 hj hs okx _
  rw [hs] at hq
  by_cases c1 : (i : Int) < n1
  · refine ru_step ?_
    have hlr : r'.b.length ≤ 1000000000000 := by rw [hb']; omega
    have ew : IntKind.i64.wrap ((i : Int) + 1) = ((i + 1 : Nat) : Int) := by rw [wrap64 (by omega) (by omega)]; omega
    simp (maxSteps := 10000000) (maxDischargeDepth := 30) only [e0, e2, e3, e4, e5, c1, gd, hq, hs, gc, go_sem, Nat.reduceEqDiff, ↓reduceIte, Nat.reduceAdd, Nat.reduceMul, Nat.reduceLeDiff, Nat.reduceLT, reduceCtorEq, Int.reduceToNat, Int.reduceLE, Int.reduceLT, Int.reduceEq, Int.reduceNeg, Int.reduceNe, Nat.reduceSub, IntKind.bits]
    refine rw_vcallW (cRItem17 h0 q d [.str ⟨#[105, 116, 101, 109, 115]⟩] r' hh W.rdr W.gd dq ok' hlr) (fun v hx J => by have := (J.2.2.get ltc W.cq).trans gc; simp (maxSteps := 10000000) (maxDischargeDepth := 30) only [this, gc, go_sem, Nat.reduceEqDiff, ↓reduceIte, Nat.reduceAdd, Nat.reduceMul, Nat.reduceLeDiff, Nat.reduceLT, reduceCtorEq, Int.reduceToNat, Int.reduceLE, Int.reduceLT, Int.reduceEq, Int.reduceNeg, Int.reduceNe, Nat.reduceSub, IntKind.bits]) (fun v h3 J3 => ?_)
    obtain ⟨rfl, R3, O3⟩ := J3
    obtain ⟨x, hx⟩ : ∃ x, x = (itemRd r').1 := ⟨_, rfl⟩
    rw [← hx]
    have hxo : x.ok := by rw [hx]; exact item_64 ok'
    have W3 : WJ h0 q d h.len (h.len + 1) ⟨#[105, 116, 101, 109, 115]⟩ _ (itemRd r').2 h3 := W.call R3 O3
    have G3 : Gth h0 h0 q (itemRd r').2 o zs.length (h3.nrow 1) := (G.step R3 O3).next ((Keep.refl h3).nrow 1)
    rw [show zs.length = (zs.map ItemR.e).length by rw [List.length_map]] at G3
    obtain ⟨o4, hm, ap, Ga, gm, -, lbm, -⟩ := G3.app (sz := 7) (by_ := 56) (xs := zs.map ItemR.e) (Nat.le_refl _) [ItemR.e x] (by rw [List.length_map, hz, List.length_singleton]; omega)
    have ezs : zs.map ItemR.e ++ [ItemR.e x] = (zs ++ [x]).map ItemR.e := by simp
    rw [ezs] at ap Ga
    rw [List.length_map] at Ga
    have Wm := W3.same Ga.rdr (fun y => (gm y).trans (get_nrow _ _ _))
    have gcm := Wm.gc
    have lobm := Wm.lob.2.2
    have ltm := Wm.lt.2.2
    simp only [ItemR.e] at ap
    simp (maxSteps := 10000000) (maxDischargeDepth := 30) only [e0, e2, e3, e4, e5, ItemR.e, ap, ew, gcm, lobm, ltm, go_sem, Nat.reduceEqDiff, ↓reduceIte, Nat.reduceAdd, Nat.reduceMul, Nat.reduceLeDiff, Nat.reduceLT, reduceCtorEq, Int.reduceToNat, Int.reduceLE, Int.reduceLT, Int.reduceEq, Int.reduceNeg, Int.reduceNe, Nat.reduceSub, IntKind.bits]
    refine ⟨i + 1, by omega, ?_⟩
    unfold IJ1
    simp (maxSteps := 10000000) (maxDischargeDepth := 30) only [e0, e2, e3, e4, go_sem, Nat.reduceEqDiff, ↓reduceIte, Nat.reduceAdd, Nat.reduceMul, Nat.reduceLeDiff, Nat.reduceLT, reduceCtorEq, Int.reduceToNat, Int.reduceLE, Int.reduceLT, Int.reduceEq, Int.reduceNeg, Int.reduceNe, Nat.reduceSub, IntKind.bits]
    refine ⟨o4, zs ++ [x], (itemRd r').2, Wm.putc _, Ga.put2 W.cq W.h0c W.h0c _, by simp [hz], by omega, item_one.ok r' ok', (item_one.b r').trans hb', hA.snoc hxo, ?_⟩
    rw [List.map_append, List.map_cons, List.map_nil, show id x = (itemRd r').1 from hx]
    exact step_gather (by omega) hs hg
  obtain ⟨f2, f1⟩ := each_fin (one := itemRd) (r := (jS2 b).2) (r' := r') (zs := zs.map id) (by rw [hnt1]; exact fin_gather hg (.inl (by omega)))
  have hj : (jS3 b).2 = r' := f2
  have hzs1 : (jS3 b).1 = zs.map id := f1 hs
  subst hj
  have hp3 : ∀ k, k ≤ 3 → (jSt b k).stop = false := by
    intro k hk; obtain hk | rfl : k ≤ 2 ∨ k = 3 := by omega
    · exact hp2 k hk
    · exact hs
  simp (maxSteps := 10000000) (maxDischargeDepth := 30) only [e0, e2, e3, e4, e5, c1, gd, hq, hs, ltd, lobd, go_sem, Nat.reduceEqDiff, ↓reduceIte, Nat.reduceAdd, Nat.reduceMul, Nat.reduceLeDiff, Nat.reduceLT, reduceCtorEq, Int.reduceToNat, Int.reduceLE, Int.reduceLT, Int.reduceEq, Int.reduceNeg, Int.reduceNe, Nat.reduceSub, IntKind.bits]
  have hl1 : zs.length ≤ 2000 := by omega
  have hA1 := hA
  obtain ⟨o1, ho1⟩ : ∃ x, x = o := ⟨_, rfl⟩
  obtain ⟨zs1, hzz1⟩ : ∃ x, x = zs := ⟨_, rfl⟩
  rw [← hzz1] at hl1 hA1 hzs1 W gc
  rw [← ho1] at W gc
  have W6 := W.putd ⟨#[110, 111, 116, 101, 115]⟩
  generalize H.put _ _ _ = m at *
  clear hA hg hi hz W G ga gc gd lobd loba lobc ltd lta ltc hq c1 hb' ok' hs f1 f2 hnt1 hnb1 hn1 hcb1 hc1
  try (simp (maxSteps := 10000000) (maxDischargeDepth := 30) only [e0, go_sem, Nat.reduceEqDiff, ↓reduceIte, Nat.reduceAdd, Nat.reduceMul, Nat.reduceLeDiff, Nat.reduceLT, reduceCtorEq, Int.reduceToNat, Int.reduceLE, Int.reduceLT, Int.reduceEq, Int.reduceNeg, Int.reduceNe, Nat.reduceSub, IntKind.bits])
  refine ro_wcall (cXCount h0 q (jS3 b).2 _ W6.rdr J.o3 (by rw [J.b3]; omega)) (fun hc J6 => ?_)
  have Wc := W6.call J6.1 J6.2
  clear J6 W6
  have hc2 := RS.count_ok J.o3
  have hcb2 := RS.count_b (jS3 b).2
  obtain ⟨n2, hn2⟩ : ∃ n : Nat, (jS3 b).2.count.1 = (n : Int) := ⟨(jS3 b).2.count.1.toNat, by omega⟩
  have hnt2 : (jS3 b).2.count.1.toNat = n2 := by omega
  have hnb2 : n2 ≤ 2000 := by have := hc2.2.2; rw [J.b3] at this; omega
  rw [hn2]
  simp (maxSteps := 10000000) (maxDischargeDepth := 30) only [go_sem, Nat.reduceEqDiff, ↓reduceIte, Nat.reduceAdd, Nat.reduceMul, Nat.reduceLeDiff, Nat.reduceLT, reduceCtorEq, Int.reduceToNat, Int.reduceLE, Int.reduceLT, Int.reduceEq, Int.reduceNeg, Int.reduceNe, Nat.reduceSub, IntKind.bits]
  refine ru_loop (fun i => n2 - i) (IJ2 h0 b q d h.len (h.len + 1) n2 g o1 zs1) 0 ?_ ?_
  · unfold IJ2
    simp (maxSteps := 10000000) (maxDischargeDepth := 30) only [Int.natCast_zero, e0, e2, e3, go_sem, Nat.reduceEqDiff, ↓reduceIte, Nat.reduceAdd, Nat.reduceMul, Nat.reduceLeDiff, Nat.reduceLT, reduceCtorEq, Int.reduceToNat, Int.reduceLE, Int.reduceLT, Int.reduceEq, Int.reduceNeg, Int.reduceNe, Nat.reduceSub, IntKind.bits]
    exact ⟨none, [], (jS3 b).2.count.2, Wc, .start Wc.rdr (Wc.rdr.keep.otr q), rfl, Nat.zero_le _, hc2.1, hcb2.trans J.b3, allN_nil, by simp⟩
  clear e0 e2 e3 e4 e5
  clear Wc
  rintro i s hh ⟨e0, e2, e3, e4, e5, o, zs, r', W, G, hz, hi, ok', hb', hA, hg⟩
  obtain ⟨lobd, loba, lobc⟩ := W.lob
  obtain ⟨ltd, lta, ltc⟩ := W.lt
  have ga := W.ga
  have gc := W.gc
  have gd := W.gd
  obtain ⟨t, hq⟩ := W.rdr.get
  cases hs : r'.stop
  rotate_left
  · have e := (each_fin (one := noteRd) (r := (jS3 b).2) (r' := r') (zs := zs.map NoteR.plain) (by rw [hnt2]; exact fin_gather hg (.inr hs))).1
    have hj : jSt b 4 = r' := e
    rw [hs] at hq
    have okx := okJ_mk (oi := o1) (on := o) (of := none) hgo hl1 hA1 (by omega) hA (by simp) allF_nil
    by_cases c1 : (i : Int) < n2
    · simp (maxSteps := 10000000) (maxDischargeDepth := 30) only [e0, e2, e3, e4, e5, c1, gd, hq, hs, gc, ga, lta, loba, go_sem, Nat.reduceEqDiff, ↓reduceIte, Nat.reduceAdd, Nat.reduceMul, Nat.reduceLeDiff, Nat.reduceLT, reduceCtorEq, Int.reduceToNat, Int.reduceLE, Int.reduceLT, Int.reduceEq, Int.reduceNeg, Int.reduceNe, Nat.reduceSub, IntKind.bits]
      exact okJobD.leave (i := 3) ⟨g, o1, zs1, o, zs, none, []⟩ W (by omega) hp3 hj hs okx _
    · simp (maxSteps := 10000000) (maxDischargeDepth := 30) only [e0, e2, e3, e4, e5, c1, gd, hq, hs, gc, ga, lta, loba, go_sem, Nat.reduceEqDiff, ↓reduceIte, Nat.reduceAdd, Nat.reduceMul, Nat.reduceLeDiff, Nat.reduceLT, reduceCtorEq, Int.reduceToNat, Int.reduceLE, Int.reduceLT, Int.reduceEq, Int.reduceNeg, Int.reduceNe, Nat.reduceSub, IntKind.bits]
      exact okJobD.leave (i := 3) ⟨g, o1, zs1, o, zs, none, []⟩ W (by omega) hp3 hj hs okx _
  rw [hs] at hq
  by_cases c1 : (i : Int) < n2
  · refine ru_step ?_
    have hlr : r'.b.length ≤ 1000000000000 := by rw [hb']; omega
    have ew : IntKind.i64.wrap ((i : Int) + 1) = ((i + 1 : Nat) : Int) := by rw [wrap64 (by omega) (by omega)]; omega
    simp (maxSteps := 10000000) (maxDischargeDepth := 30) only [e0, e2, e3, e4, e5, c1, gd, hq, hs, gc, go_sem, Nat.reduceEqDiff, ↓reduceIte, Nat.reduceAdd, Nat.reduceMul, Nat.reduceLeDiff, Nat.reduceLT, reduceCtorEq, Int.reduceToNat, Int.reduceLE, Int.reduceLT, Int.reduceEq, Int.reduceNeg, Int.reduceNe, Nat.reduceSub, IntKind.bits]
    refine rw_vcallW (cRNote17 h0 q d [.str ⟨#[110, 111, 116, 101, 115]⟩] r' hh W.rdr W.gd dq ok' hlr) (fun v hx J => by have := (J.2.2.get ltc W.cq).trans gc; simp (maxSteps := 10000000) (maxDischargeDepth := 30) only [this, gc, go_sem, Nat.reduceEqDiff, ↓reduceIte, Nat.reduceAdd, Nat.reduceMul, Nat.reduceLeDiff, Nat.reduceLT, reduceCtorEq, Int.reduceToNat, Int.reduceLE, Int.reduceLT, Int.reduceEq, Int.reduceNeg, Int.reduceNe, Nat.reduceSub, IntKind.bits]) (fun v h3 J3 => ?_)
    obtain ⟨⟨x, rfl, hx⟩, R3, O3⟩ := J3
    have hxo : okN x := okN_of hx ok' hb' hl
    have W3 : WJ h0 q d h.len (h.len + 1) ⟨#[110, 111, 116, 101, 115]⟩ _ (noteRd r').2 h3 := W.call R3 O3
    have G3 : Gth h0 h0 q (noteRd r').2 o zs.length (h3.nrow 1) := (G.step R3 O3).next ((Keep.refl h3).nrow 1)
    rw [show zs.length = (zs.map NoteR.e).length by rw [List.length_map]] at G3
    obtain ⟨o4, hm, ap, Ga, gm, -, lbm, -⟩ := G3.app (sz := 2) (by_ := 48) (xs := zs.map NoteR.e) (Nat.le_refl _) [NoteR.e x] (by rw [List.length_map, hz, List.length_singleton]; omega)
    have ezs : zs.map NoteR.e ++ [NoteR.e x] = (zs ++ [x]).map NoteR.e := by simp
    rw [ezs] at ap Ga
    rw [List.length_map] at Ga
    have Wm := W3.same Ga.rdr (fun y => (gm y).trans (get_nrow _ _ _))
    have gcm := Wm.gc
    have lobm := Wm.lob.2.2
    have ltm := Wm.lt.2.2
    simp only [NoteR.e] at ap
    simp (maxSteps := 10000000) (maxDischargeDepth := 30) only [e0, e2, e3, e4, e5, NoteR.e, ap, ew, gcm, lobm, ltm, go_sem, Nat.reduceEqDiff, ↓reduceIte, Nat.reduceAdd, Nat.reduceMul, Nat.reduceLeDiff, Nat.reduceLT, reduceCtorEq, Int.reduceToNat, Int.reduceLE, Int.reduceLT, Int.reduceEq, Int.reduceNeg, Int.reduceNe, Nat.reduceSub, IntKind.bits]
    refine ⟨i + 1, by omega, ?_⟩
    unfold IJ2
    simp (maxSteps := 10000000) (maxDischargeDepth := 30) only [e0, e2, e3, e4, go_sem, Nat.reduceEqDiff, ↓reduceIte, Nat.reduceAdd, Nat.reduceMul, Nat.reduceLeDiff, Nat.reduceLT, reduceCtorEq, Int.reduceToNat, Int.reduceLE, Int.reduceLT, Int.reduceEq, Int.reduceNeg, Int.reduceNe, Nat.reduceSub, IntKind.bits]
    refine ⟨o4, zs ++ [x], (noteRd r').2, Wm.putc _, Ga.put2 W.cq W.h0c W.h0c _, by simp [hz], by omega, note_one.ok r' ok', (note_one.b r').trans hb', hA.snoc hxo, ?_⟩
    rw [List.map_append, List.map_cons, List.map_nil, hx]
    exact step_gather (by omega) hs hg
  obtain ⟨f2, f1⟩ := each_fin (one := noteRd) (r := (jS3 b).2) (r' := r') (zs := zs.map NoteR.plain) (by rw [hnt2]; exact fin_gather hg (.inl (by omega)))
  have hj : (jS4 b).2 = r' := f2
  have hzs2 : (jS4 b).1 = zs.map NoteR.plain := f1 hs
  subst hj
  have hp4 : ∀ k, k ≤ 4 → (jSt b k).stop = false := by
    intro k hk; obtain hk | rfl : k ≤ 3 ∨ k = 4 := by omega
    · exact hp3 k hk
    · exact hs
  simp (maxSteps := 10000000) (maxDischargeDepth := 30) only [e0, e2, e3, e4, e5, c1, gd, hq, hs, ltd, lobd, go_sem, Nat.reduceEqDiff, ↓reduceIte, Nat.reduceAdd, Nat.reduceMul, Nat.reduceLeDiff, Nat.reduceLT, reduceCtorEq, Int.reduceToNat, Int.reduceLE, Int.reduceLT, Int.reduceEq, Int.reduceNeg, Int.reduceNe, Nat.reduceSub, IntKind.bits]
  have hl2 : zs.length ≤ 2000 := by omega
  have hA2 := hA
  obtain ⟨o2, ho2⟩ : ∃ x, x = o := ⟨_, rfl⟩
  obtain ⟨zs2, hzz2⟩ : ∃ x, x = zs := ⟨_, rfl⟩
  rw [← hzz2] at hl2 hA2 hzs2 W gc
  rw [← ho2] at W gc
  have W7 := W.putd ⟨#[102, 108, 111, 97, 116, 115]⟩
  generalize H.put _ _ _ = m at *
  clear hA hg hi hz W G ga gc gd lobd loba lobc ltd lta ltc hq c1 hb' ok' hs f1 f2 hnt2 hnb2 hn2 hcb2 hc2
  try (simp (maxSteps := 10000000) (maxDischargeDepth := 30) only [e0, go_sem, Nat.reduceEqDiff, ↓reduceIte, Nat.reduceAdd, Nat.reduceMul, Nat.reduceLeDiff, Nat.reduceLT, reduceCtorEq, Int.reduceToNat, Int.reduceLE, Int.reduceLT, Int.reduceEq, Int.reduceNeg, Int.reduceNe, Nat.reduceSub, IntKind.bits])
  refine ro_wcall (cXCount h0 q (jS4 b).2 _ W7.rdr J.o4 (by rw [J.b4]; omega)) (fun hc J6 => ?_)
  have Wc := W7.call J6.1 J6.2
  clear J6 W7
  have hc3 := RS.count_ok J.o4
  have hcb3 := RS.count_b (jS4 b).2
  obtain ⟨n3, hn3⟩ : ∃ n : Nat, (jS4 b).2.count.1 = (n : Int) := ⟨(jS4 b).2.count.1.toNat, by omega⟩
  have hnt3 : (jS4 b).2.count.1.toNat = n3 := by omega
  have hnb3 : n3 ≤ 2000 := by have := hc3.2.2; rw [J.b4] at this; omega
  rw [hn3]
  simp (maxSteps := 10000000) (maxDischargeDepth := 30) only [go_sem, Nat.reduceEqDiff, ↓reduceIte, Nat.reduceAdd, Nat.reduceMul, Nat.reduceLeDiff, Nat.reduceLT, reduceCtorEq, Int.reduceToNat, Int.reduceLE, Int.reduceLT, Int.reduceEq, Int.reduceNeg, Int.reduceNe, Nat.reduceSub, IntKind.bits]
  refine ru_loop (fun i => n3 - i) (IJ3 h0 b q d h.len (h.len + 1) n3 g o1 zs1 o2 zs2) 0 ?_ ?_
  · unfold IJ3
    simp (maxSteps := 10000000) (maxDischargeDepth := 30) only [Int.natCast_zero, e0, e2, e3, go_sem, Nat.reduceEqDiff, ↓reduceIte, Nat.reduceAdd, Nat.reduceMul, Nat.reduceLeDiff, Nat.reduceLT, reduceCtorEq, Int.reduceToNat, Int.reduceLE, Int.reduceLT, Int.reduceEq, Int.reduceNeg, Int.reduceNe, Nat.reduceSub, IntKind.bits]
    exact ⟨none, [], (jS4 b).2.count.2, Wc, .start Wc.rdr (Wc.rdr.keep.otr q), rfl, Nat.zero_le _, hc3.1, hcb3.trans J.b4, allF_nil, by simp⟩
  clear e0 e2 e3 e4 e5
  clear Wc
  rintro i s hh ⟨e0, e2, e3, e4, e5, o, zs, r', W, G, hz, hi, ok', hb', hA, hg⟩
  obtain ⟨lobd, loba, lobc⟩ := W.lob
  obtain ⟨ltd, lta, ltc⟩ := W.lt
  have ga := W.ga
  have gc := W.gc
  have gd := W.gd
  obtain ⟨t, hq⟩ := W.rdr.get
  cases hs : r'.stop
  rotate_left
  · have e := (each_fin (one := floatRd) (r := (jS4 b).2) (r' := r') (zs := zs.map id) (by rw [hnt3]; exact fin_gather hg (.inr hs))).1
    have hj : jSt b 5 = r' := e
    rw [hs] at hq
    have okx := okJ_mk (oi := o1) (on := o2) (of := o) hgo hl1 hA1 hl2 hA2 (by omega) hA
    by_cases c1 : (i : Int) < n3
    · simp (maxSteps := 10000000) (maxDischargeDepth := 30) only [e0, e2, e3, e4, e5, c1, gd, hq, hs, gc, ga, lta, loba, go_sem, Nat.reduceEqDiff, ↓reduceIte, Nat.reduceAdd, Nat.reduceMul, Nat.reduceLeDiff, Nat.reduceLT, reduceCtorEq, Int.reduceToNat, Int.reduceLE, Int.reduceLT, Int.reduceEq, Int.reduceNeg, Int.reduceNe, Nat.reduceSub, IntKind.bits]
      exact okJobD.leave (i := 4) ⟨g, o1, zs1, o2, zs2, o, zs⟩ W (by omega) hp4 hj hs okx _
    · simp (maxSteps := 10000000) (maxDischargeDepth := 30) only [e0, e2, e3, e4, e5, c1, gd, hq, hs, gc, ga, lta, loba, go_sem, Nat.reduceEqDiff, ↓reduceIte, Nat.reduceAdd, Nat.reduceMul, Nat.reduceLeDiff, Nat.reduceLT, reduceCtorEq, Int.reduceToNat, Int.reduceLE, Int.reduceLT, Int.reduceEq, Int.reduceNeg, Int.reduceNe, Nat.reduceSub, IntKind.bits]
      exact okJobD.leave (i := 4) ⟨g, o1, zs1, o2, zs2, o, zs⟩ W (by omega) hp4 hj hs okx _
  rw [hs] at hq
  by_cases c1 : (i : Int) < n3
  · refine ru_step ?_
    have hlr : r'.b.length ≤ 1000000000000 := by rw [hb']; omega
    have ew : IntKind.i64.wrap ((i : Int) + 1) = ((i + 1 : Nat) : Int) := by rw [wrap64 (by omega) (by omega)]; omega
    simp (maxSteps := 10000000) (maxDischargeDepth := 30) only [e0, e2, e3, e4, e5, c1, gd, hq, hs, gc, go_sem, Nat.reduceEqDiff, ↓reduceIte, Nat.reduceAdd, Nat.reduceMul, Nat.reduceLeDiff, Nat.reduceLT, reduceCtorEq, Int.reduceToNat, Int.reduceLE, Int.reduceLT, Int.reduceEq, Int.reduceNeg, Int.reduceNe, Nat.reduceSub, IntKind.bits]
    refine rw_wcallW (cRNum17 h0 q d [.str ⟨#[102, 108, 111, 97, 116, 115]⟩] r' hh W.rdr W.gd ok' hlr) (fun hx J => by have := (J.2.get ltc W.cq).trans gc; simp (maxSteps := 10000000) (maxDischargeDepth := 30) only [this, gc, go_sem, Nat.reduceEqDiff, ↓reduceIte, Nat.reduceAdd, Nat.reduceMul, Nat.reduceLeDiff, Nat.reduceLT, reduceCtorEq, Int.reduceToNat, Int.reduceLE, Int.reduceLT, Int.reduceEq, Int.reduceNeg, Int.reduceNe, Nat.reduceSub, IntKind.bits]) (fun ha1 J1 => ?_)
    have Wa1 := W.call J1.1 J1.2
    have oka1 := (RS.int_ok ok').1
    have gc1 := Wa1.gc
    have ltc1 := Wa1.lt.2.2
    try (simp (maxSteps := 10000000) (maxDischargeDepth := 30) only [e0, go_sem, Nat.reduceEqDiff, ↓reduceIte, Nat.reduceAdd, Nat.reduceMul, Nat.reduceLeDiff, Nat.reduceLT, reduceCtorEq, Int.reduceToNat, Int.reduceLE, Int.reduceLT, Int.reduceEq, Int.reduceNeg, Int.reduceNe, Nat.reduceSub, IntKind.bits])
    refine rw_wcallW (cRSp17 h0 q d [.str ⟨#[102, 108, 111, 97, 116, 115]⟩] r'.int.2 ha1 Wa1.rdr Wa1.gd oka1 (by simp only [RS.int_b]; exact hlr)) (fun hx J => by have := (J.2.get ltc1 W.cq).trans gc1; simp (maxSteps := 10000000) (maxDischargeDepth := 30) only [this, gc1, go_sem, Nat.reduceEqDiff, ↓reduceIte, Nat.reduceAdd, Nat.reduceMul, Nat.reduceLeDiff, Nat.reduceLT, reduceCtorEq, Int.reduceToNat, Int.reduceLE, Int.reduceLT, Int.reduceEq, Int.reduceNeg, Int.reduceNe, Nat.reduceSub, IntKind.bits]) (fun ha2 J2 => ?_)
    have Wa2 := Wa1.call J2.1 J2.2
    have oka2 := (RS.int_ok oka1).1
    have gc2 := Wa2.gc
    have ltc2 := Wa2.lt.2.2
    try (simp (maxSteps := 10000000) (maxDischargeDepth := 30) only [e0, go_sem, Nat.reduceEqDiff, ↓reduceIte, Nat.reduceAdd, Nat.reduceMul, Nat.reduceLeDiff, Nat.reduceLT, reduceCtorEq, Int.reduceToNat, Int.reduceLE, Int.reduceLT, Int.reduceEq, Int.reduceNeg, Int.reduceNe, Nat.reduceSub, IntKind.bits])
    refine rw_wcallW (cRNum17 h0 q d [.str ⟨#[102, 108, 111, 97, 116, 115]⟩] r'.int.2.int.2 ha2 Wa2.rdr Wa2.gd oka2 (by simp only [RS.int_b]; exact hlr)) (fun hx J => by have := (J.2.get ltc2 W.cq).trans gc2; simp (maxSteps := 10000000) (maxDischargeDepth := 30) only [this, gc2, go_sem, Nat.reduceEqDiff, ↓reduceIte, Nat.reduceAdd, Nat.reduceMul, Nat.reduceLeDiff, Nat.reduceLT, reduceCtorEq, Int.reduceToNat, Int.reduceLE, Int.reduceLT, Int.reduceEq, Int.reduceNeg, Int.reduceNe, Nat.reduceSub, IntKind.bits]) (fun h3 J3 => ?_)
    have R3 := J3.1
    have O3 := (J1.2.trans J2.2).trans J3.2
    obtain ⟨x, hx⟩ : ∃ x, x = (floatRd r').1 := ⟨_, rfl⟩
    have hxe : x.e = .agg [.int .i64 r'.int.1, .int .i64 r'.int.2.int.1, .int .i64 r'.int.2.int.2.int.1] := by rw [hx]; rfl
    have hxo : x.ok := by rw [hx]; exact nums_64 3 r' ok'
    have W3 : WJ h0 q d h.len (h.len + 1) ⟨#[102, 108, 111, 97, 116, 115]⟩ _ (floatRd r').2 h3 := W.call R3 O3
    have G3 : Gth h0 h0 q (floatRd r').2 o zs.length (h3.nrow 1) := (G.step R3 O3).next ((Keep.refl h3).nrow 1)
    rw [show zs.length = (zs.map FloatR.e).length by rw [List.length_map]] at G3
    obtain ⟨o4, hm, ap, Ga, gm, -, lbm, -⟩ := G3.app (sz := 3) (by_ := 24) (xs := zs.map FloatR.e) (Nat.le_refl _) [FloatR.e x] (by rw [List.length_map, hz, List.length_singleton]; omega)
    have ezs : zs.map FloatR.e ++ [FloatR.e x] = (zs ++ [x]).map FloatR.e := by simp
    rw [ezs] at ap Ga
    rw [List.length_map] at Ga
    have Wm := W3.same Ga.rdr (fun y => (gm y).trans (get_nrow _ _ _))
    have gcm := Wm.gc
    have lobm := Wm.lob.2.2
    have ltm := Wm.lt.2.2
    rw [hxe] at ap
    simp (maxSteps := 10000000) (maxDischargeDepth := 30) only [e0, e2, e3, e4, e5, ap, ew, gcm, lobm, ltm, go_sem, Nat.reduceEqDiff, ↓reduceIte, Nat.reduceAdd, Nat.reduceMul, Nat.reduceLeDiff, Nat.reduceLT, reduceCtorEq, Int.reduceToNat, Int.reduceLE, Int.reduceLT, Int.reduceEq, Int.reduceNeg, Int.reduceNe, Nat.reduceSub, IntKind.bits]
    refine ⟨i + 1, by omega, ?_⟩
    unfold IJ3
    simp (maxSteps := 10000000) (maxDischargeDepth := 30) only [e0, e2, e3, e4, go_sem, Nat.reduceEqDiff, ↓reduceIte, Nat.reduceAdd, Nat.reduceMul, Nat.reduceLeDiff, Nat.reduceLT, reduceCtorEq, Int.reduceToNat, Int.reduceLE, Int.reduceLT, Int.reduceEq, Int.reduceNeg, Int.reduceNe, Nat.reduceSub, IntKind.bits]
    refine ⟨o4, zs ++ [x], (floatRd r').2, Wm.putc _, Ga.put2 W.cq W.h0c W.h0c _, by simp [hz], by omega, float_one.ok r' ok', (float_one.b r').trans hb', hA.snoc hxo, ?_⟩
    rw [List.map_append, List.map_cons, List.map_nil, show id x = (floatRd r').1 from hx]
    exact step_gather (by omega) hs hg
  obtain ⟨f2, f1⟩ := each_fin (one := floatRd) (r := (jS4 b).2) (r' := r') (zs := zs.map id) (by rw [hnt3]; exact fin_gather hg (.inl (by omega)))
  have hj : (jS5 b).2 = r' := f2
  have hzs3 : (jS5 b).1 = zs.map id := f1 hs
  subst hj
  have W8 := W.putd ⟨#[101, 110, 100]⟩
  have ga8 := W8.ga
  have gc8 := W8.gc
  simp (maxSteps := 10000000) (maxDischargeDepth := 30) only [e0, e2, e3, e4, e5, c1, gd, hq, hs, ltd, lobd, lta, loba, ga8, gc8, go_sem, Nat.reduceEqDiff, ↓reduceIte, Nat.reduceAdd, Nat.reduceMul, Nat.reduceLeDiff, Nat.reduceLT, reduceCtorEq, Int.reduceToNat, Int.reduceLE, Int.reduceLT, Int.reduceEq, Int.reduceNeg, Int.reduceNe, Nat.reduceSub, IntKind.bits]
  refine okJobD.fin ⟨g, o1, zs1, o2, zs2, o, zs⟩ W8 hs (okJ_mk hgo hl1 hA1 hl2 hA2 (by omega) hA) ?_ _
  unfold jobOf JobR.plain
  rw [hzs1, hzs2, hzs3, List.map_id, List.map_id, hge]
end Go.LM
