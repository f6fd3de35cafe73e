import Derived.Test.YtpmpdidgbbgeeaaLmTrbR2
import Derived.Test.YtpmpdidgbbgeeaaLmbCodec5
namespace Go.LM
open Go.Proofs
set_option maxRecDepth 8000
set_option maxHeartbeats 2000000
set_option linter.unusedSimpArgs false

/-! ### one reading, in the document -/
theorem read_bool (r : RS) (x : OpR) (d2 : x.k = 2) : r.read x = ([boolN r.bool.1], r.bool.2) := by
  unfold RS.read
  rw [if_neg (by omega), if_neg (by omega), if_pos d2]
theorem cRRead2 (h0 : H) (p : Nat) (r : RS) (x : OpR) (h : H) (R : Rdr h0 p r h) (ok : r.ok) (hl : r.b.length ≤ 1000000000000) (d2 : x.k = 2) :
    ∃ v h', runI Try.prog TA 45 [.ptr p 0, x.e] h = some (v, h') ∧ (∃ o, v = ints o [boolN r.bool.1]) ∧ Rdr h0 p r.bool.2 h' ∧ Otr p h h' := by
  refine calls_of rfl res45 rfl ?_
  have ok2 := ok.2.1
  have ok3 := ok.2.2
  have lo := R.wf.1
  have lt := R.lt
  have lob := R.lob
  obtain ⟨o, hg⟩ := R.get
  have lx : p ≤ h.len := by omega
  have hne : ¬ h.len = p := by omega
  have hne2 : ¬ p = h.len := by omega
  by_cases hs : r.stop = true
  · have e : r.bool = (false, r.halt) := by unfold RS.bool; rw [if_pos (.inl hs)]
    rw [e]
    simp (maxSteps := 10000000) (maxDischargeDepth := 30) only [q45, r45, OpR.e, d2, hg, hs, lo, lt, lob, go_sem, Nat.reduceEqDiff, ↓reduceIte, Nat.reduceAdd, Nat.reduceMul, Nat.reduceLeDiff, Nat.reduceLT, reduceCtorEq, Int.reduceToNat, Int.reduceLE, Int.reduceLT, Int.reduceEq, Int.reduceNeg, Int.reduceNe, Int.reducePow, Nat.reducePow, Nat.reduceSub, IntKind.bits]
    have S1 := (R.next ((Keep.refl h).alloc [.int .i64 2, .str x.s, .int .i64 x.n, .bool x.b, ints x.o x.l])).put o r.halt
    have k2 := fun g : H => (Keep.refl g).nrow 1
    exact ⟨⟨_, rfl⟩, S1.1.next (k2 _), ((((Keep.refl h).alloc _).otr p).trans S1.2).trans ((k2 _).otr p)⟩
  have hs' : r.stop = false := by simpa using hs
  by_cases he : (r.b.length : Int) ≤ r.at_
  · have e : r.bool = (false, r.halt) := by unfold RS.bool; rw [if_pos (.inr (.inl (by omega)))]
    rw [e]
    simp (maxSteps := 10000000) (maxDischargeDepth := 30) only [q45, r45, OpR.e, d2, hg, hs', lo, lt, lob, he, List.length_map, go_sem, Nat.reduceEqDiff, ↓reduceIte, Nat.reduceAdd, Nat.reduceMul, Nat.reduceLeDiff, Nat.reduceLT, reduceCtorEq, Int.reduceToNat, Int.reduceLE, Int.reduceLT, Int.reduceEq, Int.reduceNeg, Int.reduceNe, Int.reducePow, Nat.reducePow, Nat.reduceSub, IntKind.bits]
    have S1 := (R.next ((Keep.refl h).alloc [.int .i64 2, .str x.s, .int .i64 x.n, .bool x.b, ints x.o x.l])).put o r.halt
    have k2 := fun g : H => (Keep.refl g).nrow 1
    exact ⟨⟨_, rfl⟩, S1.1.next (k2 _), ((((Keep.refl h).alloc _).otr p).trans S1.2).trans ((k2 _).otr p)⟩
  have ia := RS.byte_at ok (by omega)
  by_cases hb : 1 < r.byte
  · have e : r.bool = (false, r.halt) := by unfold RS.bool; rw [if_pos (.inr (.inr hb))]
    rw [e]
    simp (maxSteps := 10000000) (maxDischargeDepth := 30) only [q45, r45, OpR.e, d2, hg, hs', lo, lt, lob, he, List.length_map, ia, hb, go_sem, Nat.reduceEqDiff, ↓reduceIte, Nat.reduceAdd, Nat.reduceMul, Nat.reduceLeDiff, Nat.reduceLT, reduceCtorEq, Int.reduceToNat, Int.reduceLE, Int.reduceLT, Int.reduceEq, Int.reduceNeg, Int.reduceNe, Int.reducePow, Nat.reducePow, Nat.reduceSub, IntKind.bits]
    have S1 := (R.next ((Keep.refl h).alloc [.int .i64 2, .str x.s, .int .i64 x.n, .bool x.b, ints x.o x.l])).put o r.halt
    have k2 := fun g : H => (Keep.refl g).nrow 1
    exact ⟨⟨_, rfl⟩, S1.1.next (k2 _), ((((Keep.refl h).alloc _).otr p).trans S1.2).trans ((k2 _).otr p)⟩
  have e : r.bool = (decide (r.byte = 1), { r with at_ := r.at_ + 1 }) := by unfold RS.bool; rw [if_neg (by rintro (h | h | h); exact hs h; omega; exact hb h)]
  have hbr : 0 ≤ r.byte := by
    unfold RS.byte
    cases hq : r.b[r.at_.toNat]? with
    | none => simp
    | some c => exact (ok.1 c (List.mem_of_getElem? hq)).1
  have ec : IntKind.i64.wrap r.byte = boolN (decide (r.byte = 1)) := by
    rcases (show r.byte = 0 ∨ r.byte = 1 by omega) with h | h <;> rw [h] <;> rfl
  rw [e]
  have ew : IntKind.i64.wrap (r.at_ + 1) = r.at_ + 1 := wrap64 (by omega) (by omega)
  have ew2 : IntKind.i64.wrap (r.at_ + 1 - 1) = r.at_ := by rw [wrap64 (by omega) (by omega)]; omega
  simp (maxSteps := 10000000) (maxDischargeDepth := 30) only [q45, r45, OpR.e, d2, hg, hs', lo, lt, lob, he, List.length_map, ia, hb, ew, ew2, ec, lx, go_sem, Nat.reduceEqDiff, ↓reduceIte, Nat.reduceAdd, Nat.reduceMul, Nat.reduceLeDiff, Nat.reduceLT, reduceCtorEq, Int.reduceToNat, Int.reduceLE, Int.reduceLT, Int.reduceEq, Int.reduceNeg, Int.reduceNe, Int.reducePow, Nat.reducePow, Nat.reduceSub, IntKind.bits]
  have S1 := (R.next ((Keep.refl h).alloc [.int .i64 2, .str x.s, .int .i64 x.n, .bool x.b, ints x.o x.l])).put o { r with at_ := r.at_ + 1 }
  have k2 := fun g : H => (Keep.refl g).nrow 1
  simp only [hs'] at S1
  exact ⟨⟨_, rfl⟩, S1.1.next (k2 _), ((((Keep.refl h).alloc _).otr p).trans S1.2).trans ((k2 _).otr p)⟩
theorem cRRead06 (h0 : H) (p : Nat) (r : RS) (x : OpR) (h : H) (R : Rdr h0 p r h) (ok : r.ok) (hl : r.b.length ≤ 1000000000000) (hx : x.s.size ≤ 100000000) :
    ∃ v h', runI Try.prog TA 45 [.ptr p 0, x.e] h = some (v, h') ∧ (∃ o, v = ints o (r.read x).1) ∧ Rdr h0 p (r.read x).2 h' ∧ Otr p h h' := by
  by_cases d2 : x.k = 2
  · rw [read_bool r x d2]
    exact cRRead2 h0 p r x h R ok hl d2
  refine calls_of rfl res45 rfl ?_
  have ok2 := ok.2.1
  have ok3 := ok.2.2
  have lo := R.wf.1
  have lt := R.lt
  have lob := R.lob
  have lx : p ≤ h.len := by omega
  obtain ⟨o, hg⟩ := R.get
  have k1 := fun c : List LV => (Keep.refl h).alloc c
  by_cases d0 : x.k = 0
  · have e : r.read x = ([], r.mark (strB x.s)) := by unfold RS.read; rw [if_pos d0]
    rw [e]
    have hsz := strB_len x.s
    by_cases hs : r.stop = true
    · have e : r.mark (strB x.s) = r.halt := by unfold RS.mark; rw [if_pos (.inl hs)]
      rw [e]
      simp (maxSteps := 10000000) (maxDischargeDepth := 30) only [q45, r45, OpR.e, d0, hg, hs, lo, lt, lob, lx, go_sem, Nat.reduceEqDiff, ↓reduceIte, Nat.reduceAdd, Nat.reduceMul, Nat.reduceLeDiff, Nat.reduceLT, reduceCtorEq, Int.reduceToNat, Int.reduceLE, Int.reduceLT, Int.reduceEq, Int.reduceNeg, Int.reduceNe, Int.reducePow, Nat.reducePow, Nat.reduceSub, IntKind.bits]
      have S1 := (R.next (k1 [.int .i64 0, .str x.s, .int .i64 x.n, .bool x.b, ints x.o x.l])).put o r.halt
      exact ⟨⟨none, rfl⟩, S1.1, ((k1 _).otr p).trans S1.2⟩
    have hs' : r.stop = false := by simpa using hs
    have ew : IntKind.i64.wrap ((r.b.length : Int) - r.at_) = (r.b.length : Int) - r.at_ := wrap64 (by omega) (by omega)
    by_cases c1 : (r.b.length : Int) - r.at_ < x.s.size
    · have e : r.mark (strB x.s) = r.halt := by
        have hm : (r.b.drop r.at_.toNat).take (strB x.s).length ≠ strB x.s := by
          intro hm
          have := take_len hm
          rw [List.length_drop] at this
          omega
        unfold RS.mark; rw [if_pos (.inr hm)]
      rw [e]
      simp (maxSteps := 10000000) (maxDischargeDepth := 30) only [q45, r45, OpR.e, d0, hg, hs', lo, lt, lob, lx, List.length_map, ew, c1, go_sem, Nat.reduceEqDiff, ↓reduceIte, Nat.reduceAdd, Nat.reduceMul, Nat.reduceLeDiff, Nat.reduceLT, reduceCtorEq, Int.reduceToNat, Int.reduceLE, Int.reduceLT, Int.reduceEq, Int.reduceNeg, Int.reduceNe, Int.reducePow, Nat.reducePow, Nat.reduceSub, IntKind.bits]
      have S1 := (R.next (k1 [.int .i64 0, .str x.s, .int .i64 x.n, .bool x.b, ints x.o x.l])).put o r.halt
      exact ⟨⟨none, rfl⟩, S1.1, ((k1 _).otr p).trans S1.2⟩
    have ew2 : IntKind.i64.wrap (r.at_ + (x.s.size : Int)) = r.at_ + (x.s.size : Int) := wrap64 (by omega) (by omega)
    have hb1 : boundL (some (.int .i64 (r.at_ + (x.s.size : Int)))) r.b.length r.b.length = some (r.at_ + (x.s.size : Int)).toNat := by rw [bound_some, if_pos ⟨by omega, by omega⟩]
    have hb2 : boundL (some (.int .i64 r.at_)) 0 (r.at_ + (x.s.size : Int)).toNat = some r.at_.toNat := by rw [bound_some, if_pos ⟨ok2, by omega⟩]
    have ed : ((r.b.map (LV.int .u8)).take (r.at_ + (x.s.size : Int)).toNat).drop r.at_.toNat = ((r.b.drop r.at_.toNat).take (strB x.s).length).map (LV.int .u8) := by
      rw [← List.map_take, ← List.map_drop, List.drop_take, hsz]
      congr 2
      omega
    have hbd : ∀ c ∈ (r.b.drop r.at_.toNat).take (strB x.s).length, 0 ≤ c ∧ c < 256 := fun c hc => ok.1 c (List.mem_of_mem_drop (List.mem_of_mem_take hc))
    by_cases hm : (r.b.drop r.at_.toNat).take (strB x.s).length = strB x.s
    · have e : r.mark (strB x.s) = { r with at_ := r.at_ + (strB x.s).length } := by unfold RS.mark; rw [if_neg (by simp [hs, hm])]
      rw [e]
      have hq : strOf ((r.b.drop r.at_.toNat).take (strB x.s).length) = x.s := strB_inj (by rw [strB_strOf hbd, hm])
      simp (maxSteps := 10000000) (maxDischargeDepth := 30) only [q45, r45, OpR.e, d0, hg, hs', lo, lt, lob, lx, List.length_map, ew, c1, ew2, hb1, slM_some hb2, ed, cv_strB ty_u26 ty_u9 ty_u5, bin_neq_str, hq, go_sem, Nat.reduceEqDiff, ↓reduceIte, Nat.reduceAdd, Nat.reduceMul, Nat.reduceLeDiff, Nat.reduceLT, reduceCtorEq, Int.reduceToNat, Int.reduceLE, Int.reduceLT, Int.reduceEq, Int.reduceNeg, Int.reduceNe, Int.reducePow, Nat.reducePow, Nat.reduceSub, IntKind.bits]
      have S1 := (R.next (k1 [.int .i64 0, .str x.s, .int .i64 x.n, .bool x.b, ints x.o x.l])).put o { r with at_ := r.at_ + (strB x.s).length }
      simp only [hs', hsz] at S1
      simp only [hs', hsz]
      exact ⟨⟨none, rfl⟩, S1.1, ((k1 _).otr p).trans S1.2⟩
    · have e : r.mark (strB x.s) = r.halt := by unfold RS.mark; rw [if_pos (.inr hm)]
      rw [e]
      have hq : ¬ strOf ((r.b.drop r.at_.toNat).take (strB x.s).length) = x.s := fun h => hm (by rw [← strB_strOf hbd, h])
      simp (maxSteps := 10000000) (maxDischargeDepth := 30) only [q45, r45, OpR.e, d0, hg, hs', lo, lt, lob, lx, List.length_map, ew, c1, ew2, hb1, slM_some hb2, ed, cv_strB ty_u26 ty_u9 ty_u5, bin_neq_str, hq, go_sem, Nat.reduceEqDiff, ↓reduceIte, Nat.reduceAdd, Nat.reduceMul, Nat.reduceLeDiff, Nat.reduceLT, reduceCtorEq, Int.reduceToNat, Int.reduceLE, Int.reduceLT, Int.reduceEq, Int.reduceNeg, Int.reduceNe, Int.reducePow, Nat.reducePow, Nat.reduceSub, IntKind.bits]
      have S1 := (R.next (k1 [.int .i64 0, .str x.s, .int .i64 x.n, .bool x.b, ints x.o x.l])).put o r.halt
      exact ⟨⟨none, rfl⟩, S1.1, ((k1 _).otr p).trans S1.2⟩
  by_cases d1 : x.k = 1
  · have e : r.read x = ([r.int.1], r.int.2) := by unfold RS.read; rw [if_neg d0, if_pos d1]
    rw [e]
    simp (maxSteps := 10000000) (maxDischargeDepth := 30) only [q45, r45, OpR.e, d1, go_sem, Nat.reduceEqDiff, ↓reduceIte, Nat.reduceAdd, Nat.reduceMul, Nat.reduceLeDiff, Nat.reduceLT, reduceCtorEq, Int.reduceToNat, Int.reduceLE, Int.reduceLT, Int.reduceEq, Int.reduceNeg, Int.reduceNe, Int.reducePow, Nat.reducePow, Nat.reduceSub, IntKind.bits]
    refine ro_wcall (cXInt h0 p r _ (R.next ((Keep.refl h).alloc _)) ok hl) (fun h2 J => ?_)
    simp (maxSteps := 10000000) (maxDischargeDepth := 30) only [go_sem, Nat.reduceEqDiff, ↓reduceIte, Nat.reduceAdd, Nat.reduceMul, Nat.reduceLeDiff, Nat.reduceLT, reduceCtorEq, Int.reduceToNat, Int.reduceLE, Int.reduceLT, Int.reduceEq, Int.reduceNeg, Int.reduceNe, Int.reducePow, Nat.reducePow, Nat.reduceSub, IntKind.bits]
    have k2 : Keep h2 (h2.nrow 1) := (Keep.refl h2).nrow 1
    exact ⟨⟨_, rfl⟩, J.1.next k2, ((((Keep.refl h).alloc _).otr p).trans J.2).trans (k2.otr p)⟩
  by_cases d3 : x.k = 3
  · have e : r.read x = eachL RS.int r := by unfold RS.read; rw [if_neg d0, if_neg d1, if_neg d2, if_pos d3]
    rw [e]
    simp (maxSteps := 10000000) (maxDischargeDepth := 30) only [q45, r45, OpR.e, d3, go_sem, Nat.reduceEqDiff, ↓reduceIte, Nat.reduceAdd, Nat.reduceMul, Nat.reduceLeDiff, Nat.reduceLT, reduceCtorEq, Int.reduceToNat, Int.reduceLE, Int.reduceLT, Int.reduceEq, Int.reduceNeg, Int.reduceNe, Int.reducePow, Nat.reducePow, Nat.reduceSub, IntKind.bits]
    refine ro_vcall (cXInts h0 p r _ (R.next ((Keep.refl h).alloc _)) ok hl) (fun v h2 J => ?_)
    obtain ⟨⟨o, rfl⟩, J1, J2⟩ := J
    simp (maxSteps := 10000000) (maxDischargeDepth := 30) only [go_sem, Nat.reduceEqDiff, ↓reduceIte, Nat.reduceAdd, Nat.reduceMul, Nat.reduceLeDiff, Nat.reduceLT, reduceCtorEq, Int.reduceToNat, Int.reduceLE, Int.reduceLT, Int.reduceEq, Int.reduceNeg, Int.reduceNe, Int.reducePow, Nat.reducePow, Nat.reduceSub, IntKind.bits]
    exact ⟨⟨_, rfl⟩, J1, (((Keep.refl h).alloc _).otr p).trans J2⟩
  by_cases d4 : x.k = 4
  · have e : r.read x = ([r.count.1], r.count.2) := by unfold RS.read; rw [if_neg d0, if_neg d1, if_neg d2, if_neg d3, if_pos d4]
    rw [e]
    simp (maxSteps := 10000000) (maxDischargeDepth := 30) only [q45, r45, OpR.e, d4, go_sem, Nat.reduceEqDiff, ↓reduceIte, Nat.reduceAdd, Nat.reduceMul, Nat.reduceLeDiff, Nat.reduceLT, reduceCtorEq, Int.reduceToNat, Int.reduceLE, Int.reduceLT, Int.reduceEq, Int.reduceNeg, Int.reduceNe, Int.reducePow, Nat.reducePow, Nat.reduceSub, IntKind.bits]
    refine ro_wcall (cXCount h0 p r _ (R.next ((Keep.refl h).alloc _)) ok hl) (fun h2 J => ?_)
    have hcc := RS.count_ok ok
    have ew : IntKind.i64.wrap r.count.1 = r.count.1 := wrap64 (by omega) (by omega)
    simp (maxSteps := 10000000) (maxDischargeDepth := 30) only [ew, go_sem, Nat.reduceEqDiff, ↓reduceIte, Nat.reduceAdd, Nat.reduceMul, Nat.reduceLeDiff, Nat.reduceLT, reduceCtorEq, Int.reduceToNat, Int.reduceLE, Int.reduceLT, Int.reduceEq, Int.reduceNeg, Int.reduceNe, Int.reducePow, Nat.reducePow, Nat.reduceSub, IntKind.bits]
    have k2 : Keep h2 (h2.nrow 1) := (Keep.refl h2).nrow 1
    exact ⟨⟨_, rfl⟩, J.1.next k2, ((((Keep.refl h).alloc _).otr p).trans J.2).trans (k2.otr p)⟩
  by_cases d5 : x.k = 5
  · have e : r.read x = ([], r.halt) := by unfold RS.read; rw [if_neg d0, if_neg d1, if_neg d2, if_neg d3, if_neg d4, if_pos d5]
    rw [e]
    simp (maxSteps := 10000000) (maxDischargeDepth := 30) only [q45, r45, OpR.e, d5, hg, lo, lt, lob, lx, go_sem, Nat.reduceEqDiff, ↓reduceIte, Nat.reduceAdd, Nat.reduceMul, Nat.reduceLeDiff, Nat.reduceLT, reduceCtorEq, Int.reduceToNat, Int.reduceLE, Int.reduceLT, Int.reduceEq, Int.reduceNeg, Int.reduceNe, Int.reducePow, Nat.reducePow, Nat.reduceSub, IntKind.bits]
    have S1 := (R.next (k1 [.int .i64 5, .str x.s, .int .i64 x.n, .bool x.b, ints x.o x.l])).put o r.halt
    exact ⟨⟨none, rfl⟩, S1.1, ((k1 _).otr p).trans S1.2⟩
  by_cases d6 : x.k = 6
  rotate_left
  · have e : r.read x = ([], r) := by unfold RS.read; rw [if_neg d0, if_neg d1, if_neg d2, if_neg d3, if_neg d4, if_neg d5, if_neg d6]
    rw [e]
    simp (maxSteps := 10000000) (maxDischargeDepth := 30) only [q45, r45, OpR.e, d0, d1, d2, d3, d4, d5, d6, go_sem, Nat.reduceEqDiff, ↓reduceIte, Nat.reduceAdd, Nat.reduceMul, Nat.reduceLeDiff, Nat.reduceLT, reduceCtorEq, Int.reduceToNat, Int.reduceLE, Int.reduceLT, Int.reduceEq, Int.reduceNeg, Int.reduceNe, Int.reducePow, Nat.reducePow, Nat.reduceSub, IntKind.bits]
    exact ⟨⟨none, rfl⟩, R.next ((Keep.refl h).alloc _), ((Keep.refl h).alloc _).otr p⟩
  have e : r.read x = ((eachL RS.bool r).1.map boolN, (eachL RS.bool r).2) := by unfold RS.read; rw [if_neg d0, if_neg d1, if_neg d2, if_neg d3, if_neg d4, if_neg d5, if_pos d6]
  rw [e]
  have hc := RS.count_ok ok
  have hcb := r.count_b
  obtain ⟨n, hn⟩ : ∃ n : Nat, r.count.1 = (n : Int) := ⟨r.count.1.toNat, by omega⟩
  have hnt : r.count.1.toNat = n := by omega
  have hh0 : h0.rlen ≤ h.rlen := R.keep.rlen
  simp (maxSteps := 10000000) (maxDischargeDepth := 30) only [q45, r45, OpR.e, d6, go_sem, Nat.reduceEqDiff, ↓reduceIte, Nat.reduceAdd, Nat.reduceMul, Nat.reduceLeDiff, Nat.reduceLT, reduceCtorEq, Int.reduceToNat, Int.reduceLE, Int.reduceLT, Int.reduceEq, Int.reduceNeg, Int.reduceNe, Int.reducePow, Nat.reducePow, Nat.reduceSub, IntKind.bits]
  refine ro_wcall (cXCount h0 p r _ (R.next ((Keep.refl h).alloc _)) ok hl) (fun h1 J => ?_)
  obtain ⟨R1, O1⟩ := J
  have O2 := (((Keep.refl h).alloc _).otr p).trans O1
  rw [hn]
  simp (maxSteps := 10000000) (maxDischargeDepth := 30) only [go_sem, Nat.reduceEqDiff, ↓reduceIte, Nat.reduceAdd, Nat.reduceMul, Nat.reduceLeDiff, Nat.reduceLT, reduceCtorEq, Int.reduceToNat, Int.reduceLE, Int.reduceLT, Int.reduceEq, Int.reduceNeg, Int.reduceNe, Int.reducePow, Nat.reducePow, Nat.reduceSub, IntKind.bits]
  refine ru_loop (fun i => n - i) (fun i s hh => s 0 = .ptr p 0 ∧ s 5 = .int .i64 (n : Nat) ∧ s 7 = .int .i64 (i : Nat) ∧ ∃ o zs r', s 6 = ints o (zs.map boolN) ∧ IXInts RS.bool h0 h p r n zs r' o i hh) 0 ?_ ?_
  · unfold IXInts
    simp (maxSteps := 10000000) (maxDischargeDepth := 30) only [Int.natCast_zero, go_sem, Nat.reduceEqDiff, ↓reduceIte, Nat.reduceAdd, Nat.reduceMul, Nat.reduceLeDiff, Nat.reduceLT, reduceCtorEq, Int.reduceToNat, Int.reduceLE, Int.reduceLT, Int.reduceEq, Int.reduceNeg, Int.reduceNe, Int.reducePow, Nat.reducePow, Nat.reduceSub, IntKind.bits]
    exact ⟨none, [], r.count.2, rfl, rfl, .start R1 O2, hc.1, hcb, by simp⟩
  · rintro i s hh ⟨e0, e5, e7, o, zs, r', e6, hz, hi, G, ok', hb', hgt⟩
    obtain ⟨q, hq⟩ := G.rdr.get
    have lt := G.rdr.lt
    by_cases c1 : (i : Int) < n
    rotate_left
    · have hx := fin_each hnt hgt (.inl (by omega))
      by_cases hs : r'.stop = true
      · simp (maxSteps := 10000000) (maxDischargeDepth := 30) only [e0, e5, e6, e7, c1, hq, hs, go_sem, Nat.reduceEqDiff, ↓reduceIte, Nat.reduceAdd, Nat.reduceMul, Nat.reduceLeDiff, Nat.reduceLT, reduceCtorEq, Int.reduceToNat, Int.reduceLE, Int.reduceLT, Int.reduceEq, Int.reduceNeg, Int.reduceNe, Int.reducePow, Nat.reducePow, Nat.reduceSub, IntKind.bits]
        rw [hx.1 hs]
        exact ⟨⟨none, rfl⟩, G.rdr, G.otr⟩
      · have hs' : r'.stop = false := by simpa using hs
        simp (maxSteps := 10000000) (maxDischargeDepth := 30) only [e0, e5, e6, e7, c1, hq, hs', go_sem, Nat.reduceEqDiff, ↓reduceIte, Nat.reduceAdd, Nat.reduceMul, Nat.reduceLeDiff, Nat.reduceLT, reduceCtorEq, Int.reduceToNat, Int.reduceLE, Int.reduceLT, Int.reduceEq, Int.reduceNeg, Int.reduceNe, Int.reducePow, Nat.reducePow, Nat.reduceSub, IntKind.bits]
        rw [hx.2 hs']
        exact ⟨⟨o, rfl⟩, G.rdr, G.otr⟩
    by_cases hs : r'.stop = true
    · have hx := fin_each hnt hgt (.inr hs)
      simp (maxSteps := 10000000) (maxDischargeDepth := 30) only [e0, e5, e6, e7, c1, hq, hs, go_sem, Nat.reduceEqDiff, ↓reduceIte, Nat.reduceAdd, Nat.reduceMul, Nat.reduceLeDiff, Nat.reduceLT, reduceCtorEq, Int.reduceToNat, Int.reduceLE, Int.reduceLT, Int.reduceEq, Int.reduceNeg, Int.reduceNe, Int.reducePow, Nat.reducePow, Nat.reduceSub, IntKind.bits]
      rw [hx.1 hs]
      exact ⟨⟨none, rfl⟩, G.rdr, G.otr⟩
    refine ru_step ?_
    have hs' : r'.stop = false := by simpa using hs
    simp (maxSteps := 10000000) (maxDischargeDepth := 30) only [e0, e5, e6, e7, c1, hq, hs', go_sem, Nat.reduceEqDiff, ↓reduceIte, Nat.reduceAdd, Nat.reduceMul, Nat.reduceLeDiff, Nat.reduceLT, reduceCtorEq, Int.reduceToNat, Int.reduceLE, Int.reduceLT, Int.reduceEq, Int.reduceNeg, Int.reduceNe, Int.reducePow, Nat.reducePow, Nat.reduceSub, IntKind.bits]
    refine ro_vcall (cRRead2 h0 p r' ⟨2, ⟨#[]⟩, 0, false, none, []⟩ hh G.rdr ok' (by rw [hb']; exact hl) rfl) (fun v h3 J => ?_)
    obtain ⟨⟨ov, rfl⟩, R3, O3⟩ := J
    have k3 : Keep h3 (h3.nrow 1) := (Keep.refl h3).nrow 1
    have G3 := (G.step R3 O3).next k3
    rw [show zs.length = ((zs.map boolN).map (LV.int .i64)).length by rw [List.length_map, List.length_map]] at G3
    obtain ⟨o4, h4, ap, G4, -, -, -, -⟩ := G3.app (sz := 1) (by_ := 8) (xs := (zs.map boolN).map (LV.int .i64)) hh0 [.int .i64 (boolN r'.bool.1)] (by
      rw [List.length_map, List.length_map, hz, List.length_singleton]; omega)
    have ezs : (zs.map boolN).map (LV.int .i64) ++ [.int .i64 (boolN r'.bool.1)] = ((zs ++ [r'.bool.1]).map boolN).map (LV.int .i64) := by rw [List.map_append, List.map_append]; rfl
    rw [ezs] at ap G4
    rw [List.length_map, List.length_map] at G4
    have ew : IntKind.i64.wrap ((i : Int) + 1) = ((i + 1 : Nat) : Int) := by rw [wrap64 (by omega) (by omega)]; omega
    have ia : iaS [.int .i64 (boolN r'.bool.1)] 0 = some (.cptr (.int .i64 (boolN r'.bool.1))) := rfl
    simp (maxSteps := 10000000) (maxDischargeDepth := 30) only [e0, e5, e6, e7, ap, ew, ia, go_sem, Nat.reduceEqDiff, ↓reduceIte, Nat.reduceAdd, Nat.reduceMul, Nat.reduceLeDiff, Nat.reduceLT, reduceCtorEq, Int.reduceToNat, Int.reduceLE, Int.reduceLT, Int.reduceEq, Int.reduceNeg, Int.reduceNe, Int.reducePow, Nat.reducePow, Nat.reduceSub, IntKind.bits]
    refine ⟨i + 1, by omega, ?_⟩
    simp (maxSteps := 10000000) (maxDischargeDepth := 30) only [e0, e5, go_sem, Nat.reduceEqDiff, ↓reduceIte, Nat.reduceAdd, Nat.reduceMul, Nat.reduceLeDiff, Nat.reduceLT, reduceCtorEq, Int.reduceToNat, Int.reduceLE, Int.reduceLT, Int.reduceEq, Int.reduceNeg, Int.reduceNe, Int.reducePow, Nat.reducePow, Nat.reduceSub, IntKind.bits]
    exact ⟨o4, zs ++ [r'.bool.1], r'.bool.2, rfl, by simp [hz], by omega, G4, RS.bool_one.ok r' ok', (RS.bool_b r').trans hb', step_each (by omega) hs' hgt⟩
end Go.LM
