import Derived.Test.YtpmpdidgbbgeeaaLmB8
namespace Go.LM
/-! ### jobs, plainly -/
structure ItemR where
  k : Int
  h : Int
  f : Int
  str : Int
  ord : Int
  shr : Int
  n : Int
  deriving DecidableEq
def ItemR.e (x : ItemR) : LV := .agg [.int .i64 x.k, .int .i64 x.h, .int .i64 x.f, .int .i64 x.str, .int .i64 x.ord, .int .i64 x.shr, .int .i64 x.n]
def ItemR.nums (x : ItemR) : List Int := [x.k, x.h, x.f, x.str, x.ord, x.shr, x.n]
abbrev ItemR.ok (x : ItemR) : Prop := ∀ n ∈ x.nums, I64 n
structure GeomR where
  c0 : Int
  c1 : Int
  c2 : Int
  c3 : Int
  c4 : Int
  c5 : Int
  c6 : Int
  c7 : Int
  c8 : Int
  c9 : Int
  c10 : Int
  c11 : Int
  c12 : Int
  c13 : Int
  c14 : Int
  c15 : Int
  c16 : Int
  c17 : Int
  bal : Bool
  deriving DecidableEq
def GeomR.numsA (g : GeomR) : List Int := [g.c0, g.c1, g.c2, g.c3, g.c4, g.c5, g.c6, g.c7, g.c8, g.c9, g.c10]
def GeomR.numsB (g : GeomR) : List Int := [g.c11, g.c12, g.c13, g.c14, g.c15, g.c16, g.c17]
def GeomR.nums (g : GeomR) : List Int := g.numsA ++ g.numsB
def GeomR.cells (g : GeomR) : List LV := [.int .i64 g.c0, .int .i64 g.c1, .int .i64 g.c2, .int .i64 g.c3, .int .i64 g.c4, .int .i64 g.c5, .int .i64 g.c6, .int .i64 g.c7, .int .i64 g.c8, .int .i64 g.c9, .int .i64 g.c10, .int .i64 g.c11, .int .i64 g.c12, .int .i64 g.c13, .int .i64 g.c14, .int .i64 g.c15, .int .i64 g.c16, .int .i64 g.c17, .bool g.bal]
def GeomR.e (g : GeomR) : LV := .agg g.cells
abbrev GeomR.ok (g : GeomR) : Prop := ∀ n ∈ g.nums, I64 n
structure NoteR where
  ol : Option (Nat × Nat)
  lines : List Int
  op : Option (Nat × Nat)
  pens : List Int
def NoteR.e (x : NoteR) : LV := .agg [ints x.ol x.lines, ints x.op x.pens]
def NoteR.plain (x : NoteR) : List Int × List Int := (x.lines, x.pens)
abbrev NoteR.num (x : NoteR) : Prop := (∀ n ∈ x.lines, I64 n) ∧ ∀ n ∈ x.pens, I64 n
structure FloatR where
  c : Int
  h : Int
  w : Int
  deriving DecidableEq
def FloatR.e (x : FloatR) : LV := .agg [.int .i64 x.c, .int .i64 x.h, .int .i64 x.w]
def FloatR.nums (x : FloatR) : List Int := [x.c, x.h, x.w]
abbrev FloatR.ok (x : FloatR) : Prop := ∀ n ∈ x.nums, I64 n
structure JobR where
  g : GeomR
  oi : Option (Nat × Nat)
  items : List ItemR
  on : Option (Nat × Nat)
  notes : List NoteR
  of : Option (Nat × Nat)
  floats : List FloatR
def JobR.cells (j : JobR) : List LV := [.int .i64 j.g.c0, .int .i64 j.g.c1, .int .i64 j.g.c2, .int .i64 j.g.c3, .int .i64 j.g.c4, .int .i64 j.g.c5, .int .i64 j.g.c6, .int .i64 j.g.c7, .int .i64 j.g.c8, .int .i64 j.g.c9, .int .i64 j.g.c10, .int .i64 j.g.c11, .int .i64 j.g.c12, .int .i64 j.g.c13, .int .i64 j.g.c14, .int .i64 j.g.c15, .int .i64 j.g.c16, .int .i64 j.g.c17, .bool j.g.bal, mkS j.oi 7 (j.items.map ItemR.e), mkS j.on 2 (j.notes.map NoteR.e), mkS j.of 3 (j.floats.map FloatR.e)]
def JobR.e (j : JobR) : LV := .agg j.cells
/-- A job without its marks. -/
abbrev PlainJ := GeomR × List ItemR × List (List Int × List Int) × List FloatR
def JobR.plain (j : JobR) : PlainJ := (j.g, j.items, j.notes.map NoteR.plain, j.floats)
def okJ (m : Nat) (j : PlainJ) : Prop := j.1.ok ∧ j.2.1.length ≤ m ∧ (∀ x ∈ j.2.1, x.ok) ∧ j.2.2.1.length ≤ m ∧ (∀ x ∈ j.2.2.1, x.1.length ≤ m ∧ x.2.length ≤ m ∧ (∀ n ∈ x.1, I64 n) ∧ ∀ n ∈ x.2, I64 n) ∧ j.2.2.2.length ≤ m ∧ ∀ x ∈ j.2.2.2, x.ok

/-! ### bare items, and bytes -/
def bareR (x : ItemR) : Bool :=
  if x.k = 1 then x.str == 0 && (x.ord == 0 && (x.shr == 0 && x.n == 0))
  else if x.k = 2 then x.f == 0 && x.n == 0
  else if x.k = 3 ∨ x.k = 4 ∨ x.k = 5 ∨ x.k = 6 then x.h == 0 && (x.f == 0 && (x.str == 0 && (x.ord == 0 && x.shr == 0)))
  else if x.k = 7 then x.h == 0 && (x.f == 0 && (x.str == 0 && (x.ord == 0 && (x.shr == 0 && x.n == 0))))
  else false
def fieldsR (x : ItemR) : List Int := if x.k = 1 then [x.h, x.f] else if x.k = 2 then [x.h, x.str, x.ord, x.shr] else if x.k = 7 then [] else [x.n]
def itemB (x : ItemR) : List Int := chn x.k ++ chns (fieldsR x)
def geomB (g : GeomR) : List Int := chns g.nums ++ [if g.bal = true then 1 else 0]
def noteBP (x : List Int × List Int) : List Int := many chn x.1 ++ many chn x.2
def floatB (x : FloatR) : List Int := chns x.nums
def magicJ : List Int := [84, 89, 77, 49]
def jobBP (j : PlainJ) : List Int := magicJ ++ (geomB j.1 ++ (many itemB j.2.1 ++ (many noteBP j.2.2.1 ++ many floatB j.2.2.2)))
def bareL (l : List ItemR) : Bool := l.all bareR
theorem eqSeq_3 (a b c : Bool) : eqSeq [some a, some b, some c] = some (a && (b && c)) := by cases a <;> cases b <;> cases c <;> rfl
theorem eqSeq_4 (a b c d : Bool) : eqSeq [some a, some b, some c, some d] = some (a && (b && (c && d))) := by cases a <;> cases b <;> cases c <;> cases d <;> rfl
theorem eqSeq_5 (a b c d e : Bool) : eqSeq [some a, some b, some c, some d, some e] = some (a && (b && (c && (d && e)))) := by cases a <;> cases b <;> cases c <;> cases d <;> cases e <;> rfl
theorem eqSeq_6 (a b c d e f : Bool) : eqSeq [some a, some b, some c, some d, some e, some f] = some (a && (b && (c && (d && (e && f))))) := by cases a <;> cases b <;> cases c <;> cases d <;> cases e <;> cases f <;> rfl
theorem eqSeq_7 (a b c d e f g : Bool) : eqSeq [some a, some b, some c, some d, some e, some f, some g] = some (a && (b && (c && (d && (e && (f && g)))))) := by
  cases a <;> cases b <;> cases c <;> cases d <;> cases e <;> cases f <;> cases g <;> rfl
theorem fieldsR_len (x : ItemR) : (fieldsR x).length ≤ 4 := by
  unfold fieldsR
  split
  · simp
  split
  · simp
  split <;> simp
theorem fieldsR_64 {x : ItemR} (h : x.ok) : ∀ n ∈ fieldsR x, I64 n := by
  intro n hn
  apply h
  unfold fieldsR at hn
  unfold ItemR.nums
  split at hn
  · simp at hn ⊢; rcases hn with rfl | rfl <;> simp
  split at hn
  · simp at hn ⊢; rcases hn with rfl | rfl | rfl | rfl <;> simp
  split at hn
  · cases hn
  · simp at hn ⊢; subst hn; simp
theorem item_k64 {x : ItemR} (h : x.ok) : I64 x.k := h _ (by simp [ItemR.nums])
theorem itemB_len {x : ItemR} (h : x.ok) : (itemB x).length ≤ 50 := by
  unfold itemB
  rw [List.length_append]
  have h1 := chn_len (item_k64 h)
  have h2 := chns_len (fieldsR_64 h)
  have := fieldsR_len x
  omega
theorem geomB_len {g : GeomR} (h : g.ok) : (geomB g).length ≤ 181 := by
  unfold geomB
  rw [List.length_append]
  have := chns_len (l := g.nums) h
  have e : g.nums.length = 18 := rfl
  rw [e] at this
  simp only [List.length_cons, List.length_nil]
  omega
theorem floatB_len {x : FloatR} (h : x.ok) : (floatB x).length ≤ 30 := by
  have := chns_len (l := x.nums) h
  have e : x.nums.length = 3 := rfl
  unfold floatB; omega
theorem many_chn_len {l : List Int} {m : Nat} (hl : l.length ≤ m) (hm : m ≤ 100000000000) (h : ∀ n ∈ l, I64 n) : (many chn l).length ≤ 10 + 10 * m := by
  have := many_len (f := chn) (l := l) (k := 10) ⟨by omega, by omega⟩ (fun n hn => chn_len (h n hn))
  omega
theorem noteBP_len {x : List Int × List Int} {m : Nat} (h1 : x.1.length ≤ m) (h2 : x.2.length ≤ m) (hm : m ≤ 100000000000) (h3 : ∀ n ∈ x.1, I64 n) (h4 : ∀ n ∈ x.2, I64 n) : (noteBP x).length ≤ 20 + 20 * m := by
  unfold noteBP
  rw [List.length_append]
  have a := many_chn_len h1 hm h3
  have b := many_chn_len h2 hm h4
  omega
theorem jobBP_len {j : PlainJ} (h : okJ 2000 j) : (jobBP j).length ≤ 1000000000 := by
  obtain ⟨h1, h2, h3, h4, h5, h6, h7⟩ := h
  unfold jobBP
  simp only [List.length_append]
  have a := geomB_len h1
  have b := many_len (f := itemB) (l := j.2.1) (k := 50) ⟨by omega, by omega⟩ (fun x hx => itemB_len (h3 x hx))
  have c := many_len (f := noteBP) (l := j.2.2.1) (k := 40020) ⟨by omega, by omega⟩ (fun x hx => by
    obtain ⟨p, q, r, s⟩ := h5 x hx
    have := noteBP_len p q (by decide) r s
    omega)
  have d := many_len (f := floatB) (l := j.2.2.2) (k := 30) ⟨by omega, by omega⟩ (fun x hx => floatB_len (h7 x hx))
  have e : magicJ.length = 4 := rfl
  omega
end Go.LM

namespace Go.LM
/-! ### any list gathered on a row of its own -/
structure AccN (h0 : H) (o : Option (Nat × Nat)) (n : Nat) (h : H) : Prop where
  tok : okTok o n h
  new : newTok o h0
  keep : Keep h0 h
  wf : WF h
theorem AccN.start {h0 h : H} (k : Keep h0 h) (w : WF h) : AccN h0 none 0 h := ⟨rfl, trivial, k, w⟩
theorem AccN.fresh {h0 h : H} (k : Keep h0 h) (w : WF h) (n : Nat) : AccN h0 (some (h.rlen, n)) n (h.nrow n) := by
  have := w.2.1
  have := w.2.2
  exact ⟨⟨by omega, by rw [lor_nrow]; omega, by rw [rlen_nrow]; omega, by rw [rget_nrow_eq]⟩, k.rlen, k.nrow _, wf_nrow w⟩
theorem AccN.next {h0 : H} {o : Option (Nat × Nat)} {n : Nat} {h h' : H} (a : AccN h0 o n h) (k : Keep h h') : AccN h0 o n h' := ⟨okTok_keep k a.tok, a.new, a.keep.trans k, a.wf.keep k⟩
theorem AccN.app {h0 : H} {o : Option (Nat × Nat)} {sz by_ : Nat} {xs : List LV} {h : H} (a : AccN h0 o xs.length h) (ys : List LV) (hb : (2 * (xs.length + ys.length) + 192) * by_ ≤ 2 ^ 48) :
    ∃ o' h', appS sz by_ (mkS o sz xs) h (some ys) = some (mkS o' sz (xs ++ ys), h') ∧ AccN h0 o' (xs ++ ys).length h' ∧ (∀ c, h'.get c = h.get c) ∧ h'.len = h.len ∧ h'.lob = h.lob := by
  have t2 := okTok_ap (m := ys.length) a.wf a.tok
  exact ⟨_, _, append_mk a.tok hb, ⟨by rw [List.length_append]; exact t2, newTok_ap a.keep a.new, keep_ap a.keep a.new, wf_ap a.wf⟩, fun c => get_ap c, len_ap, lob_ap⟩
theorem AccN.appI {h0 : H} {o : Option (Nat × Nat)} {by_ : Nat} {l : List Int} {h : H} (a : AccN h0 o l.length h) (ys : List Int) (hb : (2 * (l.length + ys.length) + 192) * by_ ≤ 2 ^ 48) :
    ∃ o' h', appS 1 by_ (ints o l) h (some (ys.map (LV.int .i64))) = some (ints o' (l ++ ys), h') ∧ AccN h0 o' (l ++ ys).length h' ∧ (∀ c, h'.get c = h.get c) ∧ h'.len = h.len ∧ h'.lob = h.lob := by
  obtain ⟨o', h', h1, h2, h3⟩ := AccN.app (sz := 1) (by_ := by_) (xs := l.map (LV.int .i64)) (h := h) (h0 := h0) (o := o) (by rw [List.length_map]; exact a) (ys.map (LV.int .i64)) (by rw [List.length_map, List.length_map]; exact hb)
  rw [← List.map_append] at h1 h2
  rw [List.length_map] at h2
  exact ⟨o', h', h1, h2, h3⟩
theorem of_acc {h0 : H} {o : Option (Nat × Nat)} {pre : List Int} {h : H} (a : AccN h0 o pre.length h) : Acc h0 o pre h := ⟨a.tok, a.new, a.keep, a.wf⟩
theorem take_succ {α : Type} {l : List α} {i : Nat} {x : α} (hx : l[i]? = some x) : l.take (i + 1) = l.take i ++ [x] := by
  obtain ⟨hlt, rfl⟩ := List.getElem?_eq_some_iff.1 hx
  rw [← List.take_append_getElem hlt]
end Go.LM

namespace Go.LM
/-! ### jobs, read -/
theorem Wrote.bool : Wrote RS.bool (fun b => [if b = true then 1 else 0]) := by
  intro r ok hs
  unfold RS.bool at hs ⊢
  split at hs
  · cases hs
  rename_i h
  rw [if_neg h]
  have h1 : r.stop = false := by
    cases e : r.stop
    · rfl
    · exact absurd (.inl e) h
  have h2 : r.at_ ≠ r.b.length := fun e => h (.inr (.inl e))
  have h3 : ¬ 1 < r.byte := fun e => h (.inr (.inr e))
  have o2 := ok.2.1
  have o3 := ok.2.2
  refine ⟨h1, by simp only; omega, ?_⟩
  have hlt : r.at_.toNat < r.b.length := by omega
  have e : (r.at_ + 1).toNat = r.at_.toNat + 1 := by omega
  simp only [e]
  have hb : r.b[r.at_.toNat] = r.byte := by unfold RS.byte; rw [List.getElem?_eq_getElem hlt]; rfl
  have hbr : 0 ≤ r.byte := by rw [← hb]; exact (ok.1 _ (List.getElem_mem _)).1
  rw [List.drop_eq_getElem_cons hlt, hb]
  simp only [List.cons_append, List.nil_append, List.cons.injEq, and_true, decide_eq_true_eq]
  split <;> omega
def geomOf (l : List Int) (b : Bool) : GeomR :=
  ⟨l.getD 0 0, l.getD 1 0, l.getD 2 0, l.getD 3 0, l.getD 4 0, l.getD 5 0, l.getD 6 0, l.getD 7 0, l.getD 8 0, l.getD 9 0, l.getD 10 0, l.getD 11 0, l.getD 12 0, l.getD 13 0, l.getD 14 0, l.getD 15 0, l.getD 16 0, l.getD 17 0, b⟩
def geomRd (r : RS) : GeomR × RS := (geomOf (numsR 18 r).1 (numsR 18 r).2.bool.1, (numsR 18 r).2.bool.2)
def itemRd (r : RS) : ItemR × RS :=
  if r.int.1 = 1 then (⟨r.int.1, r.int.2.int.1, r.int.2.int.2.int.1, 0, 0, 0, 0⟩, r.int.2.int.2.int.2)
  else if r.int.1 = 2 then (⟨r.int.1, r.int.2.int.1, 0, r.int.2.int.2.int.1, r.int.2.int.2.int.2.int.1, r.int.2.int.2.int.2.int.2.int.1, 0⟩, r.int.2.int.2.int.2.int.2.int.2)
  else if r.int.1 = 3 ∨ r.int.1 = 4 ∨ r.int.1 = 5 ∨ r.int.1 = 6 then (⟨r.int.1, 0, 0, 0, 0, 0, r.int.2.int.1⟩, r.int.2.int.2)
  else if r.int.1 = 7 then (⟨r.int.1, 0, 0, 0, 0, 0, 0⟩, r.int.2)
  else (⟨r.int.1, 0, 0, 0, 0, 0, 0⟩, r.int.2.halt)
def noteRd (r : RS) : (List Int × List Int) × RS := (((eachL RS.int r).1, (eachL RS.int (eachL RS.int r).2).1), (eachL RS.int (eachL RS.int r).2).2)
def floatRd (r : RS) : FloatR × RS := (⟨r.int.1, r.int.2.int.1, r.int.2.int.2.int.1⟩, r.int.2.int.2.int.2)
theorem geom_one : OneOk geomRd := ⟨fun r => ((numsR 18 r).2.bool_b).trans ((nums_one 18).b r), fun r h => RS.bool_ok ((nums_one 18).ok r h)⟩
theorem item_one : OneOk itemRd := by
  refine ⟨fun r => ?_, fun r h => ?_⟩
  · unfold itemRd
    split
    · exact (nums_one 3).b r
    split
    · exact (nums_one 5).b r
    split
    · exact (nums_one 2).b r
    split
    · exact r.int_b
    · exact r.int_b
  · unfold itemRd
    split
    · exact (nums_one 3).ok r h
    split
    · exact (nums_one 5).ok r h
    split
    · exact (nums_one 2).ok r h
    split
    · exact (RS.int_ok h).1
    · exact (RS.int_ok h).1
theorem note_one : OneOk noteRd := ⟨fun r => ((each_one RS.int_one).b _).trans ((each_one RS.int_one).b r), fun r h => (each_one RS.int_one).ok _ ((each_one RS.int_one).ok r h)⟩
theorem float_one : OneOk floatRd := ⟨fun r => (nums_one 3).b r, fun r h => (nums_one 3).ok r h⟩
theorem item_64 {r : RS} (ok : r.ok) : (itemRd r).1.ok := by
  have h1 := (RS.int_ok ok).2.1
  have o1 := (RS.int_ok ok).1
  have h2 := (RS.int_ok o1).2.1
  have o2 := (RS.int_ok o1).1
  have h3 := (RS.int_ok o2).2.1
  have o3 := (RS.int_ok o2).1
  have h4 := (RS.int_ok o3).2.1
  have o4 := (RS.int_ok o3).1
  have h5 := (RS.int_ok o4).2.1
  have z : I64 0 := ⟨by omega, by omega⟩
  unfold itemRd
  intro n hn
  split at hn
  · simp only [ItemR.nums, List.mem_cons, List.not_mem_nil, or_false] at hn
    rcases hn with rfl | rfl | rfl | rfl | rfl | rfl | rfl <;> assumption
  split at hn
  · simp only [ItemR.nums, List.mem_cons, List.not_mem_nil, or_false] at hn
    rcases hn with rfl | rfl | rfl | rfl | rfl | rfl | rfl <;> assumption
  split at hn
  · simp only [ItemR.nums, List.mem_cons, List.not_mem_nil, or_false] at hn
    rcases hn with rfl | rfl | rfl | rfl | rfl | rfl | rfl <;> assumption
  split at hn
  · simp only [ItemR.nums, List.mem_cons, List.not_mem_nil, or_false] at hn
    rcases hn with rfl | rfl | rfl | rfl | rfl | rfl | rfl <;> assumption
  · simp only [ItemR.nums, List.mem_cons, List.not_mem_nil, or_false] at hn
    rcases hn with rfl | rfl | rfl | rfl | rfl | rfl | rfl <;> assumption
theorem item_bare {r : RS} (hs : (itemRd r).2.stop = false) : bareR (itemRd r).1 = true := by
  unfold itemRd at hs ⊢
  by_cases h1 : r.int.1 = 1
  · rw [if_pos h1]; unfold bareR; simp [h1]
  by_cases h2 : r.int.1 = 2
  · rw [if_neg h1, if_pos h2]; unfold bareR; simp [h2]
  by_cases h3 : r.int.1 = 3 ∨ r.int.1 = 4 ∨ r.int.1 = 5 ∨ r.int.1 = 6
  · rw [if_neg h1, if_neg h2, if_pos h3]; unfold bareR; simp [h1, h2, h3]
  by_cases h7 : r.int.1 = 7
  · rw [if_neg h1, if_neg h2, if_neg h3, if_pos h7]; unfold bareR; simp [h7]
  · rw [if_neg h1, if_neg h2, if_neg h3, if_neg h7] at hs; cases hs
theorem Reads.geom {g : GeomR} (hg : g.ok) : Reads geomRd (geomB g) g := by
  intro r rest ok hs h
  unfold geomB at h
  rw [List.append_assoc] at h
  have e1 : numsR 18 r = _ := Reads.nums (l := g.nums) hg r _ ok hs h
  obtain ⟨ok2, h2⟩ := Reads.after ok h
  have e2 := Reads.bool g.bal { r with at_ := r.at_ + (chns g.nums).length } rest ok2 hs h2
  unfold geomRd
  rw [e1]
  simp only
  rw [e2]
  unfold geomB
  rw [List.length_append]
  refine Prod.ext rfl ?_
  simp only [RS.mk.injEq, true_and, and_true]
  omega
theorem Wrote.geom : Wrote geomRd geomB := by
  intro r ok hs
  obtain ⟨s2, a2, d2⟩ := Wrote.bool (numsR 18 r).2 ((nums_one 18).ok r ok) hs
  obtain ⟨s1, a1, d1⟩ := Wrote.nums 18 r ok s2
  rw [(nums_one 18).b r] at d2
  refine ⟨s1, Int.le_trans a1 a2, ?_⟩
  rw [d1, d2, ← List.append_assoc]
  rfl
theorem Reads.float {x : FloatR} (hx : x.ok) : Reads floatRd (floatB x) x := by
  intro r rest ok hs h
  have e : numsR 3 r = _ := Reads.nums (l := x.nums) hx r rest ok hs h
  have e1 : (floatRd r).1.nums = (numsR 3 r).1 := rfl
  have e2 : (floatRd r).2 = (numsR 3 r).2 := rfl
  rw [e] at e1 e2
  simp only [FloatR.nums, List.cons.injEq, and_true] at e1
  refine Prod.ext ?_ e2
  show (floatRd r).1 = x
  generalize (floatRd r).1 = q at *
  obtain ⟨a, b, c⟩ := e1
  cases q; cases x; simp_all
theorem Wrote.float : Wrote floatRd floatB := fun r ok hs => Wrote.nums 3 r ok hs
theorem Reads.note {m : Nat} {x : List Int × List Int} (hm : m ≤ 1000000000000) (h1 : x.1.length ≤ m) (h2 : x.2.length ≤ m) (h3 : ∀ n ∈ x.1, I64 n) (h4 : ∀ n ∈ x.2, I64 n) : Reads noteRd (noteBP x) x := by
  intro r rest ok hs h
  unfold noteBP at h
  rw [List.append_assoc] at h
  have e1 := Reads.each (one := RS.int) (f := chn) (g := id) (l := x.1) ⟨by omega, by omega⟩ (fun n hn => Reads.int (h3 n hn)) (fun n _ => chn_pos n) r _ ok hs h
  obtain ⟨ok2, d2⟩ := Reads.after ok h
  have e2 := Reads.each (one := RS.int) (f := chn) (g := id) (l := x.2) ⟨by omega, by omega⟩ (fun n hn => Reads.int (h4 n hn)) (fun n _ => chn_pos n) { r with at_ := r.at_ + (many chn x.1).length } rest ok2 hs d2
  unfold noteRd
  rw [e1]
  simp only
  rw [e2, List.map_id, List.map_id]
  unfold noteBP
  simp only [List.length_append, Prod.mk.injEq, true_and, RS.mk.injEq, and_true, Prod.eta]
  omega
theorem Wrote.note : Wrote noteRd noteBP := by
  intro r ok hs
  obtain ⟨s2, a2, d2⟩ := Wrote.each RS.int_one Wrote.int (eachL RS.int r).2 ((each_one RS.int_one).ok r ok) hs
  obtain ⟨s1, a1, d1⟩ := Wrote.each RS.int_one Wrote.int r ok s2
  rw [(each_one RS.int_one).b r] at d2
  refine ⟨s1, Int.le_trans a1 a2, ?_⟩
  rw [d1, d2, ← List.append_assoc]
  rfl
theorem Reads.item {x : ItemR} (hx : x.ok) (hb : bareR x = true) : Reads itemRd (itemB x) x := by
  intro r rest ok hs h
  have hn : ∀ n ∈ x.k :: fieldsR x, I64 n := by
    intro n hn
    rcases List.mem_cons.1 hn with rfl | hn
    · exact item_k64 hx
    · exact fieldsR_64 hx n hn
  have h' : r.b.drop r.at_.toNat = chns (x.k :: fieldsR x) ++ rest := by rw [chns_cons]; exact h
  have e : numsR (x.k :: fieldsR x).length r = _ := Reads.nums (l := x.k :: fieldsR x) hn r rest ok hs h'
  have hl : (itemB x).length = (chns (x.k :: fieldsR x)).length := by rw [chns_cons]; rfl
  rw [hl]
  unfold bareR at hb
  obtain ⟨k, hh, f, str, ord, shr, n⟩ := x
  unfold fieldsR at e ⊢
  simp only at hb e ⊢
  unfold itemRd
  by_cases d1 : k = 1
  · subst d1
    simp only [↓reduceIte, List.length_cons, List.length_nil, numsR, Prod.mk.injEq, List.cons.injEq, and_true, Bool.and_eq_true, beq_iff_eq] at e hb ⊢
    obtain ⟨⟨a1, a2, a3⟩, a4⟩ := e
    obtain ⟨b1, b2, b3, b4⟩ := hb
    subst b1 b2 b3 b4
    rw [if_pos a1]
    simp only [a1, a2, a3, a4]
  by_cases d2 : k = 2
  · subst d2
    simp only [Int.reduceEq, ↓reduceIte, List.length_cons, List.length_nil, numsR, Prod.mk.injEq, List.cons.injEq, and_true, Bool.and_eq_true, beq_iff_eq] at e hb ⊢
    obtain ⟨⟨a1, a2, a3, a4, a5⟩, a6⟩ := e
    obtain ⟨b1, b2⟩ := hb
    subst b1 b2
    rw [if_neg (by omega), if_pos a1]
    simp only [a1, a2, a3, a4, a5, a6]
  by_cases d7 : k = 7
  · subst d7
    simp only [Int.reduceEq, ↓reduceIte, List.length_cons, List.length_nil, numsR, Prod.mk.injEq, List.cons.injEq, and_true, Bool.and_eq_true, beq_iff_eq, or_self] at e hb ⊢
    obtain ⟨a1, a2⟩ := e
    obtain ⟨b1, b2, b3, b4, b5, b6⟩ := hb
    subst b1 b2 b3 b4 b5 b6
    rw [if_neg (by omega), if_neg (by omega), if_neg (by omega), if_pos a1]
    simp only [a1, a2]
  rw [if_neg d1, if_neg d2] at hb
  have d3 : k = 3 ∨ k = 4 ∨ k = 5 ∨ k = 6 := by
    by_cases hd : k = 3 ∨ k = 4 ∨ k = 5 ∨ k = 6
    · exact hd
    · rw [if_neg hd, if_neg d7] at hb; cases hb
  rw [if_pos d3] at hb
  rw [if_neg d1, if_neg d2, if_neg d7] at e ⊢
  simp only [List.length_cons, List.length_nil, numsR, Prod.mk.injEq, List.cons.injEq, and_true, Bool.and_eq_true, beq_iff_eq] at e hb ⊢
  obtain ⟨⟨a1, a2⟩, a3⟩ := e
  obtain ⟨b1, b2, b3, b4, b5⟩ := hb
  subst b1 b2 b3 b4 b5
  rw [if_neg (by omega), if_neg (by omega), if_pos (by omega)]
  simp only [a1, a2, a3]
theorem Wrote.item : Wrote itemRd itemB := by
  intro r ok hs
  unfold itemRd at hs ⊢
  by_cases h1 : r.int.1 = 1
  · rw [if_pos h1] at hs ⊢
    obtain ⟨s1, a1, d1⟩ := Wrote.nums 3 r ok hs
    refine ⟨s1, a1, ?_⟩
    rw [d1]; unfold itemB fieldsR; simp only [h1, if_true]; simp only [numsR, chns_cons, h1]
  by_cases h2 : r.int.1 = 2
  · rw [if_neg h1, if_pos h2] at hs ⊢
    obtain ⟨s1, a1, d1⟩ := Wrote.nums 5 r ok hs
    refine ⟨s1, a1, ?_⟩
    rw [d1]; unfold itemB fieldsR; simp only [h2, Int.reduceEq, if_true, if_false]; simp only [numsR, chns_cons, h2]
  by_cases h3 : r.int.1 = 3 ∨ r.int.1 = 4 ∨ r.int.1 = 5 ∨ r.int.1 = 6
  · rw [if_neg h1, if_neg h2, if_pos h3] at hs ⊢
    obtain ⟨s1, a1, d1⟩ := Wrote.nums 2 r ok hs
    refine ⟨s1, a1, ?_⟩
    have h7 : ¬ r.int.1 = 7 := by omega
    rw [d1]; unfold itemB fieldsR; simp only [if_neg h1, if_neg h2, if_neg h7]; simp only [numsR, chns_cons]
  by_cases h7 : r.int.1 = 7
  · rw [if_neg h1, if_neg h2, if_neg h3, if_pos h7] at hs ⊢
    obtain ⟨s1, a1, d1⟩ := Wrote.nums 1 r ok hs
    refine ⟨s1, a1, ?_⟩
    rw [d1]; unfold itemB fieldsR; simp only [if_neg h1, if_neg h2, if_pos h7]; simp only [numsR, chns_cons]
  · rw [if_neg h1, if_neg h2, if_neg h3, if_neg h7] at hs; cases hs

/-! ### a job, read -/
def jS1 (b : List Int) : RS := RS.mark ⟨b, 0, false⟩ magicJ
def jS2 (b : List Int) : GeomR × RS := geomRd (jS1 b)
def jS3 (b : List Int) : List ItemR × RS := eachL itemRd (jS2 b).2
def jS4 (b : List Int) : List (List Int × List Int) × RS := eachL noteRd (jS3 b).2
def jS5 (b : List Int) : List FloatR × RS := eachL floatRd (jS4 b).2
def jobOf (b : List Int) : PlainJ := ((jS2 b).1, (jS3 b).1, (jS4 b).1, (jS5 b).1)
def jobRd (b : List Int) : Option PlainJ := if (jS5 b).2.stop = false ∧ (b.length : Int) ≤ (jS5 b).2.at_ then some (jobOf b) else none
def partN (b : List Int) : Nat :=
  if (jS1 b).stop = true then 0 else if (jS2 b).2.stop = true then 1 else if (jS3 b).2.stop = true then 2 else if (jS4 b).2.stop = true then 3 else if (jS5 b).2.stop = true then 4 else 5
structure JOk (b : List Int) : Prop where
  o1 : (jS1 b).ok
  o2 : (jS2 b).2.ok
  o3 : (jS3 b).2.ok
  o4 : (jS4 b).2.ok
  o5 : (jS5 b).2.ok
  b1 : (jS1 b).b = b
  b2 : (jS2 b).2.b = b
  b3 : (jS3 b).2.b = b
  b4 : (jS4 b).2.b = b
  b5 : (jS5 b).2.b = b
theorem jok {b : List Int} (hb : ∀ c ∈ b, 0 ≤ c ∧ c < 256) : JOk b := by
  have o1 : (jS1 b).ok := RS.mark_ok (rs0_ok hb) magicJ
  have b1 : (jS1 b).b = b := RS.mark_b _ _
  have o2 := geom_one.ok _ o1
  have b2 := (geom_one.b (jS1 b)).trans b1
  have o3 := (each_one item_one).ok _ o2
  have b3 := ((each_one item_one).b (jS2 b).2).trans b2
  have o4 := (each_one note_one).ok _ o3
  have b4 := ((each_one note_one).b (jS3 b).2).trans b3
  exact ⟨o1, o2, o3, o4, (each_one float_one).ok _ o4, b1, b2, b3, b4, ((each_one float_one).b (jS4 b).2).trans b4⟩
theorem geomRd_ok {r : RS} (ok : r.ok) : (geomRd r).1.ok := nums_64 18 r ok
/-- What is read of any bytes. -/
theorem job_wrote {b : List Int} (hb : ∀ c ∈ b, 0 ≤ c ∧ c < 256) (hs : (jS5 b).2.stop = false) : b = jobBP (jobOf b) ++ b.drop (jS5 b).2.at_.toNat := by
  have J := jok hb
  obtain ⟨s4, -, d5⟩ := Wrote.each float_one Wrote.float _ J.o4 hs
  obtain ⟨s3, -, d4⟩ := Wrote.each note_one Wrote.note _ J.o3 s4
  obtain ⟨s2, -, d3⟩ := Wrote.each item_one Wrote.item _ J.o2 s3
  obtain ⟨s1, -, d2⟩ := Wrote.geom _ J.o1 s2
  obtain ⟨-, -, d1⟩ := Wrote.mark (s := magicJ) (rs0_ok hb) s1
  rw [J.b4] at d5
  rw [J.b3] at d4
  rw [J.b2] at d3
  rw [J.b1] at d2
  have e0 : b = magicJ ++ b.drop (jS1 b).at_.toNat := d1
  have e5 : b.drop (jS4 b).2.at_.toNat = many floatB (jS5 b).1 ++ b.drop (jS5 b).2.at_.toNat := d5
  have e4 : b.drop (jS3 b).2.at_.toNat = many noteBP (jS4 b).1 ++ b.drop (jS4 b).2.at_.toNat := d4
  have e3 : b.drop (jS2 b).2.at_.toNat = many itemB (jS3 b).1 ++ b.drop (jS3 b).2.at_.toNat := d3
  have e2 : b.drop (jS1 b).at_.toNat = geomB (jS2 b).1 ++ b.drop (jS2 b).2.at_.toNat := d2
  rw [e2, e3, e4, e5] at e0
  unfold jobBP jobOf
  simp only [List.append_assoc]
  exact e0
theorem jobOf_ok {b : List Int} (hb : ∀ c ∈ b, 0 ≤ c ∧ c < 256) : okJ b.length (jobOf b) := by
  have J := jok hb
  refine ⟨geomRd_ok J.o1, ?_, ?_, ?_, ?_, ?_, ?_⟩
  · have := each_len item_one J.o2; rw [J.b2] at this; exact this
  · exact each_all (B := b) item_one (fun q okq _ => item_64 okq) J.o2 J.b2
  · have := each_len note_one J.o3; rw [J.b3] at this; exact this
  · refine each_all (B := b) note_one (fun q okq hq => ?_) J.o3 J.b3
    have l1 := each_len RS.int_one okq
    have ok2 := (each_one RS.int_one).ok q okq
    have b2 := ((each_one RS.int_one).b q).trans hq
    have l2 := each_len RS.int_one ok2
    rw [hq] at l1
    rw [b2] at l2
    exact ⟨l1, l2, each_all (B := b) RS.int_one (fun q okq _ => (RS.int_ok okq).2.1) okq hq, each_all (B := b) RS.int_one (fun q okq _ => (RS.int_ok okq).2.1) ok2 b2⟩
  · have := each_len float_one J.o4; rw [J.b4] at this; exact this
  · exact each_all (B := b) float_one (fun q okq _ => nums_64 3 q okq) J.o4 J.b4
theorem each_not {α : Type} {one : RS → α × RS} {Q : α → Prop} (hq : ∀ r : RS, (one r).2.stop = false → Q (one r).1) {r : RS} (hs : (eachL one r).2.stop = false) : ∀ x ∈ (eachL one r).1, Q x := by
  have key : ∀ n (r : RS), (gather one n r).2.stop = false → ∀ x ∈ (gather one n r).1, Q x := by
    intro n
    induction n with
    | zero => intro r _ x hx; simp [gather] at hx
    | succ n ih =>
      intro r hs x hx
      by_cases h : r.stop = true
      · rw [gather_stop h] at hs; simp only at hs; rw [h] at hs; cases hs
      · have h' : r.stop = false := by simpa using h
        rw [gather_go h'] at hs hx
        simp only [List.mem_cons] at hs hx
        have h1 : (one r).2.stop = false := by
          cases e : (one r).2.stop
          · rfl
          · rw [gather_stop e] at hs; simp only at hs; rw [e] at hs; cases hs
        rcases hx with rfl | hx
        · exact hq r h1
        · exact ih _ hs x hx
  intro x hx
  unfold eachL at hs hx
  dsimp only at hs hx
  split at hs
  · rename_i h; simp only at hs; rw [h] at hs; cases hs
  · rename_i h
    rw [if_neg h] at hx
    exact key _ _ hs x hx
theorem jobOf_bare {b : List Int} (hb : ∀ c ∈ b, 0 ≤ c ∧ c < 256) (hs : (jS5 b).2.stop = false) : bareL (jobOf b).2.1 = true := by
  have J := jok hb
  obtain ⟨s4, -, -⟩ := Wrote.each float_one Wrote.float _ J.o4 hs
  obtain ⟨s3, -, -⟩ := Wrote.each note_one Wrote.note _ J.o3 s4
  unfold bareL
  rw [List.all_eq_true]
  exact each_not (fun r h => item_bare h) s3
theorem jobRd_some {b : List Int} {j : PlainJ} (hb : ∀ c ∈ b, 0 ≤ c ∧ c < 256) (h : jobRd b = some j) : b = jobBP j ∧ okJ b.length j ∧ bareL j.2.1 = true := by
  unfold jobRd at h
  split at h
  · rename_i hc
    simp only [Option.some.injEq] at h
    have hw := job_wrote hb hc.1
    have ho := jobOf_ok hb
    have hr := jobOf_bare hb hc.1
    rw [List.drop_eq_nil_of_le (by omega), List.append_nil] at hw
    rw [h] at hw ho hr
    exact ⟨hw, ho, hr⟩
  · cases h
end Go.LM

namespace Go.LM
/-! ### a reader's struct, a result, and a thing at hand -/
structure W3 (h0 h : H) (q d a c : Nat) (D A C : List LV) (r : RS) (hh : H) : Prop where
  rdr : Rdr h0 q r hh
  otr : Otr q h hh
  gd : hh.get d = some ⟨false, D⟩
  ga : hh.get a = some ⟨false, A⟩
  gc : hh.get c = some ⟨false, C⟩
  dq : d ≠ q
  aq : a ≠ q
  cq : c ≠ q
  dc : d ≠ c
  ac : a ≠ c
  hc : h.len ≤ c
  h0c : h0.len ≤ c
  hlo : h.lob ≤ h.len
  ha : h.len ≤ a
theorem W3.call {h0 h : H} {q d a c : Nat} {D A C : List LV} {r r' : RS} {hh h' : H} (w : W3 h0 h q d a c D A C r hh) (R : Rdr h0 q r' h') (O : Otr q hh h') : W3 h0 h q d a c D A C r' h' :=
  ⟨R, w.otr.trans O, (O.get (lt_of_get w.gd) w.dq).trans w.gd, (O.get (lt_of_get w.ga) w.aq).trans w.ga, (O.get (lt_of_get w.gc) w.cq).trans w.gc, w.dq, w.aq, w.cq, w.dc, w.ac, w.hc, w.h0c, w.hlo, w.ha⟩
theorem W3.next {h0 h : H} {q d a c : Nat} {D A C : List LV} {r : RS} {hh h' : H} (w : W3 h0 h q d a c D A C r hh) (k : Keep hh h') : W3 h0 h q d a c D A C r h' := w.call (w.rdr.next k) (k.otr q)
theorem W3.put {h0 h : H} {q d a c : Nat} {D A C : List LV} {r : RS} {hh : H} (w : W3 h0 h q d a c D A C r hh) (C' : List LV) : W3 h0 h q d a c D A C' r (hh.put c ⟨false, C'⟩) :=
  ⟨w.rdr.put2 w.cq w.h0c _, w.otr.new w.hc _, (get_put_ne (Ne.symm w.dc)).trans w.gd, (get_put_ne (Ne.symm w.ac)).trans w.ga, get_put_eq (lt_of_get w.gc), w.dq, w.aq, w.cq, w.dc, w.ac, w.hc, w.h0c, w.hlo, w.ha⟩
theorem W3.lobc {h0 h : H} {q d a c : Nat} {D A C : List LV} {r : RS} {hh : H} (w : W3 h0 h q d a c D A C r hh) : hh.lob ≤ c := by
  rw [w.otr.lob]; exact Nat.le_trans w.hlo w.hc
theorem W3.loba {h0 h : H} {q d a c : Nat} {D A C : List LV} {r : RS} {hh : H} (w : W3 h0 h q d a c D A C r hh) : hh.lob ≤ a := by
  rw [w.otr.lob]; exact Nat.le_trans w.hlo w.ha
theorem W3.ltc {h0 h : H} {q d a c : Nat} {D A C : List LV} {r : RS} {hh : H} (w : W3 h0 h q d a c D A C r hh) : c < hh.len := lt_of_get w.gc
theorem W3.lta {h0 h : H} {q d a c : Nat} {D A C : List LV} {r : RS} {hh : H} (w : W3 h0 h q d a c D A C r hh) : a < hh.len := lt_of_get w.ga
/-- The result is written: the end. -/
theorem W3.fin {h0 h : H} {q d a c : Nat} {D A C : List LV} {r : RS} {hh : H} (w : W3 h0 h q d a c D A C r hh) (h0a : h0.len ≤ a) (B : Box) : Rdr h0 q r (hh.put a B) ∧ Otr q h (hh.put a B) :=
  ⟨w.rdr.put2 w.aq h0a _, w.otr.new w.ha _⟩
end Go.LM

namespace Go.LM
/-! ### how far bytes are a job -/
theorem nums_stop {r : RS} (h : r.stop = true) : ∀ n, (numsR n r).2 = r
  | 0 => rfl
  | n + 1 => by
    have e := int_stop h
    have := nums_stop h n
    unfold numsR
    rw [e]
    exact this
theorem bool_stop {r : RS} (h : r.stop = true) : r.bool.2 = r := by
  unfold RS.bool
  rw [if_pos (.inl h)]
  unfold RS.halt
  rw [← h]
theorem geom_stop {r : RS} (h : r.stop = true) : (geomRd r).2 = r := by
  unfold geomRd
  simp only
  rw [nums_stop h, bool_stop h]
def partS (n : Nat) : ByteArray :=
  match n with
  | 0 => ⟨#[109, 97, 103, 105, 99]⟩
  | 1 => ⟨#[103, 101, 111, 109, 101, 116, 114, 121]⟩
  | 2 => ⟨#[105, 116, 101, 109, 115]⟩
  | 3 => ⟨#[110, 111, 116, 101, 115]⟩
  | 4 => ⟨#[102, 108, 111, 97, 116, 115]⟩
  | _ => ⟨#[101, 110, 100]⟩
def jSt (b : List Int) : Nat → RS
  | 0 => ⟨b, 0, false⟩
  | 1 => jS1 b
  | 2 => (jS2 b).2
  | 3 => (jS3 b).2
  | 4 => (jS4 b).2
  | _ => (jS5 b).2
theorem jfin2 {b : List Int} (h : (jS1 b).stop = true) : (jS2 b).2 = jS1 b := geom_stop h
theorem jfin3 {b : List Int} (h : (jS2 b).2.stop = true) : (jS3 b).2 = (jS2 b).2 := by unfold jS3; rw [each_stop h]
theorem jfin4 {b : List Int} (h : (jS3 b).2.stop = true) : (jS4 b).2 = (jS3 b).2 := by unfold jS4; rw [each_stop h]
theorem jfin5 {b : List Int} (h : (jS4 b).2.stop = true) : (jS5 b).2 = (jS4 b).2 := by unfold jS5; rw [each_stop h]
/-- Where it stops, it stays. -/
theorem jfin {b : List Int} {i : Nat} (hi : i < 5) (h0 : ∀ k, k ≤ i → (jSt b k).stop = false) (h : (jSt b (i + 1)).stop = true) : partN b = i ∧ (jS5 b).2 = jSt b (i + 1) := by
  have q1 := h0 1
  have q2 := h0 2
  have q3 := h0 3
  have q4 := h0 4
  unfold partN
  obtain rfl | rfl | rfl | rfl | rfl : i = 0 ∨ i = 1 ∨ i = 2 ∨ i = 3 ∨ i = 4 := by omega
  · have a1 : (jS1 b).stop = true := h
    have e2 := jfin2 a1
    have e3 := jfin3 (e2 ▸ a1)
    rw [e2] at e3
    have e4 := jfin4 (e3 ▸ a1)
    rw [e3] at e4
    have e5 := jfin5 (e4 ▸ a1)
    rw [e4] at e5
    exact ⟨by simp [a1], e5⟩
  · have a1 : (jS1 b).stop = false := q1 (by omega)
    have a2 : (jS2 b).2.stop = true := h
    have e3 := jfin3 a2
    have e4 := jfin4 (e3 ▸ a2)
    rw [e3] at e4
    have e5 := jfin5 (e4 ▸ a2)
    rw [e4] at e5
    exact ⟨by simp [a1, a2], e5⟩
  · have a1 : (jS1 b).stop = false := q1 (by omega)
    have a2 : (jS2 b).2.stop = false := q2 (by omega)
    have a3 : (jS3 b).2.stop = true := h
    have e4 := jfin4 a3
    have e5 := jfin5 (e4 ▸ a3)
    rw [e4] at e5
    exact ⟨by simp [a1, a2, a3], e5⟩
  · have a1 : (jS1 b).stop = false := q1 (by omega)
    have a2 : (jS2 b).2.stop = false := q2 (by omega)
    have a3 : (jS3 b).2.stop = false := q3 (by omega)
    have a4 : (jS4 b).2.stop = true := h
    exact ⟨by simp [a1, a2, a3, a4], jfin5 a4⟩
  · have a1 : (jS1 b).stop = false := q1 (by omega)
    have a2 : (jS2 b).2.stop = false := q2 (by omega)
    have a3 : (jS3 b).2.stop = false := q3 (by omega)
    have a4 : (jS4 b).2.stop = false := q4 (by omega)
    have a5 : (jS5 b).2.stop = true := h
    exact ⟨by simp [a1, a2, a3, a4, a5], rfl⟩
theorem jend {b : List Int} (h0 : ∀ k, k ≤ 5 → (jSt b k).stop = false) : partN b = 5 ∧ (jS5 b).2.stop = false := by
  have a1 : (jS1 b).stop = false := h0 1 (by omega)
  have a2 : (jS2 b).2.stop = false := h0 2 (by omega)
  have a3 : (jS3 b).2.stop = false := h0 3 (by omega)
  have a4 : (jS4 b).2.stop = false := h0 4 (by omega)
  have a5 : (jS5 b).2.stop = false := h0 5 (by omega)
  refine ⟨?_, a5⟩
  unfold partN
  simp [a1, a2, a3, a4, a5]
theorem partN_lt {b : List Int} (h : (jS5 b).2.stop = true) : partN b ≠ 5 := by
  unfold partN
  repeat' split
  all_goals first | omega | (exfalso; simp_all)
theorem partN_end {b : List Int} (h : (jS5 b).2.stop = false) : partN b = 5 := by
  have e4 : (jS4 b).2.stop = false := by
    cases e : (jS4 b).2.stop
    · rfl
    · rw [jfin5 e, e] at h; cases h
  have e3 : (jS3 b).2.stop = false := by
    cases e : (jS3 b).2.stop
    · rfl
    · rw [jfin4 e, e] at e4; cases e4
  have e2 : (jS2 b).2.stop = false := by
    cases e : (jS2 b).2.stop
    · rfl
    · rw [jfin3 e, e] at e3; cases e3
  have e1 : (jS1 b).stop = false := by
    cases e : (jS1 b).stop
    · rfl
    · rw [jfin2 e, e] at e2; cases e2
  unfold partN
  simp [e1, e2, e3, e4, h]
theorem partS_end {n : Nat} (h : n ≤ 5) : (partS n = ⟨#[101, 110, 100]⟩) = (n = 5) := by
  obtain rfl | rfl | rfl | rfl | rfl | rfl : n = 0 ∨ n = 1 ∨ n = 2 ∨ n = 3 ∨ n = 4 ∨ n = 5 := by omega
  all_goals simp [partS]
theorem partN_le (b : List Int) : partN b ≤ 5 := by
  unfold partN
  repeat' split
  all_goals omega
end Go.LM
