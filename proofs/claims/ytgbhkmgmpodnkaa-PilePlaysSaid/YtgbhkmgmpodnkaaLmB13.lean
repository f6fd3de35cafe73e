import Derived.Test.YtgbhkmgmpodnkaaLmY
import Derived.Laws.Strings
namespace Go.LM
variable {P : Program} {T : Nat → Option LV}
/-- A turn of a loop that ends as a turn: the rest behind the loop is put aside. -/
theorem ru_step {k : List Fk} {r : Option (X × S × H)} {A B : X × S × H → Prop} (hr : Ru P T k r A) : Ru P T k r (fun r => A r ∨ B r) := hr.mono fun _ h => .inl h
/-! ### bytes gathered in a loop -/
structure Acc (h0 : H) (o : Option (Nat × Nat)) (pre : List Int) (h : H) : Prop where
  tok : okTok o pre.length h
  new : newTok o h0
  keep : Keep h0 h
  wf : WF h
theorem Acc.start {h0 h : H} (k : Keep h0 h) (w : WF h) : Acc h0 none [] h := ⟨rfl, trivial, k, w⟩
theorem Acc.next {h0 : H} {o : Option (Nat × Nat)} {pre : List Int} {h h' : H} (a : Acc h0 o pre h) (k : Keep h h') : Acc h0 o pre h' := ⟨okTok_keep k a.tok, a.new, a.keep.trans k, a.wf.keep k⟩
theorem Acc.app {h0 : H} {o : Option (Nat × Nat)} {pre : List Int} {h : H} (a : Acc h0 o pre h) (ys : List Int) (hb : pre.length + ys.length ≤ 100000000000000) :
    ∃ o' h', appS 1 1 (mkS o 1 (pre.map (LV.int .u8))) h (some (ys.map (LV.int .u8))) = some (mkS o' 1 ((pre ++ ys).map (LV.int .u8)), h') ∧ Acc h0 o' (pre ++ ys) h' ∧ (∀ c, h'.get c = h.get c) ∧ h'.len = h.len ∧ h'.lob = h.lob := by
  have ap := append_mk (sz := 1) (by_ := 1) (xs := pre.map (LV.int .u8)) (ys := ys.map (LV.int .u8)) (o := o) (h := h) (by simpa using a.tok) (by simp; omega)
  rw [← List.map_append] at ap
  have t2 := okTok_ap (m := (ys.map (LV.int .u8)).length) a.wf a.tok
  refine ⟨_, _, ap, ⟨?_, newTok_ap a.keep a.new, keep_ap a.keep a.new, wf_ap a.wf⟩, fun c => get_ap c, len_ap, lob_ap⟩
  rw [List.length_append]
  simpa using t2

/-! ### pages, and their lengths on the way -/
abbrev PlainL := Int × List PutR
abbrev PlainP := Int × Int × Int × List PlainL
instance dPL : DecidableEq (List PlainL) := inferInstance
instance dP1 : DecidableEq (Int × List PlainL) := inferInstance
instance dP2 : DecidableEq (Int × Int × List PlainL) := inferInstance
instance dPP : DecidableEq PlainP := @instDecidableEqProd Int (Int × Int × List PlainL) inferInstance dP2
end Go.LM

namespace Go.LM
variable {P : Program} {T : Nat → Option LV}
theorem ro_vcall {k : List Fk} {os : List RO} {d : Option Nat} {s : S} {h : H} {Q : X × S × H → Prop} {f : Nat} {args : List LV} {J : LV → H → Prop} (hr : ∃ v h', runI P T f args h = some (v, h') ∧ J v h')
    (hk : ∀ v hh, J v hh → Ro P T k (opsK P (runI P T) os d s (some (v, hh))) Q) : Ro P T k (opsK P (runI P T) os d s (runI P T f args h)) Q := by
  obtain ⟨v, h', e, hj⟩ := hr
  rw [e]; exact hk v h' hj
structure OpR where
  k : Int
  s : ByteArray
  n : Int
  b : Bool
  o : Option (Nat × Nat)
  l : List Int
def OpR.e (x : OpR) : LV := .agg [.int .i64 x.k, .str x.s, .int .i64 x.n, .bool x.b, ints x.o x.l]
abbrev OpR.num (x : OpR) : Prop := I64 x.n ∧ ∀ n ∈ x.l, I64 n
def opB (x : OpR) : List Int := if x.k = 0 then strB x.s else if x.k = 1 then chn x.n else if x.k = 2 then [if x.b = true then 1 else 0] else if x.k = 3 then many chn x.l else []
end Go.LM

namespace Go.LM
variable {P : Program} {T : Nat → Option LV}
/-! ### a reader: bytes, a place, whether it has stopped -/
structure RS where
  b : List Int
  at_ : Int
  stop : Bool
/-- The reader is well: its place lies in its bytes. -/
def RS.ok (r : RS) : Prop := (∀ c ∈ r.b, 0 ≤ c ∧ c < 256) ∧ 0 ≤ r.at_ ∧ r.at_ ≤ r.b.length
def RS.halt (r : RS) : RS := { r with stop := true }
structure Rdr (h0 : H) (p : Nat) (r : RS) (h : H) : Prop where
  get : ∃ o, h.get p = some ⟨false, [bytsL o r.b, .int .i64 r.at_, .bool r.stop]⟩
  lob : h.lob ≤ p
  new : h0.len ≤ p
  keep : Keep h0 h
  wf : WF h
theorem Rdr.lt {h0 : H} {p : Nat} {r : RS} {h : H} (w : Rdr h0 p r h) : p < h.len := by
  obtain ⟨o, hg⟩ := w.get
  exact (List.getElem?_eq_some_iff.1 hg).1
theorem Rdr.next {h0 : H} {p : Nat} {r : RS} {h h' : H} (w : Rdr h0 p r h) (k : Keep h h') : Rdr h0 p r h' := by
  obtain ⟨o, hg⟩ := w.get
  exact ⟨⟨o, (k.get w.lt).trans hg⟩, by rw [k.lob]; exact w.lob, w.new, w.keep.trans k, w.wf.keep k⟩
/-- Another box was written. -/
theorem Rdr.other {h0 : H} {p q : Nat} {r : RS} {h h' : H} (w : Rdr h0 p r h) (o : Oth q h h') (hn : p ≠ q) (hl : h'.lob ≤ p) (k : Keep h0 h') (wf : WF h') : Rdr h0 p r h' := by
  obtain ⟨t, hg⟩ := w.get
  exact ⟨⟨t, (o.get p w.lt hn).trans hg⟩, hl, w.new, k, wf⟩
theorem Rdr.set {h0 : H} {p : Nat} {r : RS} {h : H} (w : Rdr h0 p r h) (o : Option (Nat × Nat)) (r' : RS) :
    Rdr h0 p r' (h.put p ⟨false, [bytsL o r'.b, .int .i64 r'.at_, .bool r'.stop]⟩) ∧ Oth p h (h.put p ⟨false, [bytsL o r'.b, .int .i64 r'.at_, .bool r'.stop]⟩) :=
  ⟨⟨⟨o, by rw [get_put_eq w.lt]⟩, by rw [lob_put]; exact w.lob, w.new, w.keep.put w.new _, wf_put w.wf⟩, by rw [len_put]; exact Nat.le_refl _, fun c _ hne => by rw [get_put_ne (Ne.symm hne)]⟩
/-- One number. -/
def RS.int (r : RS) : Int × RS :=
  if r.stop then (0, r) else
  let g := getL r.b r.at_
  if g.2.2 ≠ 0 then (0, r.halt) else (g.1, { r with at_ := g.2.1 })
def RS.count (r : RS) : Int × RS :=
  if r.stop then (0, r) else
  let x := r.int
  if x.1 < 0 ∨ x.1 > r.b.length - x.2.at_ then (0, { x.2 with at_ := r.at_, stop := true }) else x
theorem getL_ok {b : List Int} {a : Int} (hc : ∀ c ∈ b, 0 ≤ c ∧ c < 256) (h0 : 0 ≤ a) (h : (getL b a).2.2 = 0) :
    I64 (getL b a).1 ∧ a < (getL b a).2.1 ∧ (getL b a).2.1 ≤ b.length := by
  unfold getL at h ⊢
  split at h
  · simp at h
  rename_i hr
  rw [if_neg hr]
  split at h
  · simp at h
  rename_i u k hs
  obtain ⟨v, hu, -, hv, hk, rest, hrest⟩ := scan_inv _ 0 0 u k (by omega) (fun c hm => hc c (List.mem_of_mem_drop hm)) hs
  have hl := congrArg List.length hrest
  rw [List.length_drop, List.length_append] at hl
  have hp := chainU_pos v
  simp only [Nat.pow_zero, Nat.mul_one, Nat.zero_add] at hu hv hk
  have := unfold_range (u := (u : Int)) (by omega) (by omega)
  exact ⟨this, by simp only; omega, by simp only; omega⟩
theorem RS.int_b (r : RS) : r.int.2.b = r.b := by
  unfold RS.int
  split
  · rfl
  · dsimp only; split <;> rfl
theorem RS.int_ok {r : RS} (ok : r.ok) : r.int.2.ok ∧ I64 r.int.1 ∧ r.at_ ≤ r.int.2.at_ := by
  unfold RS.int
  split
  · exact ⟨ok, ⟨by simp, by simp⟩, Int.le_refl _⟩
  · dsimp only
    split
    · exact ⟨ok, ⟨by simp, by simp⟩, Int.le_refl _⟩
    · rename_i h
      have hz : (getL r.b r.at_).2.2 = 0 := by simpa using h
      obtain ⟨a, b, c⟩ := getL_ok ok.1 ok.2.1 hz
      have := ok.2.1
      exact ⟨⟨ok.1, by simp only; omega, c⟩, a, by simp only; omega⟩
theorem RS.count_b (r : RS) : r.count.2.b = r.b := by
  unfold RS.count
  split
  · rfl
  · dsimp only; split
    · exact r.int_b
    · exact r.int_b
theorem RS.count_ok {r : RS} (ok : r.ok) : r.count.2.ok ∧ 0 ≤ r.count.1 ∧ r.count.1 ≤ r.b.length := by
  unfold RS.count
  have hi := RS.int_ok ok
  have hb := r.int_b
  split
  · exact ⟨ok, by simp, by simp⟩
  · dsimp only
    split
    · refine ⟨⟨by rw [hb]; exact ok.1, ok.2.1, by rw [hb]; exact ok.2.2⟩, by simp, by simp⟩
    · rename_i h
      have := hi.1.2.1
      exact ⟨hi.1, by omega, by omega⟩
/-- A bool. -/
def RS.byte (r : RS) : Int := (r.b[r.at_.toNat]?).getD 0
def RS.bool (r : RS) : Bool × RS :=
  if r.stop = true ∨ r.at_ = r.b.length ∨ 1 < r.byte then (false, r.halt) else (decide (r.byte = 1), { r with at_ := r.at_ + 1 })
end Go.LM

namespace Go.LM
variable {P : Program} {T : Nat → Option LV}
/-! ### only one box is written; rows that were there stay -/
structure Otr (b : Nat) (h h' : H) : Prop where
  oth : Oth b h h'
  rlen : h.rlen ≤ h'.rlen
  rget : ∀ r, r < h.rlen → h'.rget r = h.rget r
  lob : h'.lob = h.lob
  lor : h'.lor = h.lor
theorem Otr.refl (b : Nat) (h : H) : Otr b h h := ⟨.refl b h, Nat.le_refl _, fun _ _ => rfl, rfl, rfl⟩
theorem Otr.trans {b : Nat} {h h' h2 : H} (a : Otr b h h') (c : Otr b h' h2) : Otr b h h2 :=
  ⟨a.oth.trans c.oth, Nat.le_trans a.rlen c.rlen, fun r hr => (c.rget r (Nat.lt_of_lt_of_le hr a.rlen)).trans (a.rget r hr), c.lob.trans a.lob, c.lor.trans a.lor⟩
theorem Keep.otr {h h' : H} (k : Keep h h') (b : Nat) : Otr b h h' := ⟨k.oth b, k.rlen, fun _ hr => k.rget hr, k.lob, k.lor⟩
theorem Otr.put (b : Nat) (B : Box) (h : H) : Otr b h (h.put b B) :=
  ⟨⟨by rw [len_put]; exact Nat.le_refl _, fun c _ hne => get_put_ne (Ne.symm hne)⟩, by rw [rlen_put]; exact Nat.le_refl _, fun r _ => by rw [rget_put], by rw [lob_put], by rw [lor_put]⟩
theorem Otr.get {b c : Nat} {h h' : H} (a : Otr b h h') (hc : c < h.len) (hn : c ≠ b) : h'.get c = h.get c := a.oth.get c hc hn
theorem Otr.len {b : Nat} {h h' : H} (a : Otr b h h') : h.len ≤ h'.len := a.oth.len
theorem okTok_otr {b : Nat} {o : Option (Nat × Nat)} {n : Nat} {h h' : H} (k : Otr b h h') (ho : okTok o n h) : okTok o n h' := by
  rcases o with _ | ⟨r, hi⟩
  · exact ho
  · obtain ⟨h1, h2, h3, h4⟩ := ho
    exact ⟨h1, by rw [k.lor]; exact h2, Nat.lt_of_lt_of_le h3 k.rlen, by rw [k.rget r h3]; exact h4⟩
theorem Rdr.put {h0 : H} {p : Nat} {r : RS} {h : H} (w : Rdr h0 p r h) (o : Option (Nat × Nat)) (r' : RS) :
    Rdr h0 p r' (h.put p ⟨false, [bytsL o r'.b, .int .i64 r'.at_, .bool r'.stop]⟩) ∧ Otr p h (h.put p ⟨false, [bytsL o r'.b, .int .i64 r'.at_, .bool r'.stop]⟩) :=
  ⟨(w.set o r').1, .put _ _ _⟩
/-- Another reader stays as it is. -/
theorem Rdr.otr {h0 : H} {p q : Nat} {r : RS} {h h' : H} (w : Rdr h0 p r h) (o : Otr q h h') (hn : p ≠ q) (k : Keep h0 h') (wf : WF h') : Rdr h0 p r h' :=
  w.other o.oth hn (by rw [o.lob]; exact w.lob) k wf

/-! ### things gathered, one by one, while a reader is read -/
structure Gth (h0 h : H) (p : Nat) (r : RS) (o : Option (Nat × Nat)) (n : Nat) (hh : H) : Prop where
  rdr : Rdr h0 p r hh
  otr : Otr p h hh
  tok : okTok o n hh
  new : newTok o h
theorem Gth.start {h0 h hh : H} {p : Nat} {r : RS} (R : Rdr h0 p r hh) (t : Otr p h hh) : Gth h0 h p r none 0 hh := ⟨R, t, rfl, trivial⟩
theorem Gth.next {h0 h hh h' : H} {p : Nat} {r : RS} {o : Option (Nat × Nat)} {n : Nat} (g : Gth h0 h p r o n hh) (k : Keep hh h') : Gth h0 h p r o n h' :=
  ⟨g.rdr.next k, g.otr.trans (k.otr p), okTok_keep k g.tok, g.new⟩
theorem Gth.step {h0 h hh h' : H} {p : Nat} {r r' : RS} {o : Option (Nat × Nat)} {n : Nat} (g : Gth h0 h p r o n hh) (R : Rdr h0 p r' h') (t : Otr p hh h') : Gth h0 h p r' o n h' :=
  ⟨R, g.otr.trans t, okTok_otr t g.tok, g.new⟩
theorem rlen_apH_le {o : Option (Nat × Nat)} {m : Nat} {h : H} : h.rlen ≤ (apH o m h).rlen := by
  unfold apH
  split
  · exact Nat.le_refl _
  · rcases o with _ | ⟨r, hi⟩
    · rw [rlen_nrow]; omega
    · rw [rlen_srow]; exact Nat.le_refl _
theorem rget_apH {o : Option (Nat × Nat)} {m : Nat} {h h0 : H} (hn : newTok o h0) (hl : h0.rlen ≤ h.rlen) {r : Nat} (hr : r < h0.rlen) : (apH o m h).rget r = h.rget r := by
  unfold apH
  split
  · rfl
  · rcases o with _ | ⟨q, hi⟩
    · exact rget_nrow_lt (by omega)
    · have : h0.rlen ≤ q := hn
      exact rget_srow_ne (by omega)
theorem newTok_le {o : Option (Nat × Nat)} {h0 h : H} (hl : h0.rlen ≤ h.rlen) (hn : newTok o h) : newTok o h0 := by
  rcases o with _ | ⟨q, hi⟩
  · trivial
  · exact Nat.le_trans hl hn
theorem newTok_apL {o : Option (Nat × Nat)} {m : Nat} {h h0 : H} (hl : h0.rlen ≤ h.rlen) (ho : newTok o h0) : newTok (apO o m h) h0 := by
  unfold apO
  split
  · exact ho
  · rcases o with _ | ⟨r, hi⟩
    · exact hl
    · exact ho
theorem Gth.app {h0 h hh : H} {p : Nat} {r : RS} {o : Option (Nat × Nat)} {sz by_ : Nat} {xs : List LV} (g : Gth h0 h p r o xs.length hh) (hh0 : h0.rlen ≤ h.rlen) (ys : List LV)
    (hb : (2 * (xs.length + ys.length) + 192) * by_ ≤ 2 ^ 48) :
    ∃ o' h', appS sz by_ (mkS o sz xs) hh (some ys) = some (mkS o' sz (xs ++ ys), h') ∧ Gth h0 h p r o' (xs ++ ys).length h' ∧ (∀ c, h'.get c = hh.get c) ∧ h'.len = hh.len ∧ h'.lob = hh.lob ∧ h'.lor = hh.lor := by
  have t2 := okTok_ap (m := ys.length) g.rdr.wf g.tok
  obtain ⟨q, hg⟩ := g.rdr.get
  refine ⟨_, _, append_mk g.tok hb, ⟨⟨⟨q, by rw [get_ap]; exact hg⟩, by rw [lob_ap]; exact g.rdr.lob, g.rdr.new, keep_ap g.rdr.keep (newTok_le hh0 g.new), wf_ap g.rdr.wf⟩, ?_, by rw [List.length_append]; exact t2, newTok_apL g.otr.rlen g.new⟩, fun c => get_ap c, len_ap, lob_ap, lor_ap⟩
  exact ⟨⟨by rw [len_ap]; exact g.otr.len, fun c hc hne => by rw [get_ap]; exact g.otr.get hc hne⟩, Nat.le_trans g.otr.rlen rlen_apH_le, fun r hr => by rw [rget_apH g.new g.otr.rlen hr]; exact g.otr.rget r hr, by rw [lob_ap]; exact g.otr.lob, by rw [lor_ap]; exact g.otr.lor⟩

/-! ### many things, plainly -/
def gather {α : Type} (one : RS → α × RS) : Nat → RS → List α × RS
  | 0, r => ([], r)
  | n + 1, r => if r.stop = true then ([], r) else ((one r).1 :: (gather one n (one r).2).1, (gather one n (one r).2).2)
def eachL {α : Type} (one : RS → α × RS) (r : RS) : List α × RS :=
  let g := gather one r.count.1.toNat r.count.2
  if g.2.stop = true then ([], g.2) else g
theorem gather_stop {α : Type} {one : RS → α × RS} {n : Nat} {r : RS} (h : r.stop = true) : gather one n r = ([], r) := by
  cases n with
  | zero => rfl
  | succ n => simp only [gather]; rw [if_pos h]
theorem gather_go {α : Type} {one : RS → α × RS} {n : Nat} {r : RS} (h : r.stop = false) : gather one (n + 1) r = ((one r).1 :: (gather one n (one r).2).1, (gather one n (one r).2).2) := by
  simp only [gather]; rw [if_neg (by simp [h])]
/-- What a reading leaves as it is. -/
structure OneOk {α : Type} (one : RS → α × RS) : Prop where
  b : ∀ r : RS, (one r).2.b = r.b
  ok : ∀ r : RS, r.ok → (one r).2.ok
def Reads {α : Type} (one : RS → α × RS) (bs : List Int) (a : α) : Prop :=
  ∀ (r : RS) (rest : List Int), r.ok → r.stop = false → r.b.drop r.at_.toNat = bs ++ rest → one r = (a, { r with at_ := r.at_ + bs.length })
/-- ... and what is read was written so. -/
def Wrote {α : Type} (one : RS → α × RS) (enc : α → List Int) : Prop :=
  ∀ r : RS, r.ok → (one r).2.stop = false → r.stop = false ∧ r.at_ ≤ (one r).2.at_ ∧ r.b.drop r.at_.toNat = enc (one r).1 ++ r.b.drop (one r).2.at_.toNat
theorem drop_at {l a b : List Int} {n : Nat} (h : l.drop n = a ++ b) (hn : n ≤ l.length) : n + a.length ≤ l.length ∧ l.drop (n + a.length) = b := by
  have h1 := congrArg List.length h
  rw [List.length_drop, List.length_append] at h1
  refine ⟨by omega, ?_⟩
  rw [← List.drop_drop, h, List.drop_left]
theorem Reads.after {r : RS} {bs rest : List Int} (ok : r.ok) (h : r.b.drop r.at_.toNat = bs ++ rest) : ({ r with at_ := r.at_ + bs.length } : RS).ok ∧ r.b.drop (r.at_ + bs.length).toNat = rest := by
  have h2 := ok.2.1
  have h3 := ok.2.2
  obtain ⟨h4, h5⟩ := drop_at h (by omega)
  have e : (r.at_ + bs.length).toNat = r.at_.toNat + bs.length := by omega
  exact ⟨⟨ok.1, by simp only; omega, by simp only; omega⟩, by rw [e]; exact h5⟩
theorem getL_chn {b : List Int} {a n : Int} {rest : List Int} (h0 : 0 ≤ a) (h1 : a ≤ b.length) (hn : I64 n) (h : b.drop a.toNat = chn n ++ rest) : getL b a = (n, a + (chn n).length, 0) := by
  unfold getL
  rw [if_neg (by omega), h]
  have f1 := fold_range hn.1 hn.2
  have hs := scan_chain (foldN n).toNat 0 0 rest (.inl rfl) (by omega)
  rw [show chn n ++ rest = chainU (foldN n).toNat ++ rest from rfl, hs]
  simp only [Nat.pow_zero, Nat.mul_one, Nat.zero_add]
  have e : ((foldN n).toNat : Int) = foldN n := Int.toNat_of_nonneg f1.1
  rw [e, unfold_fold]; rfl
theorem Reads.int {n : Int} (hn : I64 n) : Reads RS.int (chn n) n := by
  intro r rest ok hs h
  unfold RS.int
  rw [if_neg (by simp [hs]), getL_chn ok.2.1 ok.2.2 hn h]
  simp
theorem Reads.count {n : Nat} {r : RS} {rest : List Int} (hn : I64 n) (ok : r.ok) (hs : r.stop = false) (h : r.b.drop r.at_.toNat = chn n ++ rest) (hr : n ≤ rest.length) :
    r.count = ((n : Int), { r with at_ := r.at_ + (chn n).length }) := by
  unfold RS.count
  rw [if_neg (by simp [hs]), Reads.int hn r rest ok hs h]
  dsimp only
  have h1 := congrArg List.length h
  rw [List.length_drop, List.length_append] at h1
  have h2 := ok.2.1
  have h3 := ok.2.2
  rw [if_neg (by omega)]
theorem Reads.gather {α β : Type} {one : RS → α × RS} {f : β → List Int} {g : β → α} : ∀ {l : List β}, (∀ x ∈ l, Reads one (f x) (g x)) → ∀ (r : RS) (rest : List Int), r.ok → r.stop = false → r.b.drop r.at_.toNat = l.flatMap f ++ rest →
    gather one l.length r = (l.map g, { r with at_ := r.at_ + (l.flatMap f).length })
  | [], _, r, rest, _, _, _ => by simp [LM.gather]
  | x :: l, hx, r, rest, ok, hs, h => by
    rw [List.flatMap_cons, List.append_assoc] at h
    have e1 := hx x (by simp) r _ ok hs h
    obtain ⟨ok2, h2⟩ := Reads.after ok h
    rw [List.length_cons, gather_go hs, e1]
    have e2 := Reads.gather (l := l) (fun y hy => hx y (by simp [hy])) { r with at_ := r.at_ + (f x).length } rest ok2 hs h2
    dsimp only
    rw [e2]
    simp only [List.map_cons, List.flatMap_cons, List.length_append, Prod.mk.injEq, true_and]
    congr 1; omega
theorem Reads.each {α β : Type} {one : RS → α × RS} {f : β → List Int} {g : β → α} {l : List β} (hl : I64 l.length) (hx : ∀ x ∈ l, Reads one (f x) (g x)) (hp : ∀ x ∈ l, 0 < (f x).length) : Reads (eachL one) (many f l) (l.map g) := by
  intro r rest ok hs h
  unfold many at h
  rw [List.append_assoc] at h
  have hle : ∀ l : List β, (∀ x ∈ l, 0 < (f x).length) → l.length ≤ (l.flatMap f).length := by
    intro l
    induction l with
    | nil => simp
    | cons x l ih =>
      intro h
      have := h x (by simp)
      have := ih (fun y hy => h y (by simp [hy]))
      rw [List.flatMap_cons, List.length_append, List.length_cons]; omega
  have e1 := Reads.count hl ok hs h (by rw [List.length_append]; have := hle l hp; omega)
  obtain ⟨ok2, h2⟩ := Reads.after ok h
  unfold eachL
  rw [e1]
  dsimp only
  rw [Int.toNat_natCast, Reads.gather hx _ rest ok2 hs h2]
  dsimp only
  rw [if_neg (by simp [hs])]
  unfold many
  rw [List.length_append]
  congr 2; omega

theorem getL_wrote {b : List Int} {a : Int} (hc : ∀ c ∈ b, 0 ≤ c ∧ c < 256) (h0 : 0 ≤ a) (h : (getL b a).2.2 = 0) : b.drop a.toNat = chn (getL b a).1 ++ b.drop (getL b a).2.1.toNat := by
  unfold getL at h ⊢
  split at h
  · simp at h
  rename_i hr
  rw [if_neg hr]
  split at h
  · simp at h
  rename_i u k hs
  obtain ⟨v, hu, -, hv, hk, rest, hrest⟩ := scan_inv _ 0 0 u k (by omega) (fun c hm => hc c (List.mem_of_mem_drop hm)) hs
  simp only [Nat.pow_zero, Nat.mul_one, Nat.zero_add] at hu hv hk
  subst hu
  have hl : a.toNat ≤ b.length := by omega
  have e1 : chn (unfoldN u) = chainU u := by
    unfold chn
    rw [fold_unfold (by omega)]
    simp
  dsimp only
  rw [e1]
  have e2 : (a + (k : Int)).toNat = a.toNat + (chainU u).length := by omega
  rw [e2, (drop_at hrest hl).2]
  exact hrest
theorem Wrote.int : Wrote RS.int chn := by
  intro r ok hs
  unfold RS.int at hs ⊢
  split at hs
  · rename_i h; simp only at hs; rw [h] at hs; cases hs
  rename_i h
  rw [if_neg h]
  have h' : r.stop = false := by simpa using h
  dsimp only at hs ⊢
  split at hs
  · cases hs
  rename_i hz
  rw [if_neg hz]
  have hz : (getL r.b r.at_).2.2 = 0 := by simpa using hz
  have := getL_ok ok.1 ok.2.1 hz
  exact ⟨h', by have := this.2.1; simp only; omega, getL_wrote ok.1 ok.2.1 hz⟩
theorem Wrote.count : Wrote RS.count (fun n => chn n) := by
  intro r ok hs
  unfold RS.count at hs ⊢
  split at hs
  · rename_i h; simp only at hs; rw [h] at hs; cases hs
  rename_i h
  rw [if_neg h]
  dsimp only at hs ⊢
  split at hs
  · cases hs
  rename_i hz
  rw [if_neg hz]
  exact Wrote.int r ok hs
theorem Wrote.gather {α : Type} {one : RS → α × RS} {enc : α → List Int} (ho : OneOk one) (hw : Wrote one enc) : ∀ n (r : RS), r.ok → (gather one n r).2.stop = false →
    r.stop = false ∧ r.at_ ≤ (gather one n r).2.at_ ∧ (gather one n r).1.length = n ∧ r.b.drop r.at_.toNat = (gather one n r).1.flatMap enc ++ r.b.drop (gather one n r).2.at_.toNat
  | 0, r, _, hs => ⟨hs, Int.le_refl _, rfl, by simp [LM.gather]⟩
  | n + 1, r, ok, hs => by
    by_cases h : r.stop = true
    · rw [gather_stop h] at hs; simp only at hs; rw [h] at hs; cases hs
    have h : r.stop = false := by simpa using h
    rw [gather_go h] at hs ⊢
    dsimp only at hs ⊢
    obtain ⟨s1, a1, l1, d1⟩ := Wrote.gather ho hw n (one r).2 (ho.ok r ok) hs
    obtain ⟨s2, a2, d2⟩ := hw r ok s1
    rw [ho.b r] at d1
    exact ⟨h, by omega, by simp [l1], by rw [d2, d1, List.flatMap_cons, List.append_assoc]⟩
theorem Wrote.each {α : Type} {one : RS → α × RS} {enc : α → List Int} (ho : OneOk one) (hw : Wrote one enc) : Wrote (eachL one) (many enc) := by
  intro r ok hs
  unfold eachL at hs ⊢
  dsimp only at hs ⊢
  split at hs
  · rename_i h; simp only at hs; rw [h] at hs; cases hs
  rename_i h
  rw [if_neg h]
  obtain ⟨s1, a1, l1, d1⟩ := Wrote.gather ho hw _ r.count.2 (RS.count_ok ok).1 hs
  obtain ⟨s2, a2, d2⟩ := Wrote.count r ok s1
  have hc := (RS.count_ok ok).2.1
  rw [r.count_b] at d1
  refine ⟨s2, by omega, ?_⟩
  unfold many
  rw [l1, show ((r.count.1.toNat : Nat) : Int) = r.count.1 by omega, List.append_assoc, ← d1]
  exact d2
end Go.LM

namespace Go.LM
variable {P : Program} {T : Nat → Option LV}
/-! ### strings -/
def RS.mark (r : RS) (s : List Int) : RS := if r.stop = true ∨ (r.b.drop r.at_.toNat).take s.length ≠ s then r.halt else { r with at_ := r.at_ + s.length }
theorem Reads.mark {s : List Int} {r : RS} {rest : List Int} (hs : r.stop = false) (h : r.b.drop r.at_.toNat = s ++ rest) : r.mark s = { r with at_ := r.at_ + s.length } := by
  unfold RS.mark
  rw [if_neg]
  rw [h]; simp [hs]
theorem Wrote.mark {s : List Int} {r : RS} (ok : r.ok) (hs : (r.mark s).stop = false) : r.stop = false ∧ r.at_ ≤ (r.mark s).at_ ∧ r.b.drop r.at_.toNat = s ++ r.b.drop (r.mark s).at_.toNat := by
  unfold RS.mark at hs ⊢
  split at hs
  · cases hs
  rename_i h
  rw [if_neg h]
  have h1 : r.stop = false := by
    cases e : r.stop
    · rfl
    · exact absurd (.inl e) h
  have h2 : (r.b.drop r.at_.toNat).take s.length = s := by
    by_cases e : (r.b.drop r.at_.toNat).take s.length = s
    · exact e
    · exact absurd (.inr e) h
  have h3 := ok.2.1
  refine ⟨h1, by simp only; omega, ?_⟩
  have e : (r.at_ + (s.length : Int)).toNat = r.at_.toNat + s.length := by omega
  simp only [e]
  conv => lhs; rw [← List.take_append_drop s.length (r.b.drop r.at_.toNat), h2, List.drop_drop]
/-! ### one reading -/
def boolN (b : Bool) : Int := if b = true then 1 else 0
def RS.read (r : RS) (x : OpR) : List Int × RS :=
  if x.k = 0 then ([], r.mark (strB x.s))
  else if x.k = 1 then ([r.int.1], r.int.2)
  else if x.k = 2 then ([boolN r.bool.1], r.bool.2)
  else if x.k = 3 then eachL RS.int r
  else if x.k = 4 then ([r.count.1], r.count.2)
  else if x.k = 5 then ([], r.halt)
  else if x.k = 6 then ((eachL RS.bool r).1.map boolN, (eachL RS.bool r).2)
  else ([], r)
theorem Reads.bool (b : Bool) : Reads RS.bool [if b = true then 1 else 0] b := by
  intro r rest ok hs h
  have h2 := ok.2.1
  have h3 := ok.2.2
  have hl := congrArg List.length h
  rw [List.length_drop, List.length_append] at hl
  simp only [List.length_cons, List.length_nil] at hl
  have hb : r.byte = if b = true then 1 else 0 := by
    have := congrArg (fun l => l[0]?) h
    simp only [List.getElem?_drop, Nat.add_zero, List.singleton_append, List.getElem?_cons_zero] at this
    unfold RS.byte; rw [this]; rfl
  unfold RS.bool
  rw [if_neg (by rw [hs, hb]; cases b <;> simp <;> omega), hb]
  cases b <;> simp
/-- What an operation tells of what was written. -/
def opL' (x : OpR) : List Int := if x.k = 1 then [x.n] else if x.k = 2 then [boolN x.b] else if x.k = 3 then x.l else []
theorem Reads.op {x : OpR} (hx : x.num) (hk : 0 ≤ x.k ∧ x.k ≤ 3) (hl : I64 x.l.length) (r : RS) (rest : List Int) (ok : r.ok) (hs : r.stop = false) (h : r.b.drop r.at_.toNat = opB x ++ rest) :
    r.read x = (opL' x, { r with at_ := r.at_ + (opB x).length }) := by
  unfold RS.read opL'
  unfold opB at h ⊢
  by_cases h0 : x.k = 0
  · simp only [if_pos h0, if_neg (show ¬ x.k = 1 by omega), if_neg (show ¬ x.k = 2 by omega), if_neg (show ¬ x.k = 3 by omega)] at h ⊢
    rw [Reads.mark hs h]
  by_cases h1 : x.k = 1
  · simp only [if_neg h0, if_pos h1] at h ⊢
    rw [Reads.int hx.1 r rest ok hs h]
  by_cases h2 : x.k = 2
  · simp only [if_neg h0, if_neg h1, if_pos h2] at h ⊢
    rw [Reads.bool x.b r rest ok hs h]
  have h3 : x.k = 3 := by omega
  simp only [if_neg h0, if_neg h1, if_neg h2, if_pos h3] at h ⊢
  have := Reads.each (one := RS.int) (f := chn) (g := id) hl (fun n hn => Reads.int (hx.2 n hn)) (fun n _ => chn_pos n) r rest ok hs h
  rw [this]; simp
end Go.LM

namespace Go.LM
variable {P : Program} {T : Nat → Option LV}
/-! ### numbers, one behind the other -/
def numsR : Nat → RS → List Int × RS
  | 0, r => ([], r)
  | n + 1, r => (r.int.1 :: (numsR n r.int.2).1, (numsR n r.int.2).2)
theorem Reads.nums : ∀ {l : List Int}, (∀ n ∈ l, I64 n) → Reads (numsR l.length) (chns l) l
  | [], _ => by intro r rest ok hs h; simp [numsR, chns]
  | n :: l, hn => by
    intro r rest ok hs h
    rw [chns_cons, List.append_assoc] at h
    have e1 := Reads.int (hn n (by simp)) r _ ok hs h
    obtain ⟨ok2, h2⟩ := Reads.after ok h
    have e2 := Reads.nums (l := l) (fun x hx => hn x (by simp [hx])) { r with at_ := r.at_ + (chn n).length } rest ok2 hs h2
    simp only [List.length_cons, numsR, e1, e2, chns_cons, List.length_append, Prod.mk.injEq, true_and]
    congr 1; omega
theorem Wrote.nums : ∀ n, Wrote (numsR n) chns
  | 0 => by intro r ok hs; exact ⟨hs, Int.le_refl _, by simp [numsR, chns]⟩
  | n + 1 => by
    intro r ok hs
    obtain ⟨s2, a2, d2⟩ := Wrote.nums n r.int.2 (RS.int_ok ok).1 hs
    obtain ⟨s1, a1, d1⟩ := Wrote.int r ok s2
    rw [r.int_b] at d2
    refine ⟨s1, by simp only [numsR]; omega, ?_⟩
    simp only [numsR]
    rw [d1, d2, chns_cons, List.append_assoc]
def putRd (r : RS) : PutR × RS :=
  (⟨r.int.1, r.int.2.int.1, r.int.2.int.2.int.1, r.int.2.int.2.int.2.int.1, r.int.2.int.2.int.2.int.2.int.1⟩, r.int.2.int.2.int.2.int.2.int.2)
theorem put_nums (r : RS) : (putRd r).1.nums = (numsR 5 r).1 ∧ (putRd r).2 = (numsR 5 r).2 := ⟨rfl, rfl⟩
theorem Reads.put {p : PutR} (hp : p.ok) : Reads putRd (putB p) p := by
  intro r rest ok hs h
  have e : numsR 5 r = _ := Reads.nums (l := p.nums) hp r rest ok hs h
  have e1 := (put_nums r).1
  have e2 := (put_nums r).2
  rw [e] at e1 e2
  simp only [PutR.nums, List.cons.injEq, and_true] at e1
  refine Prod.ext ?_ e2
  show (putRd r).1 = p
  generalize (putRd r).1 = q at *
  obtain ⟨a, b, c, d, f⟩ := e1
  cases q; cases p; simp_all
theorem Wrote.put : Wrote putRd putB := fun r ok hs => Wrote.nums 5 r ok hs
def gatherX {α : Type} (one : RS → α × RS) (r : RS) : List α × RS := gather one r.count.1.toNat r.count.2
def Agree {α : Type} (f g : RS → α × RS) : Prop := ∀ r, (f r).2 = (g r).2 ∧ ((g r).2.stop = false → (f r).1 = (g r).1)
theorem Agree.gather {α : Type} {f g : RS → α × RS} (h : Agree f g) : ∀ n r, (gather f n r).2 = (gather g n r).2 ∧ ((gather g n r).2.stop = false → (gather f n r).1 = (gather g n r).1)
  | 0, r => ⟨rfl, fun _ => rfl⟩
  | n + 1, r => by
    by_cases hs : r.stop = true
    · rw [gather_stop hs, gather_stop hs]; exact ⟨rfl, fun _ => rfl⟩
    · have hs' : r.stop = false := by simpa using hs
      rw [gather_go hs', gather_go hs']
      obtain ⟨h1, h2⟩ := h r
      obtain ⟨i1, i2⟩ := Agree.gather h n (g r).2
      dsimp only
      rw [h1]
      refine ⟨i1, fun q => ?_⟩
      have hg : (g r).2.stop = false := by
        cases e : (g r).2.stop
        · rfl
        · rw [gather_stop e] at q; simp only at q; rw [e] at q; cases q
      rw [h2 hg, i2 q]
theorem Agree.each {α : Type} {f g : RS → α × RS} (h : Agree f g) : Agree (gatherX f) (eachL g) := by
  intro r
  obtain ⟨i1, i2⟩ := Agree.gather h r.count.1.toNat r.count.2
  unfold gatherX eachL
  dsimp only
  split
  · rename_i hs
    exact ⟨i1, fun q => by simp only at q; rw [hs] at q; cases q⟩
  · exact ⟨i1, i2⟩
theorem Agree.refl {α : Type} (f : RS → α × RS) : Agree f f := fun _ => ⟨rfl, fun _ => rfl⟩
end Go.LM

namespace Go.LM
variable {P : Program} {T : Nat → Option LV}
/-! ### two boxes are written -/
structure Ot2 (p a : Nat) (h h' : H) : Prop where
  len : h.len ≤ h'.len
  get : ∀ c, c < h.len → c ≠ p → c ≠ a → h'.get c = h.get c
  rlen : h.rlen ≤ h'.rlen
  rget : ∀ r, r < h.rlen → h'.rget r = h.rget r
  lob : h'.lob = h.lob
  lor : h'.lor = h.lor
theorem Ot2.refl (p a : Nat) (h : H) : Ot2 p a h h := ⟨Nat.le_refl _, fun _ _ _ _ => rfl, Nat.le_refl _, fun _ _ => rfl, rfl, rfl⟩
theorem Ot2.trans {p a : Nat} {h h' h2 : H} (x : Ot2 p a h h') (y : Ot2 p a h' h2) : Ot2 p a h h2 :=
  ⟨Nat.le_trans x.len y.len, fun c hc h1 h2 => (y.get c (Nat.lt_of_lt_of_le hc x.len) h1 h2).trans (x.get c hc h1 h2), Nat.le_trans x.rlen y.rlen,
    fun r hr => (y.rget r (Nat.lt_of_lt_of_le hr x.rlen)).trans (x.rget r hr), y.lob.trans x.lob, y.lor.trans x.lor⟩
theorem Otr.two {p : Nat} {h h' : H} (o : Otr p h h') (a : Nat) : Ot2 p a h h' := ⟨o.len, fun _ hc h1 _ => o.get hc h1, o.rlen, o.rget, o.lob, o.lor⟩
theorem Otr.two' {p : Nat} {h h' : H} (o : Otr p h h') (a : Nat) : Ot2 a p h h' := ⟨o.len, fun _ hc _ h1 => o.get hc h1, o.rlen, o.rget, o.lob, o.lor⟩
theorem Keep.two {h h' : H} (k : Keep h h') (p a : Nat) : Ot2 p a h h' := (k.otr p).two a
theorem Ot2.put (p a : Nat) (B : Box) (h : H) : Ot2 p a h (h.put a B) := (Otr.put a B h).two' p
/-- What is written besides is new. -/
theorem Ot2.otr {p a : Nat} {hs h h' : H} (x : Otr p hs h) (ha : hs.len ≤ a) (y : Ot2 p a h h') : Otr p hs h' :=
  ⟨⟨Nat.le_trans x.len y.len, fun c hc h1 => (y.get c (Nat.lt_of_lt_of_le hc x.len) h1 (by omega)).trans (x.get hc h1)⟩, Nat.le_trans x.rlen y.rlen,
    fun r hr => (y.rget r (Nat.lt_of_lt_of_le hr x.rlen)).trans (x.rget r hr), y.lob.trans x.lob, y.lor.trans x.lor⟩
theorem Otr.new {p a : Nat} {hs h : H} (x : Otr p hs h) (ha : hs.len ≤ a) (B : Box) : Otr p hs (h.put a B) := Ot2.otr x ha (.put p a B h)
end Go.LM

namespace Go.LM
/-! ### pages cut off, and with more behind -/
end Go.LM

namespace Go.LM
/-! ### pairs, and calls of a pile -/
structure PairR where
  a : Int
  b : Int
  deriving DecidableEq
def PairR.e (x : PairR) : LV := .agg [.int .i64 x.a, .int .i64 x.b]
def PairR.nums (x : PairR) : List Int := [x.a, x.b]
abbrev PairR.ok (x : PairR) : Prop := ∀ n ∈ x.nums, I64 n
structure PopR where
  k : Int
  a : Int
  b : Int
  deriving DecidableEq
def PopR.e (x : PopR) : LV := .agg [.int .i64 x.k, .int .i64 x.a, .int .i64 x.b]
def PopR.nums (x : PopR) : List Int := [x.k, x.a, x.b]
abbrev PopR.ok (x : PopR) : Prop := ∀ n ∈ x.nums, I64 n
def PopR.x (x : PopR) : PairR := ⟨x.a, x.b⟩
end Go.LM

namespace Go.LM
variable {P : Program}
/-! ### pairs in an array that is written in place -/
def flatP : List PairR → List LV
  | [] => []
  | x :: l => .int .i64 x.a :: .int .i64 x.b :: flatP l
theorem flatP_len : ∀ l : List PairR, (flatP l).length = 2 * l.length
  | [] => rfl
  | x :: l => by simp only [flatP, List.length_cons, flatP_len l]; omega
theorem flatP_append : ∀ l m : List PairR, flatP (l ++ m) = flatP l ++ flatP m
  | [], m => rfl
  | x :: l, m => by simp only [flatP, List.cons_append, flatP_append l m]
theorem flatP_get : ∀ {l : List PairR} {i : Nat} {x : PairR} (c : List LV), l[i]? = some x → ((flatP l ++ c).drop (i * 2)).take 2 = [.int .i64 x.a, .int .i64 x.b]
  | [], i, x, c, h => by simp at h
  | y :: l, 0, x, c, h => by simp at h; subst h; simp [flatP]
  | y :: l, i + 1, x, c, h => by
    simp only [flatP, List.cons_append]
    rw [show (i + 1) * 2 = i * 2 + 1 + 1 by omega, List.drop_succ_cons, List.drop_succ_cons]
    exact flatP_get c (by simpa using h)
theorem flatP_set : ∀ {l : List PairR} {i : Nat} (x : PairR) (c : List LV), i < l.length → setAll (flatP l ++ c) (i * 2) [.int .i64 x.a, .int .i64 x.b] = flatP (l.set i x) ++ c
  | [], i, x, c, h => by simp at h
  | y :: l, 0, x, c, h => by simp [flatP, setAll]
  | y :: l, i + 1, x, c, h => by
    have := flatP_set (l := l) x c (i := i) (by simpa using h)
    simp only [setAll] at this ⊢
    simp only [flatP, List.cons_append, List.set_cons_succ]
    rw [show (i + 1) * 2 = i * 2 + 1 + 1 by omega, show i * 2 + 1 + 1 + 1 = (i * 2 + 1) + 1 + 1 by omega]
    simp only [List.set_cons_succ]
    rw [this]
theorem flatP_take (l : List PairR) (c : List LV) (n : Nat) (hn : n ≤ l.length) : (flatP l ++ c).take (n * 2) = flatP (l.take n) := by
  have e : flatP l = flatP (l.take n) ++ flatP (l.drop n) := by rw [← flatP_append, List.take_append_drop]
  rw [e, List.append_assoc]
  exact List.take_left' (by rw [flatP_len, List.length_take]; omega)
theorem load_pair {h : H} {m i : Nat} {l : List PairR} {c : List LV} {x : PairR} {t : TypeId} (hp : ∀ cs off, partL P t cs off = partA 2 cs off) (hg : h.get m = some ⟨false, flatP l ++ c⟩) (hx : l[i]? = some x) :
    loadL P t (.pm m (i * 2)) h = some x.e := by
  have hlt := (List.getElem?_eq_some_iff.1 hx).1
  have hl := flatP_len l
  unfold loadL
  have hg' : h.box[m]? = some ⟨false, flatP l ++ c⟩ := hg
  dsimp only
  rw [hg']
  dsimp only
  rw [if_neg, hp]
  · unfold partA
    rw [if_pos (by rw [List.length_append]; omega), flatP_get c hx]; rfl
  · intro he
    rw [List.isEmpty_iff] at he
    have := congrArg List.length he
    rw [List.length_append] at this
    simp only [List.length_nil] at this
    omega
theorem store_pair {h : H} {m i : Nat} {l : List PairR} {c : List LV} {t : TypeId} (x : PairR) (hs : sizeT P t = some 2) (hg : h.get m = some ⟨false, flatP l ++ c⟩) (hlo : h.lob ≤ m) (hi : i < l.length) :
    storeL P t (.pm m (i * 2)) x.e h = some (h.put m ⟨false, flatP (l.set i x) ++ c⟩) := by
  have hl := flatP_len l
  have hg' : h.box[m]? = some ⟨false, flatP l ++ c⟩ := hg
  unfold storeL
  dsimp only
  rw [hg']
  dsimp only
  have e : x.e.cells = [.int .i64 x.a, .int .i64 x.b] := rfl
  rw [e, if_pos]
  · rw [flatP_set x c hi]; rfl
  · refine ⟨rfl, hs, rfl, ?_, hlo, ?_⟩
    · cases hl2 : l with
      | nil => rw [hl2] at hi; simp at hi
      | cons y l => rfl
    · rw [List.length_append]; simp; omega
/-! ### changing places -/
def swapL (l : List PairR) (i j : Nat) : List PairR :=
  match l[i]?, l[j]? with
  | some x, some y => (l.set i y).set j x
  | _, _ => l
theorem swap_len (l : List PairR) (i j : Nat) : (swapL l i j).length = l.length := by unfold swapL; split <;> simp
def keyL (l : List PairR) (i : Nat) : Int := match l[i]? with
  | some x => x.a
  | none => 0
theorem key_some {l : List PairR} {i : Nat} {x : PairR} (h : l[i]? = some x) : keyL l i = x.a := by unfold keyL; rw [h]
theorem get_some {l : List PairR} {i : Nat} (h : i < l.length) : ∃ x, l[i]? = some x := ⟨l[i], List.getElem?_eq_getElem h⟩
theorem swap_get {l : List PairR} {i j : Nat} (hi : i < l.length) (hj : j < l.length) (k : Nat) : (swapL l i j)[k]? = if k = j then l[i]? else if k = i then l[j]? else l[k]? := by
  obtain ⟨x, hx⟩ := get_some hi
  obtain ⟨y, hy⟩ := get_some hj
  unfold swapL
  rw [hx, hy]
  dsimp only
  by_cases h1 : k = j
  · subst h1; rw [if_pos rfl, List.getElem?_set_self (by simpa using hj)]
  · rw [if_neg h1, List.getElem?_set_ne (Ne.symm h1)]
    by_cases h2 : k = i
    · subst h2; rw [if_pos rfl, List.getElem?_set_self hi]
    · rw [if_neg h2, List.getElem?_set_ne (Ne.symm h2)]
theorem swap_key {l : List PairR} {i j : Nat} (hi : i < l.length) (hj : j < l.length) (k : Nat) : keyL (swapL l i j) k = if k = j then keyL l i else if k = i then keyL l j else keyL l k := by
  unfold keyL
  rw [swap_get hi hj k]
  by_cases h1 : k = j
  · rw [if_pos h1, if_pos h1]
  · rw [if_neg h1, if_neg h1]
    by_cases h2 : k = i
    · rw [if_pos h2, if_pos h2]
    · rw [if_neg h2, if_neg h2]
theorem swap_perm {l : List PairR} {i j : Nat} (hi : i < l.length) (hj : j < l.length) : (swapL l i j).Perm l := by
  unfold swapL
  rw [List.getElem?_eq_getElem hi, List.getElem?_eq_getElem hj]
  exact List.set_set_perm hi hj
end Go.LM

namespace Go.LM
/-! ### heaps of pairs -/
def InR (l : List PairR) : Prop := ∀ x ∈ l, -1099511627776 ≤ x.a ∧ x.a ≤ 1099511627776
theorem InR.perm {l m : List PairR} (h : InR l) (p : m.Perm l) : InR m := fun x hx => h x (p.mem_iff.1 hx)
def lessB (x y : PairR) : Bool := decide (IntKind.i64.wrap (x.a - y.a) < 0)
theorem lessB_in {x y : PairR} (hx : -1099511627776 ≤ x.a ∧ x.a ≤ 1099511627776) (hy : -1099511627776 ≤ y.a ∧ y.a ≤ 1099511627776) : lessB x y = decide (x.a < y.a) := by
  unfold lessB
  rw [wrap64 (by omega) (by omega)]
  by_cases h : x.a < y.a
  · rw [decide_eq_true h, decide_eq_true (by omega)]
  · rw [decide_eq_false h, decide_eq_false (by omega)]
def HeapN (l : List PairR) (n : Nat) : Prop := ∀ i, 0 < i → i < n → keyL l ((i - 1) / 2) ≤ keyL l i
structure UpOk (l : List PairR) (j : Nat) : Prop where
  a : ∀ i, 0 < i → i < l.length → i ≠ j → keyL l ((i - 1) / 2) ≤ keyL l i
  b : ∀ i, 0 < i → i < l.length → (i - 1) / 2 = j → 0 < j → keyL l ((j - 1) / 2) ≤ keyL l i
structure DownOk (l : List PairR) (n i : Nat) : Prop where
  a : ∀ k, 0 < k → k < n → (k - 1) / 2 ≠ i → keyL l ((k - 1) / 2) ≤ keyL l k
  b : ∀ k, 0 < k → k < n → (k - 1) / 2 = i → 0 < i → keyL l ((i - 1) / 2) ≤ keyL l k
theorem up_done {l : List PairR} {j : Nat} (u : UpOk l j) (h : j = 0 ∨ keyL l ((j - 1) / 2) ≤ keyL l j) : HeapN l l.length := by
  intro i h0 h1
  by_cases e : i = j
  · subst e
    rcases h with h | h
    · omega
    · exact h
  · exact u.a i h0 h1 e
theorem up_step {l : List PairR} {j p : Nat} (u : UpOk l j) (h0 : 0 < j) (h1 : j < l.length) (hp : p = (j - 1) / 2) (hk : keyL l j < keyL l p) : UpOk (swapL l p j) p := by
  have hpl : p < l.length := by omega
  have hpj : p < j := by omega
  have K := swap_key hpl h1
  constructor
  · intro i i0 i1 ip
    rw [swap_len] at i1
    rw [K, K]
    by_cases e : i = j
    · subst e
      rw [if_pos rfl, ← hp, if_neg (by omega), if_pos rfl]; omega
    · rw [if_neg e, if_neg ip]
      by_cases e1 : (i - 1) / 2 = j
      · rw [if_pos e1]
        have := u.b i i0 i1 e1 h0
        rw [← hp] at this; exact this
      · rw [if_neg e1]
        have := u.a i i0 i1 e
        by_cases e2 : (i - 1) / 2 = p
        · rw [if_pos e2]; rw [e2] at this; omega
        · rw [if_neg e2]; exact this
  · intro i i0 i1 ip p0
    rw [swap_len] at i1
    have hg := u.a p p0 hpl (by omega)
    rw [K, K]
    rw [if_neg (by omega), if_neg (by omega)]
    by_cases e : i = j
    · rw [if_pos e]; exact hg
    · rw [if_neg e, if_neg (by omega)]
      have := u.a i i0 i1 e
      rw [ip] at this; omega
theorem down_done {l : List PairR} {n i : Nat} (d : DownOk l n i) (h : ∀ k, 0 < k → k < n → (k - 1) / 2 = i → keyL l i ≤ keyL l k) : HeapN l n := by
  intro k h0 h1
  by_cases e : (k - 1) / 2 = i
  · rw [e]; exact h k h0 h1 e
  · exact d.a k h0 h1 e
theorem down_step {l : List PairR} {n i j : Nat} (d : DownOk l n i) (hn : n ≤ l.length) (hj : j < n) (j0 : 0 < j) (hp : (j - 1) / 2 = i) (hk : keyL l j < keyL l i)
    (hm : ∀ k, 0 < k → k < n → (k - 1) / 2 = i → keyL l j ≤ keyL l k) : DownOk (swapL l i j) n j := by
  have K := swap_key (l := l) (i := i) (j := j) (by omega) (by omega)
  constructor
  · intro k k0 k1 kq
    rw [K, K]
    by_cases e : k = j
    · subst e
      rw [if_neg kq, hp, if_pos rfl, if_pos rfl]; omega
    · rw [if_neg kq, if_neg e]
      by_cases e1 : k = i
      · subst e1
        rw [if_neg (by omega), if_pos rfl]
        exact d.b j j0 hj hp k0
      · rw [if_neg e1]
        by_cases e2 : (k - 1) / 2 = i
        · rw [if_pos e2]; exact hm k k0 k1 e2
        · rw [if_neg e2]; exact d.a k k0 k1 e2
  · intro k k0 k1 kq _
    have := d.a k k0 k1 (by omega)
    rw [kq] at this
    rw [K, K, hp, if_neg (by omega), if_pos rfl, if_neg (by omega), if_neg (by omega)]
    exact this
theorem heap_root {l : List PairR} {n : Nat} (h : HeapN l n) : ∀ i, i < n → keyL l 0 ≤ keyL l i := by
  intro i
  induction i using Nat.strongRecOn with
  | _ i ih =>
    intro hi
    by_cases e : i = 0
    · subst e; exact Int.le_refl _
    · have h1 := h i (by omega) hi
      have h2 := ih ((i - 1) / 2) (by omega) (by omega)
      omega
/-- One is put behind all. -/
theorem up_start {l : List PairR} {x : PairR} (h : HeapN l l.length) : UpOk (l ++ [x]) l.length := by
  have K : ∀ k, k < l.length → keyL (l ++ [x]) k = keyL l k := by
    intro k hk; unfold keyL; rw [List.getElem?_append_left hk]
  constructor
  · intro i h0 h1 e
    simp at h1
    rw [K _ (by omega), K _ (by omega)]
    exact h i h0 (by omega)
  · intro i h0 h1 e _
    simp at h1
    omega
/-- The first one goes to the end, and the last one comes in its place. -/
theorem down_start {l : List PairR} {n : Nat} (hl : l.length = n + 1) (h : HeapN l l.length) : DownOk (swapL l 0 n) n 0 := by
  have K := swap_key (l := l) (i := 0) (j := n) (by omega) (by omega)
  constructor
  · intro k k0 k1 kq
    rw [K, K, if_neg (by omega), if_neg kq, if_neg (by omega), if_neg (by omega)]
    exact h k k0 (by omega)
  · intro k k0 k1 kq h0
    omega
theorem heap_cut {l : List PairR} {n : Nat} (hl : l.length = n + 1) (h : HeapN l n) : HeapN l.dropLast l.dropLast.length := by
  have e : l.dropLast.length = n := by simp [hl]
  have K : ∀ k, k < n → keyL l.dropLast k = keyL l k := by
    intro k hk
    unfold keyL
    rw [List.getElem?_dropLast, if_pos (by omega)]
  intro i h0 h1
  rw [e] at h1
  rw [K _ (by omega), K _ h1]
  exact h i h0 h1
end Go.LM

namespace Go.LM
/-! ### jobs, plainly -/
structure ItemR where
  k : Int
  h : Int
  f : Int
  str : Int
  ord : Int
  shr : Int
  n : Int
  deriving DecidableEq
def ItemR.e (x : ItemR) : LV := .agg [.int .i64 x.k, .int .i64 x.h, .int .i64 x.f, .int .i64 x.str, .int .i64 x.ord, .int .i64 x.shr, .int .i64 x.n]
def ItemR.nums (x : ItemR) : List Int := [x.k, x.h, x.f, x.str, x.ord, x.shr, x.n]
abbrev ItemR.ok (x : ItemR) : Prop := ∀ n ∈ x.nums, I64 n
structure GeomR where
  c0 : Int
  c1 : Int
  c2 : Int
  c3 : Int
  c4 : Int
  c5 : Int
  c6 : Int
  c7 : Int
  c8 : Int
  c9 : Int
  c10 : Int
  c11 : Int
  c12 : Int
  c13 : Int
  c14 : Int
  c15 : Int
  c16 : Int
  c17 : Int
  bal : Bool
  deriving DecidableEq
def GeomR.numsA (g : GeomR) : List Int := [g.c0, g.c1, g.c2, g.c3, g.c4, g.c5, g.c6, g.c7, g.c8, g.c9, g.c10]
def GeomR.numsB (g : GeomR) : List Int := [g.c11, g.c12, g.c13, g.c14, g.c15, g.c16, g.c17]
def GeomR.nums (g : GeomR) : List Int := g.numsA ++ g.numsB
def GeomR.cells (g : GeomR) : List LV := [.int .i64 g.c0, .int .i64 g.c1, .int .i64 g.c2, .int .i64 g.c3, .int .i64 g.c4, .int .i64 g.c5, .int .i64 g.c6, .int .i64 g.c7, .int .i64 g.c8, .int .i64 g.c9, .int .i64 g.c10, .int .i64 g.c11, .int .i64 g.c12, .int .i64 g.c13, .int .i64 g.c14, .int .i64 g.c15, .int .i64 g.c16, .int .i64 g.c17, .bool g.bal]
def GeomR.e (g : GeomR) : LV := .agg g.cells
abbrev GeomR.ok (g : GeomR) : Prop := ∀ n ∈ g.nums, I64 n
structure NoteR where
  ol : Option (Nat × Nat)
  lines : List Int
  op : Option (Nat × Nat)
  pens : List Int
def NoteR.e (x : NoteR) : LV := .agg [ints x.ol x.lines, ints x.op x.pens]
abbrev NoteR.num (x : NoteR) : Prop := (∀ n ∈ x.lines, I64 n) ∧ ∀ n ∈ x.pens, I64 n
structure FloatR where
  c : Int
  h : Int
  w : Int
  deriving DecidableEq
def FloatR.e (x : FloatR) : LV := .agg [.int .i64 x.c, .int .i64 x.h, .int .i64 x.w]
def FloatR.nums (x : FloatR) : List Int := [x.c, x.h, x.w]
abbrev FloatR.ok (x : FloatR) : Prop := ∀ n ∈ x.nums, I64 n
structure JobR where
  g : GeomR
  oi : Option (Nat × Nat)
  items : List ItemR
  on : Option (Nat × Nat)
  notes : List NoteR
  of : Option (Nat × Nat)
  floats : List FloatR
def JobR.cells (j : JobR) : List LV := [.int .i64 j.g.c0, .int .i64 j.g.c1, .int .i64 j.g.c2, .int .i64 j.g.c3, .int .i64 j.g.c4, .int .i64 j.g.c5, .int .i64 j.g.c6, .int .i64 j.g.c7, .int .i64 j.g.c8, .int .i64 j.g.c9, .int .i64 j.g.c10, .int .i64 j.g.c11, .int .i64 j.g.c12, .int .i64 j.g.c13, .int .i64 j.g.c14, .int .i64 j.g.c15, .int .i64 j.g.c16, .int .i64 j.g.c17, .bool j.g.bal, mkS j.oi 7 (j.items.map ItemR.e), mkS j.on 2 (j.notes.map NoteR.e), mkS j.of 3 (j.floats.map FloatR.e)]
def JobR.e (j : JobR) : LV := .agg j.cells
theorem eqSeq_2 (a b : Bool) : eqSeq [some a, some b] = some (a && b) := by cases a <;> cases b <;> rfl
end Go.LM

namespace Go.LM
/-! ### any list gathered on a row of its own -/
structure AccN (h0 : H) (o : Option (Nat × Nat)) (n : Nat) (h : H) : Prop where
  tok : okTok o n h
  new : newTok o h0
  keep : Keep h0 h
  wf : WF h
theorem AccN.start {h0 h : H} (k : Keep h0 h) (w : WF h) : AccN h0 none 0 h := ⟨rfl, trivial, k, w⟩
theorem AccN.next {h0 : H} {o : Option (Nat × Nat)} {n : Nat} {h h' : H} (a : AccN h0 o n h) (k : Keep h h') : AccN h0 o n h' := ⟨okTok_keep k a.tok, a.new, a.keep.trans k, a.wf.keep k⟩
theorem AccN.app {h0 : H} {o : Option (Nat × Nat)} {sz by_ : Nat} {xs : List LV} {h : H} (a : AccN h0 o xs.length h) (ys : List LV) (hb : (2 * (xs.length + ys.length) + 192) * by_ ≤ 2 ^ 48) :
    ∃ o' h', appS sz by_ (mkS o sz xs) h (some ys) = some (mkS o' sz (xs ++ ys), h') ∧ AccN h0 o' (xs ++ ys).length h' ∧ (∀ c, h'.get c = h.get c) ∧ h'.len = h.len ∧ h'.lob = h.lob := by
  have t2 := okTok_ap (m := ys.length) a.wf a.tok
  exact ⟨_, _, append_mk a.tok hb, ⟨by rw [List.length_append]; exact t2, newTok_ap a.keep a.new, keep_ap a.keep a.new, wf_ap a.wf⟩, fun c => get_ap c, len_ap, lob_ap⟩
theorem take_succ {α : Type} {l : List α} {i : Nat} {x : α} (hx : l[i]? = some x) : l.take (i + 1) = l.take i ++ [x] := by
  obtain ⟨hlt, rfl⟩ := List.getElem?_eq_some_iff.1 hx
  rw [← List.take_append_getElem hlt]
end Go.LM
