import Derived.Test.YtgbhkmgmpodnkaaLmW
import Derived.SizedLaws
import Derived.Carry
import Derived.ChangeShapes
import Derived.ProofKit
import Derived.Attr
namespace Go.LM
variable {P : Program} {T : Nat → Option LV}

/-! ### a slice, nil or not -/
def mkS (o : Option (Nat × Nat)) (sz : Nat) (xs : List LV) : LV :=
  match o, xs with
  | none, [] => .nils
  | none, xs => .sl 0 0 sz xs
  | some (r, hi), xs => .sl r hi sz xs
theorem mk_sl (r hi sz : Nat) (xs : List LV) : LV.sl r hi sz xs = mkS (some (r, hi)) sz xs := rfl
theorem isM_mkS (o : Option (Nat × Nat)) (sz : Nat) (xs : List LV) : isM (mkS o sz xs) = false := by
  unfold mkS
  split <;> rfl
theorem mk_nils (sz : Nat) : LV.nils = mkS none sz [] := rfl
theorem mkS_cases (o : Option (Nat × Nat)) (sz : Nat) (xs : List LV) : (xs = [] ∧ o = none ∧ mkS o sz xs = .nils) ∨ ∃ r hi, mkS o sz xs = .sl r hi sz xs := by
  rcases o with _ | ⟨r, hi⟩
  · cases xs with
    | nil => exact .inl ⟨rfl, rfl, rfl⟩
    | cons x xs => exact .inr ⟨0, 0, rfl⟩
  · exact .inr ⟨r, hi, rfl⟩
theorem cells_mk (o : Option (Nat × Nat)) (sz : Nat) (xs : List LV) : (mkS o sz xs).cells = [mkS o sz xs] := by
  rcases mkS_cases o sz xs with ⟨_, _, h⟩ | ⟨r, hi, h⟩ <;> rw [h] <;> rfl
theorem known_mk (o : Option (Nat × Nat)) (sz : Nat) (xs : List LV) : (mkS o sz xs).known = true := by
  rcases mkS_cases o sz xs with ⟨_, _, h⟩ | ⟨r, hi, h⟩ <;> rw [h] <;> rfl
theorem one_mk (o : Option (Nat × Nat)) (sz : Nat) (xs : List LV) : (mkS o sz xs).one = true := by
  rcases mkS_cases o sz xs with ⟨_, _, h⟩ | ⟨r, hi, h⟩ <;> rw [h] <;> rfl
theorem len_mk {t e : TypeId} (hu : P.underlying t = some (.slice e)) (o : Option (Nat × Nat)) (sz : Nat) (xs : List LV) : lenL P t (mkS o sz xs) = some (.int .i64 xs.length) := by
  rcases mkS_cases o sz xs with ⟨rfl, _, h⟩ | ⟨r, hi, h⟩ <;> rw [h]
  · exact len_nils hu
  · exact len_sl hu _ _ _ _
theorem ia_mk {t e : TypeId} {sz : Nat} (hu : P.underlying t = some (.slice e)) (hs : sizeT P e = some sz) (o : Option (Nat × Nat)) (xs : List LV) (k : IntKind) (n : Int) :
    indexAddrL P t (mkS o sz xs) (.int k n) = iaS xs n := by
  rcases mkS_cases o sz xs with ⟨rfl, _, h⟩ | ⟨r, hi, h⟩ <;> rw [h]
  · simp [indexAddrL, hu, iaS]
  · exact ia_sl hu hs _ _ _ _ _
theorem elems_mk (o : Option (Nat × Nat)) (sz : Nat) (xs : List LV) : elemsL sz (mkS o sz xs) = some xs := by
  rcases mkS_cases o sz xs with ⟨rfl, _, h⟩ | ⟨r, hi, h⟩ <;> rw [h] <;> simp [elemsL]
/-- The mark of a part of a slice. -/
def tkS (o : Option (Nat × Nat)) (xs : List LV) (l q : Nat) : Option (Nat × Nat) :=
  match o with
  | none => if xs = [] then none else some (0, 0)
  | some (r, hi) => some (if q = xs.length ∧ l < q then (r, hi) else (0, 0))
def slM (o : Option (Nat × Nat)) (sz : Nat) (xs : List LV) (h : H) (lo : Option LV) : Option Nat → Option (LV × H)
  | some q => match boundL lo 0 q with
    | some l => some (mkS (tkS o xs l q) sz ((xs.take q).drop l), h)
    | none => none
  | none => none
theorem boundL_le {lo : Option LV} {q l : Nat} (h : boundL lo 0 q = some l) : l ≤ q := by
  unfold boundL at h
  split at h
  · cases h; omega
  · split at h
    · cases h; omega
    · cases h
  · cases h
theorem slice_mk {t e : TypeId} {sz : Nat} (hu : P.underlying t = some (.slice e)) (hs : sizeT P e = some sz) (o : Option (Nat × Nat)) (xs : List LV) (lo hi : Option LV) (h : H) :
    sliceL P t (mkS o sz xs) lo hi h = slM o sz xs h lo (boundL hi xs.length xs.length) := by
  rcases mkS_cases o sz xs with ⟨rfl, ho, h1⟩ | ⟨r, p, h1⟩
  · subst ho
    rw [h1, slice_nils hu hs]
    simp only [slKn, slM, List.length_nil]
    cases boundL hi 0 0 with
    | none => rfl
    | some q =>
      dsimp only
      cases boundL lo 0 q with
      | none => rfl
      | some l => simp [tkS, mkS]
  · rw [h1, slice_sl hu hs]
    simp only [slK, slM]
    cases boundL hi xs.length xs.length with
    | none => rfl
    | some q =>
      dsimp only
      cases hb : boundL lo 0 q with
      | none => rfl
      | some l =>
        dsimp only
        rcases o with _ | ⟨r', p'⟩
        · cases xs with
          | nil => simp [mkS] at h1
          | cons x xs =>
            simp [mkS] at h1
            obtain ⟨rfl, rfl⟩ := h1
            have e : tkS none (x :: xs) l q = some (0, 0) := by simp [tkS]
            rw [e]
            split
            · rename_i hc
              obtain ⟨rfl, _⟩ := hc
              rw [List.take_length]; rfl
            · rfl
        · simp [mkS] at h1
          obtain ⟨rfl, rfl⟩ := h1
          simp only [tkS]
          split
          · rename_i hc
            obtain ⟨rfl, _⟩ := hc
            rw [List.take_length]; rfl
          · rfl
theorem slM_some {o : Option (Nat × Nat)} {sz : Nat} {xs : List LV} {h : H} {lo : Option LV} {q l : Nat} (hl : boundL lo 0 q = some l) :
    slM o sz xs h lo (some q) = some (mkS (tkS o xs l q) sz ((xs.take q).drop l), h) := by simp only [slM, hl]
theorem bin_eql_mk {t e : TypeId} (hu : P.underlying t = some (.slice e)) (o : Option (Nat × Nat)) (sz : Nat) (xs : List LV) :
    binL P .eql t (mkS o sz xs) .nils = some (.bool (decide (o = none ∧ xs = []))) := by
  rcases mkS_cases o sz xs with ⟨rfl, rfl, h⟩ | ⟨r, hi, h⟩
  · rw [h]; simp; exact bin_eql_of rfl (by rw [eqL_10000]; simp only [eqL, hu]) (by simp)
  · rw [h]
    have : ¬ (o = none ∧ xs = []) := by
      rintro ⟨rfl, rfl⟩; simp [mkS] at h
    simp only [this, decide_false]
    exact bin_eql_of rfl (by rw [eqL_10000]; simp only [eqL, hu]) (by simp)
theorem bin_neq_mk {t e : TypeId} (hu : P.underlying t = some (.slice e)) (o : Option (Nat × Nat)) (sz : Nat) (xs : List LV) :
    binL P .neq t (mkS o sz xs) .nils = some (.bool (!decide (o = none ∧ xs = []))) := by
  rcases mkS_cases o sz xs with ⟨rfl, rfl, h⟩ | ⟨r, hi, h⟩
  · rw [h]; simp only [and_self, decide_true, Bool.not_true]; exact bin_neq_of rfl (b := true) (by rw [eqL_10000]; simp only [eqL, hu]) (by simp)
  · rw [h]
    have : ¬ (o = none ∧ xs = []) := by
      rintro ⟨rfl, rfl⟩; simp [mkS] at h
    simp only [this, decide_false, Bool.not_false]
    exact bin_neq_of rfl (b := false) (by rw [eqL_10000]; simp only [eqL, hu]) (by simp)

def bsK2 (sz : Nat) (h : H) : Option (List LV) → Option (LV × H)
  | some xs => some (mkS (some (h.rlen, xs.length)) sz xs, h.nrow xs.length)
  | none => none
theorem bsK_eq (e : TypeId) (sz len : Nat) (h : H) (cells : List LV) : bsK P e sz len h (some cells) = if cells.all (·.one) = true then bsK2 sz h (chunkL P e sz len cells) else none := by
  simp only [bsK]; cases chunkL P e sz len cells <;> rfl
theorem bsK2_some (sz : Nat) (h : H) (xs : List LV) : bsK2 sz h (some xs) = some (mkS (some (h.rlen, xs.length)) sz xs, h.nrow xs.length) := rfl

/-- What is appended to a row of one's own, or to nothing: the row, and how the memory is then. -/
def okTok (o : Option (Nat × Nat)) (n : Nat) (h : H) : Prop :=
  match o with
  | none => n = 0
  | some (r, hi) => r ≠ 0 ∧ h.lor ≤ r ∧ r < h.rlen ∧ h.rget r = some hi
def apO (o : Option (Nat × Nat)) (n : Nat) (h : H) : Option (Nat × Nat) :=
  if n = 0 then o else match o with
  | none => some (h.rlen, n)
  | some (r, hi) => some (r, hi + n)
def apH (o : Option (Nat × Nat)) (n : Nat) (h : H) : H :=
  if n = 0 then h else match o with
  | none => h.nrow n
  | some (r, hi) => h.srow r (hi + n)
theorem append_mk {sz by_ : Nat} {o : Option (Nat × Nat)} {h : H} {xs ys : List LV} (ho : okTok o xs.length h) (hb : (2 * (xs.length + ys.length) + 192) * by_ ≤ 2 ^ 48) :
    appS sz by_ (mkS o sz xs) h (some ys) = some (mkS (apO o ys.length h) sz (xs ++ ys), apH o ys.length h) := by
  rcases o with _ | ⟨r, hi⟩
  · simp only [okTok] at ho
    obtain rfl : xs = [] := List.length_eq_zero_iff.1 ho
    cases ys with
    | nil => simp [apO, apH, mkS, appS]
    | cons y ys =>
      rw [show mkS none sz [] = .nils from rfl, appS_nils (by simp) (by simpa using hb)]
      simp [apO, apH, mkS]
  · simp only [okTok] at ho
    cases ys with
    | nil => simp [apO, apH, mkS, appS]
    | cons y ys =>
      rw [show mkS (some (r, hi)) sz xs = .sl r hi sz xs from rfl, appS_sl (by simp) ho.1 ho.2.1 ho.2.2.2 hb]
      simp [apO, apH, mkS]
theorem okTok_ap {o : Option (Nat × Nat)} {n m : Nat} {h : H} (w : WF h) (ho : okTok o n h) : okTok (apO o m h) (n + m) (apH o m h) := by
  unfold apO apH
  by_cases hm : m = 0
  · subst hm; simpa using ho
  · rw [if_neg hm, if_neg hm]
    rcases o with _ | ⟨r, hi⟩
    · have := w.2.1; have := w.2.2
      refine ⟨by omega, by simp; omega, by simp, by simp⟩
    · obtain ⟨h1, h2, h3, h4⟩ := ho
      exact ⟨h1, by simpa using h2, by simpa using h3, by simp [h3]⟩
/-- The row is one's own: not there at the start. -/
def newTok (o : Option (Nat × Nat)) (h0 : H) : Prop :=
  match o with
  | none => True
  | some (r, _) => h0.rlen ≤ r
theorem newTok_ap {o : Option (Nat × Nat)} {m : Nat} {h h0 : H} (k : Keep h0 h) (ho : newTok o h0) : newTok (apO o m h) h0 := by
  unfold apO
  split
  · exact ho
  · rcases o with _ | ⟨r, hi⟩
    · exact k.rlen
    · exact ho
theorem keep_ap {o : Option (Nat × Nat)} {m : Nat} {h h0 : H} (k : Keep h0 h) (ho : newTok o h0) : Keep h0 (apH o m h) := by
  unfold apH
  split
  · exact k
  · rcases o with _ | ⟨r, hi⟩
    · exact k.nrow _
    · exact k.srow ho _
theorem wf_ap {o : Option (Nat × Nat)} {m : Nat} {h : H} (w : WF h) : WF (apH o m h) := by
  unfold apH
  split
  · exact w
  · rcases o with _ | ⟨r, hi⟩
    · exact wf_nrow w
    · exact wf_srow w
theorem len_ap {o : Option (Nat × Nat)} {m : Nat} {h : H} : (apH o m h).len = h.len := by
  unfold apH
  split
  · rfl
  · rcases o with _ | ⟨r, hi⟩ <;> rfl
theorem get_ap {o : Option (Nat × Nat)} {m : Nat} {h : H} (b : Nat) : (apH o m h).get b = h.get b := by
  unfold apH
  split
  · rfl
  · rcases o with _ | ⟨r, hi⟩ <;> rfl
theorem lob_ap {o : Option (Nat × Nat)} {m : Nat} {h : H} : (apH o m h).lob = h.lob := by
  unfold apH
  split
  · rfl
  · rcases o with _ | ⟨r, hi⟩ <;> rfl
theorem lor_ap {o : Option (Nat × Nat)} {m : Nat} {h : H} : (apH o m h).lor = h.lor := by
  unfold apH
  split
  · rfl
  · rcases o with _ | ⟨r, hi⟩ <;> rfl
/-- Other steps leave a row as it is. -/
theorem okTok_keep {o : Option (Nat × Nat)} {n : Nat} {h h' : H} (k : Keep h h') (ho : okTok o n h) : okTok o n h' := by
  rcases o with _ | ⟨r, hi⟩
  · exact ho
  · obtain ⟨h1, h2, h3, h4⟩ := ho
    exact ⟨h1, by rw [k.lor]; exact h2, by have := k.rlen; omega, by rw [k.rget h3]; exact h4⟩

/-- The mark of a slice that a call gives back. -/
noncomputable def tk (P : Program) (T : Nat → Option LV) (f : Nat) (args : List LV) (h : H) : Option (Nat × Nat) :=
  match runI P T f args h with
  | some (.sl r hi _ _, _) => some (r, hi)
  | _ => none
theorem tk_eq {f : Nat} {args : List LV} {h h' : H} {o : Option (Nat × Nat)} {sz : Nat} {xs : List LV} (hr : runI P T f args h = some (mkS o sz xs, h')) :
    mkS o sz xs = mkS (tk P T f args h) sz xs := by
  rcases mkS_cases o sz xs with ⟨rfl, rfl, h1⟩ | ⟨r, hi, h1⟩
  · rw [h1] at hr
    simp [tk, hr]
  · rw [h1] at hr
    simp only [tk, hr]; exact h1
theorem pureS_of {f : Nat} {rc : RC} {res : List ResultVar} {n : Nat} {args : List LV} {h : H} {sz : Nat} {xs : List LV} (hT : T f = none) (hF : resF P f n = some ⟨n, rc, res⟩) (hn : args.length = n)
    (hr : Ru P T [] (ex P T rc (startL args) h) (Fin P res fun u h' => (∃ o, u = mkS o sz xs) ∧ Keep h h')) : runI P T f args h = some (mkS (tk P T f args h) sz xs, hp P T f args h) := by
  obtain ⟨u, h', h1, ⟨o, rfl⟩, h3⟩ := calls_of hT hF hn hr
  rw [hp_eq h1 h3, ← tk_eq h1]

theorem tk_own {f : Nat} {args : List LV} {h h' : H} {o : Option (Nat × Nat)} {sz : Nat} {xs : List LV} (hr : runI P T f args h = some (mkS o sz xs, h')) (ho : okTok o xs.length h') : tk P T f args h = o := by
  rcases o with _ | ⟨r, hi⟩
  · have hx : xs = [] := List.length_eq_zero_iff.1 ho
    subst hx
    simp [tk, hr, mkS]
  · simp [tk, hr, mkS]
theorem hp_is {f : Nat} {args : List LV} {h h' : H} {v : LV} (hr : runI P T f args h = some (v, h')) (hk : Keep h h') : hp P T f args h = h' := by
  have := hp_eq hr hk
  rw [hr] at this
  exact (Prod.mk.inj (Option.some.inj this)).2.symm
/-- A call that gives back a row of its own. -/
theorem pureO_of {f : Nat} {rc : RC} {res : List ResultVar} {n : Nat} {args : List LV} {h : H} {sz : Nat} {xs : List LV} (hT : T f = none) (hF : resF P f n = some ⟨n, rc, res⟩) (hn : args.length = n)
    (hr : Ru P T [] (ex P T rc (startL args) h) (Fin P res fun u h' => ∃ o, u = mkS o sz xs ∧ Keep h h' ∧ okTok o xs.length h' ∧ newTok o h)) :
    runI P T f args h = some (mkS (tk P T f args h) sz xs, hp P T f args h) ∧ okTok (tk P T f args h) xs.length (hp P T f args h) ∧ newTok (tk P T f args h) h := by
  obtain ⟨u, h', h1, o, rfl, h3, h4, h5⟩ := calls_of hT hF hn hr
  rw [hp_is h1 h3, tk_own h1 h4]
  exact ⟨h1, h4, h5⟩

/-- The string of bytes. -/
def strOf (l : List Int) : ByteArray := ⟨(l.map fun n => UInt8.ofNat n.toNat).toArray⟩
def strB (s : ByteArray) : List Int := s.data.toList.map fun b => (b.toNat : Int)
theorem bytesL_eq (s : ByteArray) : bytesL s = (strB s).map (LV.int .u8) := by simp [bytesL, strB]
theorem toBytes_map (l : List Int) : toBytes (l.map (LV.int .u8)) = some (l.map fun n => UInt8.ofNat n.toNat) := by
  induction l with
  | nil => rfl
  | cons n l ih => simp only [List.map_cons, toBytes, ih, Option.map_some]
theorem cv_strB {a b e : TypeId} (ha : P.underlying a = some (.slice e)) (hb : P.underlying b = some .string) (he : P.underlying e = some (.int .u8)) (o : Option (Nat × Nat)) (l : List Int) (h : H) :
    convL P a b (mkS o 1 (l.map (LV.int .u8))) h = some (.str (strOf l), h) := by
  rcases mkS_cases o 1 (l.map (LV.int .u8)) with ⟨hn, _, h1⟩ | ⟨r, hi, h1⟩ <;> rw [h1]
  · obtain rfl : l = [] := by simpa using hn
    simp only [convL, ha, hb, he]; rfl
  · simp only [convL, ha, hb, he, toBytes_map]; rfl
/-- The rounds of a range. -/
theorem at_map {α : Type} {f : α → LV} {l : List α} {i : Nat} {x : α} (h : l[i]? = some x) : (l.map f)[i]? = some (f x) := by simp [h]
theorem iaS_map {α : Type} {f : α → LV} {l : List α} {n : Int} {x : α} (h0 : 0 ≤ n) (h : l[n.toNat]? = some x) : iaS (l.map f) n = some (.cptr (f x)) := iaS_some h0 (at_map h)
theorem kept_mk {o : Option (Nat × Nat)} {sz : Nat} {xs : List LV} {h h' : H} (h0 : h'.rget 0 = h.rget 0) (ho : ∀ r hi, o = some (r, hi) → h'.rget r = h.rget r) : kept1 h h' (mkS o sz xs) = true := by
  rcases mkS_cases o sz xs with ⟨_, _, e⟩ | ⟨r, hi, e⟩
  · rw [e]; rfl
  · rw [e, kept_sl]
    rcases o with _ | ⟨r', hi'⟩
    · cases xs with
      | nil => simp [mkS] at e
      | cons x xs => simp [mkS] at e; obtain ⟨rfl, rfl⟩ := e; simp [h0]
    · simp [mkS] at e
      obtain ⟨rfl, rfl⟩ := e
      simp [ho]
/-- A row that was there, where all is kept. -/
theorem kept_keep {o : Option (Nat × Nat)} {n sz : Nat} {xs : List LV} {h h' : H} (k : Keep h h') (w : WF h) (ho : okTok o n h) : kept1 h h' (mkS o sz xs) = true := by
  refine kept_mk (k.rget (by have := w.2.2; omega)) ?_
  rintro r hi rfl
  exact k.rget ho.2.2.1
end Go.LM

namespace Go.LM
variable {P : Program}

/-! ### from a reading of the arguments to logical values -/
def Gi (w : World) : Gh := ⟨fun _ => none, fun _ => none, fun b o => ∃ v, w.cell? ⟨b, o, none⟩ = some v, fun _ => False, fun _ => none⟩
def H0 : H := ⟨[], [0], 0, 0⟩
theorem hr0 (w : World) : HR w.heap.size (Gi w) w H0 where
  size := Nat.le_refl _
  lo := ⟨Nat.le_refl _, Nat.zero_le _, Nat.le_refl _⟩
  prot _ _ h := h
  boxAt _ _ h := by cases h
  boxInj _ _ _ h := by cases h
  rowAt _ _ h := by cases h
  rowInj _ _ _ _ h := by cases h
  box _ _ _ h := by cases h
  row _ _ _ h := by cases h
  mar := ⟨⟨fun _ _ h => (by cases h), fun _ h => (show False from h).elim, fun _ _ _ _ h => (by cases h)⟩, fun _ _ _ h => (by cases h), fun _ _ h => (show False from h).elim⟩
theorem fresh0 (w : World) (tb tr : Nat) : Fresh (Gi w) H0 tb tr := ⟨fun _ _ _ => rfl, fun _ _ _ => rfl, fun _ _ _ h => h⟩
theorem wf0 : WF H0 := ⟨Nat.le_refl _, Nat.zero_le _, Nat.le_refl _⟩

/-- Parts one behind the other, from a place on: where they end. -/
def laidL (P : Program) : Nat → List (Nat × TypeId) → Option Nat
  | acc, [] => some acc
  | acc, (o, t) :: l => if o = acc then laidL P (acc + P.cellsOf t) l else none

/-- Cells of a value of a type: what is known of them, so deep. -/
def Ty (P : Program) : Nat → TypeId → List LV → Prop
  | 0, _, _ => False
  | n + 1, t, ls => match P.underlying t with
    | some .bool => ∃ b, ls = [.bool b]
    | some (.int k) => ∃ i, ls = [.int k i] ∧ (Lit.int k i).wf = true
    | some .string => ∃ s, ls = [.str s] ∧ s.size ≤ maxLen
    | some (.slice e) => ∃ o xs, ls = [mkS o (P.cellsOf e) xs] ∧ xs.length ≤ maxLen ∧
        ∀ x ∈ xs, Ty P n e x.cells ∧ (isAggT P e = some true → x = .agg x.cells) ∧ (isAggT P e = some false → x.cells = [x])
    | some (.struct fs) => ls.length = P.cellsOf t ∧ ∀ f ∈ fs.toList, Ty P n f.type ((ls.drop f.offset).take (P.cellsOf f.type))
    | some (.array m e) => ls.length = P.cellsOf t ∧ ∀ i, i < m → Ty P n e ((ls.drop (i * P.cellsOf e)).take (P.cellsOf e))
    | _ => True

/-- Types that are read so. -/
def plainT (P : Program) : Nat → TypeId → Bool
  | 0, _ => false
  | n + 1, t => match P.underlying t with
    | some .bool => true
    | some (.int _) => true
    | some .string => true
    | some (.slice e) => plainT P n e && decide (0 < P.cellsOf e) && match isAggT P e with
      | some true => true
      | some false => P.cellsOf e == 1
      | none => false
    | some (.struct fs) => (fs.toList.all fun f => plainT P n f.type) && decide (laidL P 0 (fs.toList.map fun f => (f.offset, f.type)) = some (P.cellsOf t))
    | some (.array m e) => plainT P n e && decide (laidL P 0 ((List.range m).map fun i => (i * P.cellsOf e, e)) = some (P.cellsOf t))
    | _ => false

theorem mapM_all {α β : Type} {f : α → Option β} : ∀ {l : List α} {ys : List β}, l.mapM f = some ys → ∀ a ∈ l, ∃ y, f a = some y
  | [], _, _, a, ha => by simp at ha
  | x :: l, ys, h, a, ha => by
    rw [List.mapM_cons] at h
    cases hx : f x with
    | none => rw [hx] at h; simp at h
    | some y =>
      rw [hx] at h
      cases hl : l.mapM f with
      | none => rw [hl] at h; simp at h
      | some zs =>
        simp at ha
        rcases ha with rfl | ha
        · exact ⟨y, hx⟩
        · exact mapM_all hl a ha
theorem mapM_at {α β : Type} {f : α → Option β} : ∀ {l : List α} {ys : List β}, l.mapM f = some ys → ys.length = l.length ∧ ∀ i (h : i < l.length) (h' : i < ys.length), f l[i] = some ys[i]
  | [], ys, h => by simp at h; subst h; simp
  | x :: l, ys, h => by
    rw [List.mapM_cons] at h
    cases hx : f x with
    | none => rw [hx] at h; simp at h
    | some y =>
      rw [hx] at h
      cases hl : l.mapM f with
      | none => rw [hl] at h; simp at h
      | some zs =>
        rw [hl] at h
        simp at h; subst h
        obtain ⟨e, hi⟩ := mapM_at hl
        refine ⟨by simp [e], fun i h h' => ?_⟩
        cases i with
        | zero => simpa using hx
        | succ i => simpa using hi i (by simpa using h) (by simpa using h')

/-- Parts joined. -/
theorem join_parts {G : Gh} {w : World} {n : Nat} {cs : List Value} : ∀ (l : List (Nat × TypeId)) (acc : Nat), laidL P acc l = some cs.length → acc ≤ cs.length →
    (∀ p ∈ l, ∃ ls, VRs G w ls ((cs.drop p.1).take (P.cellsOf p.2)) ∧ Ty P n p.2 ls ∧ ∀ x ∈ ls, x.one = true) →
    (∀ p ∈ l, acc ≤ p.1 ∧ p.1 + P.cellsOf p.2 ≤ cs.length) ∧ ∃ ls, VRs G w ls (cs.drop acc) ∧ (∀ x ∈ ls, x.one = true) ∧ ∀ p ∈ l, Ty P n p.2 ((ls.drop (p.1 - acc)).take (P.cellsOf p.2))
  | [], acc, hl, _, _ => by
    simp only [laidL] at hl
    cases hl
    exact ⟨by simp, [], by rw [List.drop_length]; exact .nil, by simp, by simp⟩
  | (o, t) :: l, acc, hl, hle, hp => by
    simp only [laidL] at hl
    split at hl
    · rename_i ho; subst ho
      have hmono : ∀ (l : List (Nat × TypeId)) (a b : Nat), laidL P a l = some b → a ≤ b := by
        intro l
        induction l with
        | nil => intro a b h; simp only [laidL] at h; cases h; exact Nat.le_refl _
        | cons p l ih =>
          intro a b h
          obtain ⟨o, t⟩ := p
          simp only [laidL] at h
          split at h
          · have := ih _ _ h; omega
          · cases h
      have hb := hmono _ _ _ hl
      obtain ⟨hin, ls2, hv2, ho2, ht2⟩ := join_parts l _ hl hb (fun p hpm => hp p (by simp [hpm]))
      obtain ⟨ls1, hv1, ht1, ho1⟩ := hp (o, t) (by simp)
      have hlen : ls1.length = P.cellsOf t := by
        have := hv1.1; simp at this; omega
      refine ⟨?_, ls1 ++ ls2, ?_, ?_, ?_⟩
      · intro p hpm
        simp only [List.mem_cons] at hpm
        rcases hpm with rfl | hpm
        · exact ⟨Nat.le_refl _, hb⟩
        · have := hin p hpm; exact ⟨by omega, this.2⟩
      · have e : cs.drop o = (cs.drop o).take (P.cellsOf t) ++ cs.drop (o + P.cellsOf t) := by
          rw [← List.drop_drop, List.take_append_drop]
        rw [e]
        exact hv1.append hv2
      · intro x hx
        simp only [List.mem_append] at hx
        exact hx.elim (ho1 x) (ho2 x)
      · intro p hpm
        simp only [List.mem_cons] at hpm
        rcases hpm with rfl | hpm
        · simp only [Nat.sub_self, List.drop_zero]
          rw [List.take_append_of_le_length (by omega), List.take_of_length_le (by omega)]
          exact ht1
        · have h3 := hin p hpm
          have h4 := ht2 p hpm
          have e : (ls1 ++ ls2).drop (p.1 - o) = ls2.drop (p.1 - (o + P.cellsOf t)) := by
            rw [List.drop_append, List.drop_of_length_le (by omega), List.nil_append, hlen]
            congr 1; omega
          rw [e]; exact h4
    · cases hl

theorem cells?_at {w : World} {a : Addr} {n : Nat} {cs : List Value} (h : w.cells? 0 a n = some cs) : cs.length = n ∧ ∀ i (hi : i < cs.length), w.cell? (a.add i) = some cs[i] := by
  unfold World.cells? at h
  rw [if_pos (Nat.zero_le _)] at h
  obtain ⟨e, hi⟩ := mapM_at h
  rw [List.length_range] at e
  refine ⟨e, fun i h1 => ?_⟩
  have := hi i (by rw [List.length_range]; omega) h1
  rwa [List.getElem_range] at this

def packL (P : Program) (e : TypeId) (ls : List LV) : LV :=
  match isAggT P e with
  | some true => .agg ls
  | _ => ls.headD .undef

theorem open_cells {K : Type} {enc : TypeId × Value → K} {w : World} {spare : Nat → Bool} {held : Bool} : ∀ (fuel m : Nat) (t : TypeId) (cs : List Value) (x : DataW K × List MemPlace),
    DataW.trod enc P w 0 spare held fuel t cs = some x → plainT P m t = true → ∃ ls, VRs (Gi w) w ls cs ∧ Ty P m t ls ∧ ∀ x ∈ ls, x.one = true
  | 0, _, _, _, _, h, _ => by simp [DataW.trod] at h
  | _ + 1, 0, _, _, _, _, hp => by simp [plainT] at hp
  | fuel + 1, m + 1, t, cs, x, h, hp => by
    simp only [DataW.trod] at h
    simp only [plainT] at hp
    have hty : ∀ ls, Ty P (m + 1) t ls = (match P.underlying t with
      | some .bool => ∃ b, ls = [.bool b]
      | some (.int k) => ∃ i, ls = [.int k i] ∧ (Lit.int k i).wf = true
      | some .string => ∃ s, ls = [.str s] ∧ s.size ≤ maxLen
      | some (.slice e) => ∃ o xs, ls = [mkS o (P.cellsOf e) xs] ∧ xs.length ≤ maxLen ∧
          ∀ x ∈ xs, Ty P m e x.cells ∧ (isAggT P e = some true → x = .agg x.cells) ∧ (isAggT P e = some false → x.cells = [x])
      | some (.struct fs) => ls.length = P.cellsOf t ∧ ∀ f ∈ fs.toList, Ty P m f.type ((ls.drop f.offset).take (P.cellsOf f.type))
      | some (.array m' e) => ls.length = P.cellsOf t ∧ ∀ i, i < m' → Ty P m e ((ls.drop (i * P.cellsOf e)).take (P.cellsOf e))
      | _ => True) := fun ls => rfl
    have one1 : ∀ v : LV, v.one = true → ∀ x ∈ [v], x.one = true := by intro v hv x hx; simp at hx; rw [hx]; exact hv
    cases hu : P.underlying t with
    | none => rw [hu] at hp; cases hp
    | some d =>
      rw [hu] at h hp
      simp only [hty, hu]
      cases d <;> try (cases hp; done)
      case bool =>
        split at h <;> try (cases h; done)
        all_goals first
          | (rename_i b he; cases he; exact ⟨[.bool b], .cons (.bool b) .nil, ⟨b, rfl⟩, one1 _ rfl⟩)
          | (rename_i he; cases he)
          | (rename_i he _; cases he)
      case int k =>
        split at h <;> try (cases h; done)
        all_goals first
          | (rename_i k' n he
             cases he
             split at h
             · rename_i hk
               obtain ⟨rfl, hw⟩ := hk
               exact ⟨[.int _ n], .cons (.int _ n) .nil, ⟨n, rfl, hw⟩, one1 _ rfl⟩
             · cases h)
          | (rename_i he; cases he)
          | (rename_i he _; cases he)
      case string =>
        split at h <;> try (cases h; done)
        all_goals first
          | (rename_i b he
             cases he
             split at h
             · rename_i hk
               exact ⟨[.str b], .cons (.str b) .nil, ⟨b, rfl, hk⟩, one1 _ rfl⟩
             · cases h)
          | (rename_i he; cases he)
          | (rename_i he _; cases he)
      case slice e =>
        simp only [Bool.and_eq_true, decide_eq_true_eq] at hp
        obtain ⟨⟨hpe, hpos⟩, hag⟩ := hp
        have hsl : cs = [.slice none 0 0] ∨ ∃ a len cap, cs = [.slice (some a) len cap] ∧ (0 ≤ a.block ∧ len ≤ cap ∧ cap ≤ maxLen) ∧
            ∃ elems, (List.range len).mapM (fun i => (w.cells? 0 (a.add (i * P.cellsOf e)) (P.cellsOf e)).bind (DataW.trod enc P w 0 spare held fuel e)) = some elems := by
          split at h <;> try (cases h; done)
          all_goals first
            | (rename_i he; cases he; exact .inl rfl)
            | (rename_i he
               cases he
               split at h
               · rename_i hc
                 rw [Option.bind_eq_some_iff] at h
                 obtain ⟨elems, hel, _⟩ := h
                 exact .inr ⟨_, _, _, rfl, hc, elems, hel⟩
               · cases h)
            | (rename_i he; cases he; done)
            | (rename_i he _; cases he; done)
        rcases hsl with rfl | ⟨a, len, cap, rfl, hc, elems, hel⟩
        · exact ⟨[.nils], .cons .nils .nil, ⟨none, [], rfl, by simp, by simp⟩, one1 _ rfl⟩
        clear h
        obtain ⟨_, hle, hcap⟩ := hc
        have hel2 := mapM_at hel
        have hall : ∀ i, i < len → ∃ us, w.cells? 0 (a.add (i * P.cellsOf e)) (P.cellsOf e) = some us ∧ ∃ ls, VRs (Gi w) w ls us ∧ Ty P m e ls ∧ ∀ x ∈ ls, x.one = true := by
          intro i hi
          have := hel2.2 i (by simpa using hi) (by rw [hel2.1]; simpa using hi)
          rw [List.getElem_range, Option.bind_eq_some_iff] at this
          obtain ⟨us, h1, h2⟩ := this
          exact ⟨us, h1, open_cells fuel m e us _ h2 hpe⟩
        have hch : ∃ (U : Nat → List Value) (L : Nat → List LV), ∀ i, i < len → w.cells? 0 (a.add (i * P.cellsOf e)) (P.cellsOf e) = some (U i) ∧ VRs (Gi w) w (L i) (U i) ∧ Ty P m e (L i) ∧ ∀ x ∈ L i, x.one = true := by
          refine ⟨fun i => if hi : i < len then (hall i hi).choose else [], fun i => if hi : i < len then (hall i hi).choose_spec.2.choose else [], fun i hi => ?_⟩
          simp only [dif_pos hi]
          exact ⟨(hall i hi).choose_spec.1, (hall i hi).choose_spec.2.choose_spec⟩
        obtain ⟨U, L, hUL⟩ := hch
        have hU : ∀ i, i < len → (U i).length = P.cellsOf e := fun i hi => (cells?_at (hUL i hi).1).1
        have hL : ∀ i, i < len → (L i).length = P.cellsOf e := fun i hi => (hUL i hi).2.1.1.trans (hU i hi)
        have hpk : ∀ i, i < len → (packL P e (L i)).cells = L i ∧ (isAggT P e = some true → packL P e (L i) = .agg (packL P e (L i)).cells) ∧ (isAggT P e = some false → (packL P e (L i)).cells = [packL P e (L i)]) := by
          intro i hi
          have hl := hL i hi
          have h1 := (hUL i hi).2.2.2
          cases hb : isAggT P e with
          | none => rw [hb] at hag; cases hag
          | some b =>
            rw [hb] at hag
            cases b with
            | true => simp [packL, hb, LV.cells]
            | false =>
              have hag : P.cellsOf e = 1 := by simpa using hag
              obtain ⟨y, hy⟩ : ∃ y, L i = [y] := by
                rw [hag] at hl
                match hLi : L i, hl with
                | [y], _ => exact ⟨y, rfl⟩
              have hy1 : y.one = true := h1 y (by rw [hy]; simp)
              have hyc : y.cells = [y] := by cases y <;> simp_all [LV.one, LV.cells]
              simp [packL, hb, hy, hyc]
        let xs := (List.range len).map fun i => packL P e (L i)
        have hxl : xs.length = len := by simp [xs]
        have hxi : ∀ i (hi : i < xs.length), xs[i] = packL P e (L i) := by intro i hi; simp [xs]
        refine ⟨[.sl 0 0 (P.cellsOf e) xs], .cons ?_ .nil, ⟨some (0, 0), xs, rfl, by rw [hxl]; omega, ?_⟩, one1 _ rfl⟩
        · by_cases h0 : len = 0
          · subst h0
            have : xs = [] := List.length_eq_zero_iff.1 hxl
            rw [this]; exact .sle _ _ _ _
          · obtain ⟨blk, off, spot⟩ := a
            have hsp : spot = none := by
              have := (cells?_at (hUL 0 (by omega)).1).2 0 (by rw [hU 0 (by omega)]; exact hpos)
              have := World.cell?_spot this
              simpa [Addr.add] using this
            subst hsp
            have hcell : ∀ i (hi : i < len) j (hj : j < P.cellsOf e), w.cell? ⟨blk, off + i * P.cellsOf e + j, none⟩ = some ((U i)[j]'(by rw [hU i hi]; exact hj)) := by
              intro i hi j hj
              have := (cells?_at (hUL i hi).1).2 j (by rw [hU i hi]; exact hj)
              rwa [add_off, add_off] at this
            rw [← hxl]
            refine .sl (fun i j => ((U i)[j]?).getD undef) (by omega) ?_ ?_ ?_ (fun h => absurd rfl h)
            · intro i hi; rw [hxi i hi, (hpk i (by omega)).1]; exact hL i (by omega)
            · intro i hi j hj
              have hi' : i < len := by omega
              have hju : j < (U i).length := by rw [hU i hi']; exact hj
              have hc := hcell i hi' j hj
              simp only [List.getElem?_eq_getElem hju, Option.getD_some]
              have hjl : j < (L i).length := by rw [hL i hi']; exact hj
              exact ⟨hc, ⟨_, hc⟩, one_cell ((hUL i hi').2.1.2 j hjl hju) ((hUL i hi').2.2.2 _ (List.getElem_mem _))⟩
            · intro i hi j hj
              have hi' : i < len := by omega
              have hjl : j < (L i).length := by have := (hpk i hi').1; rw [hxi i hi, this] at hj; exact hj
              have hju : j < (U i).length := by rw [hU i hi', ← hL i hi']; exact hjl
              simp only [List.getElem?_eq_getElem hju, Option.getD_some]
              have := (hUL i hi').2.1.2 j hjl hju
              simpa only [hxi i hi, (hpk i hi').1] using this
        · intro x hx
          obtain ⟨i, hi, rfl⟩ := List.getElem_of_mem hx
          rw [hxi i hi]
          have h3 := hpk i (by omega)
          exact ⟨by rw [h3.1]; exact (hUL i (by omega)).2.2.1, h3.2⟩
      case struct fs =>
        simp only [Bool.and_eq_true, decide_eq_true_eq] at hp
        obtain ⟨hpf, hlaid⟩ := hp
        dsimp only at h
        split at h
        case isFalse => cases h
        rename_i hl
        rw [Option.map_eq_some_iff] at h
        obtain ⟨xs, hx, _⟩ := h
        have hall := mapM_all hx
        obtain ⟨_, ls, h1, h2, h3⟩ := join_parts (G := Gi w) (w := w) (n := m) (cs := cs) (fs.toList.map fun f => (f.offset, f.type)) 0 (by rw [hl]; exact hlaid) (Nat.zero_le _) (by
          intro p hp
          obtain ⟨f, hf, rfl⟩ := List.mem_map.1 hp
          obtain ⟨y, hy⟩ := hall f hf
          exact open_cells fuel m f.type _ y hy (List.all_eq_true.1 hpf f hf))
        refine ⟨ls, by simpa using h1, ⟨by have := h1.1; simp at this; omega, fun f hf => ?_⟩, h2⟩
        have := h3 (f.offset, f.type) (List.mem_map.2 ⟨f, hf, rfl⟩)
        simpa using this
      case array n e =>
        simp only [Bool.and_eq_true, decide_eq_true_eq] at hp
        obtain ⟨hpf, hlaid⟩ := hp
        dsimp only at h
        split at h
        case isFalse => cases h
        rename_i hl
        rw [Option.map_eq_some_iff] at h
        obtain ⟨xs, hx, _⟩ := h
        have hall := mapM_all hx
        obtain ⟨_, ls, h1, h2, h3⟩ := join_parts (G := Gi w) (w := w) (n := m) (cs := cs) ((List.range n).map fun i => (i * P.cellsOf e, e)) 0 (by rw [hl]; exact hlaid) (Nat.zero_le _) (by
          intro p hp
          obtain ⟨i, hi, rfl⟩ := List.mem_map.1 hp
          obtain ⟨y, hy⟩ := hall i hi
          exact open_cells fuel m e _ y hy hpf)
        refine ⟨ls, by simpa using h1, ⟨by have := h1.1; simp at this; omega, fun i hi => ?_⟩, h2⟩
        have := h3 (i * P.cellsOf e, e) (List.mem_map.2 ⟨i, by simpa using hi, rfl⟩)
        simpa using this

/-- An argument, opened: several cells, or one. -/
theorem open_agg {K : Type} {enc : TypeId × Value → K} {w : World} {spare : Nat → Bool} {held : Bool} {base : Nat} {t : TypeId} {v : Value} {d : DataW K} {p : List MemPlace} (m : Nat) (ha : isAggT P t = some true)
    (hval : Value.okWide P w .any base t v) (h : DataW.Trod enc P w 0 spare held t v d p) (hp : plainT P m t = true) : ∃ ls, VR (Gi w) w (.agg ls) v ∧ Ty P m t ls := by
  obtain ⟨cs, rfl⟩ : ∃ cs, v = .agg cs := by
    unfold isAggT at ha
    unfold Value.okWide at hval
    split at ha <;> first
      | (rename_i hu; rw [hu] at hval; dsimp only at hval; obtain ⟨cs, h1, _⟩ := hval; exact ⟨cs, h1⟩)
      | cases ha
  obtain ⟨fuel, hf⟩ := h
  obtain ⟨ls, h1, h2, _⟩ := open_cells fuel m t _ _ hf hp
  exact ⟨ls, h1.toAgg, h2⟩
theorem open_one {K : Type} {enc : TypeId × Value → K} {w : World} {spare : Nat → Bool} {held : Bool} {base : Nat} {t : TypeId} {v : Value} {d : DataW K} {p : List MemPlace} (m : Nat) (ha : isAggT P t = some false)
    (hval : Value.okWide P w .any base t v) (h : DataW.Trod enc P w 0 spare held t v d p) (hp : plainT P m t = true) : ∃ l, VR (Gi w) w l v ∧ Ty P m t [l] := by
  have hc : v.cells = #[v] := by
    cases v with
    | agg cs =>
      exfalso
      unfold isAggT at ha
      unfold Value.okWide at hval
      cases m with
      | zero => simp [plainT] at hp
      | succ m =>
      simp only [plainT] at hp
      cases hu : P.underlying t with
      | none => rw [hu] at ha; cases ha
      | some dd =>
        rw [hu] at hp ha hval
        cases dd <;> first
          | (cases ha; done)
          | (cases hp; done)
          | (simp [Cell.okWide, Cell.ok, hu] at hval)
    | _ => rfl
  obtain ⟨fuel, hf⟩ := h
  obtain ⟨ls, h1, h2, h3⟩ := open_cells fuel m t _ _ hf hp
  rw [hc] at h1
  obtain ⟨l, rfl⟩ : ∃ l, ls = [l] := by
    have := h1.1
    match ls, this with
    | [l], _ => exact ⟨l, rfl⟩
  exact ⟨l, h1.head, h2⟩

theorem ty_int {n : Nat} {t : TypeId} {k : IntKind} {l : LV} (hu : P.underlying t = some (.int k)) (h : Ty P (n + 1) t [l]) : ∃ i, l = .int k i ∧ (Lit.int k i).wf = true := by
  simp only [Ty, hu] at h
  obtain ⟨i, h1, h2⟩ := h
  exact ⟨i, by simpa using h1, h2⟩
theorem ty_bool {n : Nat} {t : TypeId} {l : LV} (hu : P.underlying t = some .bool) (h : Ty P (n + 1) t [l]) : ∃ b, l = .bool b := by
  simp only [Ty, hu] at h
  obtain ⟨i, h1⟩ := h
  exact ⟨i, by simpa using h1⟩
theorem ty_slice {n : Nat} {t e : TypeId} {c : Nat} {l : LV} (hu : P.underlying t = some (.slice e)) (hc : P.cellsOf e = c) (h : Ty P (n + 1) t [l]) :
    ∃ o xs, l = mkS o c xs ∧ xs.length ≤ maxLen ∧ ∀ x ∈ xs, Ty P n e x.cells ∧ (isAggT P e = some true → x = .agg x.cells) ∧ (isAggT P e = some false → x.cells = [x]) := by
  simp only [Ty, hu, hc] at h
  obtain ⟨o, xs, h1, h2⟩ := h
  exact ⟨o, xs, by simpa using h1, h2⟩
theorem map_of {α : Type} {f : α → LV} {p : α → Prop} : ∀ {xs : List LV}, (∀ x ∈ xs, ∃ a, x = f a ∧ p a) → ∃ l : List α, xs = l.map f ∧ ∀ a ∈ l, p a
  | [], _ => ⟨[], rfl, by simp⟩
  | x :: xs, h => by
    obtain ⟨l, h1, h2⟩ := map_of (f := f) (p := p) (xs := xs) (fun y hy => h y (by simp [hy]))
    obtain ⟨a, h3, h4⟩ := h x (by simp)
    refine ⟨a :: l, by simp [h1, h3], fun b hb => ?_⟩
    simp only [List.mem_cons] at hb
    rcases hb with rfl | hb
    · exact h4
    · exact h2 b hb
/-- A slice of numbers. -/
theorem ty_ints {n : Nat} {t e : TypeId} {k : IntKind} {l : LV} (hu : P.underlying t = some (.slice e)) (hc : P.cellsOf e = 1) (he : P.underlying e = some (.int k)) (h : Ty P (n + 2) t [l]) :
    ∃ o, ∃ zs : List Int, l = mkS o 1 (zs.map (LV.int k)) ∧ zs.length ≤ maxLen ∧ ∀ z ∈ zs, (Lit.int k z).wf = true := by
  obtain ⟨o, xs, rfl, hl, hx⟩ := ty_slice hu hc h
  have ha : isAggT P e = some false := by simp [isAggT, he]
  obtain ⟨zs, rfl, hz⟩ := map_of (f := LV.int k) (p := fun z => (Lit.int k z).wf = true) (xs := xs) (by
    intro x hxm
    obtain ⟨h1, _, h2⟩ := hx x hxm
    rw [h2 ha] at h1
    exact ty_int he h1)
  exact ⟨o, zs, rfl, by simpa using hl, hz⟩
/-- A slice of structs. -/
theorem ty_aggs {α : Type} {f : α → LV} {p : α → Prop} {n c : Nat} {t e : TypeId} {l : LV} (hu : P.underlying t = some (.slice e)) (hc : P.cellsOf e = c) (ha : isAggT P e = some true)
    (hf : ∀ ls, Ty P n e ls → ∃ a, .agg ls = f a ∧ p a) (h : Ty P (n + 1) t [l]) : ∃ o, ∃ zs : List α, l = mkS o c (zs.map f) ∧ zs.length ≤ maxLen ∧ ∀ z ∈ zs, p z := by
  obtain ⟨o, xs, rfl, hl, hx⟩ := ty_slice hu hc h
  obtain ⟨zs, rfl, hz⟩ := map_of (f := f) (p := p) (xs := xs) (by
    intro x hxm
    obtain ⟨h1, h2, _⟩ := hx x hxm
    rw [h2 ha]
    exact hf _ h1)
  exact ⟨o, zs, rfl, by simpa using hl, hz⟩

/-! ### the end: what is said of a call -/
theorem below_of_step {w w' : World} {G G' : Gh} {h h' : H} (s : Step w.heap.size G w h G' w' h') : Go.RowKit.Below w.heap.size w w' :=
  ⟨s.sd.os, s.sd.tape, s.sd.out, s.fr.size, s.fr.old⟩

/-- A call that answers 'true' in the logical machine answers so. -/
theorem calls_true {T : Nat → Option LV} (hT : TOk P T) (hm : P.follows .mixedOrders = true) {f : Nat} {args : List LV} {args' : Array Value} {w : World} {h' : H}
    (hv : VRs (Gi w) w args args'.toList) (hr : runI P T f args H0 = some (.bool true, h')) : Calls P f args' w fun e w' => e = .returned (.bool true) ∧ Go.RowKit.Below w.heap.size w w' := by
  obtain ⟨n, hn⟩ := of_runI hr
  refine (run_sound hT hm w.heap.size n f args H0 _ h' hn (Gi w) w args' h'.box.length h'.row.length (hr0 w) (fresh0 w _ _) (Nat.le_refl _) (Nat.le_refl _) hv).mono ?_
  rintro e w' ⟨G', u, rfl, hu, hst⟩
  cases hu
  exact ⟨rfl, below_of_step hst⟩
theorem tok_none : TOk P (fun _ => none) := fun f v h => by cases h

def fnOk (P : Program) (f : Nat) : Bool :=
  match P.funcs[f]? with
  | some fn => fn.body.isSome && !(decide (fn.name = "runtime.NumGoroutine"))
  | none => false
theorem of_fnOk {f : Nat} (h : fnOk P f = true) : ∃ fn, P.funcs[f]? = some fn ∧ fn.body ≠ none ∧ fn.name ≠ "runtime.NumGoroutine" := by
  unfold fnOk at h
  split at h
  · rename_i fn hf
    simp at h
    exact ⟨fn, hf, by intro e; rw [e] at h; simp at h, h.2⟩
  · cases h
/-- An answer known by the logical machine's own run. -/
theorem tok_of (hm : P.follows .mixedOrders = true) {f : Nat} (hok : fnOk P f = true) {n : Nat}
    (hr : (runL P (fun _ => none) n f [] H0).map (·.1) = some (.bool true)) :
    (∃ fn, P.funcs[f]? = some fn ∧ fn.body ≠ none ∧ fn.name ≠ "runtime.NumGoroutine") ∧
      ∃ u, (∀ G w, VR G w (.bool true) u) ∧ ∀ w, Calls P f #[] w fun e w' => e = .returned u ∧ w.heap.size ≤ w'.heap.size ∧ (∀ i, i < w.heap.size → w'.heap[i]? = w.heap[i]?) ∧ Sd w w' := by
  have hf := of_fnOk hok
  refine ⟨hf, .bool true, fun G w => .bool true, fun w => ?_⟩
  rw [Option.map_eq_some_iff] at hr
  obtain ⟨⟨v, h'⟩, hn, hv⟩ := hr
  dsimp only at hv; subst hv
  refine (run_sound tok_none hm w.heap.size n f [] H0 _ h' hn (Gi w) w #[] h'.box.length h'.row.length (hr0 w) (fresh0 w _ _) (Nat.le_refl _) (Nat.le_refl _) .nil).mono ?_
  rintro e w' ⟨G', u, rfl, hu, hst⟩
  cases hu
  exact ⟨rfl, hst.fr.size, hst.fr.old, hst.sd⟩
end Go.LM

namespace Go.LM
attribute [go_sem] opsR_n
  upd_at
  List.length_cons
  List.length_nil
  List.cons_append
  List.nil_append
  List.append_nil
  List.getElem?_cons_zero
  List.getElem?_cons_succ
  List.getElem?_nil
  List.set_cons_zero
  List.set_cons_succ
  List.drop_zero
  List.drop_succ_cons
  List.take_succ_cons
  List.take_zero
  List.drop_nil
  List.take_nil
  List.all_cons
  List.all_nil
  Bool.and_true
  Bool.and_self
  Bool.true_and
  and_self
  true_and
  and_true
  eq_self
  plS
  plA
  partA
  Nat.zero_add
  Nat.add_zero
  Nat.le_refl
  Nat.zero_le
  ne_eq
  not_true
  not_false
  Bool.not_true
  Bool.not_false
  decide_true
  decide_false
  if_true
  if_false
  ite_true
  ite_false
  Int.toNat_zero
  List.getElem?_toArray
  Nat.lt_irrefl
  Int.zero_add
  Bool.true_beq
  Bool.false_beq
  beq_self_eq_true
  Bool.not_not
  Bool.false_eq_true
  Bool.false_and
  Bool.and_false
  false_and
  and_false
  or_false
  false_or
  exists_false
  len_alloc
  len_put
  len_nrow
  len_srow
  len_up
  len_down
  rlen_alloc
  rlen_put
  rlen_nrow
  rlen_srow
  rlen_up
  rlen_down
  lob_alloc
  lob_put
  lob_nrow
  lob_srow
  lob_up
  lob_down
  lor_alloc
  lor_put
  lor_nrow
  lor_srow
  lor_up
  lor_down
  lob_hp
  lor_hp
  get_alloc_eq
  get_alloc_at
  get_alloc_lt
  get_put_eq
  get_nrow
  get_srow
  get_up
  get_down
  get_hp
  rget_nrow_eq
  rget_nrow_lt
  rget_srow_eq
  rget_alloc
  rget_put
  rget_up
  rget_down
  rget_hp
  opsR_nil
  opsR_g
  opsRD_nil
  opsRD_n
  opsRD_g
  opsK_some
  opsK_none
  opsKD_some
  opsKD_none
  opsG_yes
  opsG_yes'
  opsG_no
  opsG_no'
  opsG_non
  opsG_non'
  opsGD_yes
  opsGD_yes'
  opsGD_no
  opsGD_no'
  opsGD_non
  opsGD_non'
  resK_some
  resL_nil
  resL_tmp
  resL_cell
  resC1_some
  resC2_some
  tupL_1
  tupL_0
  tupL_2
  startL_0
  startL_s
  startL_n
  opr_t
  opr_f
  opr_int
  opr_bool
  opr_str
  opr_nils
  opr_nilp
  opr_nilf
  opr_nili
  cons2_some
  oprs_nil
  oprs_cons
  pairO_some
  oprP_nil
  oprP_cons
  wh_some
  op_move
  op_assign
  op_pick
  pickK_t
  pickK_f
  op_alloc
  op_box
  allocK_some
  op_build
  buildK_some
  op_buildSlice
  buildSK_some
  op_load
  loadO_some
  load_ptr
  load_cptr
  loadK_some
  op_store
  storeO_ptr
  storeK_some
  op_nilCheck
  op_bin
  binK_some
  op_un
  unK_some
  op_conv
  convK_some
  op_mkf
  mkfK_some
  op_slice
  sliceK_some
  oprO_none
  someO_some
  oprO_some
  op_fa
  faK_some
  op_fd
  fdK_some
  op_ia
  iaK_some
  op_ix
  ixK_some
  op_ext
  extK_some
  op_len
  lenK_some
  op_append
  appK_some
  op_max
  op_min
  mmK_some
  foldL_nil
  foldL_cons
  foldK_some
  max2_int
  min2_int
  op_call
  callK_some
  sub1_some
  sub2_some
  bound_none
  bound_some
  fill_nil
  fill_cons
  fillK_some
  aggK_some
  chunk_0
  chK_some
  chK1_some
  elems_nils
  elems_sl
  elems_str
  appS_nil_nils
  appS_nil_sl
  bin_add
  bin_sub
  bin_mul
  bin_quo
  bin_rem
  bin_and
  bin_or
  bin_xor
  bin_andNot
  bin_eql
  bin_neq
  bin_lss
  bin_leq
  bin_gtr
  bin_geq
  bin_shl
  bin_shr
  boolK_some
  nboolK_some
  bin_eql_agg
  bin_neq_agg
  un_not
  un_neg
  un_xor
  eqSeq_nil
  cells_agg
  cells_int
  cells_bool
  cells_nils
  cells_nilp
  cells_nilf
  cells_sl
  cells_ptr
  cells_fn
  cells_str
  known_agg
  known_int
  known_bool
  known_nils
  known_nilp
  known_nilf
  known_sl
  known_ptr
  known_fn
  known_str
  one_int
  one_bool
  one_nils
  one_nilp
  one_nilf
  one_sl
  one_ptr
  one_fn
  one_str
  setAll_nil
  setAll_cons
  rep_0
  rep_s
  nilCK_ptr nilCK_cptr nilCK_fn nilCK_iface
  slA_all slA3_some true_or or_true
  fzR_nil fzR_cons fzK_ptr fzB_some fzO_move fzO_assign fzO_call fzO_load fzO_store fzO_fa fzO_fd fzO_ia fzO_ix fzO_bin fzO_un fzO_pick fzO_alloc fzO_box fzO_build fzO_bs fzO_conv fzO_nc fzO_ext fzO_mf
  ru_nil
  ru_skip
  ru_ret
  ru_exit
  ru_seq
  ru_blk
  ru_seq_n
  ru_seq_e
  ru_seq_r
  ru_blk_n
  ru_blk_r
  ru_blk_e
  ru_blk_o
  ru_ops
  ru_draw
  ru_drawF
  ro_some
  rd_some
  ru_cond
  rc_t
  rc_f
  pick_b
  fin_n
  fin_r
  finK_some
  ltS
  leS
  lt_hp
  le_hp
  rlt_hp
  rle_hp
  get_put_lt
  get_put_gt
  rget_srow_lt
  rget_srow_gt
  keep_refl
  keep_alloc
  keep_nrow
  keep_put
  keep_srow
  keep_hp
  keep_down
  pre_refl
  pre_up
  pre_hp
  pre_alloc
  pre_nrow
  wf_alloc
  wf_nrow
  wf_put
  wf_srow
  wf_hp
  wf_up
  wf_down
  rlen_ne
  mk_sl
  cells_mk
  known_mk
  one_mk
  elems_mk
  bsK_eq
  bsK2_some
  keep_ap
  wf_ap
  len_ap
  get_ap
  lob_ap
  lor_ap
  not_false_eq_true not_true_eq_false List.length_map List.map_nil List.map_cons
  eqSeq_t eqSeq_f
  down_alloc down_put down_nrow down_srow
  up_up down_up down_self up_down
  opsG_u opsG_un opsGD_u opsGD_un opsGW_u opsGW_un ne1_tup kept_tup
  opsRW_nil opsRW_n opsRW_g opsKW_some opsKW_none opsGW_yes opsGW_yes' opsGW_no opsGW_no' opsGW_non opsGW_non'
  cells_sm cells_nilm known_sm known_nilm one_sm one_nilm cells_iface known_iface mutZ_nils opW_q opW_a opW_p opW_pc pK_no isMO_some isM_sl isM_nils isM_str isM_mkS Bool.or_self op_mki op_inv invK_some invM_some op_as storeO_pm stM_some opW_v vK_some ne1_undef ne1_cptr ne1_nilp ne1_ptr neD_nil neD_cons opW_l lK_ptr lK_cptr opW_s sK_ptr opW_r downK_some opW_w0 opW_w wK_some keptD_nil keptD_cons
  kept_ptr kept_sl kept_undef kept_cptr kept_nils kept_self boxB_same ru_drawW ru_drawWF
end Go.LM

namespace Go.LM
/-! ### numbers of 64 bits -/
/-- A number without its sign. -/
def foldN (n : Int) : Int := if n < 0 then -2 * n - 1 else 2 * n
def unfoldN (u : Int) : Int := if u % 2 = 1 then -(u / 2) - 1 else u / 2
theorem unfold_fold (n : Int) : unfoldN (foldN n) = n := by
  unfold unfoldN foldN
  by_cases h : n < 0
  · rw [if_pos h, if_pos (by omega)]; omega
  · rw [if_neg h, if_neg (by omega)]; omega
theorem fold_unfold {u : Int} (h : 0 ≤ u) : foldN (unfoldN u) = u := by
  unfold unfoldN foldN
  by_cases h1 : u % 2 = 1
  · rw [if_pos h1, if_pos (by omega)]; omega
  · rw [if_neg h1, if_neg (by omega)]; omega
theorem fold_range {n : Int} (h1 : -9223372036854775808 ≤ n) (h2 : n < 9223372036854775808) : 0 ≤ foldN n ∧ foldN n < 18446744073709551616 := by
  unfold foldN; split <;> omega
theorem unfold_range {u : Int} (h1 : 0 ≤ u) (h2 : u < 18446744073709551616) : -9223372036854775808 ≤ unfoldN u ∧ unfoldN u < 9223372036854775808 := by
  unfold unfoldN; split <;> omega

/-- The chain of a number without a sign. -/
def chainU (u : Nat) : List Int := if u < 128 then [(u : Int)] else ((u % 128 + 128 : Nat) : Int) :: chainU (u / 128)
termination_by u
decreasing_by omega
theorem chainU_lt {u : Nat} (h : u < 128) : chainU u = [(u : Int)] := by rw [chainU, if_pos h]
theorem chainU_ge {u : Nat} (h : ¬ u < 128) : chainU u = ((u % 128 + 128 : Nat) : Int) :: chainU (u / 128) := by rw [chainU, if_neg h]
theorem chainU_pos (u : Nat) : 0 < (chainU u).length := by rw [chainU]; split <;> simp
end Go.LM

namespace Go.LM
/-! ### reading a chain -/
/-- Bytes from place i of a chain on; u: what was read so far. -/
def scan : List Int → Nat → Nat → Option (Nat × Nat)
  | [], _, _ => none
  | c :: l, i, u =>
    if i = 9 ∧ 1 < c then none
    else if 128 ≤ c then scan l (i + 1) (u + (c % 128).toNat * 128 ^ i)
    else if c = 0 ∧ 0 < i then none
    else some (u + c.toNat * 128 ^ i, i + 1)
theorem pow_le9 {v i : Nat} (hv : 0 < v) (h : v * 128 ^ i < 18446744073709551616) : i ≤ 9 := by
  rcases Nat.lt_or_ge 9 i with h9 | h9
  · exfalso
    have h1 : 128 ^ 10 ≤ 128 ^ i := Nat.pow_le_pow_right (by decide) h9
    have h2 : 1 * 128 ^ i ≤ v * 128 ^ i := Nat.mul_le_mul_right _ hv
    have : (18446744073709551616 : Nat) ≤ 128 ^ 10 := by decide
    omega
  · exact h9
/-- A chain is read as what it is. -/
theorem scan_chain : ∀ (v i acc : Nat) (rest : List Int), (i = 0 ∨ 0 < v) → acc + v * 128 ^ i < 18446744073709551616 →
    scan (chainU v ++ rest) i acc = some (acc + v * 128 ^ i, i + (chainU v).length) := by
  intro v
  induction v using Nat.strongRecOn with
  | _ v ih =>
    intro i acc rest h0 hb
    by_cases hv : v < 128
    · rw [chainU_lt hv]
      have h9 : ¬ (i = 9 ∧ (1 : Int) < (v : Int)) := by
        rintro ⟨rfl, h⟩
        have : (128 : Nat) ^ 9 = 9223372036854775808 := by decide
        omega
      simp only [List.singleton_append, scan, if_neg h9]
      rw [if_neg (by omega), if_neg (by omega)]
      simp
    · rw [chainU_ge hv]
      have hpos : 0 < v := by omega
      have hi : i ≤ 9 := pow_le9 (v := v) (i := i) hpos (by omega)
      have h9 : ¬ (i = 9 ∧ (1 : Int) < ((v % 128 + 128 : Nat) : Int)) := by
        rintro ⟨rfl, h⟩
        have : (128 : Nat) ^ 9 = 9223372036854775808 := by decide
        omega
      simp only [List.cons_append, scan, if_neg h9]
      rw [if_pos (by omega)]
      have hm : (((v % 128 + 128 : Nat) : Int) % 128).toNat = v % 128 := by omega
      have he : acc + v % 128 * 128 ^ i + v / 128 * 128 ^ (i + 1) = acc + v * 128 ^ i := by
        have h1 : v = v / 128 * 128 + v % 128 := by omega
        have h2 : v * 128 ^ i = v / 128 * 128 ^ (i + 1) + v % 128 * 128 ^ i := by
          conv => lhs; rw [h1]
          rw [Nat.add_mul, Nat.pow_succ, Nat.mul_assoc, Nat.mul_comm 128 (128 ^ i)]
        omega
      rw [hm, ih (v / 128) (by omega) (i + 1) _ rest (.inr (by omega)) (by omega), he]
      simp only [List.length_cons]
      congr 2; omega
theorem below64 {v i : Nat} (hi : i ≤ 9) (h : v * 128 ^ i < 18446744073709551616) : (v + 1) * 128 ^ i ≤ 18446744073709551616 := by
  have hd : (128 : Nat) ^ i ∣ 18446744073709551616 := by
    have : (18446744073709551616 : Nat) = 128 ^ i * (2 ^ (64 - 7 * i)) := by
      rw [show (128 : Nat) ^ i = 2 ^ (7 * i) by rw [Nat.pow_mul], ← Nat.pow_add, show 7 * i + (64 - 7 * i) = 64 by omega]
    exact ⟨_, this⟩
  obtain ⟨q, hq⟩ := hd
  rw [hq] at h ⊢
  rw [Nat.mul_comm] at h
  have := Nat.lt_of_mul_lt_mul_left h
  rw [Nat.mul_comm]
  exact Nat.mul_le_mul_left _ this
theorem scan_inv : ∀ (s : List Int) (i acc u k : Nat), i ≤ 9 → (∀ c ∈ s, 0 ≤ c ∧ c < 256) → scan s i acc = some (u, k) →
    ∃ v, u = acc + v * 128 ^ i ∧ (i = 0 ∨ 0 < v) ∧ v * 128 ^ i < 18446744073709551616 ∧ k = i + (chainU v).length ∧ ∃ rest, s = chainU v ++ rest
  | [], _, _, _, _, _, _, h => by simp [scan] at h
  | c :: s, i, acc, u, k, hi, hc, h => by
    have hc0 := hc c (by simp)
    simp only [scan] at h
    split at h
    · cases h
    rename_i h9
    split at h
    · rename_i hge
      have hi8 : i ≤ 8 := by
        rcases Nat.lt_or_ge i 9 with h1 | h1
        · omega
        · exact absurd ⟨by omega, by omega⟩ h9
      obtain ⟨v, h1, h2, h3, h4, rest, h5⟩ := scan_inv s (i + 1) _ u k (by omega) (fun x hx => hc x (by simp [hx])) h
      have hv : 0 < v := by omega
      refine ⟨v * 128 + (c % 128).toNat, ?_, .inr (by omega), ?_, ?_, rest, ?_⟩
      · rw [h1, Nat.add_mul, Nat.pow_succ, Nat.mul_assoc v 128, Nat.mul_comm 128 (128 ^ i)]; omega
      · have := below64 (by omega) h3
        rw [Nat.add_mul] at this ⊢
        rw [Nat.mul_assoc v 128, Nat.mul_comm 128 (128 ^ i), ← Nat.pow_succ]
        change v * 128 ^ (i + 1) + (c % 128).toNat * 128 ^ i < 18446744073709551616
        have hlt : (c % 128).toNat * 128 ^ i < 128 ^ (i + 1) := by
          rw [Nat.pow_succ, Nat.mul_comm (128 ^ i)]
          exact Nat.mul_lt_mul_of_pos_right (by omega) (Nat.pow_pos (by decide))
        omega
      · rw [chainU_ge (by omega), show (v * 128 + (c % 128).toNat) / 128 = v by omega]; simp only [List.length_cons]; omega
      · rw [chainU_ge (by omega), show (v * 128 + (c % 128).toNat) / 128 = v by omega, h5]
        simp only [List.cons_append]
        congr 1; omega
    · rename_i hlt
      split at h
      · cases h
      rename_i h0
      simp only [Option.some.injEq, Prod.mk.injEq] at h
      obtain ⟨rfl, rfl⟩ := h
      refine ⟨c.toNat, rfl, by omega, ?_, by rw [chainU_lt (by omega)]; rfl, s, ?_⟩
      · rcases Nat.lt_or_ge i 9 with h1 | h1
        · have : (128 : Nat) ^ i ≤ 128 ^ 8 := Nat.pow_le_pow_right (by decide) (by omega)
          have h2 : c.toNat * 128 ^ i ≤ 127 * 128 ^ 8 := Nat.mul_le_mul (by omega) this
          have h3 : (127 : Nat) * 128 ^ 8 < 18446744073709551616 := by decide
          exact Nat.lt_of_le_of_lt h2 h3
        · obtain rfl : i = 9 := by omega
          have : c.toNat ≤ 1 := by omega
          have h2 : c.toNat * 128 ^ 9 ≤ 1 * 128 ^ 9 := Nat.mul_le_mul_right _ this
          have h3 : (1 : Nat) * 128 ^ 9 < 18446744073709551616 := by decide
          exact Nat.lt_of_le_of_lt h2 h3
      · rw [chainU_lt (by omega)]
        simp only [List.singleton_append]
        congr 1; omega
end Go.LM

namespace Go.LM
theorem wrap64 {n : Int} (h1 : -9223372036854775808 ≤ n) (h2 : n < 9223372036854775808) : IntKind.i64.wrap n = n := by
  simp [IntKind.wrap, IntKind.bits, IntKind.signed]; omega
abbrev ints (o : Option (Nat × Nat)) (l : List Int) : LV := mkS o 1 (l.map (LV.int .i64))
theorem lt_of_get {h : H} {b : Nat} {B : Box} (hb : h.get b = some B) : b < h.len := (List.getElem?_eq_some_iff.1 hb).1
end Go.LM

namespace Go.LM
/-! ### the document's reading of a chain -/
/-- What chain.Get answers. -/
def getL (b : List Int) (at_ : Int) : Int × Int × Int :=
  if at_ < 0 ∨ (b.length : Int) < at_ then (0, 0, 1)
  else match scan (b.drop at_.toNat) 0 0 with
    | none => (0, 0, 2)
    | some (u, k) => (unfoldN u, at_ + k, 0)
end Go.LM

namespace Go.LM
/-! ### numbers as chains, one behind the other -/
def chn (n : Int) : List Int := chainU (foldN n).toNat
def chns (l : List Int) : List Int := l.flatMap chn
/-- A number of 64 bits. -/
abbrev I64 (n : Int) : Prop := -9223372036854775808 ≤ n ∧ n < 9223372036854775808
theorem chns_cons (n : Int) (l : List Int) : chns (n :: l) = chn n ++ chns l := by simp [chns]
theorem chn_pos (n : Int) : 0 < (chn n).length := chainU_pos _
def many {α : Type} (f : α → List Int) (l : List α) : List Int := chn l.length ++ l.flatMap f
end Go.LM

namespace Go.LM
variable {P : Program} {T : Nat → Option LV}
abbrev bytsL (o : Option (Nat × Nat)) (l : List Int) : LV := mkS o 1 (l.map (LV.int .u8))
/-- A writer: a variable that holds bytes, on a row of its own. -/
structure Wr (h0 : H) (b : Nat) (bs : List Int) (h : H) : Prop where
  get : ∃ o, h.get b = some ⟨false, [bytsL o bs]⟩ ∧ okTok o bs.length h ∧ newTok o h0
  lob : h.lob ≤ b
  new : h0.len ≤ b
  keep : Keep h0 h
  wf : WF h
/-- Other variables stay as they are. -/
structure Oth (b : Nat) (h h' : H) : Prop where
  len : h.len ≤ h'.len
  get : ∀ c, c < h.len → c ≠ b → h'.get c = h.get c
theorem Oth.refl (b : Nat) (h : H) : Oth b h h := ⟨Nat.le_refl _, fun _ _ _ => rfl⟩
theorem Oth.trans {b : Nat} {h h' h2 : H} (a : Oth b h h') (c : Oth b h' h2) : Oth b h h2 := ⟨Nat.le_trans a.len c.len, fun x hx hn => (c.get x (Nat.lt_of_lt_of_le hx a.len) hn).trans (a.get x hx hn)⟩
theorem Wr.lt {h0 : H} {b : Nat} {bs : List Int} {h : H} (w : Wr h0 b bs h) : b < h.len := by
  obtain ⟨o, hg, _⟩ := w.get
  exact (List.getElem?_eq_some_iff.1 hg).1
/-- Steps that leave all as it is. -/
theorem Wr.next {h0 : H} {b : Nat} {bs : List Int} {h h' : H} (w : Wr h0 b bs h) (k : Keep h h') : Wr h0 b bs h' := by
  obtain ⟨o, hg, ht, hn⟩ := w.get
  exact ⟨⟨o, (k.get w.lt).trans hg, okTok_keep k ht, hn⟩, by rw [k.lob]; exact w.lob, w.new, w.keep.trans k, w.wf.keep k⟩
theorem Keep.oth {h h' : H} (k : Keep h h') (b : Nat) : Oth b h h' := ⟨k.len, fun _ hc _ => k.get hc⟩
/-- A new writer. -/
theorem Wr.start {h0 h : H} (w : WF h) (k : Keep h0 h) : Wr h0 h.len [] (h.alloc [.nils]) :=
  ⟨⟨none, by simp; rfl, rfl, trivial⟩, by rw [lob_alloc]; exact w.1, k.len, k.alloc _, wf_alloc w⟩
/-- A call that writes: the memory behind it, by a name. -/
theorem ro_wcall {k : List Fk} {os : List RO} {d : Option Nat} {s : S} {h : H} {Q : X × S × H → Prop} {f : Nat} {args : List LV} {v : LV} {J : H → Prop} (hr : ∃ h', runI P T f args h = some (v, h') ∧ J h')
    (hk : ∀ hh, J hh → Ro P T k (opsK P (runI P T) os d s (some (v, hh))) Q) : Ro P T k (opsK P (runI P T) os d s (runI P T f args h)) Q := by
  obtain ⟨h', e, hj⟩ := hr
  rw [e]; exact hk h' hj
theorem rw_wcall {k : List Fk} {ow : List RW} {d : Option Nat} {s : S} {h : H} {Q : X × S × H → Prop} {f : Nat} {args : List LV} {v : LV} {J : H → Prop} (hr : ∃ h', runI P T f args h = some (v, h') ∧ J h')
    (hk : ∀ hh, J hh → Ro P T k (opsKW P (runI P T) ow d s (some (v, hh))) Q) : Ro P T k (opsKW P (runI P T) ow d s (runI P T f args h)) Q := by
  obtain ⟨h', e, hj⟩ := hr
  rw [e]; exact hk h' hj
/-- A call that ends so. -/
theorem calls_ex {f : Nat} {rc : RC} {res : List ResultVar} {n : Nat} {args : List LV} {h : H} {v : LV} {J : H → Prop} (hT : T f = none) (hF : resF P f n = some ⟨n, rc, res⟩) (hn : args.length = n)
    (hr : Ru P T [] (ex P T rc (startL args) h) (Fin P res fun u h' => u = v ∧ J h')) : ∃ h', runI P T f args h = some (v, h') ∧ J h' := by
  obtain ⟨u, h', h1, rfl, h2⟩ := calls_of hT hF hn hr
  exact ⟨h', h1, h2⟩
end Go.LM

namespace Go.LM
/-! ### pages, plainly -/
structure PutR where
  k : Int
  n : Int
  l : Int
  y : Int
  h : Int
  deriving DecidableEq
def PutR.e (p : PutR) : LV := .agg [.int .i64 p.k, .int .i64 p.n, .int .i64 p.l, .int .i64 p.y, .int .i64 p.h]
def PutR.nums (p : PutR) : List Int := [p.k, p.n, p.l, p.y, p.h]
abbrev PutR.ok (p : PutR) : Prop := ∀ x ∈ p.nums, I64 x
structure LaneR where
  x : Int
  o : Option (Nat × Nat)
  puts : List PutR
def LaneR.e (x : LaneR) : LV := .agg [.int .i64 x.x, mkS x.o 5 (x.puts.map PutR.e)]
abbrev LaneR.ok (x : LaneR) : Prop := I64 x.x ∧ x.puts.length ≤ 2000 ∧ ∀ p ∈ x.puts, p.ok
structure PageR where
  top : Int
  first : Int
  last : Int
  o : Option (Nat × Nat)
  lanes : List LaneR
def PageR.e (x : PageR) : LV := .agg [mkS x.o 2 (x.lanes.map LaneR.e), .int .i64 x.top, .int .i64 x.first, .int .i64 x.last]
abbrev PageR.ok (x : PageR) : Prop := (∀ n ∈ [x.top, x.first, x.last], I64 n) ∧ x.lanes.length ≤ 2000 ∧ ∀ p ∈ x.lanes, p.ok
def putB (p : PutR) : List Int := chns p.nums
end Go.LM
