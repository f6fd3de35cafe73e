import Derived.Test.YtpmpdidgbbgeeaaLmX
namespace Go.LM
variable {P : Program} {T : Nat → Option LV}

/-! ### a slice, nil or not -/
def mkS (o : Option (Nat × Nat)) (sz : Nat) (xs : List LV) : LV :=
  match o, xs with
  | none, [] => .nils
  | none, xs => .sl 0 0 sz xs
  | some (r, hi), xs => .sl r hi sz xs
theorem mk_sl (r hi sz : Nat) (xs : List LV) : LV.sl r hi sz xs = mkS (some (r, hi)) sz xs := rfl
theorem mk_nils (sz : Nat) : LV.nils = mkS none sz [] := rfl
theorem mkS_cases (o : Option (Nat × Nat)) (sz : Nat) (xs : List LV) : (xs = [] ∧ o = none ∧ mkS o sz xs = .nils) ∨ ∃ r hi, mkS o sz xs = .sl r hi sz xs := by
  rcases o with _ | ⟨r, hi⟩
  · cases xs with
    | nil => exact .inl ⟨rfl, rfl, rfl⟩
    | cons x xs => exact .inr ⟨0, 0, rfl⟩
  · exact .inr ⟨r, hi, rfl⟩
theorem cells_mk (o : Option (Nat × Nat)) (sz : Nat) (xs : List LV) : (mkS o sz xs).cells = [mkS o sz xs] := by
  rcases mkS_cases o sz xs with ⟨_, _, h⟩ | ⟨r, hi, h⟩ <;> rw [h] <;> rfl
theorem known_mk (o : Option (Nat × Nat)) (sz : Nat) (xs : List LV) : (mkS o sz xs).known = true := by
  rcases mkS_cases o sz xs with ⟨_, _, h⟩ | ⟨r, hi, h⟩ <;> rw [h] <;> rfl
theorem one_mk (o : Option (Nat × Nat)) (sz : Nat) (xs : List LV) : (mkS o sz xs).one = true := by
  rcases mkS_cases o sz xs with ⟨_, _, h⟩ | ⟨r, hi, h⟩ <;> rw [h] <;> rfl
theorem len_mk {t e : TypeId} (hu : P.underlying t = some (.slice e)) (o : Option (Nat × Nat)) (sz : Nat) (xs : List LV) : lenL P t (mkS o sz xs) = some (.int .i64 xs.length) := by
  rcases mkS_cases o sz xs with ⟨rfl, _, h⟩ | ⟨r, hi, h⟩ <;> rw [h]
  · exact len_nils hu
  · exact len_sl hu _ _ _ _
theorem ia_mk {t e : TypeId} {sz : Nat} (hu : P.underlying t = some (.slice e)) (hs : sizeT P e = some sz) (o : Option (Nat × Nat)) (xs : List LV) (k : IntKind) (n : Int) :
    indexAddrL P t (mkS o sz xs) (.int k n) = iaS xs n := by
  rcases mkS_cases o sz xs with ⟨rfl, _, h⟩ | ⟨r, hi, h⟩ <;> rw [h]
  · simp [indexAddrL, hu, iaS]
  · exact ia_sl hu hs _ _ _ _ _
theorem elems_mk (o : Option (Nat × Nat)) (sz : Nat) (xs : List LV) : elemsL sz (mkS o sz xs) = some xs := by
  rcases mkS_cases o sz xs with ⟨rfl, _, h⟩ | ⟨r, hi, h⟩ <;> rw [h] <;> simp [elemsL]
/-- The mark of a part of a slice. -/
def tkS (o : Option (Nat × Nat)) (xs : List LV) (l q : Nat) : Option (Nat × Nat) :=
  match o with
  | none => if xs = [] then none else some (0, 0)
  | some (r, hi) => some (if q = xs.length ∧ l < q then (r, hi) else (0, 0))
def slM (o : Option (Nat × Nat)) (sz : Nat) (xs : List LV) (h : H) (lo : Option LV) : Option Nat → Option (LV × H)
  | some q => match boundL lo 0 q with
    | some l => some (mkS (tkS o xs l q) sz ((xs.take q).drop l), h)
    | none => none
  | none => none
theorem boundL_le {lo : Option LV} {q l : Nat} (h : boundL lo 0 q = some l) : l ≤ q := by
  unfold boundL at h
  split at h
  · cases h; omega
  · split at h
    · cases h; omega
    · cases h
  · cases h
theorem slice_mk {t e : TypeId} {sz : Nat} (hu : P.underlying t = some (.slice e)) (hs : sizeT P e = some sz) (o : Option (Nat × Nat)) (xs : List LV) (lo hi : Option LV) (h : H) :
    sliceL P t (mkS o sz xs) lo hi h = slM o sz xs h lo (boundL hi xs.length xs.length) := by
  rcases mkS_cases o sz xs with ⟨rfl, ho, h1⟩ | ⟨r, p, h1⟩
  · subst ho
    rw [h1, slice_nils hu hs]
    simp only [slKn, slM, List.length_nil]
    cases boundL hi 0 0 with
    | none => rfl
    | some q =>
      dsimp only
      cases boundL lo 0 q with
      | none => rfl
      | some l => simp [tkS, mkS]
  · rw [h1, slice_sl hu hs]
    simp only [slK, slM]
    cases boundL hi xs.length xs.length with
    | none => rfl
    | some q =>
      dsimp only
      cases hb : boundL lo 0 q with
      | none => rfl
      | some l =>
        dsimp only
        rcases o with _ | ⟨r', p'⟩
        · cases xs with
          | nil => simp [mkS] at h1
          | cons x xs =>
            simp [mkS] at h1
            obtain ⟨rfl, rfl⟩ := h1
            have e : tkS none (x :: xs) l q = some (0, 0) := by simp [tkS]
            rw [e]
            split
            · rename_i hc
              obtain ⟨rfl, _⟩ := hc
              rw [List.take_length]; rfl
            · rfl
        · simp [mkS] at h1
          obtain ⟨rfl, rfl⟩ := h1
          simp only [tkS]
          split
          · rename_i hc
            obtain ⟨rfl, _⟩ := hc
            rw [List.take_length]; rfl
          · rfl
theorem slM_some {o : Option (Nat × Nat)} {sz : Nat} {xs : List LV} {h : H} {lo : Option LV} {q l : Nat} (hl : boundL lo 0 q = some l) :
    slM o sz xs h lo (some q) = some (mkS (tkS o xs l q) sz ((xs.take q).drop l), h) := by simp only [slM, hl]
theorem bin_eql_mk {t e : TypeId} (hu : P.underlying t = some (.slice e)) (o : Option (Nat × Nat)) (sz : Nat) (xs : List LV) :
    binL P .eql t (mkS o sz xs) .nils = some (.bool (decide (o = none ∧ xs = []))) := by
  rcases mkS_cases o sz xs with ⟨rfl, rfl, h⟩ | ⟨r, hi, h⟩
  · rw [h]; simp; exact bin_eql_of rfl (by rw [eqL_10000]; simp only [eqL, hu]) (by simp)
  · rw [h]
    have : ¬ (o = none ∧ xs = []) := by
      rintro ⟨rfl, rfl⟩; simp [mkS] at h
    simp only [this, decide_false]
    exact bin_eql_of rfl (by rw [eqL_10000]; simp only [eqL, hu]) (by simp)
theorem bin_neq_mk {t e : TypeId} (hu : P.underlying t = some (.slice e)) (o : Option (Nat × Nat)) (sz : Nat) (xs : List LV) :
    binL P .neq t (mkS o sz xs) .nils = some (.bool (!decide (o = none ∧ xs = []))) := by
  rcases mkS_cases o sz xs with ⟨rfl, rfl, h⟩ | ⟨r, hi, h⟩
  · rw [h]; simp only [and_self, decide_true, Bool.not_true]; exact bin_neq_of rfl (b := true) (by rw [eqL_10000]; simp only [eqL, hu]) (by simp)
  · rw [h]
    have : ¬ (o = none ∧ xs = []) := by
      rintro ⟨rfl, rfl⟩; simp [mkS] at h
    simp only [this, decide_false, Bool.not_false]
    exact bin_neq_of rfl (b := false) (by rw [eqL_10000]; simp only [eqL, hu]) (by simp)

def bsK2 (sz : Nat) (h : H) : Option (List LV) → Option (LV × H)
  | some xs => some (mkS (some (h.rlen, xs.length)) sz xs, h.nrow xs.length)
  | none => none
theorem bsK_eq (e : TypeId) (sz len : Nat) (h : H) (cells : List LV) : bsK P e sz len h (some cells) = if cells.all (·.one) = true then bsK2 sz h (chunkL P e sz len cells) else none := by
  simp only [bsK]; cases chunkL P e sz len cells <;> rfl
theorem bsK2_some (sz : Nat) (h : H) (xs : List LV) : bsK2 sz h (some xs) = some (mkS (some (h.rlen, xs.length)) sz xs, h.nrow xs.length) := rfl

/-- What is appended to a row of one's own, or to nothing: the row, and how the memory is then. -/
def okTok (o : Option (Nat × Nat)) (n : Nat) (h : H) : Prop :=
  match o with
  | none => n = 0
  | some (r, hi) => r ≠ 0 ∧ h.lor ≤ r ∧ r < h.rlen ∧ h.rget r = some hi
def apO (o : Option (Nat × Nat)) (n : Nat) (h : H) : Option (Nat × Nat) :=
  if n = 0 then o else match o with
  | none => some (h.rlen, n)
  | some (r, hi) => some (r, hi + n)
def apH (o : Option (Nat × Nat)) (n : Nat) (h : H) : H :=
  if n = 0 then h else match o with
  | none => h.nrow n
  | some (r, hi) => h.srow r (hi + n)
theorem append_mk {sz by_ : Nat} {o : Option (Nat × Nat)} {h : H} {xs ys : List LV} (ho : okTok o xs.length h) (hb : (2 * (xs.length + ys.length) + 192) * by_ ≤ 2 ^ 48) :
    appS sz by_ (mkS o sz xs) h (some ys) = some (mkS (apO o ys.length h) sz (xs ++ ys), apH o ys.length h) := by
  rcases o with _ | ⟨r, hi⟩
  · simp only [okTok] at ho
    obtain rfl : xs = [] := List.length_eq_zero_iff.1 ho
    cases ys with
    | nil => simp [apO, apH, mkS, appS]
    | cons y ys =>
      rw [show mkS none sz [] = .nils from rfl, appS_nils (by simp) (by simpa using hb)]
      simp [apO, apH, mkS]
  · simp only [okTok] at ho
    cases ys with
    | nil => simp [apO, apH, mkS, appS]
    | cons y ys =>
      rw [show mkS (some (r, hi)) sz xs = .sl r hi sz xs from rfl, appS_sl (by simp) ho.1 ho.2.1 ho.2.2.2 hb]
      simp [apO, apH, mkS]
theorem okTok_ap {o : Option (Nat × Nat)} {n m : Nat} {h : H} (w : WF h) (ho : okTok o n h) : okTok (apO o m h) (n + m) (apH o m h) := by
  unfold apO apH
  by_cases hm : m = 0
  · subst hm; simpa using ho
  · rw [if_neg hm, if_neg hm]
    rcases o with _ | ⟨r, hi⟩
    · have := w.2.1; have := w.2.2
      refine ⟨by omega, by simp; omega, by simp, by simp⟩
    · obtain ⟨h1, h2, h3, h4⟩ := ho
      exact ⟨h1, by simpa using h2, by simpa using h3, by simp [h3]⟩
/-- The row is one's own: not there at the start. -/
def newTok (o : Option (Nat × Nat)) (h0 : H) : Prop :=
  match o with
  | none => True
  | some (r, _) => h0.rlen ≤ r
theorem newTok_ap {o : Option (Nat × Nat)} {m : Nat} {h h0 : H} (k : Keep h0 h) (ho : newTok o h0) : newTok (apO o m h) h0 := by
  unfold apO
  split
  · exact ho
  · rcases o with _ | ⟨r, hi⟩
    · exact k.rlen
    · exact ho
theorem keep_ap {o : Option (Nat × Nat)} {m : Nat} {h h0 : H} (k : Keep h0 h) (ho : newTok o h0) : Keep h0 (apH o m h) := by
  unfold apH
  split
  · exact k
  · rcases o with _ | ⟨r, hi⟩
    · exact k.nrow _
    · exact k.srow ho _
theorem wf_ap {o : Option (Nat × Nat)} {m : Nat} {h : H} (w : WF h) : WF (apH o m h) := by
  unfold apH
  split
  · exact w
  · rcases o with _ | ⟨r, hi⟩
    · exact wf_nrow w
    · exact wf_srow w
theorem len_ap {o : Option (Nat × Nat)} {m : Nat} {h : H} : (apH o m h).len = h.len := by
  unfold apH
  split
  · rfl
  · rcases o with _ | ⟨r, hi⟩ <;> rfl
theorem get_ap {o : Option (Nat × Nat)} {m : Nat} {h : H} (b : Nat) : (apH o m h).get b = h.get b := by
  unfold apH
  split
  · rfl
  · rcases o with _ | ⟨r, hi⟩ <;> rfl
theorem lob_ap {o : Option (Nat × Nat)} {m : Nat} {h : H} : (apH o m h).lob = h.lob := by
  unfold apH
  split
  · rfl
  · rcases o with _ | ⟨r, hi⟩ <;> rfl
theorem lor_ap {o : Option (Nat × Nat)} {m : Nat} {h : H} : (apH o m h).lor = h.lor := by
  unfold apH
  split
  · rfl
  · rcases o with _ | ⟨r, hi⟩ <;> rfl
/-- Other steps leave a row as it is. -/
theorem okTok_keep {o : Option (Nat × Nat)} {n : Nat} {h h' : H} (k : Keep h h') (ho : okTok o n h) : okTok o n h' := by
  rcases o with _ | ⟨r, hi⟩
  · exact ho
  · obtain ⟨h1, h2, h3, h4⟩ := ho
    exact ⟨h1, by rw [k.lor]; exact h2, by have := k.rlen; omega, by rw [k.rget h3]; exact h4⟩

/-- The mark of a slice that a call gives back. -/
noncomputable def tk (P : Program) (T : Nat → Option LV) (f : Nat) (args : List LV) (h : H) : Option (Nat × Nat) :=
  match runI P T f args h with
  | some (.sl r hi _ _, _) => some (r, hi)
  | _ => none
theorem tk_eq {f : Nat} {args : List LV} {h h' : H} {o : Option (Nat × Nat)} {sz : Nat} {xs : List LV} (hr : runI P T f args h = some (mkS o sz xs, h')) :
    mkS o sz xs = mkS (tk P T f args h) sz xs := by
  rcases mkS_cases o sz xs with ⟨rfl, rfl, h1⟩ | ⟨r, hi, h1⟩
  · rw [h1] at hr
    simp [tk, hr]
  · rw [h1] at hr
    simp only [tk, hr]; exact h1
theorem pureS_of {f : Nat} {rc : RC} {res : List ResultVar} {n : Nat} {args : List LV} {h : H} {sz : Nat} {xs : List LV} (hT : T f = none) (hF : resF P f n = some ⟨n, rc, res⟩) (hn : args.length = n)
    (hr : Ru P T [] (ex P T rc (startL args) h) (Fin P res fun u h' => (∃ o, u = mkS o sz xs) ∧ Keep h h')) : runI P T f args h = some (mkS (tk P T f args h) sz xs, hp P T f args h) := by
  obtain ⟨u, h', h1, ⟨o, rfl⟩, h3⟩ := calls_of hT hF hn hr
  rw [hp_eq h1 h3, ← tk_eq h1]

theorem tk_own {f : Nat} {args : List LV} {h h' : H} {o : Option (Nat × Nat)} {sz : Nat} {xs : List LV} (hr : runI P T f args h = some (mkS o sz xs, h')) (ho : okTok o xs.length h') : tk P T f args h = o := by
  rcases o with _ | ⟨r, hi⟩
  · have hx : xs = [] := List.length_eq_zero_iff.1 ho
    subst hx
    simp [tk, hr, mkS]
  · simp [tk, hr, mkS]
theorem hp_is {f : Nat} {args : List LV} {h h' : H} {v : LV} (hr : runI P T f args h = some (v, h')) (hk : Keep h h') : hp P T f args h = h' := by
  have := hp_eq hr hk
  rw [hr] at this
  exact (Prod.mk.inj (Option.some.inj this)).2.symm
/-- A call that gives back a row of its own. -/
theorem pureO_of {f : Nat} {rc : RC} {res : List ResultVar} {n : Nat} {args : List LV} {h : H} {sz : Nat} {xs : List LV} (hT : T f = none) (hF : resF P f n = some ⟨n, rc, res⟩) (hn : args.length = n)
    (hr : Ru P T [] (ex P T rc (startL args) h) (Fin P res fun u h' => ∃ o, u = mkS o sz xs ∧ Keep h h' ∧ okTok o xs.length h' ∧ newTok o h)) :
    runI P T f args h = some (mkS (tk P T f args h) sz xs, hp P T f args h) ∧ okTok (tk P T f args h) xs.length (hp P T f args h) ∧ newTok (tk P T f args h) h := by
  obtain ⟨u, h', h1, o, rfl, h3, h4, h5⟩ := calls_of hT hF hn hr
  rw [hp_is h1 h3, tk_own h1 h4]
  exact ⟨h1, h4, h5⟩

/-- The string of bytes. -/
def strOf (l : List Int) : ByteArray := ⟨(l.map fun n => UInt8.ofNat n.toNat).toArray⟩
def strB (s : ByteArray) : List Int := s.data.toList.map fun b => (b.toNat : Int)
theorem bytesL_eq (s : ByteArray) : bytesL s = (strB s).map (LV.int .u8) := by simp [bytesL, strB]
theorem toBytes_map (l : List Int) : toBytes (l.map (LV.int .u8)) = some (l.map fun n => UInt8.ofNat n.toNat) := by
  induction l with
  | nil => rfl
  | cons n l ih => simp only [List.map_cons, toBytes, ih, Option.map_some]
theorem cv_strB {a b e : TypeId} (ha : P.underlying a = some (.slice e)) (hb : P.underlying b = some .string) (he : P.underlying e = some (.int .u8)) (o : Option (Nat × Nat)) (l : List Int) (h : H) :
    convL P a b (mkS o 1 (l.map (LV.int .u8))) h = some (.str (strOf l), h) := by
  rcases mkS_cases o 1 (l.map (LV.int .u8)) with ⟨hn, _, h1⟩ | ⟨r, hi, h1⟩ <;> rw [h1]
  · obtain rfl : l = [] := by simpa using hn
    simp only [convL, ha, hb, he]; rfl
  · simp only [convL, ha, hb, he, toBytes_map]; rfl
/-- The rounds of a range. -/
theorem at_map {α : Type} {f : α → LV} {l : List α} {i : Nat} {x : α} (h : l[i]? = some x) : (l.map f)[i]? = some (f x) := by simp [h]
theorem iaS_map {α : Type} {f : α → LV} {l : List α} {n : Int} {x : α} (h0 : 0 ≤ n) (h : l[n.toNat]? = some x) : iaS (l.map f) n = some (.cptr (f x)) := iaS_some h0 (at_map h)
theorem kept_mk {o : Option (Nat × Nat)} {sz : Nat} {xs : List LV} {h h' : H} (h0 : h'.rget 0 = h.rget 0) (ho : ∀ r hi, o = some (r, hi) → h'.rget r = h.rget r) : kept1 h h' (mkS o sz xs) = true := by
  rcases mkS_cases o sz xs with ⟨_, _, e⟩ | ⟨r, hi, e⟩
  · rw [e]; rfl
  · rw [e, kept_sl]
    rcases o with _ | ⟨r', hi'⟩
    · cases xs with
      | nil => simp [mkS] at e
      | cons x xs => simp [mkS] at e; obtain ⟨rfl, rfl⟩ := e; simp [h0]
    · simp [mkS] at e
      obtain ⟨rfl, rfl⟩ := e
      simp [ho]
/-- A row that was there, where all is kept. -/
theorem kept_keep {o : Option (Nat × Nat)} {n sz : Nat} {xs : List LV} {h h' : H} (k : Keep h h') (w : WF h) (ho : okTok o n h) : kept1 h h' (mkS o sz xs) = true := by
  refine kept_mk (k.rget (by have := w.2.2; omega)) ?_
  rintro r hi rfl
  exact k.rget ho.2.2.1
end Go.LM
