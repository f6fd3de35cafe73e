import Derived.Test.YtpmpdidgbbgeeaaLmB10
namespace Go.LM
variable {P : Program} {T : Nat → Option LV}
abbrev bytsL (o : Option (Nat × Nat)) (l : List Int) : LV := mkS o 1 (l.map (LV.int .u8))
/-- A writer: a variable that holds bytes, on a row of its own. -/
structure Wr (h0 : H) (b : Nat) (bs : List Int) (h : H) : Prop where
  get : ∃ o, h.get b = some ⟨false, [bytsL o bs]⟩ ∧ okTok o bs.length h ∧ newTok o h0
  lob : h.lob ≤ b
  new : h0.len ≤ b
  keep : Keep h0 h
  wf : WF h
/-- Other variables stay as they are. -/
structure Oth (b : Nat) (h h' : H) : Prop where
  len : h.len ≤ h'.len
  get : ∀ c, c < h.len → c ≠ b → h'.get c = h.get c
theorem Oth.refl (b : Nat) (h : H) : Oth b h h := ⟨Nat.le_refl _, fun _ _ _ => rfl⟩
theorem Oth.trans {b : Nat} {h h' h2 : H} (a : Oth b h h') (c : Oth b h' h2) : Oth b h h2 := ⟨Nat.le_trans a.len c.len, fun x hx hn => (c.get x (Nat.lt_of_lt_of_le hx a.len) hn).trans (a.get x hx hn)⟩
theorem Wr.lt {h0 : H} {b : Nat} {bs : List Int} {h : H} (w : Wr h0 b bs h) : b < h.len := by
  obtain ⟨o, hg, _⟩ := w.get
  exact (List.getElem?_eq_some_iff.1 hg).1
/-- Steps that leave all as it is. -/
theorem Wr.next {h0 : H} {b : Nat} {bs : List Int} {h h' : H} (w : Wr h0 b bs h) (k : Keep h h') : Wr h0 b bs h' := by
  obtain ⟨o, hg, ht, hn⟩ := w.get
  exact ⟨⟨o, (k.get w.lt).trans hg, okTok_keep k ht, hn⟩, by rw [k.lob]; exact w.lob, w.new, w.keep.trans k, w.wf.keep k⟩
theorem Keep.oth {h h' : H} (k : Keep h h') (b : Nat) : Oth b h h' := ⟨k.len, fun _ hc _ => k.get hc⟩
theorem len_apH (o : Option (Nat × Nat)) (n : Nat) (h : H) : (apH o n h).len = h.len := len_ap
/-- A new writer. -/
theorem Wr.start {h0 h : H} (w : WF h) (k : Keep h0 h) : Wr h0 h.len [] (h.alloc [.nils]) :=
  ⟨⟨none, by simp; rfl, rfl, trivial⟩, by rw [lob_alloc]; exact w.1, k.len, k.alloc _, wf_alloc w⟩
/-- A call that writes: the memory behind it, by a name. -/
theorem ro_wcall {k : List Fk} {os : List RO} {d : Option Nat} {s : S} {h : H} {Q : X × S × H → Prop} {f : Nat} {args : List LV} {v : LV} {J : H → Prop} (hr : ∃ h', runI P T f args h = some (v, h') ∧ J h')
    (hk : ∀ hh, J hh → Ro P T k (opsK P (runI P T) os d s (some (v, hh))) Q) : Ro P T k (opsK P (runI P T) os d s (runI P T f args h)) Q := by
  obtain ⟨h', e, hj⟩ := hr
  rw [e]; exact hk h' hj
theorem rw_wcall {k : List Fk} {ow : List RW} {d : Option Nat} {s : S} {h : H} {Q : X × S × H → Prop} {f : Nat} {args : List LV} {v : LV} {J : H → Prop} (hr : ∃ h', runI P T f args h = some (v, h') ∧ J h')
    (hk : ∀ hh, J hh → Ro P T k (opsKW P (runI P T) ow d s (some (v, hh))) Q) : Ro P T k (opsKW P (runI P T) ow d s (runI P T f args h)) Q := by
  obtain ⟨h', e, hj⟩ := hr
  rw [e]; exact hk h' hj
/-- A call that ends so. -/
theorem calls_ex {f : Nat} {rc : RC} {res : List ResultVar} {n : Nat} {args : List LV} {h : H} {v : LV} {J : H → Prop} (hT : T f = none) (hF : resF P f n = some ⟨n, rc, res⟩) (hn : args.length = n)
    (hr : Ru P T [] (ex P T rc (startL args) h) (Fin P res fun u h' => u = v ∧ J h')) : ∃ h', runI P T f args h = some (v, h') ∧ J h' := by
  obtain ⟨u, h', h1, rfl, h2⟩ := calls_of hT hF hn hr
  exact ⟨h', h1, h2⟩
end Go.LM
