import Derived.Test.YtgbhkmgmpodnkaaLmS
namespace Go.LM
variable {P : Program} {T : Nat → Option LV}

/-! ### the memory by names -/
def H.len (h : H) : Nat := h.box.length
def H.rlen (h : H) : Nat := h.row.length
def H.get (h : H) (b : Nat) : Option Box := h.box[b]?
def H.rget (h : H) (r : Nat) : Option Nat := h.row[r]?
def H.alloc (h : H) (c : List LV) : H := { h with box := h.box ++ [⟨false, c⟩] }
def H.put (h : H) (b : Nat) (B : Box) : H := { h with box := h.box.set b B }
def H.nrow (h : H) (n : Nat) : H := { h with row := h.row ++ [n] }
def H.srow (h : H) (r n : Nat) : H := { h with row := h.row.set r n }
/-- What a call leaves behind, where it leaves all as it was but what is new. -/
noncomputable def hp (P : Program) (T : Nat → Option LV) (f : Nat) (args : List LV) (h : H) : H :=
  open Classical in if hx : ∃ r, runI P T f args h = some r ∧ Gro h r.2 ∧ Pre h r.2 then hx.choose.2 else h

structure Keep (h h' : H) : Prop where
  pre : Pre h h'
  lob : h'.lob = h.lob
  lor : h'.lor = h.lor
theorem Keep.refl (h : H) : Keep h h := ⟨.refl _, rfl, rfl⟩
theorem Keep.trans {a b c : H} (h : Keep a b) (h' : Keep b c) : Keep a c := ⟨h.pre.trans h'.pre, h'.lob.trans h.lob, h'.lor.trans h.lor⟩
theorem Keep.len {h h' : H} (k : Keep h h') : h.len ≤ h'.len := k.pre.len.1
theorem Keep.rlen {h h' : H} (k : Keep h h') : h.rlen ≤ h'.rlen := k.pre.len.2
theorem Keep.get {h h' : H} (k : Keep h h') {b : Nat} (hb : b < h.len) : h'.get b = h.get b := k.pre.kb b hb
theorem Keep.rget {h h' : H} (k : Keep h h') {r : Nat} (hr : r < h.rlen) : h'.rget r = h.rget r := k.pre.kr r hr

theorem Keep.lt {h h' : H} (k : Keep h h') {b : Nat} (hb : b < h.len) : b < h'.len := Nat.lt_of_lt_of_le hb k.len
theorem Keep.le {h h' : H} (k : Keep h h') {b : Nat} (hb : b ≤ h.len) : b ≤ h'.len := Nat.le_trans hb k.len
theorem Keep.rlt {h h' : H} (k : Keep h h') {b : Nat} (hb : b < h.rlen) : b < h'.rlen := Nat.lt_of_lt_of_le hb k.rlen
theorem Keep.rle {h h' : H} (k : Keep h h') {b : Nat} (hb : b ≤ h.rlen) : b ≤ h'.rlen := Nat.le_trans hb k.rlen
theorem Keep.to {h0 h h' : H} (k : Keep h h') (k0 : Keep h0 h) : Keep h0 h' := k0.trans k

theorem hp_keep (f : Nat) (args : List LV) (h : H) : Keep h (hp P T f args h) := by
  unfold hp
  split
  · rename_i hx
    exact ⟨hx.choose_spec.2.2, hx.choose_spec.2.1.lob, hx.choose_spec.2.1.lor⟩
  · exact .refl _
theorem hp_eq {f : Nat} {args : List LV} {h h' : H} {v : LV} (hr : runI P T f args h = some (v, h')) (hk : Keep h h') : runI P T f args h = some (v, hp P T f args h) := by
  obtain ⟨n, hn⟩ := of_runI hr
  have hx : ∃ r, runI P T f args h = some r ∧ Gro h r.2 ∧ Pre h r.2 := ⟨(v, h'), hr, runL_len n _ _ _ _ _ hn, hk.pre⟩
  unfold hp
  rw [dif_pos hx]
  have := Option.some.inj (hr.symm.trans hx.choose_spec.1)
  rw [← this]
  exact hr

/-- Numbers below which nothing is written are numbers of things. -/
def WF (h : H) : Prop := h.lob ≤ h.len ∧ h.lor ≤ h.rlen ∧ 1 ≤ h.rlen
theorem WF.keep {h h' : H} (w : WF h) (k : Keep h h') : WF h' := by
  have := k.len; have := k.rlen
  obtain ⟨a, b, c⟩ := w
  refine ⟨by rw [k.lob]; omega, by rw [k.lor]; omega, by omega⟩

/-- An equation that simp writes down. -/
theorem nrfl {α : Type} {a b : α} (h : a = b) : a = b := by subst h; exact Eq.trans (Eq.refl _) (Eq.refl _)

/-! ### each question to each memory -/
@[simp] theorem len_alloc (h : H) (c : List LV) : (h.alloc c).len = h.len + 1 := by simp [H.len, H.alloc]
@[simp] theorem len_put (h : H) (b : Nat) (B : Box) : (h.put b B).len = h.len := by simp [H.len, H.put]
@[simp] theorem len_nrow (h : H) (n : Nat) : (h.nrow n).len = h.len := nrfl rfl
@[simp] theorem len_srow (h : H) (r n : Nat) : (h.srow r n).len = h.len := nrfl rfl
@[simp] theorem len_up (h : H) : h.up.len = h.len := nrfl rfl
@[simp] theorem len_down (h h' : H) : (h.down h').len = h'.len := nrfl rfl
@[simp] theorem rlen_alloc (h : H) (c : List LV) : (h.alloc c).rlen = h.rlen := nrfl rfl
@[simp] theorem rlen_put (h : H) (b : Nat) (B : Box) : (h.put b B).rlen = h.rlen := nrfl rfl
@[simp] theorem rlen_nrow (h : H) (n : Nat) : (h.nrow n).rlen = h.rlen + 1 := by simp [H.rlen, H.nrow]
@[simp] theorem rlen_srow (h : H) (r n : Nat) : (h.srow r n).rlen = h.rlen := by simp [H.rlen, H.srow]
@[simp] theorem rlen_up (h : H) : h.up.rlen = h.rlen := nrfl rfl
@[simp] theorem rlen_down (h h' : H) : (h.down h').rlen = h'.rlen := nrfl rfl
@[simp] theorem lob_alloc (h : H) (c : List LV) : (h.alloc c).lob = h.lob := nrfl rfl
@[simp] theorem lob_put (h : H) (b : Nat) (B : Box) : (h.put b B).lob = h.lob := nrfl rfl
@[simp] theorem lob_nrow (h : H) (n : Nat) : (h.nrow n).lob = h.lob := nrfl rfl
@[simp] theorem lob_srow (h : H) (r n : Nat) : (h.srow r n).lob = h.lob := nrfl rfl
@[simp] theorem lob_up (h : H) : h.up.lob = h.len := nrfl rfl
@[simp] theorem lob_down (h h' : H) : (h.down h').lob = h.lob := nrfl rfl
@[simp] theorem lor_alloc (h : H) (c : List LV) : (h.alloc c).lor = h.lor := nrfl rfl
@[simp] theorem lor_put (h : H) (b : Nat) (B : Box) : (h.put b B).lor = h.lor := nrfl rfl
@[simp] theorem lor_nrow (h : H) (n : Nat) : (h.nrow n).lor = h.lor := nrfl rfl
@[simp] theorem lor_srow (h : H) (r n : Nat) : (h.srow r n).lor = h.lor := nrfl rfl
@[simp] theorem lor_up (h : H) : h.up.lor = h.rlen := nrfl rfl
@[simp] theorem lor_down (h h' : H) : (h.down h').lor = h.lor := nrfl rfl
@[simp] theorem lob_hp (f : Nat) (args : List LV) (h : H) : (hp P T f args h).lob = h.lob := (hp_keep f args h).lob
@[simp] theorem lor_hp (f : Nat) (args : List LV) (h : H) : (hp P T f args h).lor = h.lor := (hp_keep f args h).lor

@[simp] theorem get_alloc_eq (h : H) (c : List LV) : (h.alloc c).get h.len = some ⟨false, c⟩ := by simp [H.get, H.alloc, H.len]
theorem get_alloc_at {h : H} {c : List LV} {b : Nat} (hb : b = h.len) : (h.alloc c).get b = some ⟨false, c⟩ := by subst hb; exact get_alloc_eq h c
@[simp] theorem get_alloc_lt {h : H} {c : List LV} {b : Nat} (hb : b < h.len) : (h.alloc c).get b = h.get b := List.getElem?_append_left hb
@[simp] theorem get_put_eq {h : H} {b : Nat} {B : Box} (hb : b < h.len) : (h.put b B).get b = some B := by
  simp only [H.get, H.put]; exact List.getElem?_set_self hb
@[simp] theorem get_put_ne {h : H} {a b : Nat} {B : Box} (hb : a ≠ b) : (h.put a B).get b = h.get b := by
  simp only [H.get, H.put]; exact List.getElem?_set_ne hb
@[simp] theorem get_nrow (h : H) (n b : Nat) : (h.nrow n).get b = h.get b := nrfl rfl
@[simp] theorem get_srow (h : H) (r n b : Nat) : (h.srow r n).get b = h.get b := nrfl rfl
@[simp] theorem get_up (h : H) (b : Nat) : h.up.get b = h.get b := nrfl rfl
@[simp] theorem get_down (h h' : H) (b : Nat) : (h.down h').get b = h'.get b := nrfl rfl
@[simp] theorem get_hp {f : Nat} {args : List LV} {h : H} {b : Nat} (hb : b < h.len) : (hp P T f args h).get b = h.get b := (hp_keep f args h).get hb
@[simp] theorem rget_nrow_eq (h : H) (n : Nat) : (h.nrow n).rget h.rlen = some n := by simp [H.rget, H.nrow, H.rlen]
@[simp] theorem rget_nrow_lt {h : H} {n r : Nat} (hr : r < h.rlen) : (h.nrow n).rget r = h.rget r := List.getElem?_append_left hr
@[simp] theorem rget_srow_eq {h : H} {r n : Nat} (hr : r < h.rlen) : (h.srow r n).rget r = some n := by
  simp only [H.rget, H.srow]; exact List.getElem?_set_self hr
@[simp] theorem rget_srow_ne {h : H} {r q n : Nat} (hr : r ≠ q) : (h.srow r n).rget q = h.rget q := by
  simp only [H.rget, H.srow]; exact List.getElem?_set_ne hr
@[simp] theorem rget_alloc (h : H) (c : List LV) (r : Nat) : (h.alloc c).rget r = h.rget r := nrfl rfl
@[simp] theorem rget_put (h : H) (b : Nat) (B : Box) (r : Nat) : (h.put b B).rget r = h.rget r := nrfl rfl
@[simp] theorem rget_up (h : H) (r : Nat) : h.up.rget r = h.rget r := nrfl rfl
@[simp] theorem rget_down (h h' : H) (r : Nat) : (h.down h').rget r = h'.rget r := nrfl rfl
@[simp] theorem rget_hp {f : Nat} {args : List LV} {h : H} {r : Nat} (hr : r < h.rlen) : (hp P T f args h).rget r = h.rget r := (hp_keep f args h).rget hr

@[simp] theorem up_up (h : H) : h.up.up = h.up := nrfl rfl
@[simp] theorem down_up (h h' : H) : h.down h'.up = h.down h' := nrfl rfl
@[simp] theorem down_self (h : H) : h.down h = h := nrfl rfl
@[simp] theorem down_alloc (h h' : H) (c : List LV) : h.down (h'.alloc c) = (h.down h').alloc c := nrfl rfl
@[simp] theorem down_put (h h' : H) (b : Nat) (B : Box) : h.down (h'.put b B) = (h.down h').put b B := nrfl rfl
@[simp] theorem down_nrow (h h' : H) (n : Nat) : h.down (h'.nrow n) = (h.down h').nrow n := nrfl rfl
@[simp] theorem down_srow (h h' : H) (r n : Nat) : h.down (h'.srow r n) = (h.down h').srow r n := nrfl rfl
@[simp] theorem up_down (h h' : H) : (h.down h').up = h'.up := nrfl rfl

/-! ### what keeps -/
theorem Keep.alloc {h h' : H} (k : Keep h h') (c : List LV) : Keep h (h'.alloc c) :=
  k.trans ⟨⟨⟨by simp [H.alloc], Nat.le_refl _⟩, fun b hb => List.getElem?_append_left hb, fun _ _ => rfl⟩, rfl, rfl⟩
theorem Keep.nrow {h h' : H} (k : Keep h h') (n : Nat) : Keep h (h'.nrow n) :=
  k.trans ⟨⟨⟨Nat.le_refl _, by simp [H.nrow]⟩, fun _ _ => rfl, fun r hr => List.getElem?_append_left hr⟩, rfl, rfl⟩
theorem Keep.put {h h' : H} (k : Keep h h') {b : Nat} (hb : h.len ≤ b) (B : Box) : Keep h (h'.put b B) :=
  ⟨⟨⟨by simpa [H.put] using k.pre.len.1, k.pre.len.2⟩, fun x hx => by
    have : (h'.put b B).box[x]? = h'.box[x]? := List.getElem?_set_ne (by have : h.len = h.box.length := rfl; omega)
    rw [this]; exact k.pre.kb x hx, k.pre.kr⟩, k.lob, k.lor⟩
theorem Keep.srow {h h' : H} (k : Keep h h') {r : Nat} (hr : h.rlen ≤ r) (n : Nat) : Keep h (h'.srow r n) :=
  ⟨⟨⟨k.pre.len.1, by simpa [H.srow] using k.pre.len.2⟩, k.pre.kb, fun x hx => by
    have : (h'.srow r n).row[x]? = h'.row[x]? := List.getElem?_set_ne (by have : h.rlen = h.row.length := rfl; omega)
    rw [this]; exact k.pre.kr x hx⟩, k.lob, k.lor⟩
theorem Keep.hp {h h' : H} (k : Keep h h') (f : Nat) (args : List LV) : Keep h (hp P T f args h') := k.trans (hp_keep f args h')
/-- A region that draws its order: what it does lies above. -/
theorem Pre.down {h h' : H} (k : Pre h h') : Keep h (h.down h') := ⟨⟨⟨k.len.1, k.len.2⟩, k.kb, k.kr⟩, rfl, rfl⟩
theorem Keep.down {h a b : H} (k : Keep h a) (p : Pre a b) : Keep h (a.down b) := k.trans p.down
theorem Pre.up {h h' : H} (k : Pre h h') : Pre h h'.up := ⟨⟨k.len.1, k.len.2⟩, k.kb, k.kr⟩
theorem Pre.hp {h h' : H} (k : Pre h h') (f : Nat) (args : List LV) : Pre h (hp P T f args h') := k.trans (hp_keep f args h').pre
theorem Pre.alloc {h h' : H} (k : Pre h h') (c : List LV) : Pre h (h'.alloc c) := k.trans ((Keep.refl h').alloc c).pre
theorem Pre.nrow {h h' : H} (k : Pre h h') (n : Nat) : Pre h (h'.nrow n) := k.trans ((Keep.refl h').nrow n).pre

/-! ### step by step -/
def opsK (P : Program) (C : Callee') (os : List RO) (d : Option Nat) (s : S) : Option (LV × H) → Option (S × H)
  | some (v, h') => opsR P C os (updO s d v) h'
  | none => none
def opsKD (P : Program) (C : Callee') (os : List RO) (d : Option Nat) (s : S) : Option (LV × H) → Option (S × H)
  | some (v, h') => opsRD P C os (updO s d v) h'
  | none => none
def opsG (P : Program) (C : Callee') (op : Op) (os : List RO) (d : Option Nat) (s : S) (h : H) (w : Bool) : LV → Option (S × H)
  | .bool b => if b == w then opsK P C os d s (opL P C s op h) else opsR P C os (updO s d (.tup [])) h
  | .tup [] => opsR P C os (updO s d (.tup [])) h
  | _ => none
def opsGD (P : Program) (C : Callee') (op : Op) (os : List RO) (d : Option Nat) (s : S) (h : H) (w : Bool) : LV → Option (S × H)
  | .bool b => if b == w then opsKD P C os d s (opL P C s op h.up) else opsRD P C os (updO s d (.tup [])) h
  | .tup [] => opsRD P C os (updO s d (.tup [])) h
  | _ => none
theorem opsR_nil (C : Callee') (s : S) (h : H) : opsR P C [] s h = some (s, h) := rfl
theorem opsR_n (C : Callee') (d : Option Nat) (op : Op) (os : List RO) (s : S) (h : H) : opsR P C (⟨d, none, op⟩ :: os) s h = opsK P C os d s (opL P C s op h) := by
  simp only [opsR, gOk, opsK]
  cases opL P C s op h <;> rfl
theorem opsR_g (C : Callee') (d : Option Nat) (t : Nat) (w : Bool) (op : Op) (os : List RO) (s : S) (h : H) :
    opsR P C (⟨d, some (t, w), op⟩ :: os) s h = opsG P C op os d s h w (s t) := by
  simp only [opsR, gOk, opsG, opsK]
  cases s t <;> try rfl
  case tup vs => cases vs <;> rfl
  rename_i b
  dsimp only
  cases hb : b == w
  · rfl
  · dsimp only; cases opL P C s op h <;> rfl
theorem opsRD_nil (C : Callee') (s : S) (h : H) : opsRD P C [] s h = some (s, h) := rfl
theorem opsRD_n (C : Callee') (d : Option Nat) (op : Op) (os : List RO) (s : S) (h : H) : opsRD P C (⟨d, none, op⟩ :: os) s h = opsKD P C os d s (opL P C s op h.up) := by
  simp only [opsRD, gOk, opsKD]
  cases opL P C s op h.up <;> rfl
theorem opsRD_g (C : Callee') (d : Option Nat) (t : Nat) (w : Bool) (op : Op) (os : List RO) (s : S) (h : H) :
    opsRD P C (⟨d, some (t, w), op⟩ :: os) s h = opsGD P C op os d s h w (s t) := by
  simp only [opsRD, gOk, opsGD, opsKD]
  cases s t <;> try rfl
  case tup vs => cases vs <;> rfl
  rename_i b
  dsimp only
  cases hb : b == w
  · rfl
  · dsimp only; cases opL P C s op h.up <;> rfl
theorem opsK_some (C : Callee') (os : List RO) (d : Nat) (s : S) (v : LV) (h : H) : opsK P C os (some d) s (some (v, h)) = opsR P C os (upd s d v) h := rfl
theorem opsK_none (C : Callee') (os : List RO) (s : S) (v : LV) (h : H) : opsK P C os none s (some (v, h)) = opsR P C os s h := rfl
theorem opsKD_some (C : Callee') (os : List RO) (d : Nat) (s : S) (v : LV) (h : H) : opsKD P C os (some d) s (some (v, h)) = opsRD P C os (upd s d v) h := rfl
theorem opsKD_none (C : Callee') (os : List RO) (s : S) (v : LV) (h : H) : opsKD P C os none s (some (v, h)) = opsRD P C os s h := rfl
theorem opsG_yes (C : Callee') (op : Op) (os : List RO) (d : Option Nat) (s : S) (h : H) : opsG P C op os d s h true (.bool true) = opsK P C os d s (opL P C s op h) := rfl
theorem opsG_yes' (C : Callee') (op : Op) (os : List RO) (d : Option Nat) (s : S) (h : H) : opsG P C op os d s h false (.bool false) = opsK P C os d s (opL P C s op h) := rfl
theorem opsG_no (C : Callee') (op : Op) (os : List RO) (d : Nat) (s : S) (h : H) : opsG P C op os (some d) s h true (.bool false) = opsR P C os (upd s d (.tup [])) h := rfl
theorem opsG_no' (C : Callee') (op : Op) (os : List RO) (d : Nat) (s : S) (h : H) : opsG P C op os (some d) s h false (.bool true) = opsR P C os (upd s d (.tup [])) h := rfl
theorem opsG_u (C : Callee') (op : Op) (os : List RO) (d : Nat) (s : S) (h : H) (w : Bool) : opsG P C op os (some d) s h w (.tup []) = opsR P C os (upd s d (.tup [])) h := rfl
theorem opsG_un (C : Callee') (op : Op) (os : List RO) (s : S) (h : H) (w : Bool) : opsG P C op os none s h w (.tup []) = opsR P C os s h := rfl
theorem opsG_non (C : Callee') (op : Op) (os : List RO) (s : S) (h : H) : opsG P C op os none s h true (.bool false) = opsR P C os s h := rfl
theorem opsG_non' (C : Callee') (op : Op) (os : List RO) (s : S) (h : H) : opsG P C op os none s h false (.bool true) = opsR P C os s h := rfl
theorem opsGD_yes (C : Callee') (op : Op) (os : List RO) (d : Option Nat) (s : S) (h : H) : opsGD P C op os d s h true (.bool true) = opsKD P C os d s (opL P C s op h.up) := rfl
theorem opsGD_yes' (C : Callee') (op : Op) (os : List RO) (d : Option Nat) (s : S) (h : H) : opsGD P C op os d s h false (.bool false) = opsKD P C os d s (opL P C s op h.up) := rfl
theorem opsGD_no (C : Callee') (op : Op) (os : List RO) (d : Nat) (s : S) (h : H) : opsGD P C op os (some d) s h true (.bool false) = opsRD P C os (upd s d (.tup [])) h := rfl
theorem opsGD_no' (C : Callee') (op : Op) (os : List RO) (d : Nat) (s : S) (h : H) : opsGD P C op os (some d) s h false (.bool true) = opsRD P C os (upd s d (.tup [])) h := rfl
theorem opsGD_u (C : Callee') (op : Op) (os : List RO) (d : Nat) (s : S) (h : H) (w : Bool) : opsGD P C op os (some d) s h w (.tup []) = opsRD P C os (upd s d (.tup [])) h := rfl
theorem opsGD_un (C : Callee') (op : Op) (os : List RO) (s : S) (h : H) (w : Bool) : opsGD P C op os none s h w (.tup []) = opsRD P C os s h := rfl
theorem opsGD_non (C : Callee') (op : Op) (os : List RO) (s : S) (h : H) : opsGD P C op os none s h true (.bool false) = opsRD P C os s h := rfl
theorem opsGD_non' (C : Callee') (op : Op) (os : List RO) (s : S) (h : H) : opsGD P C op os none s h false (.bool true) = opsRD P C os s h := rfl

def opsKW (P : Program) (C : Callee') (os : List RW) (d : Option Nat) (s : S) : Option (LV × H) → Option (S × H)
  | some (v, h') => opsRW P C os (updO s d v) h'
  | none => none
def opsGW (P : Program) (C : Callee') (c : Cl) (D : List Nat) (op : Op) (os : List RW) (d : Option Nat) (s : S) (h : H) (w : Bool) : LV → Option (S × H)
  | .bool b => if b == w then opsKW P C os d s (opW P C c D s op h) else opsRW P C os (updO s d (.tup [])) h
  | .tup [] => opsRW P C os (updO s d (.tup [])) h
  | _ => none
theorem opsRW_nil (C : Callee') (s : S) (h : H) : opsRW P C [] s h = some (s, h) := rfl
theorem opsRW_n (C : Callee') (d : Option Nat) (op : Op) (c : Cl) (D : List Nat) (os : List RW) (s : S) (h : H) : opsRW P C (⟨⟨d, none, op⟩, c, D⟩ :: os) s h = opsKW P C os d s (opW P C c D s op h) := by
  simp only [opsRW, gOk, opsKW]
  cases opW P C c D s op h <;> rfl
theorem opsRW_g (C : Callee') (d : Option Nat) (t : Nat) (w : Bool) (op : Op) (c : Cl) (D : List Nat) (os : List RW) (s : S) (h : H) :
    opsRW P C (⟨⟨d, some (t, w), op⟩, c, D⟩ :: os) s h = opsGW P C c D op os d s h w (s t) := by
  simp only [opsRW, gOk, opsGW, opsKW]
  cases s t <;> try rfl
  case tup vs => cases vs <;> rfl
  rename_i b
  dsimp only
  cases hb : b == w
  · rfl
  · dsimp only; cases opW P C c D s op h <;> rfl
theorem opsKW_some (C : Callee') (os : List RW) (d : Nat) (s : S) (v : LV) (h : H) : opsKW P C os (some d) s (some (v, h)) = opsRW P C os (upd s d v) h := rfl
theorem opsKW_none (C : Callee') (os : List RW) (s : S) (v : LV) (h : H) : opsKW P C os none s (some (v, h)) = opsRW P C os s h := rfl
theorem opsGW_yes (C : Callee') (c : Cl) (D : List Nat) (op : Op) (os : List RW) (d : Option Nat) (s : S) (h : H) : opsGW P C c D op os d s h true (.bool true) = opsKW P C os d s (opW P C c D s op h) := rfl
theorem opsGW_yes' (C : Callee') (c : Cl) (D : List Nat) (op : Op) (os : List RW) (d : Option Nat) (s : S) (h : H) : opsGW P C c D op os d s h false (.bool false) = opsKW P C os d s (opW P C c D s op h) := rfl
theorem opsGW_no (C : Callee') (c : Cl) (D : List Nat) (op : Op) (os : List RW) (d : Nat) (s : S) (h : H) : opsGW P C c D op os (some d) s h true (.bool false) = opsRW P C os (upd s d (.tup [])) h := rfl
theorem opsGW_no' (C : Callee') (c : Cl) (D : List Nat) (op : Op) (os : List RW) (d : Nat) (s : S) (h : H) : opsGW P C c D op os (some d) s h false (.bool true) = opsRW P C os (upd s d (.tup [])) h := rfl
theorem opsGW_u (C : Callee') (c : Cl) (D : List Nat) (op : Op) (os : List RW) (d : Nat) (s : S) (h : H) (w : Bool) : opsGW P C c D op os (some d) s h w (.tup []) = opsRW P C os (upd s d (.tup [])) h := rfl
theorem opsGW_un (C : Callee') (c : Cl) (D : List Nat) (op : Op) (os : List RW) (s : S) (h : H) (w : Bool) : opsGW P C c D op os none s h w (.tup []) = opsRW P C os s h := rfl
theorem opsGW_non (C : Callee') (c : Cl) (D : List Nat) (op : Op) (os : List RW) (s : S) (h : H) : opsGW P C c D op os none s h true (.bool false) = opsRW P C os s h := rfl
theorem opsGW_non' (C : Callee') (c : Cl) (D : List Nat) (op : Op) (os : List RW) (s : S) (h : H) : opsGW P C c D op os none s h false (.bool true) = opsRW P C os s h := rfl

def exO : Option (S × H) → Option (X × S × H)
  | some (s, h) => some (.normal, s, h)
  | none => none
def exD (h0 : H) : Option (S × H) → Option (X × S × H)
  | some (s, h) => some (.normal, s, h0.down h)
  | none => none
noncomputable def exS (P : Program) (T : Nat → Option LV) (b : RC) : Option (X × S × H) → Option (X × S × H)
  | some (.normal, s, h) => ex P T b s h
  | r => r
noncomputable def exC (P : Program) (T : Nat → Option LV) (a b : RC) (s : S) (h : H) : Option LV → Option (X × S × H)
  | some (.bool true) => ex P T a s h
  | some (.bool false) => ex P T b s h
  | _ => none
def exB (id : Nat) : Option (X × S × H) → Option (X × S × H)
  | some (.exit id', s, h) => if id' = id then some (.normal, s, h) else some (.exit id', s, h)
  | r => r
theorem ex_skip (s : S) (h : H) : ex P T .skip s h = some (.normal, s, h) := rfl
theorem ex_ops (l : List RO) (s : S) (h : H) : ex P T (.ops l) s h = exO (opsR P (runI P T) l s h) := by
  simp only [ex, exO]; cases opsR P (runI P T) l s h <;> rfl
theorem ex_draw (l : List RO) (s : S) (h : H) : ex P T (.draw l) s h = exD h (opsRD P (runI P T) l s h) := by
  simp only [ex, exD]; cases opsRD P (runI P T) l s h <;> rfl
theorem ex_drawW (l : List RW) (s : S) (h : H) : ex P T (.drawW l) s h = exO (opsRW P (runI P T) l s h) := by
  simp only [ex, exO]; cases opsRW P (runI P T) l s h <;> rfl
theorem ex_drawWF (l : List RW) (s : S) (h : H) : ex P T (.drawWF l) s h = exO (opsRW P (runI P T) l s (fzR P s (l.map (·.o)) h)) := by
  simp only [ex, exO]; cases opsRW P (runI P T) l s (fzR P s (l.map (·.o)) h) <;> rfl
theorem ex_drawF (l : List RO) (s : S) (h : H) : ex P T (.drawF l) s h = exD h (opsRD P (runI P T) l s (fzR P s l h)) := by
  simp only [ex, exD]; cases opsRD P (runI P T) l s (fzR P s l h) <;> rfl
theorem ex_seq (a b : RC) (s : S) (h : H) : ex P T (.seq a b) s h = exS P T b (ex P T a s h) := rfl
theorem ex_cond (c : Operand) (a b : RC) (s : S) (h : H) : ex P T (.cond c a b) s h = exC P T a b s h (opr s c) := rfl
theorem ex_block (id : Nat) (c : RC) (s : S) (h : H) : ex P T (.block id c) s h = exB id (ex P T c s h) := rfl
theorem ex_loop (c : RC) (s : S) (h : H) : ex P T (.loop c) s h = loopI (ex P T c) s h := rfl
theorem ex_exit (id : Nat) (s : S) (h : H) : ex P T (.exit id) s h = some (.exit id, s, h) := rfl
theorem ex_ret (s : S) (h : H) : ex P T .ret s h = some (.ret, s, h) := rfl
theorem exO_some (s : S) (h : H) : exO (some (s, h)) = some (.normal, s, h) := rfl
theorem exD_some (h0 : H) (s : S) (h : H) : exD h0 (some (s, h)) = some (.normal, s, h0.down h) := rfl
theorem exS_n (b : RC) (s : S) (h : H) : exS P T b (some (.normal, s, h)) = ex P T b s h := rfl
theorem exS_e (b : RC) (id : Nat) (s : S) (h : H) : exS P T b (some (.exit id, s, h)) = some (.exit id, s, h) := rfl
theorem exS_r (b : RC) (s : S) (h : H) : exS P T b (some (.ret, s, h)) = some (.ret, s, h) := rfl
theorem exC_t (a b : RC) (s : S) (h : H) : exC P T a b s h (some (.bool true)) = ex P T a s h := rfl
theorem exC_f (a b : RC) (s : S) (h : H) : exC P T a b s h (some (.bool false)) = ex P T b s h := rfl
theorem exB_n (id : Nat) (s : S) (h : H) : exB id (some (.normal, s, h)) = some (.normal, s, h) := rfl
theorem exB_r (id : Nat) (s : S) (h : H) : exB id (some (.ret, s, h)) = some (.ret, s, h) := rfl
theorem exB_e (id id' : Nat) (s : S) (h : H) : exB id (some (.exit id', s, h)) = if id' = id then some (.normal, s, h) else some (.exit id', s, h) := rfl
noncomputable def bodyK (P : Program) (res : List ResultVar) : Option (X × S × H) → Option (LV × H)
  | some (.exit _, _, _) => none
  | some (_, s, h') => (resL P s h' res).map fun vs => (tupL vs, h')
  | none => none
theorem body_eq (n : Nat) (rc : RC) (res : List ResultVar) (args : List LV) (h : H) : bodyI P T ⟨n, rc, res⟩ args h = bodyK P res (ex P T rc (startL args) h) := rfl
def resK (h : H) : Option (List LV) → Option (LV × H)
  | some vs => some (tupL vs, h)
  | none => none
theorem bodyK_n (res : List ResultVar) (s : S) (h : H) : bodyK P res (some (.normal, s, h)) = resK h (resL P s h res) := by
  simp only [bodyK, resK]; cases resL P s h res <;> rfl
theorem bodyK_r (res : List ResultVar) (s : S) (h : H) : bodyK P res (some (.ret, s, h)) = resK h (resL P s h res) := by
  simp only [bodyK, resK]; cases resL P s h res <;> rfl
theorem resK_some (h : H) (vs : List LV) : resK h (some vs) = some (tupL vs, h) := rfl
def resC1 (v : LV) : Option (List LV) → Option (List LV)
  | some l => some (v :: l)
  | none => none
def resC2 (r : Option (List LV)) : Option LV → Option (List LV)
  | some v => resC1 v r
  | none => none
theorem resL_nil (s : S) (h : H) : resL P s h [] = some [] := rfl
theorem resL_tmp (t : Nat) (rs : List ResultVar) (s : S) (h : H) : resL P s h (.tmp t :: rs) = resC1 (s t) (resL P s h rs) := by
  simp only [resL, resC1]; cases resL P s h rs <;> rfl
theorem resL_cell (a t : Nat) (rs : List ResultVar) (s : S) (h : H) : resL P s h (.cell a t :: rs) = resC2 (resL P s h rs) (loadL P t (s a) h) := by
  simp only [resL, resC1, resC2]; cases loadL P t (s a) h <;> cases resL P s h rs <;> rfl
theorem resC1_some (v : LV) (l : List LV) : resC1 v (some l) = some (v :: l) := rfl
theorem resC2_some (v : LV) (r : Option (List LV)) : resC2 r (some v) = resC1 v r := rfl
theorem tupL_1 (v : LV) : tupL [v] = v := rfl
theorem tupL_0 : tupL [] = .tup [] := rfl
theorem tupL_2 (a b : LV) (l : List LV) : tupL (a :: b :: l) = .tup (a :: b :: l) := rfl

theorem startL_0 (a : LV) (l : List LV) : startL (a :: l) 0 = a := rfl
theorem startL_s (a : LV) (l : List LV) (n : Nat) : startL (a :: l) (n + 1) = startL l n := rfl
theorem startL_n (n : Nat) : startL [] n = .undef := rfl
theorem upd_at (s : S) (d : Nat) (v : LV) (t : Nat) : upd s d v t = if t = d then v else s t := rfl

/-! ### operands and operations -/
theorem opr_t (s : S) (t : Nat) : opr s (.tmp t) = some (s t) := rfl
theorem opr_f (s : S) (f : Nat) : opr s (.func f) = some (.fn f [] []) := rfl
theorem opr_int (s : S) (k : IntKind) (n : Int) : opr s (.const (.int k n)) = some (.int k n) := rfl
theorem opr_bool (s : S) (b : Bool) : opr s (.const (.bool b)) = some (.bool b) := rfl
theorem opr_str (s : S) (b : ByteArray) : opr s (.const (.string b)) = some (.str b) := rfl
theorem opr_nils (s : S) : opr s (.const (.slice none 0 0)) = some .nils := rfl
theorem opr_nilp (s : S) : opr s (.const (.pointer none)) = some .nilp := rfl
theorem opr_nilf (s : S) : opr s (.const .nilFunc) = some .nilf := rfl
theorem opr_nili (s : S) : opr s (.const .nilIface) = some .nili := rfl
def cons2 {α : Type} : Option α → Option (List α) → Option (List α)
  | some v, some vs => some (v :: vs)
  | _, _ => none
theorem cons2_some {α : Type} (v : α) (vs : List α) : cons2 (some v) (some vs) = some (v :: vs) := rfl
theorem oprs_nil (s : S) : oprs s [] = some [] := rfl
theorem oprs_cons (s : S) (x : Operand) (xs : List Operand) : oprs s (x :: xs) = cons2 (opr s x) (oprs s xs) := by
  simp only [oprs]; cases opr s x <;> cases oprs s xs <;> rfl
def pairO (i : Nat) : Option LV → Option (Nat × LV)
  | some v => some (i, v)
  | none => none
theorem pairO_some (i : Nat) (v : LV) : pairO i (some v) = some (i, v) := rfl
theorem oprP_nil (s : S) : oprP s [] = some [] := rfl
theorem oprP_cons (s : S) (i : Nat) (x : Operand) (xs : List (Nat × Operand)) : oprP s ((i, x) :: xs) = cons2 (pairO i (opr s x)) (oprP s xs) := by
  simp only [oprP]; cases opr s x <;> cases oprP s xs <;> rfl

/-- A value, and the memory as it was. -/
def wh (h : H) : Option LV → Option (LV × H)
  | some v => some (v, h)
  | none => none
theorem wh_some (h : H) (v : LV) : wh h (some v) = some (v, h) := rfl
theorem map_wh (h : H) (x : Option LV) : x.map (·, h) = wh h x := by cases x <;> rfl
variable {C : Callee'} {s : S} {h : H}
theorem op_move (x : Operand) : opL P C s (.move x) h = wh h (opr s x) := map_wh _ _
theorem op_assign (x : Operand) : opL P C s (.assign x) h = wh h (opr s x) := map_wh _ _
def pickK (h : H) (a b : Option LV) : Option LV → Option (LV × H)
  | some (.bool true) => wh h a
  | some (.bool false) => wh h b
  | _ => none
theorem op_pick (c a b : Operand) : opL P C s (.pick c a b) h = pickK h (opr s a) (opr s b) (opr s c) := by
  simp only [opL, map_wh]; rcases opr s c with _ | x <;> rfl
theorem pickK_t (a b : Option LV) : pickK h a b (some (.bool true)) = wh h a := rfl
theorem pickK_f (a b : Option LV) : pickK h a b (some (.bool false)) = wh h b := rfl
def allocK (h : H) : Option LV → Option (LV × H)
  | some z => if z.known = true then some (.ptr h.len 0, h.alloc z.cells) else none
  | none => none
theorem op_alloc (t : TypeId) : opL P C s (.alloc t) h = allocK h (zeroL P t) := rfl
theorem op_box (t : TypeId) (x : Operand) : opL P C s (.box t x) h = allocK h (opr s x) := rfl
theorem allocK_some (z : LV) : allocK h (some z) = if z.known = true then some (.ptr h.len 0, h.alloc z.cells) else none := rfl
def buildK (P : Program) (t : TypeId) (h : H) : Option (List (Nat × LV)) → Option (LV × H)
  | some ps => wh h (buildL P t ps)
  | none => none
theorem op_build (t : TypeId) (ps : Array (Nat × Operand)) : opL P C s (.build t ps) h = buildK P t h (oprP s ps.toList) := by
  simp only [opL, buildK, map_wh]; cases oprP s ps.toList <;> rfl
theorem buildK_some (t : TypeId) (ps : List (Nat × LV)) : buildK P t h (some ps) = wh h (buildL P t ps) := rfl
def buildSK (P : Program) (t : TypeId) (n : Nat) (h : H) : Option (List (Nat × LV)) → Option (LV × H)
  | some ps => buildSliceL P t n ps h
  | none => none
theorem op_buildSlice (t : TypeId) (n : Nat) (ps : Array (Nat × Operand)) : opL P C s (.buildSlice t n ps) h = buildSK P t n h (oprP s ps.toList) := by
  simp only [opL, buildSK]; cases oprP s ps.toList <;> rfl
theorem buildSK_some (t : TypeId) (n : Nat) (ps : List (Nat × LV)) : buildSK P t n h (some ps) = buildSliceL P t n ps h := rfl
def loadO (P : Program) (t : TypeId) (h : H) : Option LV → Option (LV × H)
  | some p => wh h (loadL P t p h)
  | none => none
theorem op_load (t : TypeId) (x : Operand) : opL P C s (.load t x) h = loadO P t h (opr s x) := by
  simp only [opL, map_wh]; cases opr s x <;> rfl
theorem loadO_some (t : TypeId) (p : LV) : loadO P t h (some p) = wh h (loadL P t p h) := rfl
def loadK (P : Program) (t : TypeId) (off : Nat) : Option Box → Option LV
  | some B => partL P t B.cells off
  | none => none
theorem load_ptr (t : TypeId) (b off : Nat) : loadL P t (.ptr b off) h = loadK P t off (h.get b) := rfl
theorem load_cptr (t : TypeId) (v : LV) : loadL P t (.cptr v) h = partL P t v.cells 0 := rfl
theorem loadK_some (t : TypeId) (off : Nat) (ro : Bool) (c : List LV) : loadK P t off (some ⟨ro, c⟩) = partL P t c off := rfl
def storeK (P : Program) (t : TypeId) (b off : Nat) (v : LV) (h : H) : Option Box → Option (LV × H)
  | some B => if v.known = true ∧ sizeT P t = some v.cells.length ∧ v.cells.all (·.one) = true ∧ B.ro = false ∧ h.lob ≤ b ∧ off + v.cells.length ≤ B.cells.length then
      some (.undef, h.put b ⟨false, setAll B.cells off v.cells⟩) else none
  | none => none
def storeO (P : Program) (t : TypeId) (h : H) : Option LV → Option LV → Option (LV × H)
  | some (.ptr b off), some v => storeK P t b off v h (h.get b)
  | some (.pm b off), some v => (storeL P t (.pm b off) v h).map (.undef, ·)
  | _, _ => none
theorem op_store (t : TypeId) (a x : Operand) : opL P C s (.store t a x) h = storeO P t h (opr s a) (opr s x) := by
  simp only [opL, storeO, storeK]
  cases opr s a with
  | none => rfl
  | some p =>
    cases opr s x with
    | none => cases p <;> rfl
    | some v =>
      cases p <;> try rfl
      rename_i b off
      simp only [storeL, H.get]
      cases h.box[b]? with
      | none => rfl
      | some B =>
        dsimp only
        split <;> rfl
def stM : Option H → Option (LV × H)
  | some h' => some (.undef, h')
  | none => none
theorem stM_some (h' : H) : stM (some h') = some (.undef, h') := rfl
theorem storeO_pm (t : TypeId) (b off : Nat) (v : LV) : storeO P t h (some (.pm b off)) (some v) = stM (storeL P t (.pm b off) v h) := by
  simp only [storeO]; cases storeL P t (.pm b off) v h <;> rfl
theorem storeO_ptr (t : TypeId) (b off : Nat) (v : LV) : storeO P t h (some (.ptr b off)) (some v) = storeK P t b off v h (h.get b) := rfl
theorem storeK_some (t : TypeId) (b off : Nat) (v : LV) (c : List LV) : storeK P t b off v h (some ⟨false, c⟩) =
    if v.known = true ∧ sizeT P t = some v.cells.length ∧ v.cells.all (·.one) = true ∧ h.lob ≤ b ∧ off + v.cells.length ≤ c.length then
      some (.undef, h.put b ⟨false, setAll c off v.cells⟩) else none := by
  simp only [storeK, true_and]
def nilCK (h : H) : Option LV → Option (LV × H)
  | some (.ptr b o) => some (.ptr b o, h)
  | some (.cptr v) => some (.cptr v, h)
  | some (.fn f a b) => some (.fn f a b, h)
  | some (.iface t v) => some (.iface t v, h)
  | _ => none
theorem op_nilCheck (x : Operand) : opL P C s (.nilCheck x) h = nilCK h (opr s x) := rfl
theorem nilCK_ptr (b o : Nat) : nilCK h (some (.ptr b o)) = some (.ptr b o, h) := rfl
theorem nilCK_cptr (v : LV) : nilCK h (some (.cptr v)) = some (.cptr v, h) := rfl
theorem nilCK_fn (f : Nat) (a b : List LV) : nilCK h (some (.fn f a b)) = some (.fn f a b, h) := rfl
theorem nilCK_iface (t : Nat) (v : LV) : nilCK h (some (.iface t v)) = some (.iface t v, h) := rfl
def binK (P : Program) (op : BinOp) (t : TypeId) (h : H) : Option LV → Option LV → Option (LV × H)
  | some a, some b => wh h (binL P op t a b)
  | _, _ => none
theorem op_bin (op : BinOp) (t : TypeId) (x y : Operand) (u : TypeId) : opL P C s (.binOp op t x y u) h = binK P op t h (opr s x) (opr s y) := by
  simp only [opL, map_wh]; cases opr s x <;> cases opr s y <;> rfl
theorem binK_some (op : BinOp) (t : TypeId) (a b : LV) : binK P op t h (some a) (some b) = wh h (binL P op t a b) := rfl
def unK (op : UnOp) (h : H) : Option LV → Option (LV × H)
  | some a => wh h (unL op a)
  | _ => none
theorem op_un (op : UnOp) (t : TypeId) (x : Operand) : opL P C s (.unOp op t x) h = unK op h (opr s x) := by
  simp only [opL, unK, map_wh]
  cases opr s x <;> rfl
theorem unK_some (op : UnOp) (a : LV) : unK op h (some a) = wh h (unL op a) := rfl
def convK (P : Program) (a b : TypeId) (h : H) : Option LV → Option (LV × H)
  | some v => convL P a b v h
  | _ => none
theorem op_conv (a b : TypeId) (x : Operand) : opL P C s (.convert a b x) h = convK P a b h (opr s x) := by
  simp only [opL, convK]; cases opr s x <;> rfl
theorem convK_some (a b : TypeId) (v : LV) : convK P a b h (some v) = convL P a b v h := rfl
def mkfK (f : Nat) (h : H) : Option (List LV) → Option (List LV) → Option (LV × H)
  | some a, some b => some (.fn f a b, h)
  | _, _ => none
theorem op_mkf (f : Nat) (a b : Array Operand) : opL P C s (.makeFunc (.func f) a b) h = mkfK f h (oprs s a.toList) (oprs s b.toList) := rfl
theorem mkfK_some (f : Nat) (a b : List LV) : mkfK f h (some a) (some b) = some (.fn f a b, h) := rfl
def sliceK (P : Program) (t : TypeId) (h : H) : Option LV → Option (Option LV) → Option (Option LV) → Option (LV × H)
  | some v, some l, some q => sliceL P t v l q h
  | _, _, _ => none
theorem op_slice (t : TypeId) (x : Operand) (lo hi : Option Operand) : opL P C s (.slice t x lo hi none) h = sliceK P t h (opr s x) (oprO s lo) (oprO s hi) := by
  simp only [opL]; cases opr s x <;> cases oprO s lo <;> cases oprO s hi <;> rfl
theorem sliceK_some (t : TypeId) (v : LV) (l q : Option LV) : sliceK P t h (some v) (some l) (some q) = sliceL P t v l q h := rfl
theorem oprO_none (s : S) : oprO s none = some none := rfl
def someO : Option LV → Option (Option LV)
  | some v => some (some v)
  | none => none
theorem someO_some (v : LV) : someO (some v) = some (some v) := rfl
theorem oprO_some (x : Operand) : oprO s (some x) = someO (opr s x) := by simp only [oprO, someO]; cases opr s x <;> rfl
def faK (P : Program) (t : TypeId) (f : Nat) (h : H) : Option LV → Option (LV × H)
  | some v => wh h (fieldAddrL P t v f)
  | none => none
theorem op_fa (t : TypeId) (x : Operand) (f : Nat) : opL P C s (.fieldAddr t x f) h = faK P t f h (opr s x) := by
  simp only [opL, faK, map_wh]; cases opr s x <;> rfl
theorem faK_some (t : TypeId) (f : Nat) (v : LV) : faK P t f h (some v) = wh h (fieldAddrL P t v f) := rfl
def fdK (P : Program) (t : TypeId) (f : Nat) (h : H) : Option LV → Option (LV × H)
  | some v => wh h (fieldL P t v f)
  | none => none
theorem op_fd (t : TypeId) (x : Operand) (f : Nat) : opL P C s (.field t x f) h = fdK P t f h (opr s x) := by
  simp only [opL, fdK, map_wh]; cases opr s x <;> rfl
theorem fdK_some (t : TypeId) (f : Nat) (v : LV) : fdK P t f h (some v) = wh h (fieldL P t v f) := rfl
def iaK (P : Program) (t : TypeId) (h : H) : Option LV → Option LV → Option (LV × H)
  | some v, some i => wh h (indexAddrL P t v i)
  | _, _ => none
theorem op_ia (t : TypeId) (x i : Operand) : opL P C s (.indexAddr t x i) h = iaK P t h (opr s x) (opr s i) := by
  simp only [opL, map_wh]; cases opr s x <;> cases opr s i <;> rfl
theorem iaK_some (t : TypeId) (v i : LV) : iaK P t h (some v) (some i) = wh h (indexAddrL P t v i) := rfl
def ixK (P : Program) (t : TypeId) (h : H) : Option LV → Option LV → Option (LV × H)
  | some v, some i => wh h (indexL P t v i)
  | _, _ => none
theorem op_ix (t : TypeId) (x i : Operand) : opL P C s (.index t x i) h = ixK P t h (opr s x) (opr s i) := by
  simp only [opL, map_wh]; cases opr s x <;> cases opr s i <;> rfl
theorem ixK_some (t : TypeId) (v i : LV) : ixK P t h (some v) (some i) = wh h (indexL P t v i) := rfl
def extK (i : Nat) (h : H) : Option LV → Option (LV × H)
  | some (.tup vs) => wh h vs[i]?
  | _ => none
theorem op_ext (x : Operand) (i : Nat) : opL P C s (.extract x i) h = extK i h (opr s x) := by
  simp only [opL, map_wh]; rcases opr s x with _ | v <;> rfl
theorem extK_some (i : Nat) (vs : List LV) : extK i h (some (.tup vs)) = wh h vs[i]? := rfl
def lenK (P : Program) (t : TypeId) (h : H) : Option (List LV) → Option (LV × H)
  | some [x] => wh h (lenL P t x)
  | _ => none
theorem op_len (x : Array Operand) (t : TypeId) : opL P C s (.call ⟨.builtin .len, x, #[t]⟩) h = lenK P t h (oprs s x.toList) := by
  simp only [opL, callL, lenK, map_wh]
  cases oprs s x.toList with
  | none => rfl
  | some l =>
    cases l with
    | nil => rfl
    | cons a l => cases l <;> rfl
theorem lenK_some (t : TypeId) (x : LV) : lenK P t h (some [x]) = wh h (lenL P t x) := rfl
def appK (P : Program) (t u : TypeId) (h : H) : Option (List LV) → Option (LV × H)
  | some [x, y] => appendL P t u x y h
  | _ => none
theorem op_append (x : Array Operand) (t u : TypeId) : opL P C s (.call ⟨.builtin .append, x, #[t, u]⟩) h = appK P t u h (oprs s x.toList) := by
  simp only [opL, callL, appK]
  cases oprs s x.toList with
  | none => rfl
  | some l =>
    match l with
    | [] => rfl
    | [_] => rfl
    | [_, _] => rfl
    | _ :: _ :: _ :: _ => rfl
theorem appK_some (t u : TypeId) (x y : LV) : appK P t u h (some [x, y]) = appendL P t u x y h := rfl
def mmK (f : LV → LV → Option LV) (h : H) : Option (List LV) → Option (LV × H)
  | some (x :: xs) => wh h (foldL f x xs)
  | _ => none
theorem op_max (x : Array Operand) (ts : Array TypeId) : opL P C s (.call ⟨.builtin .max, x, ts⟩) h = mmK max2L h (oprs s x.toList) := by
  simp only [opL, callL, map_wh]; rcases oprs s x.toList with _ | l <;> rfl
theorem op_min (x : Array Operand) (ts : Array TypeId) : opL P C s (.call ⟨.builtin .min, x, ts⟩) h = mmK min2L h (oprs s x.toList) := by
  simp only [opL, callL, map_wh]; rcases oprs s x.toList with _ | l <;> rfl
theorem mmK_some (f : LV → LV → Option LV) (x : LV) (xs : List LV) : mmK f h (some (x :: xs)) = wh h (foldL f x xs) := rfl
theorem foldL_nil (f : LV → LV → Option LV) (x : LV) : foldL f x [] = some x := rfl
def foldK (f : LV → LV → Option LV) (l : List LV) : Option LV → Option LV
  | some z => foldL f z l
  | none => none
theorem foldL_cons (f : LV → LV → Option LV) (x y : LV) (l : List LV) : foldL f x (y :: l) = foldK f l (f x y) := by
  simp only [foldL]; cases f x y <;> rfl
theorem foldK_some (f : LV → LV → Option LV) (l : List LV) (z : LV) : foldK f l (some z) = foldL f z l := rfl
theorem max2_int (k k' : IntKind) (x y : Int) : max2L (.int k x) (.int k' y) = some (.int k (max x y)) := by
  simp only [max2L]; congr 2; split <;> omega
theorem min2_int (k k' : IntKind) (x y : Int) : min2L (.int k x) (.int k' y) = some (.int k (min x y)) := by
  simp only [min2L]; congr 2; split <;> omega
def callK (C : Callee') (h : H) : Option LV → Option (List LV) → Option (LV × H)
  | some (.fn k first caps), some args => C k (first ++ args ++ caps) h
  | _, _ => none
theorem op_call (f : Operand) (x : Array Operand) (ts : Array TypeId) : opL P C s (.call ⟨.value f, x, ts⟩) h = callK C h (opr s f) (oprs s x.toList) := by
  simp only [opL, callL]; rcases opr s f with _ | v
  · rfl
  · cases oprs s x.toList <;> cases v <;> rfl
theorem callK_some (k : Nat) (first caps args : List LV) : callK C h (some (.fn k first caps)) (some args) = C k (first ++ args ++ caps) h := rfl


def mkiK (P : Program) (t : TypeId) (h : H) : Option LV → Option (LV × H)
  | some v => match P.underlying t with
    | some (.interface _) => none
    | some _ => some (.iface t v, h)
    | none => none
  | none => none
theorem op_mki (t : TypeId) (x : Operand) : opL P C s (.makeInterface t x) h = mkiK P t h (opr s x) := by
  simp only [opL, mkiK]
  cases opr s x with
  | none => cases P.underlying t with
    | none => rfl
    | some d => cases d <;> rfl
  | some v => cases P.underlying t with
    | none => rfl
    | some d => cases d <;> rfl
theorem mkiK_ptr {t e : TypeId} (hu : P.underlying t = some (.pointer e)) (v : LV) : mkiK P t h (some v) = some (.iface t v, h) := by simp only [mkiK, hu]
theorem mkiK_struct {t : TypeId} {fs : Array Field} (hu : P.underlying t = some (.struct fs)) (v : LV) : mkiK P t h (some v) = some (.iface t v, h) := by simp only [mkiK, hu]
def invK (P : Program) (C : Callee') (name : String) (h : H) : Option LV → Option (List LV) → Option (LV × H)
  | some (.iface t v), some args => match methodL P t name with
    | some f => C f (v :: args) h
    | none => none
  | _, _ => none
theorem op_inv (r : Operand) (name : String) (x : Array Operand) (ts : Array TypeId) : opL P C s (.call ⟨.invoke r name, x, ts⟩) h = invK P C name h (opr s r) (oprs s x.toList) := by
  simp only [opL, callL, invK]
  rcases opr s r with _ | v
  · cases oprs s x.toList <;> rfl
  · cases oprs s x.toList <;> cases v <;> rfl
def invM (C : Callee') (h : H) (v : LV) (args : List LV) : Option Nat → Option (LV × H)
  | some f => C f (v :: args) h
  | none => none
theorem invK_some (name : String) (t : TypeId) (v : LV) (args : List LV) : invK P C name h (some (.iface t v)) (some args) = invM C h v args (methodL P t name) := by
  simp only [invK]; cases methodL P t name <;> rfl
theorem invM_some (f : Nat) (v : LV) (args : List LV) : invM C h v args (some f) = C f (v :: args) h := rfl
def asK (P : Program) (t : TypeId) (ok : Bool) (h : H) : Option LV → Option (LV × H)
  | some v => wh h (assertL P t ok v)
  | none => none
theorem op_as (x : Operand) (u t : TypeId) (ok : Bool) : opL P C s (.typeAssert x u t ok) h = asK P t ok h (opr s x) := by
  simp only [opL, map_wh]; cases opr s x <;> rfl
theorem asK_same {t : TypeId} {fs : Array Field} (hu : P.underlying t = some (.struct fs)) (v : LV) : asK P t true h (some (.iface t v)) = some (.tup [v, .bool true], h) := by
  simp only [asK, assertL, hu]; simp [wh]
/-! ### arrays that are written in place -/
theorem len_sm {t e : TypeId} (hu : P.underlying t = some (.slice e)) (m n sz : Nat) : lenL P t (.sm m n sz) = some (.int .i64 n) := by simp only [lenL, hu]
theorem len_nilm {t e : TypeId} (hu : P.underlying t = some (.slice e)) : lenL P t .nilm = some (.int .i64 0) := by simp only [lenL, hu]
theorem ia_sm {t e : TypeId} {sz : Nat} (hu : P.underlying t = some (.slice e)) (hs : sizeT P e = some sz) (m n : Nat) (k : IntKind) (i : Int) (h0 : 0 ≤ i) (hi : i < n) :
    indexAddrL P t (.sm m n sz) (.int k i) = some (.pm m (i.toNat * sz)) := by simp only [indexAddrL, hu, hs, h0, hi, and_self, if_true]
theorem slice_sm {t e : TypeId} {sz : Nat} (hu : P.underlying t = some (.slice e)) (hs : sizeT P e = some sz) (m n : Nat) (k : IntKind) (q : Int) (h0 : 0 ≤ q) (hq : q ≤ n) :
    sliceL P t (.sm m n sz) none (some (.int k q)) h = some (.sm m q.toNat sz, h) := by
  simp only [sliceL, hu, hs, Option.isNone_none, and_self, if_true, boundL, h0, hq]

/-! ### ... of a region that draws its order and writes -/
theorem opW_q (D : List Nat) (o : Op) : opW P C .q D s o h = opL P C s o h := rfl
theorem opW_a (D : List Nat) (o : Op) : opW P C .a D s o h = opL P C s o h := rfl
def isMO : Option LV → Bool
  | some v => isM v
  | none => false
def pK (r : Option (LV × H)) : Bool → Option (LV × H)
  | true => none
  | false => r
theorem pK_no (r : Option (LV × H)) : pK r false = r := rfl
theorem isMO_some (v : LV) : isMO (some v) = isM v := rfl
theorem isM_sl (r hi sz : Nat) (xs : List LV) : isM (.sl r hi sz xs) = false := rfl
theorem isM_nils : isM .nils = false := rfl
theorem isM_str (a : ByteArray) : isM (.str a) = false := rfl
theorem pmO_eq (o : Op) : pmO s o = o.operands.any fun x => isMO (opr s x) := rfl
theorem opW_p (D : List Nat) (b : Builtin) (x y : Operand) (ts : Array TypeId) : opW P C .p D s (.call ⟨.builtin b, #[x, y], ts⟩) h = pK (opL P C s (.call ⟨.builtin b, #[x, y], ts⟩) h) (isMO (opr s x) || isMO (opr s y)) := by
  have e : pmO s (.call ⟨.builtin b, #[x, y], ts⟩) = (isMO (opr s x) || isMO (opr s y)) := by
    rw [pmO_eq]
    simp [Op.operands, Call.operands]
  simp only [opW, e]
  cases (isMO (opr s x) || isMO (opr s y)) <;> rfl
theorem opW_pc (D : List Nat) (a b : TypeId) (x : Operand) : opW P C .p D s (.convert a b x) h = pK (opL P C s (.convert a b x) h) (isMO (opr s x)) := by
  have e : pmO s (.convert a b x) = isMO (opr s x) := by
    rw [pmO_eq]
    simp [Op.operands]
  simp only [opW, e]
  cases isMO (opr s x) <;> rfl
def vK (P : Program) (t : TypeId) (h : H) : Option LV → Option (LV × H)
  | some (.cptr v) => wh h (partL P t v.cells 0)
  | _ => none
theorem opW_v (D : List Nat) (t : TypeId) (x : Operand) : opW P C .v D s (.load t x) h = vK P t h (opr s x) := by
  simp only [opW, addrO, Option.bind_some, op_load]
  rcases opr s x with _ | v
  · rfl
  · cases v <;> rfl
theorem vK_some (t : TypeId) (v : LV) : vK P t h (some (.cptr v)) = wh h (partL P t v.cells 0) := rfl
/-- Is it another variable than b? -/
def ne1 (b : Nat) : LV → Bool
  | .ptr c _ => decide (c ≠ b)
  | _ => true
def neD (s : S) (b : Nat) : List Nat → Bool
  | [] => true
  | y :: D => ne1 b (s y) && neD s b D
theorem neD_eq (s : S) (b : Nat) (D : List Nat) : neD s b D = D.all fun y => match s y with
    | .ptr c _ => decide (c ≠ b)
    | _ => true := by
  induction D with
  | nil => rfl
  | cons y D ih => simp only [neD, List.all_cons, ih]; congr 1
theorem ne1_ptr {b c o : Nat} (h : c ≠ b) : ne1 b (.ptr c o) = true := by simp [ne1, h]
theorem ne1_tup (b : Nat) (l : List LV) : ne1 b (.tup l) = true := rfl
theorem ne1_undef (b : Nat) : ne1 b .undef = true := rfl
theorem ne1_cptr (b : Nat) (v : LV) : ne1 b (.cptr v) = true := rfl
theorem ne1_nilp (b : Nat) : ne1 b .nilp = true := rfl
theorem neD_nil (b : Nat) : neD s b [] = true := rfl
theorem neD_cons (b y : Nat) (D : List Nat) : neD s b (y :: D) = (ne1 b (s y) && neD s b D) := rfl
def lK (P : Program) (D : List Nat) (s : S) (t : TypeId) (h : H) : Option LV → Option (LV × H)
  | some (.ptr b off) => if neD s b D = true then wh h (loadL P t (.ptr b off) h) else none
  | some (.cptr v) => wh h (partL P t v.cells 0)
  | _ => none
theorem opW_l (D : List Nat) (t : TypeId) (x : Operand) : opW P C .l D s (.load t x) h = lK P D s t h (opr s x) := by
  simp only [opW, addrO, Option.bind_some, op_load, chkW]
  rcases opr s x with _ | v
  · rfl
  · cases v <;> try rfl
    simp only [lK, loadO, neD_eq]; rfl
theorem lK_ptr (D : List Nat) (t : TypeId) (b off : Nat) : lK P D s t h (some (.ptr b off)) = if neD s b D = true then wh h (loadL P t (.ptr b off) h) else none := rfl
theorem lK_cptr (D : List Nat) (t : TypeId) (v : LV) : lK P D s t h (some (.cptr v)) = wh h (partL P t v.cells 0) := rfl
def sK (P : Program) (D : List Nat) (s : S) (t : TypeId) (h : H) : Option LV → Option LV → Option (LV × H)
  | some (.ptr b off), some v => if neD s b D = true then storeK P t b off v h (h.get b) else none
  | _, _ => none
theorem opW_s (D : List Nat) (t : TypeId) (a x : Operand) : opW P C .s D s (.store t a x) h = sK P D s t h (opr s a) (opr s x) := by
  simp only [opW, addrO, Option.bind_some, op_store, chkW]
  rcases opr s a with _ | v
  · rfl
  · rcases opr s x with _ | z
    · cases v <;> simp [storeO, sK]
    · cases v <;> try rfl
      simp only [sK, storeO, neD_eq]; rfl
theorem sK_ptr (D : List Nat) (t : TypeId) (b off : Nat) (v : LV) : sK P D s t h (some (.ptr b off)) (some v) = if neD s b D = true then storeK P t b off v h (h.get b) else none := rfl
def downK (h : H) : Option (LV × H) → Option (LV × H)
  | some (v, h') => some (v, h.down h')
  | none => none
theorem opW_r (D : List Nat) (o : Op) : opW P C .r D s o h = downK h (opL P C s o h.up) := by
  simp only [opW, downK]
  show (match opL P C s o h.up with
    | some (v, h') => some (v, { h' with lob := h.lob, lor := h.lor })
    | none => none) = _
  cases opL P C s o h.up <;> rfl
theorem downK_some (h' : H) (v : LV) : downK h (some (v, h')) = some (v, h.down h') := rfl
def keptD (s : S) (h h' : H) : List Nat → Bool
  | [] => true
  | y :: D => kept1 h h' (s y) && keptD s h h' D
theorem keptD_eq (s : S) (h h' : H) (D : List Nat) : keptD s h h' D = D.all fun x => kept1 h h' (s x) := by
  induction D with
  | nil => rfl
  | cons y D ih => simp only [keptD, List.all_cons, ih]
def wK (D : List Nat) (s : S) (h : H) : Option (LV × H) → Option (LV × H)
  | some (v, h') => if keptD s h h' D = true then some (v, h') else none
  | none => none
theorem opW_w0 (o : Op) : opW P C .w [] s o h = opL P C s o h := by
  simp only [opW]
  rcases opL P C s o h with _ | ⟨v, h'⟩ <;> rfl
theorem opW_w (y : Nat) (D : List Nat) (o : Op) : opW P C .w (y :: D) s o h = wK (y :: D) s h (opL P C s o h) := by
  simp only [opW, wK]
  rcases opL P C s o h with _ | ⟨v, h'⟩
  · rfl
  · simp only [keptD_eq]
theorem wK_some (D : List Nat) (h' : H) (v : LV) : wK D s h (some (v, h')) = if keptD s h h' D = true then some (v, h') else none := rfl
theorem keptD_nil (h' : H) : keptD s h h' [] = true := rfl
theorem keptD_cons (h' : H) (y : Nat) (D : List Nat) : keptD s h h' (y :: D) = (kept1 h h' (s y) && keptD s h h' D) := rfl
theorem kept_ptr (h' : H) (b o : Nat) : kept1 h h' (.ptr b o) = boxB (h'.get b) (h.get b) := rfl
theorem kept_sl (h' : H) (r hi sz : Nat) (xs : List LV) : kept1 h h' (.sl r hi sz xs) = decide (h'.rget r = h.rget r) := rfl
theorem kept_tup (h' : H) (l : List LV) : kept1 h h' (.tup l) = true := rfl
theorem kept_undef (h' : H) : kept1 h h' .undef = true := rfl
theorem kept_cptr (h' : H) (v : LV) : kept1 h h' (.cptr v) = true := rfl
theorem kept_nils (h' : H) : kept1 h h' .nils = true := rfl
theorem kept_self (v : LV) : kept1 h h v = true := by cases v <;> simp [kept1, boxB_refl]
theorem boxB_same {a : Option Box} : boxB a a = true := boxB_refl a

end Go.LM
