import Derived.Test.YtpmpdidgbbgeeaaLmW
namespace Go.LM
variable {P : Program} {T : Nat → Option LV}

/-! ### running, with what comes after on a list -/
inductive Fk
  | seq (b : RC)
  | blk (id : Nat)

noncomputable def app (P : Program) (T : Nat → Option LV) : List Fk → Option (X × S × H) → Option (X × S × H)
  | [], r => r
  | .seq b :: k, r => app P T k (exS P T b r)
  | .blk id :: k, r => app P T k (exB id r)

/-- It ends, and the end is so. -/
def Ru (P : Program) (T : Nat → Option LV) (k : List Fk) (r : Option (X × S × H)) (Q : X × S × H → Prop) : Prop := ∃ r', app P T k r = some r' ∧ Q r'
/-- Operations end, and then the rest. -/
def Ro (P : Program) (T : Nat → Option LV) (k : List Fk) (r : Option (S × H)) (Q : X × S × H → Prop) : Prop := Ru P T k (exO r) Q
def Rd (P : Program) (T : Nat → Option LV) (k : List Fk) (h0 : H) (r : Option (S × H)) (Q : X × S × H → Prop) : Prop := Ru P T k (exD h0 r) Q

variable {k : List Fk} {Q : X × S × H → Prop} {s : S} {h h0 : H} {os : List RO} {d : Option Nat}
theorem ru_nil (r : X × S × H) : Ru P T [] (some r) Q = Q r := by simp [Ru, app]
theorem ru_skip : Ru P T k (ex P T .skip s h) Q = Ru P T k (some (.normal, s, h)) Q := rfl
theorem ru_ret : Ru P T k (ex P T .ret s h) Q = Ru P T k (some (.ret, s, h)) Q := rfl
theorem ru_exit (id : Nat) : Ru P T k (ex P T (.exit id) s h) Q = Ru P T k (some (.exit id, s, h)) Q := rfl
theorem ru_seq (a b : RC) : Ru P T k (ex P T (.seq a b) s h) Q = Ru P T (.seq b :: k) (ex P T a s h) Q := rfl
theorem ru_blk (id : Nat) (c : RC) : Ru P T k (ex P T (.block id c) s h) Q = Ru P T (.blk id :: k) (ex P T c s h) Q := rfl
theorem ru_seq_n (b : RC) : Ru P T (.seq b :: k) (some (.normal, s, h)) Q = Ru P T k (ex P T b s h) Q := rfl
theorem ru_seq_e (b : RC) (id : Nat) : Ru P T (.seq b :: k) (some (.exit id, s, h)) Q = Ru P T k (some (.exit id, s, h)) Q := rfl
theorem ru_seq_r (b : RC) : Ru P T (.seq b :: k) (some (.ret, s, h)) Q = Ru P T k (some (.ret, s, h)) Q := rfl
theorem ru_blk_n (id : Nat) : Ru P T (.blk id :: k) (some (.normal, s, h)) Q = Ru P T k (some (.normal, s, h)) Q := rfl
theorem ru_blk_r (id : Nat) : Ru P T (.blk id :: k) (some (.ret, s, h)) Q = Ru P T k (some (.ret, s, h)) Q := rfl
theorem ru_blk_e (id : Nat) : Ru P T (.blk id :: k) (some (.exit id, s, h)) Q = Ru P T k (some (.normal, s, h)) Q := by simp [Ru, app, exB]
theorem ru_blk_o {id id' : Nat} (hn : id' ≠ id) : Ru P T (.blk id :: k) (some (.exit id', s, h)) Q = Ru P T k (some (.exit id', s, h)) Q := by simp [Ru, app, exB, hn]
theorem ru_ops (l : List RO) : Ru P T k (ex P T (.ops l) s h) Q = Ro P T k (opsR P (runI P T) l s h) Q := by rw [ex_ops]; rfl
theorem ru_draw (l : List RO) : Ru P T k (ex P T (.draw l) s h) Q = Rd P T k h (opsRD P (runI P T) l s h) Q := by rw [ex_draw]; rfl
theorem ru_drawF (l : List RO) : Ru P T k (ex P T (.drawF l) s h) Q = Rd P T k h (opsRD P (runI P T) l s (fzR P s l h)) Q := by rw [ex_drawF]; rfl
theorem ru_drawW (l : List RW) : Ru P T k (ex P T (.drawW l) s h) Q = Ro P T k (opsRW P (runI P T) l s h) Q := by rw [ex_drawW]; rfl
theorem ru_drawWF (l : List RW) : Ru P T k (ex P T (.drawWF l) s h) Q = Ro P T k (opsRW P (runI P T) l s (fzR P s (l.map (·.o)) h)) Q := by rw [ex_drawWF]; rfl
theorem ro_some : Ro P T k (some (s, h)) Q = Ru P T k (some (.normal, s, h)) Q := rfl
theorem rd_some : Rd P T k h0 (some (s, h)) Q = Ru P T k (some (.normal, s, h0.down h)) Q := rfl
/-- A choice. -/
def Rc (P : Program) (T : Nat → Option LV) (k : List Fk) (a b : RC) (s : S) (h : H) (c : Option LV) (Q : X × S × H → Prop) : Prop := Ru P T k (exC P T a b s h c) Q
theorem ru_cond (c : Operand) (a b : RC) : Ru P T k (ex P T (.cond c a b) s h) Q = Rc P T k a b s h (opr s c) Q := rfl
theorem rc_t (a b : RC) : Rc P T k a b s h (some (.bool true)) Q = Ru P T k (ex P T a s h) Q := rfl
theorem rc_f (a b : RC) : Rc P T k a b s h (some (.bool false)) Q = Ru P T k (ex P T b s h) Q := rfl

/-! #### where a truth is not known -/
theorem split_c {a b : RC} {p : Prop} [Decidable p] (h1 : p → Rc P T k a b s h (some (.bool true)) Q) (h2 : ¬p → Rc P T k a b s h (some (.bool false)) Q) :
    Rc P T k a b s h (some (.bool (decide p))) Q := by
  by_cases hp : p
  · rw [decide_eq_true hp]; exact h1 hp
  · rw [decide_eq_false hp]; exact h2 hp
theorem split_cb {a b : RC} {p : Bool} (h1 : p = true → Rc P T k a b s h (some (.bool true)) Q) (h2 : p = false → Rc P T k a b s h (some (.bool false)) Q) :
    Rc P T k a b s h (some (.bool p)) Q := by
  cases p
  · exact h2 rfl
  · exact h1 rfl
theorem split_g {C : Callee'} {op : Op} {w : Bool} {p : Prop} [Decidable p] (h1 : p → Ro P T k (opsG P C op os d s h w (.bool true)) Q) (h2 : ¬p → Ro P T k (opsG P C op os d s h w (.bool false)) Q) :
    Ro P T k (opsG P C op os d s h w (.bool (decide p))) Q := by
  by_cases hp : p
  · rw [decide_eq_true hp]; exact h1 hp
  · rw [decide_eq_false hp]; exact h2 hp
theorem split_gb {C : Callee'} {op : Op} {w : Bool} {p : Bool} (h1 : p = true → Ro P T k (opsG P C op os d s h w (.bool true)) Q) (h2 : p = false → Ro P T k (opsG P C op os d s h w (.bool false)) Q) :
    Ro P T k (opsG P C op os d s h w (.bool p)) Q := by
  cases p
  · exact h2 rfl
  · exact h1 rfl
theorem split_gd {C : Callee'} {op : Op} {w : Bool} {p : Prop} [Decidable p] (h1 : p → Rd P T k h0 (opsGD P C op os d s h w (.bool true)) Q) (h2 : ¬p → Rd P T k h0 (opsGD P C op os d s h w (.bool false)) Q) :
    Rd P T k h0 (opsGD P C op os d s h w (.bool (decide p))) Q := by
  by_cases hp : p
  · rw [decide_eq_true hp]; exact h1 hp
  · rw [decide_eq_false hp]; exact h2 hp
theorem split_gdb {C : Callee'} {op : Op} {w : Bool} {p : Bool} (h1 : p = true → Rd P T k h0 (opsGD P C op os d s h w (.bool true)) Q) (h2 : p = false → Rd P T k h0 (opsGD P C op os d s h w (.bool false)) Q) :
    Rd P T k h0 (opsGD P C op os d s h w (.bool p)) Q := by
  cases p
  · exact h2 rfl
  · exact h1 rfl
theorem split_cn {a b : RC} {p : Prop} [Decidable p] (h1 : p → Rc P T k a b s h (some (.bool false)) Q) (h2 : ¬p → Rc P T k a b s h (some (.bool true)) Q) :
    Rc P T k a b s h (some (.bool (!decide p))) Q := by
  by_cases hp : p
  · rw [decide_eq_true hp]; exact h1 hp
  · rw [decide_eq_false hp]; exact h2 hp
theorem split_gn {C : Callee'} {op : Op} {w : Bool} {p : Prop} [Decidable p] (h1 : p → Ro P T k (opsG P C op os d s h w (.bool false)) Q) (h2 : ¬p → Ro P T k (opsG P C op os d s h w (.bool true)) Q) :
    Ro P T k (opsG P C op os d s h w (.bool (!decide p))) Q := by
  by_cases hp : p
  · rw [decide_eq_true hp]; exact h1 hp
  · rw [decide_eq_false hp]; exact h2 hp
theorem split_gdn {C : Callee'} {op : Op} {w : Bool} {p : Prop} [Decidable p] (h1 : p → Rd P T k h0 (opsGD P C op os d s h w (.bool false)) Q) (h2 : ¬p → Rd P T k h0 (opsGD P C op os d s h w (.bool true)) Q) :
    Rd P T k h0 (opsGD P C op os d s h w (.bool (!decide p))) Q := by
  by_cases hp : p
  · rw [decide_eq_true hp]; exact h1 hp
  · rw [decide_eq_false hp]; exact h2 hp
theorem split_gw {C : Callee'} {c : Cl} {D : List Nat} {op : Op} {ow : List RW} {w : Bool} {p : Prop} [Decidable p] (h1 : p → Ro P T k (opsGW P C c D op ow d s h w (.bool true)) Q) (h2 : ¬p → Ro P T k (opsGW P C c D op ow d s h w (.bool false)) Q) :
    Ro P T k (opsGW P C c D op ow d s h w (.bool (decide p))) Q := by
  by_cases hp : p
  · rw [decide_eq_true hp]; exact h1 hp
  · rw [decide_eq_false hp]; exact h2 hp
theorem split_gwn {C : Callee'} {c : Cl} {D : List Nat} {op : Op} {ow : List RW} {w : Bool} {p : Prop} [Decidable p] (h1 : p → Ro P T k (opsGW P C c D op ow d s h w (.bool false)) Q) (h2 : ¬p → Ro P T k (opsGW P C c D op ow d s h w (.bool true)) Q) :
    Ro P T k (opsGW P C c D op ow d s h w (.bool (!decide p))) Q := by
  by_cases hp : p
  · rw [decide_eq_true hp]; exact h1 hp
  · rw [decide_eq_false hp]; exact h2 hp
theorem split_gwb {C : Callee'} {c : Cl} {D : List Nat} {op : Op} {ow : List RW} {w : Bool} {p : Bool} (h1 : p = true → Ro P T k (opsGW P C c D op ow d s h w (.bool true)) Q) (h2 : p = false → Ro P T k (opsGW P C c D op ow d s h w (.bool false)) Q) :
    Ro P T k (opsGW P C c D op ow d s h w (.bool p)) Q := by
  cases p
  · exact h2 rfl
  · exact h1 rfl
/-- A choice between two values. -/
theorem pick_b (a b : LV) (p : Bool) : pickK h (some a) (some b) (some (.bool p)) = some (if p = true then a else b, h) := by cases p <;> rfl
theorem split_p {C : Callee'} {a b : Option LV} {p : Bool} (h1 : p = true → Ro P T k (opsK P C os d s (pickK h a b (some (.bool true)))) Q)
    (h2 : p = false → Ro P T k (opsK P C os d s (pickK h a b (some (.bool false)))) Q) : Ro P T k (opsK P C os d s (pickK h a b (some (.bool p)))) Q := by
  cases p
  · exact h2 rfl
  · exact h1 rfl
theorem split_pd {C : Callee'} {a b : Option LV} {p : Bool} (h1 : p = true → Rd P T k h0 (opsKD P C os d s (pickK h a b (some (.bool true)))) Q)
    (h2 : p = false → Rd P T k h0 (opsKD P C os d s (pickK h a b (some (.bool false)))) Q) : Rd P T k h0 (opsKD P C os d s (pickK h a b (some (.bool p)))) Q := by
  cases p
  · exact h2 rfl
  · exact h1 rfl

/-- Rewriting what is run. -/
theorem ro_call {C : Callee'} {r : Option (LV × H)} {v : LV} {h' : H} (hr : r = some (v, h')) (hk : Ro P T k (opsK P C os d s (some (v, h'))) Q) : Ro P T k (opsK P C os d s r) Q := by
  rw [hr]; exact hk
theorem rd_call {C : Callee'} {r : Option (LV × H)} {v : LV} {h' : H} (hr : r = some (v, h')) (hk : Rd P T k h0 (opsKD P C os d s (some (v, h'))) Q) : Rd P T k h0 (opsKD P C os d s r) Q := by
  rw [hr]; exact hk

theorem Ru.mono {Q' : X × S × H → Prop} {r : Option (X × S × H)} (hr : Ru P T k r Q) (hq : ∀ r, Q r → Q' r) : Ru P T k r Q' := by
  obtain ⟨r', h1, h2⟩ := hr
  exact ⟨r', h1, hq _ h2⟩

/-- A call that leaves all as it was: the memory behind it, by a name. -/
theorem ro_kcall {f : Nat} {args : List LV} {v : LV} (hr : runI P T f args h = some (v, hp P T f args h)) (w : WF h) (hk : ∀ hh, Keep h hh → WF hh → Ro P T k (opsK P (runI P T) os d s (some (v, hh))) Q) :
    Ro P T k (opsK P (runI P T) os d s (runI P T f args h)) Q := by
  rw [hr]; exact hk _ (hp_keep _ _ _) (w.keep (hp_keep _ _ _))
theorem rw_kcall {ow : List RW} {f : Nat} {args : List LV} {v : LV} (hr : runI P T f args h = some (v, hp P T f args h)) (w : WF h) (hk : ∀ hh, Keep h hh → WF hh → Ro P T k (opsKW P (runI P T) ow d s (some (v, hh))) Q) :
    Ro P T k (opsKW P (runI P T) ow d s (runI P T f args h)) Q := by
  rw [hr]; exact hk _ (hp_keep _ _ _) (w.keep (hp_keep _ _ _))
theorem rw_kcallD {ow : List RW} {f : Nat} {args : List LV} {v : LV} (hr : runI P T f args h.up = some (v, hp P T f args h.up)) (w : WF h) (hk : ∀ hh, Keep h hh → WF hh → Ro P T k (opsKW P (runI P T) ow d s (some (v, hh))) Q) :
    Ro P T k (opsKW P (runI P T) ow d s (downK h (runI P T f args h.up))) Q := by
  rw [hr, downK_some]
  have hpre := (hp_keep (P := P) (T := T) f args h.up).pre
  have k1 : Keep h (h.down (hp P T f args h.up)) := Pre.down ⟨⟨hpre.len.1, hpre.len.2⟩, hpre.kb, hpre.kr⟩
  exact hk _ k1 (w.keep k1)
/-- A loop. -/
theorem ru_loop {A : Type} {c : RC} (m : A → Nat) (I : A → S → H → Prop) (a : A) (h1 : I a s h)
    (step : ∀ a s h, I a s h → Ru P T [] (ex P T c s h) fun r => (∃ a', r.1 = .normal ∧ m a' < m a ∧ I a' r.2.1 r.2.2) ∨ (r.1 ≠ .normal ∧ Ru P T k (some r) Q)) :
    Ru P T k (ex P T (.loop c) s h) Q := by
  obtain ⟨r, hr, hq⟩ := loop_inv (f := ex P T c) m I (fun r => Ru P T k (some r) Q) (by
    intro a s h hI
    obtain ⟨r, h1, h2⟩ := step a s h hI
    obtain ⟨x, s', h'⟩ := r
    rcases h2 with ⟨a', e, hm, hI'⟩ | ⟨hne, hq⟩
    · dsimp only at e; subst e
      exact .inl ⟨s', h', a', h1, hm, hI'⟩
    · exact .inr ⟨_, h1, hne, hq⟩) a s h h1
  rw [ex_loop]
  obtain ⟨r', h3, h4⟩ := hq
  exact ⟨r', by rw [hr]; exact h3, h4⟩

/-- A function's body ends so. -/
def Fin (P : Program) (res : List ResultVar) (Q : LV → H → Prop) (r : X × S × H) : Prop := ∃ v h', bodyK P res (some r) = some (v, h') ∧ Q v h'
def FinK (Q : LV → H → Prop) (r : Option (LV × H)) : Prop := ∃ v h', r = some (v, h') ∧ Q v h'
variable {R : LV → H → Prop}
theorem fin_n (res : List ResultVar) : Fin P res R (.normal, s, h) = FinK R (resK h (resL P s h res)) := by simp only [Fin, FinK, bodyK_n]
theorem fin_r (res : List ResultVar) : Fin P res R (.ret, s, h) = FinK R (resK h (resL P s h res)) := by simp only [Fin, FinK, bodyK_r]
theorem finK_some (v : LV) : FinK R (some (v, h)) = R v h := by
  simp only [FinK, Option.some.injEq, Prod.mk.injEq]
  exact propext ⟨fun ⟨_, _, ⟨a, b⟩, c⟩ => a ▸ b ▸ c, fun c => ⟨_, _, ⟨rfl, rfl⟩, c⟩⟩

/-- A call that does what is said. -/
theorem calls_of {f : Nat} {rc : RC} {res : List ResultVar} {n : Nat} {args : List LV} (hT : T f = none) (hF : resF P f n = some ⟨n, rc, res⟩) (hn : args.length = n)
    (hr : Ru P T [] (ex P T rc (startL args) h) (Fin P res R)) : ∃ v h', runI P T f args h = some (v, h') ∧ R v h' := by
  obtain ⟨r, h1, v, h', h2, h3⟩ := hr
  refine ⟨v, h', runI_of (F := ⟨n, rc, res⟩) hT hF hn ?_, h3⟩
  rw [body_eq]
  have : ex P T rc (startL args) h = some r := h1
  rw [this]; exact h2
/-- ... and leaves all as it was. -/
theorem pure_of {f : Nat} {rc : RC} {res : List ResultVar} {n : Nat} {args : List LV} {v : LV} (hT : T f = none) (hF : resF P f n = some ⟨n, rc, res⟩) (hn : args.length = n)
    (hr : Ru P T [] (ex P T rc (startL args) h) (Fin P res fun u h' => u = v ∧ Keep h h')) : runI P T f args h = some (v, hp P T f args h) := by
  obtain ⟨u, h', h1, rfl, h3⟩ := calls_of hT hF hn hr
  exact hp_eq h1 h3

theorem true_of {f : Nat} {rc : RC} {res : List ResultVar} {n : Nat} {args : List LV} (hT : T f = none) (hF : resF P f n = some ⟨n, rc, res⟩) (hn : args.length = n)
    (hr : Ru P T [] (ex P T rc (startL args) h) (Fin P res fun u _ => u = .bool true)) : ∃ h', runI P T f args h = some (.bool true, h') := by
  obtain ⟨v, h', h1, rfl⟩ := calls_of hT hF hn hr
  exact ⟨h', h1⟩

/-! ### where numbers stand -/
theorem ltS {b n : Nat} (hb : b ≤ n) : b < n + 1 := by omega
theorem leS {b n : Nat} (hb : b ≤ n) : b ≤ n + 1 := by omega
theorem lt_hp {f : Nat} {args : List LV} {h : H} {b : Nat} (hb : b < h.len) : b < (hp P T f args h).len := by have := (hp_keep (P := P) (T := T) f args h).len; omega
theorem le_hp {f : Nat} {args : List LV} {h : H} {b : Nat} (hb : b ≤ h.len) : b ≤ (hp P T f args h).len := by have := (hp_keep (P := P) (T := T) f args h).len; omega
theorem rlt_hp {f : Nat} {args : List LV} {h : H} {b : Nat} (hb : b < h.rlen) : b < (hp P T f args h).rlen := by have := (hp_keep (P := P) (T := T) f args h).rlen; omega
theorem rle_hp {f : Nat} {args : List LV} {h : H} {b : Nat} (hb : b ≤ h.rlen) : b ≤ (hp P T f args h).rlen := by have := (hp_keep (P := P) (T := T) f args h).rlen; omega
theorem get_put_lt {h : H} {a b : Nat} {B : Box} (hb : b < a) : (h.put a B).get b = h.get b := get_put_ne (by omega)
theorem get_put_gt {h : H} {a b : Nat} {B : Box} (hb : a < b) : (h.put a B).get b = h.get b := get_put_ne (by omega)
theorem rget_srow_lt {h : H} {a b n : Nat} (hb : b < a) : (h.srow a n).rget b = h.rget b := rget_srow_ne (by omega)
theorem rget_srow_gt {h : H} {a b n : Nat} (hb : a < b) : (h.srow a n).rget b = h.rget b := rget_srow_ne (by omega)
theorem keep_refl (h : H) : Keep h h := .refl h
theorem keep_alloc {h h' : H} {c : List LV} (k : Keep h h') : Keep h (h'.alloc c) := k.alloc c
theorem keep_nrow {h h' : H} {n : Nat} (k : Keep h h') : Keep h (h'.nrow n) := k.nrow n
theorem keep_put {h h' : H} {b : Nat} {B : Box} (hb : h.len ≤ b) (k : Keep h h') : Keep h (h'.put b B) := k.put hb B
theorem keep_srow {h h' : H} {r n : Nat} (hb : h.rlen ≤ r) (k : Keep h h') : Keep h (h'.srow r n) := k.srow hb n
theorem keep_hp {h h' : H} {f : Nat} {args : List LV} (k : Keep h h') : Keep h (hp P T f args h') := k.hp f args
theorem keep_down {h a b : H} (k : Keep h a) (p : Pre a b) : Keep h (a.down b) := k.down p
theorem pre_refl (h : H) : Pre h h := .refl h
theorem pre_up {h h' : H} (p : Pre h h') : Pre h h'.up := p.up
theorem pre_hp {h h' : H} {f : Nat} {args : List LV} (p : Pre h h') : Pre h (hp P T f args h') := p.hp f args
theorem pre_alloc {h h' : H} {c : List LV} (p : Pre h h') : Pre h (h'.alloc c) := p.alloc c
theorem pre_nrow {h h' : H} {n : Nat} (p : Pre h h') : Pre h (h'.nrow n) := p.nrow n

theorem WF.alloc {h : H} (w : WF h) (c : List LV) : WF (h.alloc c) := w.keep ((Keep.refl h).alloc c)
theorem wf_alloc {h : H} {c : List LV} (w : WF h) : WF (h.alloc c) := w.keep ((Keep.refl h).alloc c)
theorem wf_nrow {h : H} {n : Nat} (w : WF h) : WF (h.nrow n) := w.keep ((Keep.refl h).nrow n)
theorem wf_put {h : H} {b : Nat} {B : Box} (w : WF h) : WF (h.put b B) := by simpa [WF] using w
theorem wf_srow {h : H} {r n : Nat} (w : WF h) : WF (h.srow r n) := by simpa [WF] using w
theorem wf_hp {h : H} {f : Nat} {args : List LV} (w : WF h) : WF (hp P T f args h) := w.keep (hp_keep f args h)
theorem wf_up {h : H} (w : WF h) : WF h.up := ⟨Nat.le_refl _, Nat.le_refl _, w.2.2⟩
theorem wf_down {h h' : H} (w : WF h) (p : Pre h h') : WF (h.down h') := w.keep p.down
theorem WF.lob {h : H} (w : WF h) : h.lob ≤ h.len := w.1
theorem WF.lor {h : H} (w : WF h) : h.lor ≤ h.rlen := w.2.1
theorem WF.one {h : H} (w : WF h) : 1 ≤ h.rlen := w.2.2
theorem le_hp0 {h : H} (w : WF h) : h.lob ≤ h.len := w.1
theorem rlen_ne {h : H} (w : WF h) : (h.rlen = 0) = False := by have := w.2.2; simp; omega

end Go.LM
