import Derived.Test.YtgbhkmgmpodnkaaLmO
namespace Go.LM
variable {P : Program}

def ro (h : H) : H := { h with lob := h.box.length, lor := h.row.length }

theorem MarOk.pre {base : Nat} {G : Gh} {w : World} {l l' : List Box} (m : MarOk base G w l') (hp : ∀ b, b < l.length → l'[b]? = l[b]?) : MarOk base G w l :=
  ⟨m.fix, fun k R B h hB => m.box k R B h ((hp k (List.getElem?_eq_some_iff.1 hB).1).trans hB), fun k B h hB hne => m.live k B h ((hp k (List.getElem?_eq_some_iff.1 hB).1).trans hB) hne⟩
theorem HR.pre {base : Nat} {G : Gh} {w : World} {h h' : H} (hr : HR base G w (ro h')) (hp : Pre h h') (h1 : 1 ≤ h.row.length) : HR base G w (ro h) := by
  refine ⟨hr.size, ⟨Nat.le_refl _, Nat.le_refl _, h1⟩, hr.prot, hr.boxAt, hr.boxInj, hr.rowAt, hr.rowInj, ?_, ?_, hr.mar.pre hp.kb⟩
  · intro b pb B hb hB
    have hlt := (List.getElem?_eq_some_iff.1 hB).1
    exact hr.box b pb B hb ((hp.kb b hlt).trans hB)
  · intro r R p hR hp'
    have hlt := (List.getElem?_eq_some_iff.1 hp').1
    exact hr.row r R p hR ((hp.kr r hlt).trans hp')

/-- How things stand when just the operations of L are done, in whatever order. -/
structure DInv (base N : Nat) (all : Array Oper) (val : Nat → LV) (η : Nat → H) (s0 : S) (h' : H) (G0 : Gh) (w0 : World) (L : Nat → Bool) (G : Gh) (w : World) (a : Act) : Prop where
  closed : Closed all L
  sd : Sd w0 w
  ext : Ext G0 w0 G w
  hr : HR base G w (ro h')
  size : w0.heap.size ≤ w.heap.size
  old : ∀ i, i < base → w.heap[i]? = w0.heap[i]?
  keepB : ∀ b pb, G0.box b = some pb → w.heap[pb]? = w0.heap[pb]? ∧ ∀ i, G.prot pb i → G0.prot pb i
  keepR : ∀ r R, G0.row r = some R → G.row r = some R ∧ w.heap[R.pb]? = w0.heap[R.pb]? ∧ ∀ i, G.prot R.pb i → G0.prot R.pb i
  newB : ∀ b pb, G.box b = some pb → G0.box b = some pb ∨ ∃ i, (i < all.size ∧ L i = true) ∧ (η i).box.length ≤ b ∧ b < (η (i + 1)).box.length
  newR : ∀ r R, G.row r = some R → (∃ R0, G0.row r = some R0) ∨ ∃ i, (i < all.size ∧ L i = true) ∧ (η i).row.length ≤ r ∧ r < (η (i + 1)).row.length
  keepM : ∀ m R, G0.mar m = some R → G.mar m = some R ∧ w.heap[R.1]? = w0.heap[R.1]?
  newM : ∀ m R, G.mar m = some R → G0.mar m = some R ∨ ∃ i, (i < all.size ∧ L i = true) ∧ (η i).box.length ≤ m ∧ m < (η (i + 1)).box.length
  newMb : ∀ m, G.mb m → G0.mb m ∨ ∃ i, (i < all.size ∧ L i = true) ∧ (η i).box.length ≤ m ∧ m < (η (i + 1)).box.length
  slots : SR G w N (slotAt all val L s0 all.size) a

theorem filter_lt {p q : Nat → Bool} : ∀ l : List Nat, (∀ x ∈ l, q x = true → p x = true) → (∃ x ∈ l, p x = true ∧ q x = false) → (l.filter q).length < (l.filter p).length
  | [], _, ⟨x, hx, _⟩ => by simp at hx
  | y :: l, h, ⟨x, hx, hp, hq⟩ => by
    have hle : ∀ l : List Nat, (∀ x ∈ l, q x = true → p x = true) → (l.filter q).length ≤ (l.filter p).length := by
      intro l
      induction l with
      | nil => intro _; simp
      | cons z l ih =>
        intro h
        have := ih (fun x hx => h x (by simp [hx]))
        have hz := h z (by simp)
        simp only [List.filter_cons]
        cases hqz : q z with
        | true => rw [hz hqz]; simp; omega
        | false => cases p z <;> simp <;> omega
    simp only [List.filter_cons]
    by_cases hxy : x = y
    · subst hxy
      rw [hp, hq]
      have := hle l (fun x hx => h x (by simp [hx]))
      simp; omega
    · have hx' : x ∈ l := by simpa [hxy] using hx
      have := filter_lt l (fun x hx => h x (by simp [hx])) ⟨x, hx', hp, hq⟩
      have hy := h y (by simp)
      cases hqy : q y with
      | true => rw [hy hqy]; simp; omega
      | false => cases p y <;> simp <;> omega

theorem slotAt_congr {all : Array Oper} {val : Nat → LV} {L L' : Nat → Bool} {s0 : S} : ∀ m, (∀ i, i < m → L i = L' i) → slotAt all val L s0 m = slotAt all val L' s0 m
  | 0, _ => rfl
  | m + 1, h => by
    simp only [slotAt]
    rw [h m (by omega), slotAt_congr m (fun i hi => h i (by omega))]

theorem slotAt_text {P : Program} {C : Callee'} {N : Nat} {all : Array Oper} {σ : Nat → S} {η : Nat → H} {val : Nat → LV}
    (htr : ∀ i o, all[i]? = some o → DStep P C N all o (σ i) (σ (i + 1)) (η i) (η (i + 1)) (val i)) : ∀ m, m ≤ all.size → slotAt all val (fun _ => true) (σ 0) m = σ m
  | 0, _ => rfl
  | m + 1, h => by
    have hm : m < all.size := by omega
    have ho := Array.getElem?_eq_getElem hm
    simp only [slotAt, if_true, ho]
    rw [slotAt_text htr m (by omega)]
    exact (htr m _ ho).slot.symm

theorem pre_chain {P : Program} {C : Callee'} {N : Nat} {all : Array Oper} {σ : Nat → S} {η : Nat → H} {val : Nat → LV}
    (htr : ∀ i o, all[i]? = some o → DStep P C N all o (σ i) (σ (i + 1)) (η i) (η (i + 1)) (val i)) : ∀ d i, i + d ≤ all.size → Pre (η i) (η (i + d))
  | 0, i, _ => .refl _
  | d + 1, i, h => by
    have hm : i + d < all.size := by omega
    have := (htr (i + d) _ (Array.getElem?_eq_getElem hm)).pre
    exact (pre_chain htr d i (by omega)).trans this

def listedL (listed : Array Bool) : Nat → Bool := fun i => listed.getD i false

theorem ready_nil {all : Array Oper} (hd : drawOkL all = true) {listed : Array Bool} (hsz : listed.size = all.size) (hr : Region.ready .any all listed = []) : ∀ i, i < all.size → listedL listed i = true := by
  intro i
  induction i using Nat.strongRecOn with
  | _ i ih =>
    intro hi
    cases hl : listedL listed i with
    | true => rfl
    | false =>
      have ho := Array.getElem?_eq_getElem hi
      have hmem : i ∈ Region.ready .any all listed := by
        unfold Region.ready
        rw [List.mem_filter]
        refine ⟨by simpa using hi, ?_⟩
        have h1 : listed.getD i true = false := by
          unfold listedL at hl
          rw [Array.getD_eq_getD_getElem?] at hl ⊢
          rw [Array.getElem?_eq_getElem (by omega)] at hl ⊢
          simpa using hl
        simp only [h1, Bool.not_false, Bool.true_and, ho, Option.map_some, Option.getD_some, Array.all_eq_true]
        intro j hj
        cases hb : Region.binds .any all[i].after[j] with
        | false => rfl
        | true =>
          have hlt : all[i].after[j].on < i := by
            unfold drawOkL at hd
            rw [Bool.and_eq_true] at hd
            have := List.all_eq_true.1 hd.2 i (by simpa using hi)
            rw [ho] at this
            have := List.all_eq_true.1 this all[i].after[j] (by simp)
            rw [hb] at this
            simpa using this
          have := ih _ hlt (by omega)
          simp only [Bool.not_true, Bool.false_or]
          exact this
      rw [hr] at hmem; simp at hmem

theorem ready_mem {all : Array Oper} {listed : Array Bool} (hsz : listed.size = all.size) {i : Nat} (hm : i ∈ Region.ready .any all listed) :
    ∃ o, all[i]? = some o ∧ listedL listed i = false ∧ ∀ e ∈ o.after, Region.binds .any e = true → listedL listed e.on = true := by
  unfold Region.ready at hm
  rw [List.mem_filter] at hm
  obtain ⟨hi, hc⟩ := hm
  have hi : i < all.size := by simpa using hi
  have ho := Array.getElem?_eq_getElem hi
  simp only [Bool.and_eq_true, ho, Option.map_some, Option.getD_some, Array.all_eq_true] at hc
  refine ⟨_, ho, ?_, ?_⟩
  · have h1 := hc.1
    unfold listedL
    rw [Array.getD_eq_getD_getElem?] at h1 ⊢
    rw [Array.getElem?_eq_getElem (by omega)] at h1 ⊢
    simpa using h1
  · intro e he hb
    obtain ⟨j, hj, rfl⟩ := Array.getElem_of_mem he
    have := hc.2 j hj
    rw [hb] at this
    simpa [listedL] using this

theorem draw_any {base tb tr N : Nat} {C : Callee'} (hC : COk P base C) (hF : CFn P C) {all : Array Oper} (hd : drawOkL all = true) {Q : Exit → Act → World → Prop}
    {σ : Nat → S} {η : Nat → H} {val : Nat → LV} {h' : H} (e4 : η all.size = h')
    (htr : ∀ i o, all[i]? = some o → DStep P C N all o (σ i) (σ (i + 1)) (η i) (η (i + 1)) (val i)) (hrow : 1 ≤ (η 0).row.length)
    {G0 : Gh} {w0 : World} (hf : Fresh G0 (η 0) tb tr) (h1 : h'.box.length ≤ tb) (h2 : h'.row.length ≤ tr)
    (hq : ∀ L G w a, (∀ i, i < all.size → L i = true) → DInv base N all val η (σ 0) h' G0 w0 L G w a → Q .normal a w) :
    ∀ (fuel : Nat) (listed : Array Bool) (G : Gh) (w : World) (a : Act), listed.size = all.size →
      ((List.range all.size).filter fun i => !listedL listed i).length ≤ fuel →
      DInv base N all val η (σ 0) h' G0 w0 (listedL listed) G w a → wpAny P .any all Q fuel listed a w := by
  have hok : slotsOkL all = true := by unfold drawOkL at hd; rw [Bool.and_eq_true] at hd; exact hd.1
  have hpre : ∀ i j, i ≤ j → j ≤ all.size → Pre (η i) (η j) := by
    intro i j hij hj
    have := pre_chain htr (j - i) i (by omega)
    rwa [Nat.add_sub_cancel' hij] at this
  intro fuel
  induction fuel with
  | zero =>
    intro listed G w a hsz hcnt hinv
    have hall : ∀ i, i < all.size → listedL listed i = true := by
      intro i hi
      cases hl : listedL listed i with
      | true => rfl
      | false =>
        have : i ∈ (List.range all.size).filter fun i => !listedL listed i := by rw [List.mem_filter]; exact ⟨by simpa using hi, by simp [hl]⟩
        have := List.length_pos_of_mem this; omega
    refine ⟨?_, hq _ G w a hall hinv⟩
    unfold Region.ready
    rw [List.filter_eq_nil_iff]
    intro i hi
    have hi : i < all.size := by simpa using hi
    have := hall i hi
    unfold listedL at this
    rw [Array.getD_eq_getD_getElem?] at this
    rw [Array.getElem?_eq_getElem (by omega)] at this
    simp [Array.getD_eq_getD_getElem?, Array.getElem?_eq_getElem (show i < listed.size by omega)] at this ⊢
    intro h; rw [this] at h; cases h
  | succ fuel ih =>
    intro listed G w a hsz hcnt hinv
    refine ⟨fun hr => hq _ G w a (ready_nil hd hsz hr) hinv, ?_⟩
    intro i hi
    obtain ⟨o, ho, hli, hp⟩ := ready_mem hsz hi
    have hin : i < all.size := (Array.getElem?_eq_some_iff.1 ho).1
    have hds := htr i o ho
    have hL' : listedL (listed.setIfInBounds i true) = fun k => listedL listed k || k == i := by
      funext k
      unfold listedL
      rw [Array.getD_eq_getD_getElem?, Array.getD_eq_getD_getElem?, Array.getElem?_setIfInBounds]
      by_cases hk : i = k
      · subst hk; simp [hsz, hin]
      · have : (k == i) = false := by simp; omega
        rw [if_neg hk, this, Bool.or_false]
    have hcnt' : ((List.range all.size).filter fun k => !listedL (listed.setIfInBounds i true) k).length ≤ fuel := by
      have := filter_lt (p := fun k => !listedL listed k) (q := fun k => !listedL (listed.setIfInBounds i true) k) (List.range all.size) (by
        intro x _ hx; rw [hL'] at hx; simp at hx ⊢; exact hx.1) ⟨i, by simpa using hin, by simp [hli], by rw [hL']; simp⟩
      omega
    -- what the operation finds
    have hread : ∀ t ∈ o.looksAt all, slotAt all val (listedL listed) (σ 0) all.size t = σ i t := by
      intro t ht
      have := (slot_read (val := val) (s0 := σ 0) hok hinv.closed ho hp hli ht all.size).2 (by omega)
      rw [this, slotAt_text htr i (by omega)]
    have hwant : wantL all (slotAt all val (listedL listed) (σ 0) all.size) o = wantL all (σ i) o := wantL_looks hread
    have hcl' : Closed all (fun k => listedL listed k || k == i) := by
      intro k q hk hLk e he hb
      simp only [Bool.or_eq_true, beq_iff_eq] at hLk ⊢
      rcases hLk with hLk | rfl
      · exact .inl (hinv.closed k q hk hLk e he hb)
      · rw [ho] at hk; cases hk; exact .inl (hp e he hb)
    have hput : ∀ (G' : Gh) (w' : World) (a' : Act) (u : Value), SR G' w' N (slotAt all val (listedL listed) (σ 0) all.size) a' → VR G' w' (val i) u →
        SR G' w' N (slotAt all val (fun k => listedL listed k || k == i) (σ 0) all.size) (a'.put o.dst u) := by
      intro G' w' a' u hs hv
      have := hs.put hds.dst hv
      refine ⟨this.size, this.defers, fun t => ?_⟩
      rw [(slot_put (val := val) (s0 := σ 0) hok hinv.closed ho hli t all.size).2 hin]
      exact this.at_ t
    unfold wpOp
    rw [ho]
    dsimp only
    rcases hds.did with ⟨hw, hop⟩ | ⟨hw, hvu, hηe⟩
    · rw [if_pos (want_ok (hwant.trans hw) hinv.slots)]
      have hop' : opL P C (slotAt all val (listedL listed) (σ 0) all.size) o.op (ro (η i)) = some (val i, η (i + 1)) := (opL_looks hread).trans hop
      have hηi : 1 ≤ (η i).row.length := Nat.le_trans hrow (hpre 0 i (by omega) (by omega)).len.2
      have hri := hinv.hr.pre (e4 ▸ hpre i all.size (by omega) (Nat.le_refl _)) hηi
      have hle1 := (hpre (i + 1) all.size (by omega) (Nat.le_refl _)).len
      have hle0 := (hpre 0 i (by omega) (by omega)).len
      rw [e4] at hle1
      have hfr : Fresh G (ro (η i)) (η (i + 1)).box.length (η (i + 1)).row.length := by
        refine ⟨fun b hb1 hb2 => ?_, fun r hb1 hb2 => ?_, fun b hb1 hb2 hg => ?_⟩
        · cases hg : G.box b with
          | none => rfl
          | some pb =>
            have hb1 : (η i).box.length ≤ b := hb1
            rcases hinv.newB b pb hg with h3 | ⟨j, ⟨hjn, hj⟩, h3, h4⟩
            · rw [hf.box b (by have := hle0.1; omega) (by have := hle1.1; omega)] at h3; cases h3
            · have hji : j ≠ i := by rintro rfl; rw [hli] at hj; cases hj
              rcases Nat.lt_or_gt_of_ne hji with hlt | hgt
              · have := (hpre (j + 1) i hlt (by omega)).len.1; omega
              · have := (hpre (i + 1) j hgt (by omega)).len.1; omega
        · cases hg : G.row r with
          | none => rfl
          | some R =>
            have hb1 : (η i).row.length ≤ r := hb1
            rcases hinv.newR r R hg with ⟨R0, h3⟩ | ⟨j, ⟨hjn, hj⟩, h3, h4⟩
            · rw [hf.row r (by have := hle0.2; omega) (by have := hle1.2; omega)] at h3; cases h3
            · have hji : j ≠ i := by rintro rfl; rw [hli] at hj; cases hj
              rcases Nat.lt_or_gt_of_ne hji with hlt | hgt
              · have := (hpre (j + 1) i hlt (by omega)).len.2; omega
              · have := (hpre (i + 1) j hgt (by omega)).len.2; omega
        · have hb1 : (η i).box.length ≤ b := hb1
          rcases hinv.newMb b hg with h3 | ⟨j, ⟨hjn, hj⟩, h3, h4⟩
          · exact hf.mb b (by have := hle0.1; omega) (by have := hle1.1; omega) h3
          · have hji : j ≠ i := by rintro rfl; rw [hli] at hj; cases hj
            rcases Nat.lt_or_gt_of_ne hji with hlt | hgt
            · have := (hpre (j + 1) i hlt (by omega)).len.1; omega
            · have := (hpre (i + 1) j hgt (by omega)).len.1; omega
      refine .inl (op_sound hC hF hop' hri hfr (Nat.le_refl _) (Nat.le_refl _) hinv.slots ?_)
      intro G2 w2 u hst hv
      refine ih (listed.setIfInBounds i true) G2 w2 _ (by simpa using hsz) hcnt' ?_
      rw [hL']
      have hbx : ∀ b pb, G.box b = some pb → w2.heap[pb]? = w.heap[pb]? ∧ ∀ k, G2.prot pb k → G.prot pb k := by
        intro b pb hb
        refine hst.fr.box b pb hb ?_
        show b < (η i).box.length ∨ (η (i + 1)).box.length ≤ b
        rcases Nat.lt_or_ge b (η i).box.length with h3 | h3
        · exact .inl h3
        · rcases Nat.lt_or_ge b (η (i + 1)).box.length with h4 | h4
          · rw [hfr.box b h3 h4] at hb; cases hb
          · exact .inr h4
      have hrx : ∀ r R, G.row r = some R → G2.row r = some R ∧ w2.heap[R.pb]? = w.heap[R.pb]? ∧ ∀ k, G2.prot R.pb k → G.prot R.pb k := by
        intro r R hR
        refine hst.fr.row r R hR ?_
        show r < (η i).row.length ∨ (η (i + 1)).row.length ≤ r
        rcases Nat.lt_or_ge r (η i).row.length with h3 | h3
        · exact .inl h3
        · rcases Nat.lt_or_ge r (η (i + 1)).row.length with h4 | h4
          · rw [hfr.row r h3 h4] at hR; cases hR
          · exact .inr h4
      have hmx : ∀ m R, G.mar m = some R → G2.mar m = some R ∧ w2.heap[R.1]? = w.heap[R.1]? := by
        intro m R hR
        refine hst.fr.marF m R hR ?_
        show m < (η i).box.length ∨ (η (i + 1)).box.length ≤ m
        rcases Nat.lt_or_ge m (η i).box.length with h3 | h3
        · exact .inl h3
        · rcases Nat.lt_or_ge m (η (i + 1)).box.length with h4 | h4
          · exact absurd (hri.mar.fix.at_ m R hR).1 (hfr.mb m h3 h4)
          · exact .inr h4
      have hh1 : 1 ≤ h'.row.length := e4 ▸ Nat.le_trans hrow (hpre 0 all.size (by omega) (Nat.le_refl _)).len.2
      have hp1 : Pre (η (i + 1)) h' := e4 ▸ hpre (i + 1) all.size (by omega) (Nat.le_refl _)
      refine ⟨hcl', hinv.sd.trans hst.sd, hinv.ext.trans hst.ext, ?_, Nat.le_trans hinv.size hst.fr.size, fun k hk => (hst.fr.old k hk).trans (hinv.old k hk), ?_, ?_, ?_, ?_, ?_, ?_, ?_, hput _ _ _ _ (hinv.slots.mono hst.ext) hv⟩
      · refine ⟨hst.hr.size, ⟨Nat.le_refl _, Nat.le_refl _, hh1⟩, hst.hr.prot, hst.hr.boxAt, hst.hr.boxInj, hst.hr.rowAt, hst.hr.rowInj, ?_, ?_, hst.hr.mar.fix, ?_, ?_⟩
        · intro b pb B hb hB
          have hB : h'.box[b]? = some B := hB
          rcases hst.fr.newBox b pb hb with h3 | ⟨_, h4⟩
          · obtain ⟨c, ty, hc, hv1, p1, p2⟩ := hinv.hr.box b pb B h3 hB
            obtain ⟨q1, q2⟩ := hbx b pb h3
            exact ⟨c, ty, q1.trans hc, hv1.mono hst.ext, fun h k hk => hst.ext.prot _ _ (p1 h k hk), fun h k hk => p2 h k (q2 k hk)⟩
          · exact hst.hr.box b pb B hb ((hp1.kb b h4).symm.trans hB)
        · intro r R p hR hp'
          have hp' : h'.row[r]? = some p := hp'
          rcases hst.fr.newRow r R hR with ⟨R0, h3⟩ | ⟨_, h4⟩
          · obtain ⟨q0, q1, q2⟩ := hrx r R0 h3
            rw [q0] at hR; cases hR
            obtain ⟨x1, x2, c, ty, fr, x3, x4, x5⟩ := hinv.hr.row r _ p h3 hp'
            exact ⟨x1, x2, c, ty, fr, q1.trans x3, x4, fun k k2 => ⟨fun k1 hh => (x5 k k2).1 k1 (q2 k hh), (x5 k k2).2⟩⟩
          · exact hst.hr.row r R p hR ((hp1.kr r h4).symm.trans hp')
        · intro k R B hR hB
          have hB : h'.box[k]? = some B := hB
          rcases hst.fr.newMar k R hR with h3 | ⟨_, h4⟩
          · exact (hinv.hr.mar.box k R B h3 hB).mono hst.ext (hmx k R h3).2
          · exact hst.hr.mar.box k R B hR ((hp1.kb k h4).symm.trans hB)
        · intro k B hk hB hne
          have hB : h'.box[k]? = some B := hB
          rcases hst.fr.newMb k hk with h3 | ⟨_, h4⟩
          · obtain ⟨R, hR⟩ := hinv.hr.mar.live k B h3 hB hne
            exact ⟨R, (hmx k R hR).1⟩
          · exact hst.hr.mar.live k B hk ((hp1.kb k h4).symm.trans hB) hne
      · intro b pb hb
        obtain ⟨q1, q2⟩ := hinv.keepB b pb hb
        obtain ⟨q3, q4⟩ := hbx b pb (hinv.ext.box b pb hb)
        exact ⟨q3.trans q1, fun k hk => q2 k (q4 k hk)⟩
      · intro r R hR
        obtain ⟨q0, q1, q2⟩ := hinv.keepR r R hR
        obtain ⟨q3, q4, q5⟩ := hrx r R q0
        exact ⟨q3, q4.trans q1, fun k hk => q2 k (q5 k hk)⟩
      · intro b pb hb
        rcases hst.fr.newBox b pb hb with h3 | ⟨h3, h4⟩
        · rcases hinv.newB b pb h3 with h5 | ⟨j, hj, h5⟩
          · exact .inl h5
          · exact .inr ⟨j, ⟨hj.1, by simp [hj.2]⟩, h5⟩
        · exact .inr ⟨i, ⟨hin, by simp⟩, h3, h4⟩
      · intro r R hR
        rcases hst.fr.newRow r R hR with ⟨R0, h3⟩ | ⟨h3, h4⟩
        · rcases hinv.newR r R0 h3 with h5 | ⟨j, hj, h5⟩
          · exact .inl h5
          · exact .inr ⟨j, ⟨hj.1, by simp [hj.2]⟩, h5⟩
        · exact .inr ⟨i, ⟨hin, by simp⟩, h3, h4⟩
      · intro m R hR
        obtain ⟨q0, q1⟩ := hinv.keepM m R hR
        obtain ⟨q3, q4⟩ := hmx m R q0
        exact ⟨q3, q4.trans q1⟩
      · intro m R hR
        rcases hst.fr.newMar m R hR with h3 | ⟨h3, h4⟩
        · rcases hinv.newM m R h3 with h5 | ⟨j, hj, h5⟩
          · exact .inl h5
          · exact .inr ⟨j, ⟨hj.1, by simp [hj.2]⟩, h5⟩
        · exact .inr ⟨i, ⟨hin, by simp⟩, h3, h4⟩
      · intro m hm
        rcases hst.fr.newMb m hm with h3 | ⟨h3, h4⟩
        · rcases hinv.newMb m h3 with h5 | ⟨j, hj, h5⟩
          · exact .inl h5
          · exact .inr ⟨j, ⟨hj.1, by simp [hj.2]⟩, h5⟩
        · exact .inr ⟨i, ⟨hin, by simp⟩, h3, h4⟩
    · rw [if_neg (by rw [want_ok (hwant.trans hw) hinv.slots]; simp)]
      refine ih (listed.setIfInBounds i true) G w _ (by simpa using hsz) hcnt' ?_
      rw [hL']
      refine ⟨hcl', hinv.sd, hinv.ext, hinv.hr, hinv.size, hinv.old, hinv.keepB, hinv.keepR, ?_, ?_, hinv.keepM, ?_, ?_, hput _ _ _ _ hinv.slots (by rw [hvu]; exact vr_none)⟩
      · intro b pb hb
        rcases hinv.newB b pb hb with h5 | ⟨j, hj, h5⟩
        · exact .inl h5
        · exact .inr ⟨j, ⟨hj.1, by simp [hj.2]⟩, h5⟩
      · intro r R hR
        rcases hinv.newR r R hR with h5 | ⟨j, hj, h5⟩
        · exact .inl h5
        · exact .inr ⟨j, ⟨hj.1, by simp [hj.2]⟩, h5⟩
      · intro m R hR
        rcases hinv.newM m R hR with h5 | ⟨j, hj, h5⟩
        · exact .inl h5
        · exact .inr ⟨j, ⟨hj.1, by simp [hj.2]⟩, h5⟩
      · intro m hm
        rcases hinv.newMb m hm with h5 | ⟨j, hj, h5⟩
        · exact .inl h5
        · exact .inr ⟨j, ⟨hj.1, by simp [hj.2]⟩, h5⟩

theorem draw_sound {base tb tr N : Nat} {C : Callee'} (hC : COk P base C) (hF : CFn P C) (hL : CLen C) (hm : P.follows .mixedOrders = true) {id : Nat} {all : Array Oper} (hd : drawOkL all = true) {Q : Exit → Act → World → Prop}
    {s s' : S} {h h' : H} {G : Gh} {w : World} {a : Act} (ho : opsD P C N all all.toList s h = some (s', h')) (hh : HR base G w h) (hf : Fresh G h tb tr) (h1 : h'.box.length ≤ tb) (h2 : h'.row.length ≤ tr)
    (hs : SR G w N s a) (hq : ∀ G' w' a', Step base G w h G' w' { h' with lob := h.lob, lor := h.lor } → SR G' w' N s' a' → Q .normal a' w') : (Code.region id all true).wp P Q a w := by
  refine wp_region_any hm ?_
  have hst0 := Step.same (w := w) (w' := { w with drawn := w.drawn + 1 }) rfl ⟨rfl, rfl, rfl⟩ hh
  obtain ⟨σ, η, val, e1, e2, e3, e4, htr⟩ := opsD_trace hL ho
  rw [Array.length_toList] at e3 e4
  have htr : ∀ i o, all[i]? = some o → DStep P C N all o (σ i) (σ (i + 1)) (η i) (η (i + 1)) (val i) := fun i o hi => htr i o (by simpa using hi)
  have hp := opsD_len hL ho
  subst e1; subst e2
  refine draw_any hC hF hd e4 htr hh.lo.2.2 (G0 := G) (w0 := { w with drawn := w.drawn + 1 }) hf h1 h2 ?_ all.size _ G _ a (by simp) ?_ ?_
  · intro L G2 w2 a2 hall hinv
    refine hq G2 w2 a2 ?_ ?_
    · have hgb : ∀ b pb, G.box b = some pb → b < (η 0).box.length ∨ h'.box.length ≤ b := by
        intro b pb hb
        rcases Nat.lt_or_ge b (η 0).box.length with h3 | h3
        · exact .inl h3
        · rcases Nat.lt_or_ge b h'.box.length with h4 | h4
          · rw [hf.box b h3 (by omega)] at hb; cases hb
          · exact .inr h4
      have hpre : ∀ i j, i ≤ j → j ≤ all.size → Pre (η i) (η j) := by
        intro i j hij hj
        have := pre_chain htr (j - i) i (by omega)
        rwa [Nat.add_sub_cancel' hij] at this
      refine hst0.trans (h1 := η 0) ⟨hinv.sd, hinv.ext, ?_, ?_⟩
      · refine ⟨hinv.size, hinv.old, ⟨hp.len.1, hp.len.2⟩, ⟨rfl, rfl⟩, fun b pb hb _ => hinv.keepB b pb hb, fun r R hR _ => hinv.keepR r R hR, ?_, ?_, ?_, ?_, fun m R hR _ => hinv.keepM m R hR, ?_, ?_⟩
        · intro b pb hb
          rcases hinv.newB b pb hb with h3 | ⟨j, ⟨hjn, hj⟩, h3, h4⟩
          · exact .inl h3
          · have a1 := (hpre 0 j (by omega) (by omega)).len.1
            have a2 := (hpre (j + 1) all.size (by omega) (Nat.le_refl _)).len.1
            rw [e4] at a2
            exact .inr ⟨by omega, by show b < h'.box.length; omega⟩
        · intro r R hR
          rcases hinv.newR r R hR with h3 | ⟨j, ⟨hjn, hj⟩, h3, h4⟩
          · exact .inl h3
          · have a1 := (hpre 0 j (by omega) (by omega)).len.2
            have a2 := (hpre (j + 1) all.size (by omega) (Nat.le_refl _)).len.2
            rw [e4] at a2
            exact .inr ⟨by omega, by show r < h'.row.length; omega⟩
        · intro b hb; exact hp.kb b (by have := hh.lo.1; omega)
        · intro r hr; exact hp.kr r (by have := hh.lo.2.1; omega)
        · intro b pb hb
          rcases hinv.newM b pb hb with h3 | ⟨j, ⟨hjn, hj⟩, h3, h4⟩
          · exact .inl h3
          · have a1 := (hpre 0 j (by omega) (by omega)).len.1
            have a2 := (hpre (j + 1) all.size (by omega) (Nat.le_refl _)).len.1
            rw [e4] at a2
            exact .inr ⟨by omega, by show b < h'.box.length; omega⟩
        · intro b hb
          rcases hinv.newMb b hb with h3 | ⟨j, ⟨hjn, hj⟩, h3, h4⟩
          · exact .inl h3
          · have a1 := (hpre 0 j (by omega) (by omega)).len.1
            have a2 := (hpre (j + 1) all.size (by omega) (Nat.le_refl _)).len.1
            rw [e4] at a2
            exact .inr ⟨by omega, by show b < h'.box.length; omega⟩
      · exact ⟨hinv.hr.size, ⟨by have := hh.lo.1; have := hp.len.1; show (η 0).lob ≤ h'.box.length; omega, by have := hh.lo.2.1; have := hp.len.2; show (η 0).lor ≤ h'.row.length; omega, hinv.hr.lo.2.2⟩,
          hinv.hr.prot, hinv.hr.boxAt, hinv.hr.boxInj, hinv.hr.rowAt, hinv.hr.rowInj, hinv.hr.box, hinv.hr.row, hinv.hr.mar⟩
    · have := hinv.slots
      rw [slotAt_congr (L' := fun _ => true) all.size hall, slotAt_text htr all.size (Nat.le_refl _), e3] at this
      exact this
  · have := List.length_filter_le (fun i => !listedL (Array.replicate all.size false) i) (List.range all.size)
    simpa using this
  · have hz : ∀ i, listedL (Array.replicate all.size false) i = false := by
      intro i
      unfold listedL
      rw [Array.getD_eq_getD_getElem?, Array.getElem?_replicate]
      split <;> rfl
    have hL0 : listedL (Array.replicate all.size false) = fun _ => false := funext hz
    rw [hL0]
    have hslot : ∀ m, slotAt all val (fun _ => false) (σ 0) m = σ 0 := by
      intro m
      induction m with
      | zero => rfl
      | succ m ih => simp [slotAt, ih]
    refine ⟨fun i o _ hl => (by cases hl), .refl _, .refl _ _, ?_, Nat.le_refl _, fun _ _ => rfl, fun _ _ _ => ⟨rfl, fun _ h => h⟩, fun _ _ hR => ⟨hR, rfl, fun _ h => h⟩, fun _ _ hb => .inl hb, fun _ R hR => .inl ⟨R, hR⟩, fun _ _ hR => ⟨hR, rfl⟩, fun _ _ hR => .inl hR, fun _ hm => .inl hm, ?_⟩
    · have hr1 := hst0.hr
      refine ⟨hr1.size, ⟨Nat.le_refl _, Nat.le_refl _, by have := hh.lo.2.2; have := hp.len.2; show 1 ≤ h'.row.length; omega⟩, hr1.prot, hr1.boxAt, hr1.boxInj, hr1.rowAt, hr1.rowInj, ?_, ?_, hr1.mar.fix, ?_, ?_⟩
      · intro b pb B hb hB
        have hB : h'.box[b]? = some B := hB
        have hlt := (List.getElem?_eq_some_iff.1 hB).1
        rcases Nat.lt_or_ge b (η 0).box.length with h3 | h3
        · exact hr1.box b pb B hb ((hp.kb b h3).symm.trans hB)
        · rw [hf.box b h3 (by omega)] at hb; cases hb
      · intro r R p hR hp'
        have hp' : h'.row[r]? = some p := hp'
        have hlt := (List.getElem?_eq_some_iff.1 hp').1
        rcases Nat.lt_or_ge r (η 0).row.length with h3 | h3
        · exact hr1.row r R p hR ((hp.kr r h3).symm.trans hp')
        · rw [hf.row r h3 (by omega)] at hR; cases hR
      · intro k R B hR hB
        have hB : h'.box[k]? = some B := hB
        have hlt := (List.getElem?_eq_some_iff.1 hB).1
        rcases Nat.lt_or_ge k (η 0).box.length with h3 | h3
        · exact hr1.mar.box k R B hR ((hp.kb k h3).symm.trans hB)
        · exact absurd (hr1.mar.fix.at_ k R hR).1 (hf.mb k h3 (by omega))
      · intro k B hk hB hne
        have hB : h'.box[k]? = some B := hB
        have hlt := (List.getElem?_eq_some_iff.1 hB).1
        rcases Nat.lt_or_ge k (η 0).box.length with h3 | h3
        · exact hr1.mar.live k B hk ((hp.kb k h3).symm.trans hB) hne
        · exact absurd hk (hf.mb k h3 (by omega))
    · rw [hslot]; exact hs.mono hst0.ext

end Go.LM

namespace Go.LM
variable {P : Program}

/-! ### equality that is reckoned -/
mutual
theorem beq_eq : ∀ {a b : LV}, LV.beq a b = true → a = b
  | .undef, b, h => by cases b <;> simp_all [LV.beq]
  | .bool x, b, h => by cases b <;> simp_all [LV.beq]
  | .int k x, b, h => by cases b <;> simp_all [LV.beq]
  | .str x, b, h => by cases b <;> simp_all [LV.beq]
  | .nilp, b, h => by cases b <;> simp_all [LV.beq]
  | .ptr x y, b, h => by cases b <;> simp_all [LV.beq]
  | .cptr x, b, h => by
    cases b <;> simp only [LV.beq, Bool.false_eq_true] at h
    rw [beq_eq h]
  | .nils, b, h => by cases b <;> simp_all [LV.beq]
  | .sl x y z l, b, h => by
    cases b <;> simp only [LV.beq, Bool.false_eq_true, Bool.and_eq_true, decide_eq_true_eq] at h
    obtain ⟨⟨⟨rfl, rfl⟩, rfl⟩, h⟩ := h
    rw [beqs_eq h]
  | .nilm, b, h => by cases b <;> simp_all [LV.beq]
  | .sm x y z, b, h => by cases b <;> simp_all [LV.beq]
  | .pm x y, b, h => by cases b <;> simp_all [LV.beq]
  | .fn f l m, b, h => by
    cases b <;> simp only [LV.beq, Bool.false_eq_true, Bool.and_eq_true, decide_eq_true_eq] at h
    obtain ⟨⟨rfl, h⟩, h'⟩ := h
    rw [beqs_eq h, beqs_eq h']
  | .nilf, b, h => by cases b <;> simp_all [LV.beq]
  | .nili, b, h => by cases b <;> simp_all [LV.beq]
  | .iface t v, b, h => by
    cases b <;> simp only [LV.beq, Bool.false_eq_true, Bool.and_eq_true, decide_eq_true_eq] at h
    obtain ⟨rfl, h⟩ := h
    rw [beq_eq h]
  | .agg l, b, h => by
    cases b <;> simp only [LV.beq, Bool.false_eq_true] at h
    rw [beqs_eq h]
  | .tup l, b, h => by
    cases b <;> simp only [LV.beq, Bool.false_eq_true] at h
    rw [beqs_eq h]
theorem beqs_eq : ∀ {l m : List LV}, LV.beqs l m = true → l = m
  | [], m, h => by cases m <;> simp_all [LV.beqs]
  | a :: l, m, h => by
    cases m <;> simp only [LV.beqs, Bool.false_eq_true, Bool.and_eq_true] at h
    rw [beq_eq h.1, beqs_eq h.2]
end
mutual
theorem beq_refl : ∀ (a : LV), LV.beq a a = true
  | .undef => by simp [LV.beq]
  | .bool x => by simp [LV.beq]
  | .int k x => by simp [LV.beq]
  | .str x => by simp [LV.beq]
  | .nilp => by simp [LV.beq]
  | .ptr x y => by simp [LV.beq]
  | .cptr x => by simp only [LV.beq]; exact beq_refl x
  | .nils => by simp [LV.beq]
  | .sl x y z l => by simp only [LV.beq, decide_true, Bool.true_and]; exact beqs_refl l
  | .nilm => by simp [LV.beq]
  | .sm x y z => by simp [LV.beq]
  | .pm x y => by simp [LV.beq]
  | .fn f l m => by simp only [LV.beq, decide_true, Bool.true_and, Bool.and_eq_true]; exact ⟨beqs_refl l, beqs_refl m⟩
  | .nilf => by simp [LV.beq]
  | .nili => by simp [LV.beq]
  | .iface t v => by simp only [LV.beq, decide_true, Bool.true_and]; exact beq_refl v
  | .agg l => by simp only [LV.beq]; exact beqs_refl l
  | .tup l => by simp only [LV.beq]; exact beqs_refl l
theorem beqs_refl : ∀ (l : List LV), LV.beqs l l = true
  | [] => by simp [LV.beqs]
  | a :: l => by simp only [LV.beqs, Bool.and_eq_true]; exact ⟨beq_refl a, beqs_refl l⟩
end
theorem boxB_eq {a b : Option Box} (h : boxB a b = true) : a = b := by
  cases a with
  | none => cases b with
    | none => rfl
    | some b => simp [boxB] at h
  | some a => cases b with
    | none => simp [boxB] at h
    | some b =>
      simp only [boxB, Bool.and_eq_true, beq_iff_eq] at h
      obtain ⟨ro, c⟩ := a; obtain ⟨ro', c'⟩ := b
      obtain ⟨h1, h2⟩ := h
      dsimp only at h1 h2; subst h1; rw [beqs_eq h2]
theorem boxB_refl (a : Option Box) : boxB a a = true := by
  cases a with
  | none => rfl
  | some a => simp only [boxB, beq_self_eq_true, Bool.true_and]; exact beqs_refl _

/-! ### what an operation does, and where -/
theorem map_q {x : Option LV} {h h' : H} {v : LV} (hx : x.map (·, h) = some (v, h')) : h' = h ∧ ∀ g : H, x.map (·, g) = some (v, g) := by
  cases x with
  | none => cases hx
  | some y => simp only [Option.map_some, Option.some.injEq, Prod.mk.injEq] at hx; obtain ⟨rfl, rfl⟩ := hx; exact ⟨rfl, fun g => rfl⟩
theorem opL_q {C : Callee'} {s : S} {o : Op} {h h' : H} {v : LV} (hc : clOp P o = .q) (ho : opL P C s o h = some (v, h')) : h' = h ∧ ∀ g, opL P C s o g = some (v, g) := by
  cases o <;> simp only [clOp] at hc <;> try (cases hc; done)
  case call c =>
    simp only [opL, callL] at ho ⊢
    obtain ⟨callee, args, ats⟩ := c
    cases callee with
    | builtin b =>
      cases b <;> simp only at hc ho ⊢ <;> first
        | (cases hc; done)
        | (cases ho; done)
        | (split at ho
           · exact map_q ho
           · cases ho)
    | value f => cases hc
    | invoke r n => cases hc
  case convert a b x =>
    simp only [opL] at ho ⊢
    split at ho
    · simp only [convL] at ho ⊢
      split at ho
      · cases ho
      · split at ho <;> rename_i hb <;> (try rw [hb] at hc)
        · split at ho
          · cases ho; exact ⟨rfl, fun g => rfl⟩
          · cases ho
        · repeat' split at ho
          all_goals first
            | (cases ho; done)
            | (cases ho; exact ⟨rfl, fun g => rfl⟩)
            | (rw [Option.map_eq_some_iff] at ho
               obtain ⟨l, hl, he⟩ := ho
               cases he
               exact ⟨rfl, fun g => by simp_all⟩)
        · exfalso; split at hc <;> simp_all
        · cases ho
    · cases ho
  case slice t x lo hi mx =>
    cases mx with
    | some m => simp only [opL] at ho; cases ho
    | none =>
      simp only [opL] at ho ⊢
      split at ho
      · simp only [sliceL] at ho ⊢
        split at ho <;> rename_i hb <;> (try rw [hb] at hc)
        · repeat' split at ho
          all_goals first
            | (cases ho; done)
            | (cases ho; refine ⟨rfl, fun g => ?_⟩; first | (simp_all; done) | (simp_all; intros; omega))
        · repeat' split at ho
          all_goals first
            | (cases ho; done)
            | (cases ho; exact ⟨rfl, fun g => by simp_all⟩)
        · cases hc
        · cases ho
      · cases ho
  case makeFunc fn a b =>
    cases fn <;> simp only [opL] at ho ⊢ <;> try (cases ho; done)
    split at ho
    · cases ho; exact ⟨rfl, fun g => rfl⟩
    · cases ho
  all_goals (simp only [opL] at ho ⊢)
  all_goals first
    | (exact map_q ho)
    | (split at ho <;> first
        | (cases ho; done)
        | (exact map_q ho)
        | (cases ho; exact ⟨rfl, fun g => rfl⟩))
theorem opL_a {C : Callee'} {s : S} {o : Op} {h h' : H} {v : LV} (hc : clOp P o = .a) (ho : opL P C s o h = some (v, h')) :
    ∃ lb lr, h' = { h with box := h.box ++ lb, row := h.row ++ lr } ∧ (lb = [] ∨ lb.length = 1 ∧ v = .ptr h.box.length 0) ∧ (lr = [] ∨ lr.length = 1 ∧ ∃ hi sz xs, v = .sl h.row.length hi sz xs) ∧
      ∀ g, g.box.length = h.box.length → g.row.length = h.row.length → opL P C s o g = some (v, { g with box := g.box ++ lb, row := g.row ++ lr }) := by
  cases o <;> simp only [clOp] at hc <;> try (cases hc; done)
  case alloc t =>
    simp only [opL] at ho ⊢
    split at ho
    · split at ho
      · rename_i hk
        simp only [newBoxL, Option.some.injEq, Prod.mk.injEq] at ho
        obtain ⟨rfl, rfl⟩ := ho
        exact ⟨_, [], by simp; rfl, .inr ⟨rfl, rfl⟩, .inl rfl, fun g g1 g2 => by rw [if_pos hk]; simp [newBoxL, g1]⟩
      · cases ho
    · cases ho
  case box t x =>
    simp only [opL] at ho ⊢
    split at ho
    · split at ho
      · rename_i hk
        simp only [newBoxL, Option.some.injEq, Prod.mk.injEq] at ho
        obtain ⟨rfl, rfl⟩ := ho
        exact ⟨_, [], by simp; rfl, .inr ⟨rfl, rfl⟩, .inl rfl, fun g g1 g2 => by rw [if_pos hk]; simp [newBoxL, g1]⟩
      · cases ho
    · cases ho
  case buildSlice t n ps =>
    simp only [opL] at ho ⊢
    split at ho
    · simp only [buildSliceL] at ho ⊢
      repeat' split at ho
      all_goals first
        | (cases ho; done)
        | (simp only [newRowL, Option.some.injEq, Prod.mk.injEq] at ho
           obtain ⟨rfl, rfl⟩ := ho
           exact ⟨[], _, by simp; rfl, .inl rfl, .inr ⟨rfl, _, _, _, rfl⟩, fun g g1 g2 => by simp_all [newRowL]⟩)
    · cases ho
  case convert a b x =>
    simp only [opL] at ho ⊢
    split at ho
    · simp only [convL] at ho ⊢
      split at ho
      · cases ho
      · split at ho <;> rename_i hb <;> (try rw [hb] at hc)
        · exfalso; split at hc <;> simp_all
        · exfalso; split at hc <;> simp_all
        · split at ho
          · split at ho
            · simp only [newRowL, Option.some.injEq, Prod.mk.injEq] at ho
              obtain ⟨rfl, rfl⟩ := ho
              exact ⟨[], _, by simp; rfl, .inl rfl, .inr ⟨rfl, _, _, _, rfl⟩, fun g g1 g2 => by simp_all [newRowL]⟩
            · cases ho
          · split at ho
            · split at ho
              · rename_i hcnd
                obtain ⟨rfl, _⟩ := hcnd
                rw [hb] at hc
                cases hc
              · cases ho
            · cases ho
          · cases ho
        · cases ho
    · cases ho
  case slice t x lo hi mx =>
    split at hc <;> cases hc
  case call c =>
    split at hc <;> cases hc
theorem opL_l {C : Callee'} {s : S} {o : Op} {h h' : H} {v : LV} (hc : clOp P o = .l) (ho : opL P C s o h = some (v, h')) :
    h' = h ∧ ((∃ b off, (addrO o).bind (opr s) = some (.ptr b off) ∧ ∀ g, g.box[b]? = h.box[b]? → opL P C s o g = some (v, g)) ∨
      ((∃ c, (addrO o).bind (opr s) = some (.cptr c)) ∧ ∀ g, opL P C s o g = some (v, g)) ∨ ∃ m off, (addrO o).bind (opr s) = some (.pm m off)) := by
  cases o <;> simp only [clOp] at hc <;> try (cases hc; done)
  case load t x =>
    simp only [opL, addrO, Option.bind_some] at ho ⊢
    cases hx : opr s x with
    | none => rw [hx] at ho; cases ho
    | some p =>
      rw [hx] at ho
      dsimp only at ho ⊢
      refine ⟨map_same ho, ?_⟩
      cases p <;> simp only [loadL] at ho ⊢ <;> try (cases ho; done)
      case ptr b off =>
        refine .inl ⟨b, off, rfl, fun g hg => ?_⟩
        rw [hg]
        exact (map_q ho).2 g
      case cptr c =>
        exact .inr (.inl ⟨⟨c, rfl⟩, fun g => (map_q ho).2 g⟩)
      case pm m off => exact .inr (.inr ⟨m, off, rfl⟩)
  case convert a b x => exfalso; split at hc <;> cases hc
  case slice t x lo hi mx => split at hc <;> cases hc
  case call c => split at hc <;> cases hc
theorem opL_s {C : Callee'} {s : S} {o : Op} {h h' : H} {v : LV} (hc : clOp P o = .s) (ho : opL P C s o h = some (v, h')) :
    (∃ b off B', (addrO o).bind (opr s) = some (.ptr b off) ∧ b < h.box.length ∧ h' = { h with box := h.box.set b B' } ∧
      ∀ g, g.box[b]? = h.box[b]? → g.lob = h.lob → opL P C s o g = some (v, { g with box := g.box.set b B' })) ∨ ∃ m off, (addrO o).bind (opr s) = some (.pm m off) := by
  cases o <;> simp only [clOp] at hc <;> try (cases hc; done)
  case store t x y =>
    simp only [opL, addrO, Option.bind_some] at ho ⊢
    cases hx : opr s x with
    | none => rw [hx] at ho; cases ho
    | some p =>
      cases hy : opr s y with
      | none => rw [hx, hy] at ho; cases ho
      | some z =>
        rw [hx, hy] at ho
        cases p <;> simp only [storeL] at ho ⊢ <;> try (cases ho; done)
        case pm m off => exact .inr ⟨m, off, rfl⟩
        rename_i b off
        refine .inl ?_
        cases hB : h.box[b]? with
        | none => rw [hB] at ho; cases ho
        | some B =>
          rw [hB] at ho
          dsimp only at ho
          split at ho
          · rename_i hcnd
            cases ho
            refine ⟨b, off, _, rfl, (List.getElem?_eq_some_iff.1 hB).1, rfl, fun g hg hl => ?_⟩
            rw [hg, hB]
            dsimp only
            rw [hl, if_pos hcnd]; rfl
          · cases ho
  case convert a b x => exfalso; split at hc <;> cases hc
  case slice t x lo hi mx => split at hc <;> cases hc
  case call c => split at hc <;> cases hc
theorem opL_p {C : Callee'} {s : S} {o : Op} {h h' : H} {v : LV} (hc : clOp P o = .p) (ho : opL P C s o h = some (v, h')) :
    (h' = h ∧ ∀ g, opL P C s o g = some (v, g)) ∨
    (∃ n, h' = { h with row := h.row ++ [n] } ∧ ∀ g, g.row.length = h.row.length → opL P C s o g = some (v, { g with row := g.row ++ [n] })) ∨
    (∃ r n, r ≠ 0 ∧ r < h.row.length ∧ (∃ x ∈ o.operands, ∃ hi sz xs, opr s x = some (.sl r hi sz xs)) ∧ h' = { h with row := h.row.set r n } ∧
      ∀ g, g.row[r]? = h.row[r]? → g.lor = h.lor → opL P C s o g = some (v, { g with row := g.row.set r n })) ∨ pmO s o = true := by
  cases o <;> simp only [clOp] at hc <;> try (cases hc; done)
  case convert a b x =>
    simp only [opL] at ho ⊢
    split at ho
    case h_2 => cases ho
    rename_i z hz
    split at hc
    · rename_i e1 e2 ha hb
      simp only [convL, ha, hb] at ho ⊢
      split at ho
      · split at ho
        · rename_i he
          simp only [newRowL, Option.some.injEq, Prod.mk.injEq] at ho
          obtain ⟨rfl, rfl⟩ := ho
          refine .inr (.inl ⟨_, rfl, fun g hg => ?_⟩)
          simp only [newRowL, hg]
        · cases ho
      · split at ho
        · rename_i he
          split at ho
          · rename_i hcnd
            simp only [Option.some.injEq, Prod.mk.injEq] at ho
            obtain ⟨rfl, rfl⟩ := ho
            obtain ⟨a1, a2, a3, a4⟩ := hcnd
            refine .inr (.inr (.inl ⟨_, _, a2, (List.getElem?_eq_some_iff.1 a4).1, ⟨x, by simp [Op.operands], _, _, _, hz⟩, rfl, fun g hg hl => ?_⟩))
            rw [if_pos ⟨a1, a2, by rw [hl]; exact a3, by rw [hg]; exact a4⟩]
          · cases ho
        · cases ho
      · cases ho
    · cases hc
    · cases hc
  case slice t x lo hi mx => split at hc <;> cases hc
  case call c =>
    obtain ⟨callee, args, ats⟩ := c
    cases callee with
    | value f => cases hc
    | invoke r n => cases hc
    | builtin b =>
      cases b <;> simp only at hc <;> try (cases hc; done)
      simp only [opL, callL] at ho ⊢
      split at ho
      · rename_i x y t u ha ht
        simp only [appendL] at ho ⊢
        split at ho
        case h_2 => cases ho
        rename_i e hu hu2
        split at ho
        case h_2 => cases ho
        rename_i sz by_ z h1 h2 h3
        split at ho
        case isFalse => cases ho
        rename_i hz
        split at ho
        case h_3 => cases ho
        · rename_i hel
          refine .inl ?_
          split at ho
          · cases ho; exact ⟨rfl, fun g => by rw [if_pos hz]⟩
          · cases ho; exact ⟨rfl, fun g => by rw [if_pos hz]⟩
          · cases ho
        · rename_i ys hne hel
          have hop : ∃ q, q ∈ args ∧ opr s q = some x := by
            cases hA : args.toList with
            | nil => rw [hA] at ha; simp [oprs] at ha
            | cons q qs =>
              have hq2 : q ∈ args := by have : q ∈ args.toList := by rw [hA]; simp
                                        simpa using this
              rw [hA] at ha
              simp only [oprs] at ha
              cases hq : opr s q with
              | none => rw [hq] at ha; cases ha
              | some q' =>
                rw [hq] at ha
                cases hqs : oprs s qs with
                | none => rw [hqs] at ha; cases ha
                | some q'' =>
                  rw [hqs] at ha
                  simp only [Option.some.injEq, List.cons.injEq] at ha
                  exact ⟨q, hq2, by rw [hq, ha.1]⟩
          have hpm : isM x = true → pmO s (.call ⟨.builtin .append, args, ats⟩) = true := by
            intro hi
            obtain ⟨q, q1, q2⟩ := hop
            unfold pmO
            rw [Array.any_eq_true']
            exact ⟨q, by simpa [Op.operands, Call.operands] using q1, by rw [q2]; exact hi⟩
          split at ho
          · exact .inr (.inr (.inr (hpm rfl)))
          · exact .inr (.inr (.inr (hpm rfl)))
          · split at ho
            · rename_i hb
              simp only [newRowL, Option.some.injEq, Prod.mk.injEq] at ho
              obtain ⟨rfl, rfl⟩ := ho
              refine .inr (.inl ⟨_, rfl, fun g hg => ?_⟩)
              rw [if_pos hz, if_pos hb]; simp only [newRowL, hg]
            · cases ho
          · split at ho
            · rename_i hb
              simp only [Option.some.injEq, Prod.mk.injEq] at ho
              obtain ⟨rfl, rfl⟩ := ho
              obtain ⟨a1, a2, a3, a4, a5⟩ := hb
              refine .inr (.inr (.inl ⟨_, _, a2, (List.getElem?_eq_some_iff.1 a4).1, ?_, rfl, fun g hg hl => ?_⟩))
              · obtain ⟨x0, x1, hx0⟩ : ∃ x0 x1, args.toList = [x0, x1] ∨ True := ⟨.func 0, .func 0, .inr trivial⟩
                cases hA : args.toList with
                | nil => rw [hA] at ha; simp [oprs] at ha
                | cons q qs =>
                  rw [hA] at ha
                  simp only [oprs] at ha
                  cases hq : opr s q with
                  | none => rw [hq] at ha; cases ha
                  | some q' =>
                    rw [hq] at ha
                    cases hqs : oprs s qs with
                    | none => rw [hqs] at ha; cases ha
                    | some q'' =>
                      rw [hqs] at ha
                      simp only [Option.some.injEq, List.cons.injEq] at ha
                      refine ⟨q, ?_, _, _, _, by rw [hq, ha.1]⟩
                      have : q ∈ args.toList := by rw [hA]; simp
                      simpa [Op.operands, Call.operands] using this
              · rw [if_pos hz, if_pos ⟨a1, a2, by rw [hl]; exact a3, by rw [hg]; exact a4, a5⟩]
            · cases ho
          · cases ho
      · cases ho
end Go.LM
