import Derived.Test.YtgbhkmgmpodnkaaLmR3
namespace Go.LM
variable {P : Program}

def BoxOk (G : Gh) (w : World) (pb : Nat) (B : Box) : Prop := ∃ c ty, w.heap[pb]? = some (.cells c ty (0, 0)) ∧ VRs G w B.cells c.toList ∧
    (B.ro = true → ∀ i, i < c.size → G.prot pb i) ∧ (B.ro = false → ∀ i, ¬ G.prot pb i)
def RowOk (G : Gh) (w : World) (R : Row) (p : Nat) : Prop := R.pos = p ∧ R.fin ≤ R.cap ∧ ∃ c ty fr, w.heap[R.pb]? = some (.cells c ty fr) ∧ R.cap ≤ c.size ∧
    (∀ o, o < R.cap → (R.fin ≤ o → ¬ G.prot R.pb o) ∧ (fr.1 = fr.2 ∨ o < fr.1))
theorem BoxOk.mono {G G' : Gh} {w w' : World} {pb : Nat} {B : Box} (h : BoxOk G w pb B) (hx : Ext G w G' w') (hw : w'.heap[pb]? = w.heap[pb]?) (hp : ∀ i, G'.prot pb i → G.prot pb i) : BoxOk G' w' pb B := by
  obtain ⟨c, ty, h1, h2, h3, h4⟩ := h
  exact ⟨c, ty, hw.trans h1, h2.mono hx, fun h i hi => hx.prot _ _ (h3 h i hi), fun h i hi => h4 h i (hp i hi)⟩
theorem RowOk.mono {G G' : Gh} {w w' : World} {R : Row} {p : Nat} (h : RowOk G w R p) (hw : w'.heap[R.pb]? = w.heap[R.pb]?) (hp : ∀ i, G'.prot R.pb i → G.prot R.pb i) : RowOk G' w' R p := by
  obtain ⟨h1, h2, c, ty, fr, h3, h4, h5⟩ := h
  exact ⟨h1, h2, c, ty, fr, hw.trans h3, h4, fun o b => ⟨fun a hh => (h5 o b).1 a (hp o hh), (h5 o b).2⟩⟩

/-- How things stand when just the operations of L are done. -/
structure WInv (base N : Nat) (all : Array Oper) (val : Nat → LV) (η : Nat → H) (s0 : S) (G0 : Gh) (w0 : World) (L : Nat → Bool) (G : Gh) (w : World) (a : Act) : Prop where
  closed : Closed all L
  sd : Sd w0 w
  ext : Ext G0 w0 G w
  low : base ≤ w.heap.size
  prot : ∀ b o, G.prot b o → ∃ v, w.cell? ⟨b, o, none⟩ = some v
  boxAt : ∀ b pb, G.box b = some pb → base ≤ pb ∧ pb < w.heap.size
  boxInj : ∀ b b' pb, G.box b = some pb → G.box b' = some pb → b = b'
  rowAt : ∀ r R, G.row r = some R → r ≠ 0 ∧ base ≤ R.pb ∧ R.pb < w.heap.size ∧ ∀ b, G.box b ≠ some R.pb
  rowInj : ∀ r r' R R', G.row r = some R → G.row r' = some R' → R.pb = R'.pb → r = r'
  size : w0.heap.size ≤ w.heap.size
  old : ∀ i, i < base → w.heap[i]? = w0.heap[i]?
  keepB : ∀ b pb, G0.box b = some pb → (b < (η 0).lob ∨ (η all.size).box.length ≤ b) → w.heap[pb]? = w0.heap[pb]? ∧ ∀ i, G.prot pb i → G0.prot pb i
  keepR : ∀ r R, G0.row r = some R → (r < (η 0).lor ∨ (η all.size).row.length ≤ r) → G.row r = some R ∧ w.heap[R.pb]? = w0.heap[R.pb]? ∧ ∀ i, G.prot R.pb i → G0.prot R.pb i
  newB : ∀ b pb, G.box b = some pb → G0.box b = some pb ∨ ∃ i, (i < all.size ∧ L i = true) ∧ (η i).box.length ≤ b ∧ b < (η (i + 1)).box.length
  newR : ∀ r R, G.row r = some R → (∃ R0, G0.row r = some R0) ∨ ∃ i, (i < all.size ∧ L i = true) ∧ (η i).row.length ≤ r ∧ r < (η (i + 1)).row.length
  box : ∀ b pb, G.box b = some pb → b < (η all.size).box.length → ∃ k B, CutL all.size (bxs η) L b k ∧ (bxs η k)[b]? = some B ∧ BoxOk G w pb B
  row : ∀ r R, G.row r = some R → r < (η all.size).row.length → ∃ k p, CutL all.size (rws η) L r k ∧ (rws η k)[r]? = some p ∧ RowOk G w R p
  madeB : ∀ j b, j < all.size → L j = true → wrL (bxs η) j b → b < (η 0).box.length ∨ ∃ i, (i < all.size ∧ L i = true) ∧ (η i).box.length ≤ b ∧ b < (η (i + 1)).box.length
  madeR : ∀ j b, j < all.size → L j = true → wrL (rws η) j b → b < (η 0).row.length ∨ ∃ i, (i < all.size ∧ L i = true) ∧ (η i).row.length ≤ b ∧ b < (η (i + 1)).row.length
  mfix : MarAt base G w
  keepM : ∀ m R, G0.mar m = some R → (m < (η 0).lob ∨ (η all.size).box.length ≤ m) → G.mar m = some R ∧ w.heap[R.1]? = w0.heap[R.1]?
  newM : ∀ m R, G.mar m = some R → G0.mar m = some R ∨ ∃ i, (i < all.size ∧ L i = true) ∧ (η i).box.length ≤ m ∧ m < (η (i + 1)).box.length
  newMb : ∀ m, G.mb m → G0.mb m ∨ ∃ i, (i < all.size ∧ L i = true) ∧ (η i).box.length ≤ m ∧ m < (η (i + 1)).box.length
  mar : ∀ m, G.mb m → m < (η all.size).box.length → ∃ k B, CutL all.size (bxs η) L m k ∧ (bxs η k)[m]? = some B ∧ (∀ R, G.mar m = some R → MOk G w R B) ∧ (B.cells ≠ [] → ∃ R, G.mar m = some R)
  slots : SR G w N (slotAt all val L s0 all.size) a

/-- A cut, one operation later. -/
theorem cut_next {α : Type} {n i b : Nat} {ξ : Nat → List α} {L : Nat → Bool} (hi : i < n) (hb : b < (ξ (i + 1)).length) (hL : L i = false) (h : ∀ j, j < n → wrL ξ j b → j ≠ i → (j < i ∧ L j = true) ∨ (i < j ∧ L j = false)) :
    CutL n ξ (fun k => L k || k == i) b (i + 1) := by
  refine ⟨by omega, hb, fun j hj hw => ?_⟩
  by_cases e : j = i
  · subst e; simp
  · have e' : (j == i) = false := by simpa using e
    dsimp only
    rw [e', Bool.or_false]
    rcases h j hj hw e with ⟨h1, h2⟩ | ⟨h1, h2⟩
    · simp [h2]; omega
    · simp [h2]; omega
theorem cut_now {α : Type} {n i b : Nat} {ξ : Nat → List α} {L : Nat → Bool} (hi : i < n) (hb : b < (ξ i).length) (hL : L i = false) (h : ∀ j, j < n → wrL ξ j b → j ≠ i → (j < i ∧ L j = true) ∨ (i < j ∧ L j = false)) :
    CutL n ξ L b i := by
  refine ⟨by omega, hb, fun j hj hw => ?_⟩
  by_cases e : j = i
  · subst e; simp [hL]
  · rcases h j hj hw e with ⟨h1, h2⟩ | ⟨h1, h2⟩
    · simp [h2]; omega
    · simp [h2]; omega
theorem cut_other {α : Type} {n i b k : Nat} {ξ : Nat → List α} {L : Nat → Bool} (c : CutL n ξ L b k) (h : ¬ wrL ξ i b) : CutL n ξ (fun k => L k || k == i) b k := by
  refine ⟨c.1, c.2.1, fun j hj hw => ?_⟩
  have e : (j == i) = false := by
    simp only [beq_eq_false_iff_ne, ne_eq]; rintro rfl; exact h hw
  dsimp only
  rw [e, Bool.or_false]
  exact c.2.2 j hj hw

theorem drawW_any {base tb tr N : Nat} {C : Callee'} (hC : COk P base C) (hF : CFn P C) (hL : CLen C) {all : Array Oper} (hd : drawOkL all = true) {Q : Exit → Act → World → Prop}
    {rows : List (Cl × List Nat)} {σ : Nat → S} {η : Nat → H} {val : Nat → LV} (W : WTr P C N all rows σ η val) (hlo : (η 0).lob ≤ (η 0).box.length ∧ (η 0).lor ≤ (η 0).row.length ∧ 1 ≤ (η 0).row.length)
    {G0 : Gh} {w0 : World} (hf : Fresh G0 (η 0) tb tr) (h1 : (η all.size).box.length ≤ tb) (h2 : (η all.size).row.length ≤ tr)
    (hq : ∀ L G w a, (∀ i, i < all.size → L i = true) → WInv base N all val η (σ 0) G0 w0 L G w a → Q .normal a w) :
    ∀ (fuel : Nat) (listed : Array Bool) (G : Gh) (w : World) (a : Act), listed.size = all.size →
      ((List.range all.size).filter fun i => !listedL listed i).length ≤ fuel →
      WInv base N all val η (σ 0) G0 w0 (listedL listed) G w a → wpAny P .any all Q fuel listed a w := by
  have hok : slotsOkL all = true := by unfold drawOkL at hd; rw [Bool.and_eq_true] at hd; exact hd.1
  have htext : ∀ m, m ≤ all.size → slotAt all val (fun _ => true) (σ 0) m = σ m := by
    intro m
    induction m with
    | zero => intro _; rfl
    | succ m ih =>
      intro h
      have ho := Array.getElem?_eq_getElem (show m < all.size by omega)
      obtain ⟨D, A⟩ := W.at_ ho
      simp only [slotAt, if_true, ho]
      rw [ih (by omega)]
      exact A.st.slot.symm
  intro fuel
  induction fuel with
  | zero =>
    intro listed G w a hsz hcnt hinv
    have hall : ∀ i, i < all.size → listedL listed i = true := by
      intro i hi
      cases hl : listedL listed i with
      | true => rfl
      | false =>
        have : i ∈ (List.range all.size).filter fun i => !listedL listed i := by rw [List.mem_filter]; exact ⟨by simpa using hi, by simp [hl]⟩
        have := List.length_pos_of_mem this; omega
    refine ⟨?_, hq _ G w a hall hinv⟩
    unfold Region.ready
    rw [List.filter_eq_nil_iff]
    intro i hi
    have hi : i < all.size := by simpa using hi
    have := hall i hi
    unfold listedL at this
    rw [Array.getD_eq_getD_getElem?] at this
    rw [Array.getElem?_eq_getElem (by omega)] at this
    simp [Array.getD_eq_getD_getElem?, Array.getElem?_eq_getElem (show i < listed.size by omega)] at this ⊢
    intro h; rw [this] at h; cases h
  | succ fuel ih =>
    intro listed G w a hsz hcnt hinv
    refine ⟨fun hr => hq _ G w a (ready_nil hd hsz hr) hinv, ?_⟩
    intro i hi
    obtain ⟨o, ho, hli, hp⟩ := ready_mem hsz hi
    have hin : i < all.size := (Array.getElem?_eq_some_iff.1 ho).1
    obtain ⟨D, A⟩ := W.at_ ho
    have hds := A.st
    have hL' : listedL (listed.setIfInBounds i true) = fun k => listedL listed k || k == i := by
      funext k
      unfold listedL
      rw [Array.getD_eq_getD_getElem?, Array.getD_eq_getD_getElem?, Array.getElem?_setIfInBounds]
      by_cases hk : i = k
      · subst hk; simp [hsz, hin]
      · have : (k == i) = false := by simp; omega
        rw [if_neg hk, this, Bool.or_false]
    have hcnt' : ((List.range all.size).filter fun k => !listedL (listed.setIfInBounds i true) k).length ≤ fuel := by
      have := filter_lt (p := fun k => !listedL listed k) (q := fun k => !listedL (listed.setIfInBounds i true) k) (List.range all.size) (by
        intro x _ hx; rw [hL'] at hx; simp at hx ⊢; exact hx.1) ⟨i, by simpa using hin, by simp [hli], by rw [hL']; simp⟩
      omega
    have hread : ∀ t ∈ o.looksAt all, slotAt all val (listedL listed) (σ 0) all.size t = σ i t := by
      intro t ht
      have := (slot_read (val := val) (s0 := σ 0) hok hinv.closed ho hp hli ht all.size).2 (by omega)
      rw [this, htext i (by omega)]
    have hwant : wantL all (slotAt all val (listedL listed) (σ 0) all.size) o = wantL all (σ i) o := wantL_looks hread
    have hcl' : Closed all (fun k => listedL listed k || k == i) := by
      intro k q hk hLk e he hb
      simp only [Bool.or_eq_true, beq_iff_eq] at hLk ⊢
      rcases hLk with hLk | rfl
      · exact .inl (hinv.closed k q hk hLk e he hb)
      · rw [ho] at hk; cases hk; exact .inl (hp e he hb)
    have hput : ∀ (G' : Gh) (w' : World) (a' : Act) (u : Value), SR G' w' N (slotAt all val (listedL listed) (σ 0) all.size) a' → VR G' w' (val i) u →
        SR G' w' N (slotAt all val (fun k => listedL listed k || k == i) (σ 0) all.size) (a'.put o.dst u) := by
      intro G' w' a' u hs hv
      have := hs.put hds.dst hv
      refine ⟨this.size, this.defers, fun t => ?_⟩
      rw [(slot_put (val := val) (s0 := σ 0) hok hinv.closed ho hli t all.size).2 hin]
      exact this.at_ t
    have hgi : Gro (η i) (η (i + 1)) := W.gro hin
    have hg0 : Gro (η 0) (η i) := W.le (Nat.zero_le _) (by omega)
    have hgn : Gro (η (i + 1)) (η all.size) := W.le (by omega) (Nat.le_refl _)
    -- nothing done: not wanted
    have newMore : ∀ {p : Nat → Prop}, (∃ j, (j < all.size ∧ listedL listed j = true) ∧ p j) → ∃ j, (j < all.size ∧ (listedL listed j || j == i) = true) ∧ p j := by
      rintro p ⟨j, ⟨x, y⟩, z⟩
      exact ⟨j, ⟨x, by simp [y]⟩, z⟩
    unfold wpOp
    rw [ho]
    dsimp only
    rcases hds.did with ⟨hw, hop⟩ | ⟨hw, hvu, hηe⟩
    · rw [if_pos (want_ok (hwant.trans hw) hinv.slots)]
      -- what comes ahead, and what behind
      have hordB : ∀ {b : Nat}, (((clA P all i = .l ∨ clA P all i = .s) ∧ ∃ off, (addrO o.op).bind (opr (σ i)) = some (.ptr b off)) ∨ clA P all i = .r ∨ clA P all i = .w) →
          ∀ j, j < all.size → wrL (bxs η) j b → j ≠ i → (j < i ∧ listedL listed j = true) ∨ (i < j ∧ listedL listed j = false) := by
        intro b ht j hj hwj hne
        rcases W.boxOrd hL ho A hop ht hj hwj hne with ⟨h3, h4⟩ | ⟨h3, h4⟩
        · exact .inl ⟨h3, reach_ready hinv.closed ho hp h4⟩
        · refine .inr ⟨h3, ?_⟩
          cases hLj : listedL listed j with
          | false => rfl
          | true => rw [reach_closed hinv.closed h4 hLj] at hli; cases hli
      have hordR : ∀ {b : Nat}, (clA P all i = .p ∨ clA P all i = .r ∨ clA P all i = .w) →
          ∀ j, j < all.size → wrL (rws η) j b → j ≠ i → (j < i ∧ listedL listed j = true) ∨ (i < j ∧ listedL listed j = false) := by
        intro b ht j hj hwj hne
        rcases W.rowOrd hL A ht hj hwj hne with ⟨h3, h4⟩ | ⟨h3, h4⟩
        · exact .inl ⟨h3, reach_ready hinv.closed ho hp h4⟩
        · refine .inr ⟨h3, ?_⟩
          cases hLj : listedL listed j with
          | false => rfl
          | true => rw [reach_closed hinv.closed h4 hLj] at hli; cases hli
      obtain ⟨Tb, Tr, ht1, ht2, hrun⟩ := opW_local A.fit hop
      have ht2' : ∀ r, Tr r → clA P all i = .p ∨ clA P all i = .r ∨ clA P all i = .w := by
        intro r hr
        rcases ht2 r hr with h | h | h
        · exact .inl h.1
        · exact .inr (.inl h)
        · exact .inr (.inr h)
      have cutB : ∀ b, Tb b → b < (η i).box.length → CutL all.size (bxs η) (listedL listed) b i := fun b hb hbl => cut_now hin hbl hli (hordB (ht1 b hb))
      have cutR : ∀ b, Tr b → b < (η i).row.length → CutL all.size (rws η) (listedL listed) b i := fun b hb hbl => cut_now hin hbl hli (hordR (ht2' b hb))
      obtain ⟨g', hop1, aB, aR⟩ := hrun (curL all.size (bxs η) (listedL listed) ⟨false, []⟩ (η i).box.length) (curL all.size (rws η) (listedL listed) 0 (η i).row.length) (cur_len _ _ _ _ _) (cur_len _ _ _ _ _)
        (fun b hb hbl => cur_self (ξ := bxs η) W.monoB hbl (cutB b hb hbl)) (fun b hb hbl => cur_self (ξ := rws η) W.monoR hbl (cutR b hb hbl))
      generalize hBl : curL all.size (bxs η) (listedL listed) ⟨false, []⟩ (η i).box.length = Bl at *
      generalize hRl : curL all.size (rws η) (listedL listed) 0 (η i).row.length = Rl at *
      have lenB : Bl.length = (η i).box.length := by rw [← hBl]; exact cur_len _ _ _ _ _
      have lenR : Rl.length = (η i).row.length := by rw [← hRl]; exact cur_len _ _ _ _ _
      have curB : ∀ b pb, G.box b = some pb → b < (η i).box.length → ∃ k B, CutL all.size (bxs η) (listedL listed) b k ∧ (bxs η k)[b]? = some B ∧ Bl[b]? = some B ∧ BoxOk G w pb B := by
        intro b pb hb hbl
        obtain ⟨k, B, c1, c2, c3⟩ := hinv.box b pb hb (by have := hgi.len.1; have := hgn.len.1; omega)
        exact ⟨k, B, c1, c2, by rw [← hBl]; exact cur_cut W.monoB c1 c2 hbl, c3⟩
      have curR : ∀ r R, G.row r = some R → r < (η i).row.length → ∃ k p, CutL all.size (rws η) (listedL listed) r k ∧ (rws η k)[r]? = some p ∧ Rl[r]? = some p ∧ RowOk G w R p := by
        intro b pb hb hbl
        obtain ⟨k, B, c1, c2, c3⟩ := hinv.row b pb hb (by have := hgi.len.2; have := hgn.len.2; omega)
        exact ⟨k, B, c1, c2, by rw [← hRl]; exact cur_cut W.monoR c1 c2 hbl, c3⟩
      have curM : ∀ m, G.mb m → m < (η i).box.length → ∃ k B, CutL all.size (bxs η) (listedL listed) m k ∧ (bxs η k)[m]? = some B ∧ Bl[m]? = some B ∧ (∀ R, G.mar m = some R → MOk G w R B) ∧ (B.cells ≠ [] → ∃ R, G.mar m = some R) := by
        intro m hm hbl
        obtain ⟨k, B, c1, c2, c3, c4⟩ := hinv.mar m hm (by have := hgi.len.1; have := hgn.len.1; omega)
        exact ⟨k, B, c1, c2, by rw [← hBl]; exact cur_cut W.monoB c1 c2 hbl, c3, c4⟩
      have hlob : (η i).lob ≤ (η i).box.length := by rw [hg0.lob]; exact Nat.le_trans hlo.1 hg0.len.1
      have hlor : (η i).lor ≤ (η i).row.length := by rw [hg0.lor]; exact Nat.le_trans hlo.2.1 hg0.len.2
      have hone : 1 ≤ (η i).row.length := Nat.le_trans hlo.2.2 hg0.len.2
      -- the memory as it stands for this operation
      generalize hgg : (if clA P all i = .r then ro (mkH (η i) Bl Rl) else mkH (η i) Bl Rl) = g at hop1
      have gbox : g.box = Bl := by rw [← hgg]; split <;> rfl
      have grow : g.row = Rl := by rw [← hgg]; split <;> rfl
      have glob : g.lob ≤ g.box.length ∧ (η 0).lob ≤ g.lob := by
        rw [gbox, lenB, ← hgg]
        split
        · exact ⟨by show Bl.length ≤ _; omega, by show _ ≤ Bl.length; rw [lenB, ← hg0.lob]; exact hlob⟩
        · exact ⟨hlob, by show _ ≤ (η i).lob; rw [hg0.lob]; exact Nat.le_refl _⟩
      have glor : g.lor ≤ g.row.length ∧ (η 0).lor ≤ g.lor := by
        rw [grow, lenR, ← hgg]
        split
        · exact ⟨by show Rl.length ≤ _; omega, by show _ ≤ Rl.length; rw [lenR, ← hg0.lor]; exact hlor⟩
        · exact ⟨hlor, by show _ ≤ (η i).lor; rw [hg0.lor]; exact Nat.le_refl _⟩
      have hrg : HR base G w g := by
        refine ⟨hinv.low, ⟨glob.1, glor.1, by rw [grow, lenR]; exact hone⟩, hinv.prot, hinv.boxAt, hinv.boxInj, hinv.rowAt, hinv.rowInj, ?_, ?_, hinv.mfix, ?_, ?_⟩
        · intro b pb B hb hB
          rw [gbox] at hB
          have hbl : b < (η i).box.length := by have := (List.getElem?_eq_some_iff.1 hB).1; omega
          obtain ⟨k, B', _, _, c3, c4⟩ := curB b pb hb hbl
          rw [hB] at c3; cases c3
          exact c4
        · intro r R p hr hp'
          rw [grow] at hp'
          have hbl : r < (η i).row.length := by have := (List.getElem?_eq_some_iff.1 hp').1; omega
          obtain ⟨k, B', _, _, c3, c4⟩ := curR r R hr hbl
          rw [hp'] at c3; cases c3
          exact c4
        · intro m R B hR hB
          rw [gbox] at hB
          have hbl : m < (η i).box.length := by have := (List.getElem?_eq_some_iff.1 hB).1; omega
          obtain ⟨k, B', _, _, c3, c4, _⟩ := curM m (hinv.mfix.at_ m R hR).1 hbl
          rw [hB] at c3; cases c3
          exact c4 R hR
        · intro m B hm hB hne
          rw [gbox] at hB
          have hbl : m < (η i).box.length := by have := (List.getElem?_eq_some_iff.1 hB).1; omega
          obtain ⟨k, B', _, _, c3, _, c5⟩ := curM m hm hbl
          rw [hB] at c3; cases c3
          exact c5 hne
      have hop' : opL P C (slotAt all val (listedL listed) (σ 0) all.size) o.op g = some (val i, g') := (opL_looks hread).trans hop1
      have hfr : Fresh G g (η (i + 1)).box.length (η (i + 1)).row.length := by
        refine ⟨fun b hb1 hb2 => ?_, fun r hb1 hb2 => ?_, fun b hb1 hb2 hg => ?_⟩
        · rw [gbox, lenB] at hb1
          cases hg : G.box b with
          | none => rfl
          | some pb =>
            rcases hinv.newB b pb hg with h3 | ⟨j, ⟨hjn, hj⟩, h3, h4⟩
            · rw [hf.box b (by have := hg0.len.1; omega) (by have := hgn.len.1; omega)] at h3; cases h3
            · have hji : j ≠ i := by rintro rfl; rw [hli] at hj; cases hj
              rcases Nat.lt_or_gt_of_ne hji with hlt | hgt
              · have := (W.le (show j + 1 ≤ i from hlt) (by omega)).len.1; omega
              · have := (W.le (show i + 1 ≤ j from hgt) (by omega)).len.1; omega
        · rw [grow, lenR] at hb1
          cases hg : G.row r with
          | none => rfl
          | some R =>
            rcases hinv.newR r R hg with ⟨R0, h3⟩ | ⟨j, ⟨hjn, hj⟩, h3, h4⟩
            · rw [hf.row r (by have := hg0.len.2; omega) (by have := hgn.len.2; omega)] at h3; cases h3
            · have hji : j ≠ i := by rintro rfl; rw [hli] at hj; cases hj
              rcases Nat.lt_or_gt_of_ne hji with hlt | hgt
              · have := (W.le (show j + 1 ≤ i from hlt) (by omega)).len.2; omega
              · have := (W.le (show i + 1 ≤ j from hgt) (by omega)).len.2; omega
        · rw [gbox, lenB] at hb1
          rcases hinv.newMb b hg with h3 | ⟨j, ⟨hjn, hj⟩, h3, h4⟩
          · exact hf.mb b (by have := hg0.len.1; omega) (by have := hgn.len.1; omega) h3
          · have hji : j ≠ i := by rintro rfl; rw [hli] at hj; cases hj
            rcases Nat.lt_or_gt_of_ne hji with hlt | hgt
            · have := (W.le (show j + 1 ≤ i from hlt) (by omega)).len.1; omega
            · have := (W.le (show i + 1 ≤ j from hgt) (by omega)).len.1; omega
      -- who made what this operation writes
      have mineB : ∀ b, wrL (bxs η) i b → b < (η 0).box.length ∨ ∃ j, (j < all.size ∧ listedL listed j = true) ∧ (η j).box.length ≤ b ∧ b < (η (j + 1)).box.length := by
        intro b hb
        rcases Nat.lt_or_ge b (η 0).box.length with h3 | h3
        · exact .inl h3
        · refine .inr ?_
          rcases (opW_wrote A.fit hL hop).1 b hb.1 hb.2 with ⟨cs, off, ha⟩ | ⟨cw, _⟩
          · have hx : ∃ x ∈ o.op.operands, opr (σ i) x = some (.ptr b off) := by
              have hfit := A.fit
              rw [cs] at hfit
              have hcs : clOp P o.op = .s := by
                rcases hfit with h | ⟨h, _⟩ | ⟨h, _⟩
                · exact h.symm
                · cases h
                · rcases h with h | h <;> cases h
              cases hoo : o.op <;> rw [hoo] at hcs ha <;> simp only [addrO, Option.bind_none, Option.bind_some] at ha <;> try (cases ha; done)
              case load t x => cases hcs
              case store t x y => exact ⟨x, by simp [Op.operands], ha⟩
            obtain ⟨x, hx1, hx2⟩ := hx
            have hsame : opr (slotAt all val (listedL listed) (σ 0) all.size) x = opr (σ i) x := by
              cases x with
              | tmp t =>
                simp only [opr]
                rw [hread t]
                simp only [Oper.looksAt, List.mem_append, List.mem_filterMap]
                exact .inl ⟨.tmp t, by simpa using hx1, rfl⟩
              | _ => rfl
            have hvr := opr_ok (hsame.trans hx2) hinv.slots
            have hgb : ∃ pb, G.box b = some pb := by
              generalize a.eval x = q at hvr
              cases hvr with
              | ptr hb => exact ⟨_, hb⟩
            obtain ⟨pb, hgb⟩ := hgb
            rcases hinv.newB b pb hgb with h4 | h4
            · rw [hf.box b h3 (by have := hgi.len.1; have := hgn.len.1; have : b < (η i).box.length := hb.1; omega)] at h4; cases h4
            · exact h4
          · obtain ⟨k, hk, h4, h5⟩ := (W.callMade ho A cw hop hL).1 b hb h3
            exact ⟨k, ⟨by omega, reach_ready hinv.closed ho hp h5⟩, h4⟩
      have mineR : ∀ b, wrL (rws η) i b → b < (η 0).row.length ∨ ∃ j, (j < all.size ∧ listedL listed j = true) ∧ (η j).row.length ≤ b ∧ b < (η (j + 1)).row.length := by
        intro b hb
        rcases Nat.lt_or_ge b (η 0).row.length with h3 | h3
        · exact .inl h3
        · refine .inr ?_
          rcases (opW_wrote A.fit hL hop).2 b hb.1 hb.2 with ⟨cs, hne, x, hx1, hi', sz, xs, hx2⟩ | ⟨cw, _⟩
          · have hsame : opr (slotAt all val (listedL listed) (σ 0) all.size) x = opr (σ i) x := by
              cases x with
              | tmp t =>
                simp only [opr]
                rw [hread t]
                simp only [Oper.looksAt, List.mem_append, List.mem_filterMap]
                exact .inl ⟨.tmp t, by simpa using hx1, rfl⟩
              | _ => rfl
            have hvr := opr_ok (hsame.trans hx2) hinv.slots
            have hgb : ∃ R, G.row b = some R := by
              generalize a.eval x = q at hvr
              cases hvr with
              | sl u hcap hz hc hv ht => obtain ⟨R, hR, _⟩ := ht hne; exact ⟨R, hR⟩
              | sle => exact absurd rfl hne
            obtain ⟨R, hgb⟩ := hgb
            rcases hinv.newR b R hgb with ⟨R0, h4⟩ | h4
            · rw [hf.row b h3 (by have := hgi.len.2; have := hgn.len.2; have : b < (η i).row.length := hb.1; omega)] at h4; cases h4
            · exact h4
          · obtain ⟨k, hk, h4, h5⟩ := (W.callMade ho A cw hop hL).2 b hb h3
            exact ⟨k, ⟨by omega, reach_ready hinv.closed ho hp h5⟩, h4⟩
      have hg'b : g'.box.length = (η (i + 1)).box.length := aB.len
      have hg'r : g'.row.length = (η (i + 1)).row.length := aR.len
      refine .inl (op_sound hC hF hop' hrg hfr (by omega) (by omega) hinv.slots ?_)
      intro G2 w2 u hst hv
      refine ih (listed.setIfInBounds i true) G2 w2 _ (by simpa using hsz) hcnt' ?_
      rw [hL']
      have hbx : ∀ b pb, G.box b = some pb → (b < (η 0).lob ∨ (η (i + 1)).box.length ≤ b) → w2.heap[pb]? = w.heap[pb]? ∧ ∀ k, G2.prot pb k → G.prot pb k := by
        intro b pb hb hc
        refine hst.fr.box b pb hb ?_
        rw [hg'b]
        have := glob.2; omega
      have hrx : ∀ r R, G.row r = some R → (r < (η 0).lor ∨ (η (i + 1)).row.length ≤ r) → G2.row r = some R ∧ w2.heap[R.pb]? = w.heap[R.pb]? ∧ ∀ k, G2.prot R.pb k → G.prot R.pb k := by
        intro r R hR hc
        refine hst.fr.row r R hR ?_
        rw [hg'r]
        have := glor.2; omega
      have hmx : ∀ m R, G.mar m = some R → (m < (η 0).lob ∨ (η (i + 1)).box.length ≤ m) → G2.mar m = some R ∧ w2.heap[R.1]? = w.heap[R.1]? := by
        intro m R hR hc
        refine hst.fr.marF m R hR ?_
        rw [hg'b]
        have := glob.2; omega
      have lenη : (η i).box.length ≤ (η (i + 1)).box.length ∧ (η (i + 1)).box.length ≤ (η all.size).box.length := ⟨hgi.len.1, hgn.len.1⟩
      have lenηr : (η i).row.length ≤ (η (i + 1)).row.length ∧ (η (i + 1)).row.length ≤ (η all.size).row.length := ⟨hgi.len.2, hgn.len.2⟩
      refine ⟨hcl', hinv.sd.trans hst.sd, hinv.ext.trans hst.ext, hst.hr.size, hst.hr.prot, hst.hr.boxAt, hst.hr.boxInj, hst.hr.rowAt, hst.hr.rowInj, Nat.le_trans hinv.size hst.fr.size,
        fun k hk => (hst.fr.old k hk).trans (hinv.old k hk), ?_, ?_, ?_, ?_, ?_, ?_, ?_, ?_, hst.hr.mar.fix, ?_, ?_, ?_, ?_, hput _ _ _ _ (hinv.slots.mono hst.ext) hv⟩
      · intro b pb hb hc
        obtain ⟨q1, q2⟩ := hinv.keepB b pb hb hc
        obtain ⟨q3, q4⟩ := hbx b pb (hinv.ext.box b pb hb) (by omega)
        exact ⟨q3.trans q1, fun k hk => q2 k (q4 k hk)⟩
      · intro r R hR hc
        obtain ⟨q0, q1, q2⟩ := hinv.keepR r R hR hc
        obtain ⟨q3, q4, q5⟩ := hrx r R q0 (by omega)
        exact ⟨q3, q4.trans q1, fun k hk => q2 k (q5 k hk)⟩
      · intro b pb hb
        rcases hst.fr.newBox b pb hb with h3 | ⟨h3, h4⟩
        · rcases hinv.newB b pb h3 with h5 | h5
          · exact .inl h5
          · exact .inr (newMore h5)
        · rw [gbox, lenB] at h3; rw [hg'b] at h4
          exact .inr ⟨i, ⟨hin, by simp⟩, h3, h4⟩
      · intro r R hR
        rcases hst.fr.newRow r R hR with ⟨R0, h3⟩ | ⟨h3, h4⟩
        · rcases hinv.newR r R0 h3 with h5 | h5
          · exact .inl h5
          · exact .inr (newMore h5)
        · rw [grow, lenR] at h3; rw [hg'r] at h4
          exact .inr ⟨i, ⟨hin, by simp⟩, h3, h4⟩
      · intro b pb hb hbn
        rcases Nat.lt_or_ge b (η (i + 1)).box.length with hb1 | hb1
        · rcases Nat.lt_or_ge b (η i).box.length with hb0 | hb0
          · have hbG : G.box b = some pb := by
              rcases hst.fr.newBox b pb hb with h3 | ⟨h3, _⟩
              · exact h3
              · rw [gbox, lenB] at h3; omega
            obtain ⟨k, B, c1, c2, c3, c4⟩ := curB b pb hbG hb0
            by_cases ht : Tb b
            · have e1 : g'.box[b]? = (η (i + 1)).box[b]? := aB.touched b ht hb0
              obtain ⟨B', hB'⟩ : ∃ B', (η (i + 1)).box[b]? = some B' := ⟨_, List.getElem?_eq_getElem hb1⟩
              exact ⟨i + 1, B', cut_next hin hb1 hli (hordB (ht1 b ht)), hB', hst.hr.box b pb B' hb (e1.trans hB')⟩
            · obtain ⟨e1, e2⟩ := aB.other b ht hb0
              exact ⟨k, B, cut_other c1 (fun hw => hw.2 e2), c2, hst.hr.box b pb B hb (e1.trans c3)⟩
          · have e1 : g'.box[b]? = (η (i + 1)).box[b]? := aB.new b hb0
            obtain ⟨B', hB'⟩ : ∃ B', (η (i + 1)).box[b]? = some B' := ⟨_, List.getElem?_eq_getElem hb1⟩
            refine ⟨i + 1, B', cut_next hin hb1 hli ?_, hB', hst.hr.box b pb B' hb (e1.trans hB')⟩
            intro j hj hwj hne
            have hwl : b < (η j).box.length := hwj.1
            have hij : i < j := by
              rcases Nat.lt_or_ge i j with h | h
              · exact h
              · have := (W.le (show j ≤ i from h) (by omega)).len.1; omega
            refine .inr ⟨hij, ?_⟩
            cases hLj : listedL listed j with
            | false => rfl
            | true =>
              exfalso
              rcases hinv.madeB j b hj hLj hwj with h3 | ⟨q, ⟨hqn, hq⟩, h3, h4⟩
              · have := hg0.len.1; omega
              · have hqi : q ≠ i := by rintro rfl; rw [hli] at hq; cases hq
                rcases Nat.lt_or_gt_of_ne hqi with hlt | hgt
                · have := (W.le (show q + 1 ≤ i from hlt) (by omega)).len.1; omega
                · have := (W.le (show i + 1 ≤ q from hgt) (by omega)).len.1; omega
        · have hbG : G.box b = some pb := by
            rcases hst.fr.newBox b pb hb with h3 | ⟨_, h3⟩
            · exact h3
            · rw [hg'b] at h3; omega
          obtain ⟨k, B, c1, c2, c3⟩ := hinv.box b pb hbG hbn
          obtain ⟨q1, q2⟩ := hbx b pb hbG (.inr hb1)
          exact ⟨k, B, cut_other c1 (fun hw => by have : b < (η i).box.length := hw.1; omega), c2, c3.mono hst.ext q1 q2⟩
      · intro r R hR hrn
        rcases Nat.lt_or_ge r (η (i + 1)).row.length with hb1 | hb1
        · rcases Nat.lt_or_ge r (η i).row.length with hb0 | hb0
          · obtain ⟨R0, hRG⟩ : ∃ R0, G.row r = some R0 := by
              rcases hst.fr.newRow r R hR with h3 | ⟨h3, _⟩
              · exact h3
              · rw [grow, lenR] at h3; omega
            obtain ⟨k, B, c1, c2, c3, c4⟩ := curR r R0 hRG hb0
            by_cases ht : Tr r
            · have e1 : g'.row[r]? = (η (i + 1)).row[r]? := aR.touched r ht hb0
              obtain ⟨B', hB'⟩ : ∃ B', (η (i + 1)).row[r]? = some B' := ⟨_, List.getElem?_eq_getElem hb1⟩
              exact ⟨i + 1, B', cut_next hin hb1 hli (hordR (ht2' r ht)), hB', hst.hr.row r R B' hR (e1.trans hB')⟩
            · obtain ⟨e1, e2⟩ := aR.other r ht hb0
              exact ⟨k, B, cut_other c1 (fun hw => hw.2 e2), c2, hst.hr.row r R B hR (e1.trans c3)⟩
          · have e1 : g'.row[r]? = (η (i + 1)).row[r]? := aR.new r hb0
            obtain ⟨B', hB'⟩ : ∃ B', (η (i + 1)).row[r]? = some B' := ⟨_, List.getElem?_eq_getElem hb1⟩
            refine ⟨i + 1, B', cut_next hin hb1 hli ?_, hB', hst.hr.row r R B' hR (e1.trans hB')⟩
            intro j hj hwj hne
            have hwl : r < (η j).row.length := hwj.1
            have hij : i < j := by
              rcases Nat.lt_or_ge i j with h | h
              · exact h
              · have := (W.le (show j ≤ i from h) (by omega)).len.2; omega
            refine .inr ⟨hij, ?_⟩
            cases hLj : listedL listed j with
            | false => rfl
            | true =>
              exfalso
              rcases hinv.madeR j r hj hLj hwj with h3 | ⟨q, ⟨hqn, hq⟩, h3, h4⟩
              · have := hg0.len.2; omega
              · have hqi : q ≠ i := by rintro rfl; rw [hli] at hq; cases hq
                rcases Nat.lt_or_gt_of_ne hqi with hlt | hgt
                · have := (W.le (show q + 1 ≤ i from hlt) (by omega)).len.2; omega
                · have := (W.le (show i + 1 ≤ q from hgt) (by omega)).len.2; omega
        · obtain ⟨R0, hRG⟩ : ∃ R0, G.row r = some R0 := by
            rcases hst.fr.newRow r R hR with h3 | ⟨_, h3⟩
            · exact h3
            · rw [hg'r] at h3; omega
          obtain ⟨k, B, c1, c2, c3⟩ := hinv.row r R0 hRG hrn
          obtain ⟨q0, q1, q2⟩ := hrx r R0 hRG (.inr hb1)
          rw [q0] at hR; cases hR
          exact ⟨k, B, cut_other c1 (fun hw => by have : r < (η i).row.length := hw.1; omega), c2, c3.mono q1 q2⟩
      · intro j b hj hLj hwj
        simp only [Bool.or_eq_true, beq_iff_eq] at hLj
        rcases hLj with hLj | rfl
        · rcases hinv.madeB j b hj hLj hwj with h3 | h3
          · exact .inl h3
          · exact .inr (newMore h3)
        · rcases mineB b hwj with h3 | h3
          · exact .inl h3
          · exact .inr (newMore h3)
      · intro j b hj hLj hwj
        simp only [Bool.or_eq_true, beq_iff_eq] at hLj
        rcases hLj with hLj | rfl
        · rcases hinv.madeR j b hj hLj hwj with h3 | h3
          · exact .inl h3
          · exact .inr (newMore h3)
        · rcases mineR b hwj with h3 | h3
          · exact .inl h3
          · exact .inr (newMore h3)
      · intro m R hR hc
        obtain ⟨q0, q1⟩ := hinv.keepM m R hR hc
        obtain ⟨q3, q4⟩ := hmx m R q0 (by omega)
        exact ⟨q3, q4.trans q1⟩
      · intro m R hR
        rcases hst.fr.newMar m R hR with h3 | ⟨h3, h4⟩
        · rcases hinv.newM m R h3 with h5 | h5
          · exact .inl h5
          · exact .inr (newMore h5)
        · rw [gbox, lenB] at h3; rw [hg'b] at h4
          exact .inr ⟨i, ⟨hin, by simp⟩, h3, h4⟩
      · intro m hm
        rcases hst.fr.newMb m hm with h3 | ⟨h3, h4⟩
        · rcases hinv.newMb m h3 with h5 | h5
          · exact .inl h5
          · exact .inr (newMore h5)
        · rw [gbox, lenB] at h3; rw [hg'b] at h4
          exact .inr ⟨i, ⟨hin, by simp⟩, h3, h4⟩
      · intro m hm hbn
        rcases Nat.lt_or_ge m (η (i + 1)).box.length with hb1 | hb1
        · rcases Nat.lt_or_ge m (η i).box.length with hb0 | hb0
          · have hmG : G.mb m := by
              rcases hst.fr.newMb m hm with h3 | ⟨h3, _⟩
              · exact h3
              · rw [gbox, lenB] at h3; omega
            obtain ⟨k, B, c1, c2, c3, c4, c5⟩ := curM m hmG hb0
            by_cases ht : Tb m
            · have e1 : g'.box[m]? = (η (i + 1)).box[m]? := aB.touched m ht hb0
              obtain ⟨B', hB'⟩ : ∃ B', (η (i + 1)).box[m]? = some B' := ⟨_, List.getElem?_eq_getElem hb1⟩
              exact ⟨i + 1, B', cut_next hin hb1 hli (hordB (ht1 m ht)), hB', fun R hR => hst.hr.mar.box m R B' hR (e1.trans hB'), hst.hr.mar.live m B' hm (e1.trans hB')⟩
            · obtain ⟨e1, e2⟩ := aB.other m ht hb0
              exact ⟨k, B, cut_other c1 (fun hw => hw.2 e2), c2, fun R hR => hst.hr.mar.box m R B hR (e1.trans c3), hst.hr.mar.live m B hm (e1.trans c3)⟩
          · have e1 : g'.box[m]? = (η (i + 1)).box[m]? := aB.new m hb0
            obtain ⟨B', hB'⟩ : ∃ B', (η (i + 1)).box[m]? = some B' := ⟨_, List.getElem?_eq_getElem hb1⟩
            refine ⟨i + 1, B', cut_next hin hb1 hli ?_, hB', fun R hR => hst.hr.mar.box m R B' hR (e1.trans hB'), hst.hr.mar.live m B' hm (e1.trans hB')⟩
            intro j hj hwj hne
            have hwl : m < (η j).box.length := hwj.1
            have hij : i < j := by
              rcases Nat.lt_or_ge i j with h | h
              · exact h
              · have := (W.le (show j ≤ i from h) (by omega)).len.1; omega
            refine .inr ⟨hij, ?_⟩
            cases hLj : listedL listed j with
            | false => rfl
            | true =>
              exfalso
              rcases hinv.madeB j m hj hLj hwj with h3 | ⟨q, ⟨hqn, hq⟩, h3, h4⟩
              · have := hg0.len.1; omega
              · have hqi : q ≠ i := by rintro rfl; rw [hli] at hq; cases hq
                rcases Nat.lt_or_gt_of_ne hqi with hlt | hgt
                · have := (W.le (show q + 1 ≤ i from hlt) (by omega)).len.1; omega
                · have := (W.le (show i + 1 ≤ q from hgt) (by omega)).len.1; omega
        · have hmG : G.mb m := by
            rcases hst.fr.newMb m hm with h3 | ⟨_, h3⟩
            · exact h3
            · rw [hg'b] at h3; omega
          obtain ⟨k, B, c1, c2, c3, c4⟩ := hinv.mar m hmG hbn
          refine ⟨k, B, cut_other c1 (fun hw => by have : m < (η i).box.length := hw.1; omega), c2, fun R hR => ?_, fun hne => ?_⟩
          · rcases hst.fr.newMar m R hR with h3 | ⟨_, h3⟩
            · exact (c3 R h3).mono hst.ext (hmx m R h3 (.inr hb1)).2
            · rw [hg'b] at h3; omega
          · obtain ⟨R, hR⟩ := c4 hne
            exact ⟨R, (hmx m R hR (.inr hb1)).1⟩
    · rw [if_neg (by rw [want_ok (hwant.trans hw) hinv.slots]; simp)]
      refine ih (listed.setIfInBounds i true) G w _ (by simpa using hsz) hcnt' ?_
      rw [hL']
      have nwB : ∀ b, ¬ wrL (bxs η) i b := fun b h => h.2 (by show (η (i + 1)).box[b]? = (η i).box[b]?; rw [hηe])
      have nwR : ∀ b, ¬ wrL (rws η) i b := fun b h => h.2 (by show (η (i + 1)).row[b]? = (η i).row[b]?; rw [hηe])
      refine ⟨hcl', hinv.sd, hinv.ext, hinv.low, hinv.prot, hinv.boxAt, hinv.boxInj, hinv.rowAt, hinv.rowInj, hinv.size, hinv.old, hinv.keepB, hinv.keepR, ?_, ?_, ?_, ?_, ?_, ?_, hinv.mfix, hinv.keepM, ?_, ?_, ?_, hput _ _ _ _ hinv.slots (by rw [hvu]; exact vr_none)⟩
      · intro b pb hb
        rcases hinv.newB b pb hb with h5 | h5
        · exact .inl h5
        · exact .inr (newMore h5)
      · intro r R hR
        rcases hinv.newR r R hR with h5 | h5
        · exact .inl h5
        · exact .inr (newMore h5)
      · intro b pb hb hbn
        obtain ⟨k, B, c1, c2, c3⟩ := hinv.box b pb hb hbn
        exact ⟨k, B, cut_other c1 (nwB b), c2, c3⟩
      · intro b pb hb hbn
        obtain ⟨k, B, c1, c2, c3⟩ := hinv.row b pb hb hbn
        exact ⟨k, B, cut_other c1 (nwR b), c2, c3⟩
      · intro j b hj hLj hwj
        simp only [Bool.or_eq_true, beq_iff_eq] at hLj
        rcases hLj with hLj | rfl
        · rcases hinv.madeB j b hj hLj hwj with h3 | h3
          · exact .inl h3
          · exact .inr (newMore h3)
        · exact absurd hwj (nwB b)
      · intro j b hj hLj hwj
        simp only [Bool.or_eq_true, beq_iff_eq] at hLj
        rcases hLj with hLj | rfl
        · rcases hinv.madeR j b hj hLj hwj with h3 | h3
          · exact .inl h3
          · exact .inr (newMore h3)
        · exact absurd hwj (nwR b)
      · intro m R hR
        rcases hinv.newM m R hR with h5 | h5
        · exact .inl h5
        · exact .inr (newMore h5)
      · intro m hm
        rcases hinv.newMb m hm with h5 | h5
        · exact .inl h5
        · exact .inr (newMore h5)
      · intro m hm hbn
        obtain ⟨k, B, c1, c2, c3⟩ := hinv.mar m hm hbn
        exact ⟨k, B, cut_other c1 (nwB m), c2, c3⟩
end Go.LM

namespace Go.LM
variable {P : Program}

theorem drawW_sound {base tb tr N : Nat} {C : Callee'} (hC : COk P base C) (hF : CFn P C) (hL : CLen C) (hm : P.follows .mixedOrders = true) {id : Nat} {all : Array Oper} (hd : drawOkL all = true) {Q : Exit → Act → World → Prop}
    {rows : List (Cl × List Nat)} (hp : planW P all.toList = some rows)
    {s s' : S} {h h' : H} {G : Gh} {w : World} {a : Act} (ho : opsW P C N all (all.toList.zip rows) s h = some (s', h')) (hh : HR base G w h) (hf : Fresh G h tb tr) (h1 : h'.box.length ≤ tb) (h2 : h'.row.length ≤ tr)
    (hs : SR G w N s a) (hq : ∀ G' w' a', Step base G w h G' w' h' → SR G' w' N s' a' → Q .normal a' w') : (Code.region id all true).wp P Q a w := by
  refine wp_region_any hm ?_
  have hst0 := Step.same (w := w) (w' := { w with drawn := w.drawn + 1 }) rfl ⟨rfl, rfl, rfl⟩ hh
  obtain ⟨σ, η, val, e1, e2, e3, e4, htr⟩ := opsW_trace hL ho
  have hrl := (planW_ok hp).1
  have hzl : (all.toList.zip rows).length = all.size := by simp [hrl]
  rw [hzl] at e3 e4
  have W : WTr P C N all rows σ η val := ⟨hp, fun i o c D hi hr => htr i o c D (by
    rw [List.getElem?_zip_eq_some]
    exact ⟨by simpa using hi, hr⟩)⟩
  subst e1; subst e2
  have htext : ∀ m, m ≤ all.size → slotAt all val (fun _ => true) (σ 0) m = σ m := by
    intro m
    induction m with
    | zero => intro _; rfl
    | succ m ih =>
      intro h
      have ho := Array.getElem?_eq_getElem (show m < all.size by omega)
      obtain ⟨D, A⟩ := W.at_ ho
      simp only [slotAt, if_true, ho]
      rw [ih (by omega)]
      exact A.st.slot.symm
  have hgn : Gro (η 0) (η all.size) := W.le (Nat.zero_le _) (Nat.le_refl _)
  have g0 : ∀ b pb, G.box b = some pb → b < (η all.size).box.length → b < (η 0).box.length := by
    intro b pb hb hn
    rcases Nat.lt_or_ge b (η 0).box.length with h3 | h3
    · exact h3
    · rw [hf.box b h3 (by rw [e4] at hn; omega)] at hb; cases hb
  have r0 : ∀ r R, G.row r = some R → r < (η all.size).row.length → r < (η 0).row.length := by
    intro b pb hb hn
    rcases Nat.lt_or_ge b (η 0).row.length with h3 | h3
    · exact h3
    · rw [hf.row b h3 (by rw [e4] at hn; omega)] at hb; cases hb
  refine drawW_any hC hF hL hd W hh.lo (G0 := G) (w0 := { w with drawn := w.drawn + 1 }) hf (by rw [e4]; exact h1) (by rw [e4]; exact h2) ?_ all.size _ G _ a (by simp) ?_ ?_
  · intro L G2 w2 a2 hall hinv
    refine hq G2 w2 a2 ?_ ?_
    · refine hst0.trans (h1 := η 0) ⟨hinv.sd, hinv.ext, ?_, ?_⟩
      · rw [← e4]
        refine ⟨hinv.size, hinv.old, hgn.len, ⟨hgn.lob, hgn.lor⟩, fun b pb hb hc => hinv.keepB b pb hb hc, fun r R hR hc => hinv.keepR r R hR hc, ?_, ?_, fun b hb => hgn.kb hh.lo.1 b hb, fun r hr => hgn.kr hh.lo.2.1 r hr, fun m R hR hc => hinv.keepM m R hR hc, ?_, ?_⟩
        · intro b pb hb
          rcases hinv.newB b pb hb with h3 | ⟨j, ⟨hjn, hj⟩, h3, h4⟩
          · exact .inl h3
          · have a1 := (W.le (Nat.zero_le j) (by omega)).len.1
            have a2 := (W.le (show j + 1 ≤ all.size from hjn) (Nat.le_refl _)).len.1
            exact .inr ⟨by omega, by omega⟩
        · intro r R hR
          rcases hinv.newR r R hR with h3 | ⟨j, ⟨hjn, hj⟩, h3, h4⟩
          · exact .inl h3
          · have a1 := (W.le (Nat.zero_le j) (by omega)).len.2
            have a2 := (W.le (show j + 1 ≤ all.size from hjn) (Nat.le_refl _)).len.2
            exact .inr ⟨by omega, by omega⟩
        · intro b pb hb
          rcases hinv.newM b pb hb with h3 | ⟨j, ⟨hjn, hj⟩, h3, h4⟩
          · exact .inl h3
          · have a1 := (W.le (Nat.zero_le j) (by omega)).len.1
            have a2 := (W.le (show j + 1 ≤ all.size from hjn) (Nat.le_refl _)).len.1
            exact .inr ⟨by omega, by omega⟩
        · intro b hb
          rcases hinv.newMb b hb with h3 | ⟨j, ⟨hjn, hj⟩, h3, h4⟩
          · exact .inl h3
          · have a1 := (W.le (Nat.zero_le j) (by omega)).len.1
            have a2 := (W.le (show j + 1 ≤ all.size from hjn) (Nat.le_refl _)).len.1
            exact .inr ⟨by omega, by omega⟩
      · rw [← e4]
        refine ⟨hinv.low, ⟨by rw [hgn.lob]; exact Nat.le_trans hh.lo.1 hgn.len.1, by rw [hgn.lor]; exact Nat.le_trans hh.lo.2.1 hgn.len.2, Nat.le_trans hh.lo.2.2 hgn.len.2⟩, hinv.prot, hinv.boxAt, hinv.boxInj, hinv.rowAt, hinv.rowInj, ?_, ?_, hinv.mfix, ?_, ?_⟩
        · intro b pb B hb hB
          have hbl := (List.getElem?_eq_some_iff.1 hB).1
          obtain ⟨k, B', c1, c2, c3⟩ := hinv.box b pb hb hbl
          have cn : CutL all.size (bxs η) L b all.size := ⟨Nat.le_refl _, hbl, fun j hj _ => by simp [hj, hall j hj]⟩
          have := cut_same W.monoB c1 cn
          rw [c2] at this
          have hB : (bxs η all.size)[b]? = some B := hB
          rw [hB] at this; cases this
          exact c3
        · intro r R p hR hp'
          have hbl := (List.getElem?_eq_some_iff.1 hp').1
          obtain ⟨k, B', c1, c2, c3⟩ := hinv.row r R hR hbl
          have cn : CutL all.size (rws η) L r all.size := ⟨Nat.le_refl _, hbl, fun j hj _ => by simp [hj, hall j hj]⟩
          have := cut_same W.monoR c1 cn
          rw [c2] at this
          have hB : (rws η all.size)[r]? = some p := hp'
          rw [hB] at this; cases this
          exact c3
        · intro m R B hR hB
          have hbl := (List.getElem?_eq_some_iff.1 hB).1
          obtain ⟨k, B', c1, c2, c3, _⟩ := hinv.mar m (hinv.mfix.at_ m R hR).1 hbl
          have cn : CutL all.size (bxs η) L m all.size := ⟨Nat.le_refl _, hbl, fun j hj _ => by simp [hj, hall j hj]⟩
          have := cut_same W.monoB c1 cn
          rw [c2] at this
          have hB : (bxs η all.size)[m]? = some B := hB
          rw [hB] at this; cases this
          exact c3 R hR
        · intro m B hm hB hne
          have hbl := (List.getElem?_eq_some_iff.1 hB).1
          obtain ⟨k, B', c1, c2, _, c4⟩ := hinv.mar m hm hbl
          have cn : CutL all.size (bxs η) L m all.size := ⟨Nat.le_refl _, hbl, fun j hj _ => by simp [hj, hall j hj]⟩
          have := cut_same W.monoB c1 cn
          rw [c2] at this
          have hB : (bxs η all.size)[m]? = some B := hB
          rw [hB] at this; cases this
          exact c4 hne
    · have := hinv.slots
      rw [slotAt_congr (L' := fun _ => true) all.size hall, htext all.size (Nat.le_refl _), e3] at this
      exact this
  · have := List.length_filter_le (fun i => !listedL (Array.replicate all.size false) i) (List.range all.size)
    simpa using this
  · have hz : ∀ i, listedL (Array.replicate all.size false) i = false := by
      intro i
      unfold listedL
      rw [Array.getD_eq_getD_getElem?, Array.getElem?_replicate]
      split <;> rfl
    have hL0 : listedL (Array.replicate all.size false) = fun _ => false := funext hz
    rw [hL0]
    have hslot : ∀ m, slotAt all val (fun _ => false) (σ 0) m = σ 0 := by
      intro m
      induction m with
      | zero => rfl
      | succ m ih => simp [slotAt, ih]
    have hr1 := hst0.hr
    refine ⟨fun i o _ hl => (by cases hl), .refl _, .refl _ _, hr1.size, hr1.prot, hr1.boxAt, hr1.boxInj, hr1.rowAt, hr1.rowInj, Nat.le_refl _, fun _ _ => rfl, fun _ _ _ _ => ⟨rfl, fun _ h => h⟩, fun _ _ hR _ => ⟨hR, rfl, fun _ h => h⟩,
      fun _ _ hb => .inl hb, fun _ R hR => .inl ⟨R, hR⟩, ?_, ?_, fun j b _ hl => by simp at hl, fun j b _ hl => by simp at hl, hr1.mar.fix, fun _ _ hR _ => ⟨hR, rfl⟩, fun _ _ hR => .inl hR, fun _ hm => .inl hm, ?_, by rw [hslot]; exact hs.mono hst0.ext⟩
    · intro b pb hb hn
      have h3 := g0 b pb hb hn
      have hB : (η 0).box[b]? = some (η 0).box[b] := List.getElem?_eq_getElem h3
      exact ⟨0, _, ⟨Nat.zero_le _, h3, fun j _ _ => by simp⟩, hB, hr1.box b pb _ hb hB⟩
    · intro r R hR hn
      have h3 := r0 r R hR hn
      have hB : (η 0).row[r]? = some (η 0).row[r] := List.getElem?_eq_getElem h3
      exact ⟨0, _, ⟨Nat.zero_le _, h3, fun j _ _ => by simp⟩, hB, hr1.row r R _ hR hB⟩
    · intro m hm hn
      have h3 : m < (η 0).box.length := by
        rcases Nat.lt_or_ge m (η 0).box.length with h3 | h3
        · exact h3
        · exact absurd hm (hf.mb m h3 (by rw [e4] at hn; omega))
      have hB : (η 0).box[m]? = some (η 0).box[m] := List.getElem?_eq_getElem h3
      exact ⟨0, _, ⟨Nat.zero_le _, h3, fun j _ _ => by simp⟩, hB, fun R hR => hr1.mar.box m R _ hR hB, hr1.mar.live m _ hm hB⟩
end Go.LM
