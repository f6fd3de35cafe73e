import Derived.Test.YtpmpdidgbbgeeaaLmY
import Derived.SizedLaws
import Derived.Carry
import Derived.ChangeShapes
import Derived.ProofKit
namespace Go.LM
variable {P : Program}

/-! ### from a reading of the arguments to logical values -/
def Gi (w : World) : Gh := ⟨fun _ => none, fun _ => none, fun b o => ∃ v, w.cell? ⟨b, o, none⟩ = some v⟩
def H0 : H := ⟨[], [0], 0, 0⟩
theorem hr0 (w : World) : HR w.heap.size (Gi w) w H0 where
  size := Nat.le_refl _
  lo := ⟨Nat.le_refl _, Nat.zero_le _, Nat.le_refl _⟩
  prot _ _ h := h
  boxAt _ _ h := by cases h
  boxInj _ _ _ h := by cases h
  rowAt _ _ h := by cases h
  rowInj _ _ _ _ h := by cases h
  box _ _ _ h := by cases h
  row _ _ _ h := by cases h
theorem fresh0 (w : World) (tb tr : Nat) : Fresh (Gi w) H0 tb tr := ⟨fun _ _ _ => rfl, fun _ _ _ => rfl⟩
theorem wf0 : WF H0 := ⟨Nat.le_refl _, Nat.zero_le _, Nat.le_refl _⟩

/-- Parts one behind the other, from a place on: where they end. -/
def laidL (P : Program) : Nat → List (Nat × TypeId) → Option Nat
  | acc, [] => some acc
  | acc, (o, t) :: l => if o = acc then laidL P (acc + P.cellsOf t) l else none

/-- Cells of a value of a type: what is known of them, so deep. -/
def Ty (P : Program) : Nat → TypeId → List LV → Prop
  | 0, _, _ => False
  | n + 1, t, ls => match P.underlying t with
    | some .bool => ∃ b, ls = [.bool b]
    | some (.int k) => ∃ i, ls = [.int k i] ∧ (Lit.int k i).wf = true
    | some .string => ∃ s, ls = [.str s] ∧ s.size ≤ maxLen
    | some (.slice e) => ∃ o xs, ls = [mkS o (P.cellsOf e) xs] ∧ xs.length ≤ maxLen ∧
        ∀ x ∈ xs, Ty P n e x.cells ∧ (isAggT P e = some true → x = .agg x.cells) ∧ (isAggT P e = some false → x.cells = [x])
    | some (.struct fs) => ls.length = P.cellsOf t ∧ ∀ f ∈ fs.toList, Ty P n f.type ((ls.drop f.offset).take (P.cellsOf f.type))
    | some (.array m e) => ls.length = P.cellsOf t ∧ ∀ i, i < m → Ty P n e ((ls.drop (i * P.cellsOf e)).take (P.cellsOf e))
    | _ => True

/-- Types that are read so. -/
def plainT (P : Program) : Nat → TypeId → Bool
  | 0, _ => false
  | n + 1, t => match P.underlying t with
    | some .bool => true
    | some (.int _) => true
    | some .string => true
    | some (.slice e) => plainT P n e && decide (0 < P.cellsOf e) && match isAggT P e with
      | some true => true
      | some false => P.cellsOf e == 1
      | none => false
    | some (.struct fs) => (fs.toList.all fun f => plainT P n f.type) && decide (laidL P 0 (fs.toList.map fun f => (f.offset, f.type)) = some (P.cellsOf t))
    | some (.array m e) => plainT P n e && decide (laidL P 0 ((List.range m).map fun i => (i * P.cellsOf e, e)) = some (P.cellsOf t))
    | _ => false

theorem mapM_all {α β : Type} {f : α → Option β} : ∀ {l : List α} {ys : List β}, l.mapM f = some ys → ∀ a ∈ l, ∃ y, f a = some y
  | [], _, _, a, ha => by simp at ha
  | x :: l, ys, h, a, ha => by
    rw [List.mapM_cons] at h
    cases hx : f x with
    | none => rw [hx] at h; simp at h
    | some y =>
      rw [hx] at h
      cases hl : l.mapM f with
      | none => rw [hl] at h; simp at h
      | some zs =>
        simp at ha
        rcases ha with rfl | ha
        · exact ⟨y, hx⟩
        · exact mapM_all hl a ha
theorem mapM_at {α β : Type} {f : α → Option β} : ∀ {l : List α} {ys : List β}, l.mapM f = some ys → ys.length = l.length ∧ ∀ i (h : i < l.length) (h' : i < ys.length), f l[i] = some ys[i]
  | [], ys, h => by simp at h; subst h; simp
  | x :: l, ys, h => by
    rw [List.mapM_cons] at h
    cases hx : f x with
    | none => rw [hx] at h; simp at h
    | some y =>
      rw [hx] at h
      cases hl : l.mapM f with
      | none => rw [hl] at h; simp at h
      | some zs =>
        rw [hl] at h
        simp at h; subst h
        obtain ⟨e, hi⟩ := mapM_at hl
        refine ⟨by simp [e], fun i h h' => ?_⟩
        cases i with
        | zero => simpa using hx
        | succ i => simpa using hi i (by simpa using h) (by simpa using h')

/-- Parts joined. -/
theorem join_parts {G : Gh} {w : World} {n : Nat} {cs : List Value} : ∀ (l : List (Nat × TypeId)) (acc : Nat), laidL P acc l = some cs.length → acc ≤ cs.length →
    (∀ p ∈ l, ∃ ls, VRs G w ls ((cs.drop p.1).take (P.cellsOf p.2)) ∧ Ty P n p.2 ls ∧ ∀ x ∈ ls, x.one = true) →
    (∀ p ∈ l, acc ≤ p.1 ∧ p.1 + P.cellsOf p.2 ≤ cs.length) ∧ ∃ ls, VRs G w ls (cs.drop acc) ∧ (∀ x ∈ ls, x.one = true) ∧ ∀ p ∈ l, Ty P n p.2 ((ls.drop (p.1 - acc)).take (P.cellsOf p.2))
  | [], acc, hl, _, _ => by
    simp only [laidL] at hl
    cases hl
    exact ⟨by simp, [], by rw [List.drop_length]; exact .nil, by simp, by simp⟩
  | (o, t) :: l, acc, hl, hle, hp => by
    simp only [laidL] at hl
    split at hl
    · rename_i ho; subst ho
      have hmono : ∀ (l : List (Nat × TypeId)) (a b : Nat), laidL P a l = some b → a ≤ b := by
        intro l
        induction l with
        | nil => intro a b h; simp only [laidL] at h; cases h; exact Nat.le_refl _
        | cons p l ih =>
          intro a b h
          obtain ⟨o, t⟩ := p
          simp only [laidL] at h
          split at h
          · have := ih _ _ h; omega
          · cases h
      have hb := hmono _ _ _ hl
      obtain ⟨hin, ls2, hv2, ho2, ht2⟩ := join_parts l _ hl hb (fun p hpm => hp p (by simp [hpm]))
      obtain ⟨ls1, hv1, ht1, ho1⟩ := hp (o, t) (by simp)
      have hlen : ls1.length = P.cellsOf t := by
        have := hv1.1; simp at this; omega
      refine ⟨?_, ls1 ++ ls2, ?_, ?_, ?_⟩
      · intro p hpm
        simp only [List.mem_cons] at hpm
        rcases hpm with rfl | hpm
        · exact ⟨Nat.le_refl _, hb⟩
        · have := hin p hpm; exact ⟨by omega, this.2⟩
      · have e : cs.drop o = (cs.drop o).take (P.cellsOf t) ++ cs.drop (o + P.cellsOf t) := by
          rw [← List.drop_drop, List.take_append_drop]
        rw [e]
        exact hv1.append hv2
      · intro x hx
        simp only [List.mem_append] at hx
        exact hx.elim (ho1 x) (ho2 x)
      · intro p hpm
        simp only [List.mem_cons] at hpm
        rcases hpm with rfl | hpm
        · simp only [Nat.sub_self, List.drop_zero]
          rw [List.take_append_of_le_length (by omega), List.take_of_length_le (by omega)]
          exact ht1
        · have h3 := hin p hpm
          have h4 := ht2 p hpm
          have e : (ls1 ++ ls2).drop (p.1 - o) = ls2.drop (p.1 - (o + P.cellsOf t)) := by
            rw [List.drop_append, List.drop_of_length_le (by omega), List.nil_append, hlen]
            congr 1; omega
          rw [e]; exact h4
    · cases hl

theorem cells?_at {w : World} {a : Addr} {n : Nat} {cs : List Value} (h : w.cells? 0 a n = some cs) : cs.length = n ∧ ∀ i (hi : i < cs.length), w.cell? (a.add i) = some cs[i] := by
  unfold World.cells? at h
  rw [if_pos (Nat.zero_le _)] at h
  obtain ⟨e, hi⟩ := mapM_at h
  rw [List.length_range] at e
  refine ⟨e, fun i h1 => ?_⟩
  have := hi i (by rw [List.length_range]; omega) h1
  rwa [List.getElem_range] at this

def packL (P : Program) (e : TypeId) (ls : List LV) : LV :=
  match isAggT P e with
  | some true => .agg ls
  | _ => ls.headD .undef

theorem open_cells {K : Type} {enc : TypeId × Value → K} {w : World} {spare : Nat → Bool} {held : Bool} : ∀ (fuel m : Nat) (t : TypeId) (cs : List Value) (x : DataW K × List MemPlace),
    DataW.trod enc P w 0 spare held fuel t cs = some x → plainT P m t = true → ∃ ls, VRs (Gi w) w ls cs ∧ Ty P m t ls ∧ ∀ x ∈ ls, x.one = true
  | 0, _, _, _, _, h, _ => by simp [DataW.trod] at h
  | _ + 1, 0, _, _, _, _, hp => by simp [plainT] at hp
  | fuel + 1, m + 1, t, cs, x, h, hp => by
    simp only [DataW.trod] at h
    simp only [plainT] at hp
    have hty : ∀ ls, Ty P (m + 1) t ls = (match P.underlying t with
      | some .bool => ∃ b, ls = [.bool b]
      | some (.int k) => ∃ i, ls = [.int k i] ∧ (Lit.int k i).wf = true
      | some .string => ∃ s, ls = [.str s] ∧ s.size ≤ maxLen
      | some (.slice e) => ∃ o xs, ls = [mkS o (P.cellsOf e) xs] ∧ xs.length ≤ maxLen ∧
          ∀ x ∈ xs, Ty P m e x.cells ∧ (isAggT P e = some true → x = .agg x.cells) ∧ (isAggT P e = some false → x.cells = [x])
      | some (.struct fs) => ls.length = P.cellsOf t ∧ ∀ f ∈ fs.toList, Ty P m f.type ((ls.drop f.offset).take (P.cellsOf f.type))
      | some (.array m' e) => ls.length = P.cellsOf t ∧ ∀ i, i < m' → Ty P m e ((ls.drop (i * P.cellsOf e)).take (P.cellsOf e))
      | _ => True) := fun ls => rfl
    have one1 : ∀ v : LV, v.one = true → ∀ x ∈ [v], x.one = true := by intro v hv x hx; simp at hx; rw [hx]; exact hv
    cases hu : P.underlying t with
    | none => rw [hu] at hp; cases hp
    | some d =>
      rw [hu] at h hp
      simp only [hty, hu]
      cases d <;> try (cases hp; done)
      case bool =>
        split at h <;> try (cases h; done)
        all_goals first
          | (rename_i b he; cases he; exact ⟨[.bool b], .cons (.bool b) .nil, ⟨b, rfl⟩, one1 _ rfl⟩)
          | (rename_i he; cases he)
          | (rename_i he _; cases he)
      case int k =>
        split at h <;> try (cases h; done)
        all_goals first
          | (rename_i k' n he
             cases he
             split at h
             · rename_i hk
               obtain ⟨rfl, hw⟩ := hk
               exact ⟨[.int _ n], .cons (.int _ n) .nil, ⟨n, rfl, hw⟩, one1 _ rfl⟩
             · cases h)
          | (rename_i he; cases he)
          | (rename_i he _; cases he)
      case string =>
        split at h <;> try (cases h; done)
        all_goals first
          | (rename_i b he
             cases he
             split at h
             · rename_i hk
               exact ⟨[.str b], .cons (.str b) .nil, ⟨b, rfl, hk⟩, one1 _ rfl⟩
             · cases h)
          | (rename_i he; cases he)
          | (rename_i he _; cases he)
      case slice e =>
        simp only [Bool.and_eq_true, decide_eq_true_eq] at hp
        obtain ⟨⟨hpe, hpos⟩, hag⟩ := hp
        have hsl : cs = [.slice none 0 0] ∨ ∃ a len cap, cs = [.slice (some a) len cap] ∧ (0 ≤ a.block ∧ len ≤ cap ∧ cap ≤ maxLen) ∧
            ∃ elems, (List.range len).mapM (fun i => (w.cells? 0 (a.add (i * P.cellsOf e)) (P.cellsOf e)).bind (DataW.trod enc P w 0 spare held fuel e)) = some elems := by
          split at h <;> try (cases h; done)
          all_goals first
            | (rename_i he; cases he; exact .inl rfl)
            | (rename_i he
               cases he
               split at h
               · rename_i hc
                 rw [Option.bind_eq_some_iff] at h
                 obtain ⟨elems, hel, _⟩ := h
                 exact .inr ⟨_, _, _, rfl, hc, elems, hel⟩
               · cases h)
            | (rename_i he; cases he; done)
            | (rename_i he _; cases he; done)
        rcases hsl with rfl | ⟨a, len, cap, rfl, hc, elems, hel⟩
        · exact ⟨[.nils], .cons .nils .nil, ⟨none, [], rfl, by simp, by simp⟩, one1 _ rfl⟩
        clear h
        obtain ⟨_, hle, hcap⟩ := hc
        have hel2 := mapM_at hel
        have hall : ∀ i, i < len → ∃ us, w.cells? 0 (a.add (i * P.cellsOf e)) (P.cellsOf e) = some us ∧ ∃ ls, VRs (Gi w) w ls us ∧ Ty P m e ls ∧ ∀ x ∈ ls, x.one = true := by
          intro i hi
          have := hel2.2 i (by simpa using hi) (by rw [hel2.1]; simpa using hi)
          rw [List.getElem_range, Option.bind_eq_some_iff] at this
          obtain ⟨us, h1, h2⟩ := this
          exact ⟨us, h1, open_cells fuel m e us _ h2 hpe⟩
        have hch : ∃ (U : Nat → List Value) (L : Nat → List LV), ∀ i, i < len → w.cells? 0 (a.add (i * P.cellsOf e)) (P.cellsOf e) = some (U i) ∧ VRs (Gi w) w (L i) (U i) ∧ Ty P m e (L i) ∧ ∀ x ∈ L i, x.one = true := by
          refine ⟨fun i => if hi : i < len then (hall i hi).choose else [], fun i => if hi : i < len then (hall i hi).choose_spec.2.choose else [], fun i hi => ?_⟩
          simp only [dif_pos hi]
          exact ⟨(hall i hi).choose_spec.1, (hall i hi).choose_spec.2.choose_spec⟩
        obtain ⟨U, L, hUL⟩ := hch
        have hU : ∀ i, i < len → (U i).length = P.cellsOf e := fun i hi => (cells?_at (hUL i hi).1).1
        have hL : ∀ i, i < len → (L i).length = P.cellsOf e := fun i hi => (hUL i hi).2.1.1.trans (hU i hi)
        have hpk : ∀ i, i < len → (packL P e (L i)).cells = L i ∧ (isAggT P e = some true → packL P e (L i) = .agg (packL P e (L i)).cells) ∧ (isAggT P e = some false → (packL P e (L i)).cells = [packL P e (L i)]) := by
          intro i hi
          have hl := hL i hi
          have h1 := (hUL i hi).2.2.2
          cases hb : isAggT P e with
          | none => rw [hb] at hag; cases hag
          | some b =>
            rw [hb] at hag
            cases b with
            | true => simp [packL, hb, LV.cells]
            | false =>
              have hag : P.cellsOf e = 1 := by simpa using hag
              obtain ⟨y, hy⟩ : ∃ y, L i = [y] := by
                rw [hag] at hl
                match hLi : L i, hl with
                | [y], _ => exact ⟨y, rfl⟩
              have hy1 : y.one = true := h1 y (by rw [hy]; simp)
              have hyc : y.cells = [y] := by cases y <;> simp_all [LV.one, LV.cells]
              simp [packL, hb, hy, hyc]
        let xs := (List.range len).map fun i => packL P e (L i)
        have hxl : xs.length = len := by simp [xs]
        have hxi : ∀ i (hi : i < xs.length), xs[i] = packL P e (L i) := by intro i hi; simp [xs]
        refine ⟨[.sl 0 0 (P.cellsOf e) xs], .cons ?_ .nil, ⟨some (0, 0), xs, rfl, by rw [hxl]; omega, ?_⟩, one1 _ rfl⟩
        · by_cases h0 : len = 0
          · subst h0
            have : xs = [] := List.length_eq_zero_iff.1 hxl
            rw [this]; exact .sle _ _ _ _
          · obtain ⟨blk, off, spot⟩ := a
            have hsp : spot = none := by
              have := (cells?_at (hUL 0 (by omega)).1).2 0 (by rw [hU 0 (by omega)]; exact hpos)
              have := World.cell?_spot this
              simpa [Addr.add] using this
            subst hsp
            have hcell : ∀ i (hi : i < len) j (hj : j < P.cellsOf e), w.cell? ⟨blk, off + i * P.cellsOf e + j, none⟩ = some ((U i)[j]'(by rw [hU i hi]; exact hj)) := by
              intro i hi j hj
              have := (cells?_at (hUL i hi).1).2 j (by rw [hU i hi]; exact hj)
              rwa [add_off, add_off] at this
            rw [← hxl]
            refine .sl (fun i j => ((U i)[j]?).getD undef) (by omega) ?_ ?_ ?_ (fun h => absurd rfl h)
            · intro i hi; rw [hxi i hi, (hpk i (by omega)).1]; exact hL i (by omega)
            · intro i hi j hj
              have hi' : i < len := by omega
              have hju : j < (U i).length := by rw [hU i hi']; exact hj
              have hc := hcell i hi' j hj
              simp only [List.getElem?_eq_getElem hju, Option.getD_some]
              have hjl : j < (L i).length := by rw [hL i hi']; exact hj
              exact ⟨hc, ⟨_, hc⟩, one_cell ((hUL i hi').2.1.2 j hjl hju) ((hUL i hi').2.2.2 _ (List.getElem_mem _))⟩
            · intro i hi j hj
              have hi' : i < len := by omega
              have hjl : j < (L i).length := by have := (hpk i hi').1; rw [hxi i hi, this] at hj; exact hj
              have hju : j < (U i).length := by rw [hU i hi', ← hL i hi']; exact hjl
              simp only [List.getElem?_eq_getElem hju, Option.getD_some]
              have := (hUL i hi').2.1.2 j hjl hju
              simpa only [hxi i hi, (hpk i hi').1] using this
        · intro x hx
          obtain ⟨i, hi, rfl⟩ := List.getElem_of_mem hx
          rw [hxi i hi]
          have h3 := hpk i (by omega)
          exact ⟨by rw [h3.1]; exact (hUL i (by omega)).2.2.1, h3.2⟩
      case struct fs =>
        simp only [Bool.and_eq_true, decide_eq_true_eq] at hp
        obtain ⟨hpf, hlaid⟩ := hp
        dsimp only at h
        split at h
        case isFalse => cases h
        rename_i hl
        rw [Option.map_eq_some_iff] at h
        obtain ⟨xs, hx, _⟩ := h
        have hall := mapM_all hx
        obtain ⟨_, ls, h1, h2, h3⟩ := join_parts (G := Gi w) (w := w) (n := m) (cs := cs) (fs.toList.map fun f => (f.offset, f.type)) 0 (by rw [hl]; exact hlaid) (Nat.zero_le _) (by
          intro p hp
          obtain ⟨f, hf, rfl⟩ := List.mem_map.1 hp
          obtain ⟨y, hy⟩ := hall f hf
          exact open_cells fuel m f.type _ y hy (List.all_eq_true.1 hpf f hf))
        refine ⟨ls, by simpa using h1, ⟨by have := h1.1; simp at this; omega, fun f hf => ?_⟩, h2⟩
        have := h3 (f.offset, f.type) (List.mem_map.2 ⟨f, hf, rfl⟩)
        simpa using this
      case array n e =>
        simp only [Bool.and_eq_true, decide_eq_true_eq] at hp
        obtain ⟨hpf, hlaid⟩ := hp
        dsimp only at h
        split at h
        case isFalse => cases h
        rename_i hl
        rw [Option.map_eq_some_iff] at h
        obtain ⟨xs, hx, _⟩ := h
        have hall := mapM_all hx
        obtain ⟨_, ls, h1, h2, h3⟩ := join_parts (G := Gi w) (w := w) (n := m) (cs := cs) ((List.range n).map fun i => (i * P.cellsOf e, e)) 0 (by rw [hl]; exact hlaid) (Nat.zero_le _) (by
          intro p hp
          obtain ⟨i, hi, rfl⟩ := List.mem_map.1 hp
          obtain ⟨y, hy⟩ := hall i hi
          exact open_cells fuel m e _ y hy hpf)
        refine ⟨ls, by simpa using h1, ⟨by have := h1.1; simp at this; omega, fun i hi => ?_⟩, h2⟩
        have := h3 (i * P.cellsOf e, e) (List.mem_map.2 ⟨i, by simpa using hi, rfl⟩)
        simpa using this

/-- An argument, opened: several cells, or one. -/
theorem open_agg {K : Type} {enc : TypeId × Value → K} {w : World} {spare : Nat → Bool} {held : Bool} {base : Nat} {t : TypeId} {v : Value} {d : DataW K} {p : List MemPlace} (m : Nat) (ha : isAggT P t = some true)
    (hval : Value.okWide P w .any base t v) (h : DataW.Trod enc P w 0 spare held t v d p) (hp : plainT P m t = true) : ∃ ls, VR (Gi w) w (.agg ls) v ∧ Ty P m t ls := by
  obtain ⟨cs, rfl⟩ : ∃ cs, v = .agg cs := by
    unfold isAggT at ha
    unfold Value.okWide at hval
    split at ha <;> first
      | (rename_i hu; rw [hu] at hval; dsimp only at hval; obtain ⟨cs, h1, _⟩ := hval; exact ⟨cs, h1⟩)
      | cases ha
  obtain ⟨fuel, hf⟩ := h
  obtain ⟨ls, h1, h2, _⟩ := open_cells fuel m t _ _ hf hp
  exact ⟨ls, h1.toAgg, h2⟩
theorem open_one {K : Type} {enc : TypeId × Value → K} {w : World} {spare : Nat → Bool} {held : Bool} {base : Nat} {t : TypeId} {v : Value} {d : DataW K} {p : List MemPlace} (m : Nat) (ha : isAggT P t = some false)
    (hval : Value.okWide P w .any base t v) (h : DataW.Trod enc P w 0 spare held t v d p) (hp : plainT P m t = true) : ∃ l, VR (Gi w) w l v ∧ Ty P m t [l] := by
  have hc : v.cells = #[v] := by
    cases v with
    | agg cs =>
      exfalso
      unfold isAggT at ha
      unfold Value.okWide at hval
      cases m with
      | zero => simp [plainT] at hp
      | succ m =>
      simp only [plainT] at hp
      cases hu : P.underlying t with
      | none => rw [hu] at ha; cases ha
      | some dd =>
        rw [hu] at hp ha hval
        cases dd <;> first
          | (cases ha; done)
          | (cases hp; done)
          | (simp [Cell.okWide, Cell.ok, hu] at hval)
    | _ => rfl
  obtain ⟨fuel, hf⟩ := h
  obtain ⟨ls, h1, h2, h3⟩ := open_cells fuel m t _ _ hf hp
  rw [hc] at h1
  obtain ⟨l, rfl⟩ : ∃ l, ls = [l] := by
    have := h1.1
    match ls, this with
    | [l], _ => exact ⟨l, rfl⟩
  exact ⟨l, h1.head, h2⟩

theorem ty_int {n : Nat} {t : TypeId} {k : IntKind} {l : LV} (hu : P.underlying t = some (.int k)) (h : Ty P (n + 1) t [l]) : ∃ i, l = .int k i ∧ (Lit.int k i).wf = true := by
  simp only [Ty, hu] at h
  obtain ⟨i, h1, h2⟩ := h
  exact ⟨i, by simpa using h1, h2⟩
theorem ty_bool {n : Nat} {t : TypeId} {l : LV} (hu : P.underlying t = some .bool) (h : Ty P (n + 1) t [l]) : ∃ b, l = .bool b := by
  simp only [Ty, hu] at h
  obtain ⟨i, h1⟩ := h
  exact ⟨i, by simpa using h1⟩
theorem ty_slice {n : Nat} {t e : TypeId} {c : Nat} {l : LV} (hu : P.underlying t = some (.slice e)) (hc : P.cellsOf e = c) (h : Ty P (n + 1) t [l]) :
    ∃ o xs, l = mkS o c xs ∧ xs.length ≤ maxLen ∧ ∀ x ∈ xs, Ty P n e x.cells ∧ (isAggT P e = some true → x = .agg x.cells) ∧ (isAggT P e = some false → x.cells = [x]) := by
  simp only [Ty, hu, hc] at h
  obtain ⟨o, xs, h1, h2⟩ := h
  exact ⟨o, xs, by simpa using h1, h2⟩
theorem map_of {α : Type} {f : α → LV} {p : α → Prop} : ∀ {xs : List LV}, (∀ x ∈ xs, ∃ a, x = f a ∧ p a) → ∃ l : List α, xs = l.map f ∧ ∀ a ∈ l, p a
  | [], _ => ⟨[], rfl, by simp⟩
  | x :: xs, h => by
    obtain ⟨l, h1, h2⟩ := map_of (f := f) (p := p) (xs := xs) (fun y hy => h y (by simp [hy]))
    obtain ⟨a, h3, h4⟩ := h x (by simp)
    refine ⟨a :: l, by simp [h1, h3], fun b hb => ?_⟩
    simp only [List.mem_cons] at hb
    rcases hb with rfl | hb
    · exact h4
    · exact h2 b hb
/-- A slice of numbers. -/
theorem ty_ints {n : Nat} {t e : TypeId} {k : IntKind} {l : LV} (hu : P.underlying t = some (.slice e)) (hc : P.cellsOf e = 1) (he : P.underlying e = some (.int k)) (h : Ty P (n + 2) t [l]) :
    ∃ o, ∃ zs : List Int, l = mkS o 1 (zs.map (LV.int k)) ∧ zs.length ≤ maxLen ∧ ∀ z ∈ zs, (Lit.int k z).wf = true := by
  obtain ⟨o, xs, rfl, hl, hx⟩ := ty_slice hu hc h
  have ha : isAggT P e = some false := by simp [isAggT, he]
  obtain ⟨zs, rfl, hz⟩ := map_of (f := LV.int k) (p := fun z => (Lit.int k z).wf = true) (xs := xs) (by
    intro x hxm
    obtain ⟨h1, _, h2⟩ := hx x hxm
    rw [h2 ha] at h1
    exact ty_int he h1)
  exact ⟨o, zs, rfl, by simpa using hl, hz⟩
/-- A slice of structs. -/
theorem ty_aggs {α : Type} {f : α → LV} {p : α → Prop} {n c : Nat} {t e : TypeId} {l : LV} (hu : P.underlying t = some (.slice e)) (hc : P.cellsOf e = c) (ha : isAggT P e = some true)
    (hf : ∀ ls, Ty P n e ls → ∃ a, .agg ls = f a ∧ p a) (h : Ty P (n + 1) t [l]) : ∃ o, ∃ zs : List α, l = mkS o c (zs.map f) ∧ zs.length ≤ maxLen ∧ ∀ z ∈ zs, p z := by
  obtain ⟨o, xs, rfl, hl, hx⟩ := ty_slice hu hc h
  obtain ⟨zs, rfl, hz⟩ := map_of (f := f) (p := p) (xs := xs) (by
    intro x hxm
    obtain ⟨h1, h2, _⟩ := hx x hxm
    rw [h2 ha]
    exact hf _ h1)
  exact ⟨o, zs, rfl, by simpa using hl, hz⟩

/-! ### the end: what is said of a call -/
theorem below_of_step {w w' : World} {G G' : Gh} {h h' : H} (s : Step w.heap.size G w h G' w' h') : Go.RowKit.Below w.heap.size w w' :=
  ⟨s.sd.os, s.sd.tape, s.sd.out, s.fr.size, s.fr.old⟩

/-- A call that answers 'true' in the logical machine answers so. -/
theorem calls_true {T : Nat → Option LV} (hT : TOk P T) (hm : P.follows .mixedOrders = true) {f : Nat} {args : List LV} {args' : Array Value} {w : World} {h' : H}
    (hv : VRs (Gi w) w args args'.toList) (hr : runI P T f args H0 = some (.bool true, h')) : Calls P f args' w fun e w' => e = .returned (.bool true) ∧ Go.RowKit.Below w.heap.size w w' := by
  obtain ⟨n, hn⟩ := of_runI hr
  refine (run_sound hT hm w.heap.size n f args H0 _ h' hn (Gi w) w args' h'.box.length h'.row.length (hr0 w) (fresh0 w _ _) (Nat.le_refl _) (Nat.le_refl _) hv).mono ?_
  rintro e w' ⟨G', u, rfl, hu, hst⟩
  cases hu
  exact ⟨rfl, below_of_step hst⟩
theorem tok_none : TOk P (fun _ => none) := fun f v h => by cases h

def fnOk (P : Program) (f : Nat) : Bool :=
  match P.funcs[f]? with
  | some fn => fn.body.isSome && !(decide (fn.name = "runtime.NumGoroutine"))
  | none => false
theorem of_fnOk {f : Nat} (h : fnOk P f = true) : ∃ fn, P.funcs[f]? = some fn ∧ fn.body ≠ none ∧ fn.name ≠ "runtime.NumGoroutine" := by
  unfold fnOk at h
  split at h
  · rename_i fn hf
    simp at h
    exact ⟨fn, hf, by intro e; rw [e] at h; simp at h, h.2⟩
  · cases h
/-- An answer known by the logical machine's own run. -/
theorem tok_of (hm : P.follows .mixedOrders = true) {f : Nat} (hok : fnOk P f = true) {n : Nat}
    (hr : (runL P (fun _ => none) n f [] H0).map (·.1) = some (.bool true)) :
    (∃ fn, P.funcs[f]? = some fn ∧ fn.body ≠ none ∧ fn.name ≠ "runtime.NumGoroutine") ∧
      ∃ u, (∀ G w, VR G w (.bool true) u) ∧ ∀ w, Calls P f #[] w fun e w' => e = .returned u ∧ w.heap.size ≤ w'.heap.size ∧ (∀ i, i < w.heap.size → w'.heap[i]? = w.heap[i]?) ∧ Sd w w' := by
  have hf := of_fnOk hok
  refine ⟨hf, .bool true, fun G w => .bool true, fun w => ?_⟩
  rw [Option.map_eq_some_iff] at hr
  obtain ⟨⟨v, h'⟩, hn, hv⟩ := hr
  dsimp only at hv; subst hv
  refine (run_sound tok_none hm w.heap.size n f [] H0 _ h' hn (Gi w) w #[] h'.box.length h'.row.length (hr0 w) (fresh0 w _ _) (Nat.le_refl _) (Nat.le_refl _) .nil).mono ?_
  rintro e w' ⟨G', u, rfl, hu, hst⟩
  cases hu
  exact ⟨rfl, hst.fr.size, hst.fr.old, hst.sd⟩
end Go.LM
