import Derived.Test.YtgbhkmgmpodnkaaLmG
import Derived.Test.YtgbhkmgmpodnkaaLmM
namespace Go.LM
variable {P : Program} {G : Gh} {w : World}

theorem elems_ok {sz : Nat} {x : LV} {ys : List LV} {x' : Value} (h : elemsL sz x = some ys) (vx : VR G w x x') :
    ∃ news : List Value, (Builtin.lenOf x').run P w = .ok ys.length w ∧ (∀ w1 : World, w1.heap = w.heap → (Builtin.firstCells sz ys.length x').run P w1 = .ok news.toArray w1) ∧
      news.length = ys.length * sz ∧ (∀ u ∈ news, u.oneCell' = true) ∧ (∀ i (h : i < ys.length), ys[i].cells.length = sz) ∧
      ∀ i (h : i < ys.length) j (hj : j < ys[i].cells.length), ∃ u, news[i * sz + j]? = some u ∧ VR G w ys[i].cells[j] u := by
  unfold elemsL at h
  split at h
  · cases h; cases vx
    exact ⟨[], by simp [Builtin.lenOf], fun w1 _ => by simp [Builtin.firstCells], by simp, by simp, fun i h => absurd h (by simp), fun i h => absurd h (by simp)⟩
  · split at h
    · rename_i hsz; subst hsz
      cases h
      have vx0 := vx
      cases vx with
      | sl u hcap hz hc hv ht =>
        rename_i blk off c
        obtain ⟨us, hu1, hu2, hu3, hu4⟩ := sl_cells vx0
        refine ⟨us, by simp [Builtin.lenOf], fun w1 hw1 => ?_, hu1, ?_, hu3, hu4⟩
        · simp only [Builtin.firstCells]
          rw [← hu1]
          exact run_loadCells_list w1 _ us (by
            intro j x hx
            rw [add_off]
            rw [cell_of_heap (w := w) (by rw [hw1])]
            exact (hu2 j x hx).1)
        · intro u hu
          obtain ⟨i, hi, rfl⟩ := List.getElem_of_mem hu
          exact (hu2 i _ (List.getElem?_eq_getElem hi)).2.2
      | sle hi sz a c =>
        exact ⟨[], by simp [Builtin.lenOf], fun w1 _ => by simp [Builtin.firstCells, loadCells, loadCellsFrom], by simp, by simp, fun i h => absurd h (by simp), fun i h => absurd h (by simp)⟩
    · cases h
  · rename_i s
    split at h
    · rename_i h1; subst h1
      cases h; cases vx
      have hl := bytes_len s
      refine ⟨s.data.toList.map (fun b => Value.int .u8 b.toNat), by simp [Builtin.lenOf, hl], fun w1 _ => ?_, by simp [hl], ?_, ?_, ?_⟩
      · simp only [Builtin.firstCells, hl, Sem.run_pure]
        have he : (s.extract 0 s.size).data = s.data := by simp
        rw [he]
        congr 1
        apply Array.ext'
        simp
      · intro u hu
        simp at hu
        obtain ⟨b, _, rfl⟩ := hu; rfl
      · intro i hi; simp [bytesL, LV.cells]
      · intro i hi j hj
        simp [bytesL, LV.cells] at hj hi
        subst hj
        refine ⟨.int .u8 (s.data[i]'hi).toNat, ?_, ?_⟩
        · simp only [Nat.mul_one, Nat.add_zero]
          rw [List.getElem?_map, List.getElem?_eq_getElem (by simpa using hi)]
          simp
        · simp only [bytesL, List.getElem_map, Array.getElem_toList]
          exact .int _ _
    · cases h
  · cases h

theorem run_app_nil0 {t u ty e : TypeId} {d : TypeDesc} {sz : Nat} {x : Value} {news : Array Value} (ht : P.underlying t = some (.slice e)) (hu : P.underlying u = some d)
    (hd : d = .string ∨ ∃ q, d = .slice q) (hs : sizeT P e = some sz) (hn : (Builtin.lenOf x).run P w = .ok 0 w) (hf : (Builtin.firstCells sz 0 x).run P w = .ok news w) :
    (Builtin.append_ #[t, u] ty #[.slice none 0 0, x]).run P w = .ok (.slice none 0 0) w := by
  rcases hd with rfl | ⟨q, rfl⟩ <;>
    (simp [Builtin.append_, run_und ht, run_und hu, run_size hs, hn, hf])

theorem idx_lt {n sz i j : Nat} (hi : i < n) (hj : j < sz) : i * sz + j < n * sz := by
  calc i * sz + j < i * sz + sz := by omega
    _ = (i + 1) * sz := by rw [Nat.add_mul]; omega
    _ ≤ n * sz := Nat.mul_le_mul_right _ hi

theorem flatC_vrs {sz : Nat} : ∀ {ys : List LV} {news : List Value}, news.length = ys.length * sz → (∀ i (h : i < ys.length), ys[i].cells.length = sz) →
    (∀ i (h : i < ys.length) j (hj : j < ys[i].cells.length), ∃ u, news[i * sz + j]? = some u ∧ VR G w ys[i].cells[j] u) → VRs G w (ys.flatMap (·.cells)) news
  | [], news, h1, _, _ => by
    have : news = [] := by simpa using h1
    subst this; exact .nil
  | y :: ys, news, h1, h2, h3 => by
    have hy : y.cells.length = sz := h2 0 (by simp)
    have hl : news.length = sz + ys.length * sz := by rw [h1, List.length_cons, Nat.add_mul]; omega
    rw [← List.take_append_drop sz news]
    refine .append ⟨by rw [List.length_take, hy]; omega, fun i a b => ?_⟩ (flatC_vrs (by rw [List.length_drop]; omega) (fun i h => h2 (i + 1) (by simpa using h)) (fun i h j hj => ?_))
    · obtain ⟨u, e1, e2⟩ := h3 0 (by simp) i a
      have hlt : i < news.length := by rw [hl]; have a' : i < y.cells.length := a; omega
      rw [Nat.zero_mul, Nat.zero_add, List.getElem?_eq_getElem hlt] at e1
      cases e1
      simpa using e2
    · obtain ⟨u, e1, e2⟩ := h3 (i + 1) (by simpa using h) j (by simpa using hj)
      refine ⟨u, ?_, by simpa using e2⟩
      rw [List.getElem?_drop, ← e1]
      congr 1
      rw [Nat.add_mul]; omega
theorem flatC_len {sz : Nat} : ∀ {ys : List LV}, (∀ i (h : i < ys.length), ys[i].cells.length = sz) → (ys.flatMap (·.cells)).length = ys.length * sz
  | [], _ => by simp
  | y :: ys, h => by
    have hy : y.cells.length = sz := h 0 (by simp)
    have := flatC_len (ys := ys) (fun i hi => h (i + 1) (by simpa using hi))
    rw [List.flatMap_cons, List.length_append, hy, this, List.length_cons, Nat.add_mul]; omega

theorem append_ok {base tb tr : Nat} {t u ty : TypeId} {s x v : LV} {h h' : H} {s' x' : Value}
    (hl : appendL P t u s x h = some (v, h')) (hr : HR base G w h) (hf : Fresh G h tb tr) (htr : h'.row.length ≤ tr) (htb : h'.box.length ≤ tb) (vs : VR G w s s') (vx : VR G w x x') :
    ∃ r w' G', (Builtin.append_ #[t, u] ty #[s', x']).run P w = .ok r w' ∧ VR G' w' v r ∧ Step base G w h G' w' h' := by
  unfold appendL at hl
  split at hl
  case h_2 => cases hl
  rename_i e ht hud
  have hu : ∃ d, P.underlying u = some d ∧ (d = .string ∨ ∃ q, d = .slice q) := by
    revert hud
    split
    · intro _; exact ⟨_, by assumption, .inl rfl⟩
    · intro _; exact ⟨_, by assumption, .inr ⟨_, rfl⟩⟩
    · intro h; cases h
  obtain ⟨d, hu, hd⟩ := hu
  split at hl
  case h_2 => cases hl
  rename_i sz by_ z hs hb hz
  split at hl
  case isFalse => cases hl
  rename_i hcond
  obtain ⟨k1, k2, k3, k4⟩ := hcond
  have hzv : ∃ z', (∀ w' : World, (zeroValue e).run P w' = .ok z' w') ∧ z'.cells.size = sz := by
    obtain ⟨z', hz', hzo⟩ := run_zeroL (w := w) hz
    refine ⟨z', fun w' => ?_, ?_⟩
    · unfold zeroL at hz
      cases hi : P.info? e with
      | none => rw [hi] at hz; cases hz
      | some i =>
        rw [hi] at hz
        cases hzz : i.zero with
        | none => simp [hzz] at hz
        | some z0 =>
          simp only [zeroValue, typeInfo, Sem.run_bind, run_program, Result.andThen_ok, hi, hzz, Sem.run_pure] at hz' ⊢
          cases hz'; rfl
    · have := ((ofV_vr (G := G) (w := w) hzo).cells k1).1
      simp at this; omega
  obtain ⟨z', hzv, hzs⟩ := hzv
  split at hl
  · -- nothing is appended
    rename_i hel
    obtain ⟨news, hn, hfc, hnl, _⟩ := elems_ok (P := P) hel vx
    have hnews : news = [] := by simpa using hnl
    subst hnews
    split at hl
    · cases hl; cases vs
      exact ⟨_, w, G, run_app_nil0 ht hu hd hs hn (hfc w rfl), .nils, .refl hr⟩
    · cases hl
      cases vs with
      | sl u' hcap hzz hc hv htk =>
        rename_i blk off c
        refine ⟨_, w, G, ?_, .sl u' hcap hzz hc hv htk, .refl hr⟩
        rw [run_app_room ht hu hd hs hn (hfc w rfl) (by simpa using hcap)]
        simp [storeCells]
      | sle =>
        rename_i a c
        refine ⟨.slice (some a) 0 c, w, G, ?_, .sle _ _ _ _, .refl hr⟩
        rw [run_app_room ht hu hd hs hn (hfc w rfl) (by simp)]
        simp [storeCells]
    · cases hl
  · rename_i ys hys hel
    have hyl : 0 < ys.length := by
      cases ys with
      | nil => exact absurd rfl hys
      | cons y ys => simp
    obtain ⟨news, hn, hfc, hnl, hone, hyz, hyv⟩ := elems_ok (P := P) hel vx
    have hfl := flatC_len hyz
    have hfv := flatC_vrs hnl hyz hyv
    split at hl
    · -- nil, written in place from now on
      split at hl
      case isFalse => cases hl
      rename_i hbig
      simp only [Option.some.injEq, Prod.mk.injEq] at hl
      obtain ⟨rfl, rfl⟩ := hl
      simp only [List.length_append, List.length_cons, List.length_nil] at htb
      cases vs
      have hrun := run_app_grow (ty := ty) (sLen := 0) (sCap := 0) (base := none) (olds := #[]) ht hu hd hs hb hzv hn (hfc w.drew rfl) (by simp [Builtin.firstCells]) (by omega) k4 (by
        have := Nat.mul_le_mul_right by_ (show 2 * (0 + ys.length) ≤ 2 * ys.length + 192 by omega); omega)
      rw [Nat.zero_add] at hrun
      have hge := grownCap_ge w ys.length 0 e
      let c : Array Value := #[] ++ news.toArray ++ Builtin.zeroCells z'.cells (grownCap w ys.length 0 e - ys.length)
      have hcs : c.size = grownCap w ys.length 0 e * sz := by
        simp only [c, Array.size_append, List.size_toArray, size_zeroCells, hzs, hnl, List.length_nil, Nat.zero_add, ← Nat.add_mul]
        congr 1; omega
      have hcl : c.toList.take (ys.flatMap (·.cells)).length = news := by
        rw [hfl, ← hnl]
        simp [c]
      have hstep := Step.marNew (w := w) (w' := w.drew.alloc (.cells c e)) (kill := none) (bx := h.box) (pb := w.heap.size) (cap := grownCap w ys.length 0 e * sz) (c := c) (ty := e) (fr := (0, 0)) (cells := ys.flatMap (·.cells))
        ⟨rfl, rfl, rfl⟩ (by rw [push_size (w := w) (w' := w.drew.alloc (.cells c e)) rfl]; omega) (fun i _ hi => push_old (w := w) rfl hi) (push_new (w := w) rfl) (.inl (Nat.le_refl _)) hr (hf.box _ (Nat.le_refl _) (by omega)) (hf.mb _ (Nat.le_refl _) (by omega))
        (fun m h => (by cases h)) rfl (fun _ _ => rfl) (fun k B h => (by cases h)) (by rw [hfl]; exact Nat.mul_le_mul_right _ hge) (by omega) (by rw [hcl]; exact hfv) (fun _ _ => Or.inl rfl)
      refine ⟨_, _, _, hrun, .sm (show _ ∨ _ from Or.inr rfl) hge fun pb cap hR => ?_, hstep⟩
      dsimp only at hR
      rw [if_pos rfl] at hR
      cases hR
      exact ⟨rfl, rfl⟩
    · -- written in place
      rename_i m n sz'
      split at hl
      case h_2 => cases hl
      rename_i B hB
      split at hl
      case isFalse => cases hl
      rename_i hc5
      obtain ⟨rfl, hlob, hBe, hnB, hbig⟩ := hc5
      simp only [Option.some.injEq, Prod.mk.injEq] at hl
      obtain ⟨rfl, rfl⟩ := hl
      simp only [List.length_append, List.length_set, List.length_cons, List.length_nil] at htb
      have hml : m < h.box.length := (List.getElem?_eq_some_iff.1 hB).1
      cases vs with
      | sm h1 hnc h2 =>
        rename_i cc a
        obtain ⟨⟨pb, cap⟩, hR⟩ := hr.mar.live m B h1 hB (by intro e; simp [e] at hBe)
        obtain ⟨rfl, hcap⟩ := h2 pb cap hR
        obtain ⟨hro, c0, ty0, fr0, hheap, l1, l2, hvB, hspare⟩ := hr.mar.box m _ B hR hB
        dsimp only at hheap l1 l2 hspare
        have hbx : ∀ k B', (some m : Option Nat) = some k → (h.box.set m ⟨true, []⟩)[k]? = some B' → B'.cells = [] := by
          intro k B' e hB'
          cases e
          rw [List.getElem?_set_self hml] at hB'
          cases hB'; rfl
        have hbx2 : ∀ k, (some m : Option Nat) ≠ some k → (h.box.set m ⟨true, []⟩)[k]? = h.box[k]? := fun k e => List.getElem?_set_ne (fun e' => e (by rw [e']))
        have holds : VRs G w (B.cells.take (n * sz')) (c0.toList.take (n * sz')) := by
          have := hvB.take (n * sz')
          rwa [List.take_take, Nat.min_eq_left hnB] at this
        have hol : (c0.toList.take (n * sz')).length = n * sz' := by simp; omega
        have hbl2 : (B.cells.take (n * sz')).length = n * sz' := by rw [List.length_take]; omega
        by_cases hroom : n + ys.length ≤ cc
        · have hrun := run_app_room (ty := ty) (a := ⟨pb, 0, none⟩) (sLen := n) (sCap := cc) ht hu hd hs hn (hfc w rfl) hroom
          rw [add_off] at hrun
          have m1 : n * sz' + ys.length * sz' ≤ cap := by rw [← Nat.add_mul, ← hcap]; exact Nat.mul_le_mul_right _ hroom
          obtain ⟨w', hst, hh, hsz, hsd, hother⟩ := storeCells_ok (P := P) pb (0 + n * sz') ty0 fr0 news 0 c0 w hheap (by omega) (by
            intro j g1 g2 g3; rcases hspare j (by omega) with g4 | g4 <;> omega) hone
          rw [show news.toArray.toList = news from rfl, hst, Result.andThen_ok] at hrun
          have hcl : (setAllV c0.toList (0 + n * sz' + 0) news).toArray.toList.take (B.cells.take (n * sz') ++ ys.flatMap (·.cells)).length = c0.toList.take (n * sz') ++ news := by
            rw [List.length_append, hbl2, hfl, ← hnl, Nat.zero_add, Nat.add_zero, List.toList_toArray]
            exact setAllV_app news c0.toList (n * sz') (by simp; omega)
          have hstep := Step.marNew (w := w) (w' := w') (kill := some m) (bx := h.box.set m ⟨true, []⟩) (pb := pb) (cap := cap) (c := (setAllV c0.toList (0 + n * sz' + 0) news).toArray) (ty := ty0) (fr := fr0) (cells := B.cells.take (n * sz') ++ ys.flatMap (·.cells))
            hsd (by omega) (fun i hi _ => hother i hi) hh (.inr ⟨m, _, rfl, hR, rfl⟩) hr (hf.box _ (Nat.le_refl _) (by omega)) (hf.mb _ (Nat.le_refl _) (by omega))
            (fun k e => by cases e; exact ⟨h1, hlob, hml⟩) (by simp) hbx2 hbx (by rw [List.length_append, hbl2, hfl]; omega) (by simp [setAllV_length]; omega) (by rw [hcl]; exact holds.append hfv) hspare
          refine ⟨_, _, _, hrun, .sm (show _ ∨ _ from Or.inr rfl) hroom fun pb' cap' hR' => ?_, hstep⟩
          dsimp only at hR'
          rw [if_pos rfl] at hR'
          cases hR'
          exact ⟨rfl, hcap⟩
        · have hrun := run_app_grow (ty := ty) (sLen := n) (sCap := cc) (base := some ⟨pb, 0, none⟩) (olds := (c0.toList.take (n * sz')).toArray) ht hu hd hs hb hzv hn (hfc w.drew rfl) (by
            simp only [Builtin.firstCells]
            have := run_loadCells_list (P := P) w.drew ⟨pb, 0, none⟩ (c0.toList.take (n * sz')) (by
              intro j x hx
              rw [add_off, Nat.zero_add]
              have hx2 : c0[j]? = some x := by
                rw [List.getElem?_take] at hx
                split at hx
                · simpa using hx
                · cases hx
              have : w.cell? ⟨pb, j, none⟩ = some x := by rw [cell_cells hheap]; exact hx2
              exact this)
            rw [hol] at this
            exact this) (by omega) k4 (by
            have := Nat.mul_le_mul_right by_ (show 2 * (n + ys.length) ≤ 2 * (n + ys.length) + 192 by omega); omega)
          have hge := grownCap_ge w (n + ys.length) cc e
          let c : Array Value := (c0.toList.take (n * sz')).toArray ++ news.toArray ++ Builtin.zeroCells z'.cells (grownCap w (n + ys.length) cc e - (n + ys.length))
          have hcs : c.size = grownCap w (n + ys.length) cc e * sz' := by
            simp only [c, Array.size_append, List.size_toArray, size_zeroCells, hzs, hnl, hol, ← Nat.add_mul]
            congr 1; omega
          have hcl : c.toList.take (B.cells.take (n * sz') ++ ys.flatMap (·.cells)).length = c0.toList.take (n * sz') ++ news := by
            have e : c.toList = (c0.toList.take (n * sz') ++ news) ++ (Builtin.zeroCells z'.cells (grownCap w (n + ys.length) cc e - (n + ys.length))).toList := by simp [c]
            rw [e]
            exact List.take_left' (by rw [List.length_append, List.length_append, hbl2, hfl, hol, hnl])
          have hstep := Step.marNew (w := w) (w' := w.drew.alloc (.cells c e)) (kill := some m) (bx := h.box.set m ⟨true, []⟩) (pb := w.heap.size) (cap := grownCap w (n + ys.length) cc e * sz') (c := c) (ty := e) (fr := (0, 0)) (cells := B.cells.take (n * sz') ++ ys.flatMap (·.cells))
            ⟨rfl, rfl, rfl⟩ (by rw [push_size (w := w) (w' := w.drew.alloc (.cells c e)) rfl]; omega) (fun i _ hi => push_old (w := w) rfl hi) (push_new (w := w) rfl) (.inl (Nat.le_refl _)) hr (hf.box _ (Nat.le_refl _) (by omega)) (hf.mb _ (Nat.le_refl _) (by omega))
            (fun k e => by cases e; exact ⟨h1, hlob, hml⟩) (by simp) hbx2 hbx (by rw [List.length_append, hbl2, hfl, ← Nat.add_mul]; exact Nat.mul_le_mul_right _ hge) (by omega) (by rw [hcl]; exact holds.append hfv) (fun _ _ => Or.inl rfl)
          refine ⟨_, _, _, hrun, .sm (show _ ∨ _ from Or.inr rfl) hge fun pb' cap' hR' => ?_, hstep⟩
          dsimp only at hR'
          rw [if_pos rfl] at hR'
          cases hR'
          exact ⟨rfl, rfl⟩
    · -- nil
      split at hl
      case isFalse => cases hl
      rename_i hbig
      simp only [newRowL, Option.some.injEq, Prod.mk.injEq] at hl
      obtain ⟨rfl, rfl⟩ := hl
      cases vs
      have hrun := run_app_grow (ty := ty) (sLen := 0) (sCap := 0) (base := none) (olds := #[]) ht hu hd hs hb hzv hn (hfc w.drew rfl) (by simp [Builtin.firstCells]) (by omega) k4 (by
        have := Nat.mul_le_mul_right by_ (show 2 * (0 + ys.length) ≤ 2 * ys.length + 192 by omega); omega)
      rw [Nat.zero_add] at hrun
      have hge := grownCap_ge w ys.length 0 e
      let c : Array Value := #[] ++ news.toArray ++ Builtin.zeroCells z'.cells (grownCap w ys.length 0 e - ys.length)
      have hcs : c.size = grownCap w ys.length 0 e * sz := by
        simp only [c, Array.size_append, List.size_toArray, size_zeroCells, hzs, hnl, List.length_nil, Nat.zero_add, ← Nat.add_mul]
        congr 1; omega
      have hstep := Step.newRow (w := w) (w' := w.drew.alloc (.cells c e)) (c := c) (ty := e) (fr := (0, 0)) (pos := ys.length) (fin := ys.length * sz) (cap := grownCap w ys.length 0 e * sz)
        rfl ⟨rfl, rfl, rfl⟩ hr (hf.row _ (Nat.le_refl _) (by simp at htr; omega)) (Nat.mul_le_mul_right _ (by omega)) (by omega) (fun _ _ => Or.inl rfl)
      refine ⟨_, _, _, hrun, ?_, hstep⟩
      refine newRow_vr (us := news) hyz (fun i hi j hj => ?_) hone (push_new rfl) (fun i hi => ?_) (fun o ho => Or.inr ⟨rfl, ho⟩) (by omega) (by simp)
      · obtain ⟨q, h1, h2⟩ := hyv i hi j hj
        exact ⟨q, h1, h2.mono hstep.ext⟩
      · simp only [Array.empty_append]
        rw [Array.getElem?_append_left (by simp; omega)]
        simp
    · rename_i r p sz' xs
      split at hl
      case isFalse => cases hl
      rename_i hc5
      obtain ⟨rfl, hr0, hlor, hrow, hbig⟩ := hc5
      simp only [Option.some.injEq, Prod.mk.injEq] at hl
      obtain ⟨rfl, rfl⟩ := hl
      have vs0 := vs
      cases vs with
      | sle hi sz a c => exact absurd rfl hr0
      | sl u' hcap hxz hc hv htk =>
        rename_i blk off cc
        obtain ⟨R, hR, hpR, hfull⟩ := htk hr0
        obtain ⟨hpos, hfc2, cR, tyR, frR, hheap, hcapR, hspare⟩ := hr.row r R p hR hrow
        obtain ⟨rfl, hfin, hcapE⟩ := hfull hpos.symm
        obtain ⟨us, hu1, hu2, hu3, hu4⟩ := sl_cells vs0
        have hxl : (xs ++ ys).length = xs.length + ys.length := by simp
        have hz2 : ∀ i (h : i < (xs ++ ys).length), (xs ++ ys)[i].cells.length = sz' := by
          intro i hi
          rw [List.getElem_append]
          split
          · exact hxz _ _
          · exact hyz _ _
        by_cases hroom : xs.length + ys.length ≤ cc
        · -- in place
          have hrun := run_app_room (ty := ty) (a := ⟨R.pb, off, none⟩) (sLen := xs.length) (sCap := cc) ht hu hd hs hn (hfc w rfl) hroom
          rw [add_off] at hrun
          have m1 : xs.length * sz' + ys.length * sz' ≤ cc * sz' := by rw [← Nat.add_mul]; exact Nat.mul_le_mul_right _ hroom
          obtain ⟨w', hst, hh, hsz, hsd, hother⟩ := storeCells_ok (P := P) R.pb (off + xs.length * sz') tyR frR news 0 cR w hheap (by omega) (by
            intro j h1 h2 h3; rcases (hspare j (by omega)).2 with h4 | h4 <;> omega) hone
          rw [show news.toArray.toList = news from rfl, hst, Result.andThen_ok] at hrun
          have hstep := Step.growHere (w := w) (w' := w') (R := R) (c := cR) (c' := (setAllV cR.toList (off + xs.length * sz' + 0) news).toArray) (pos := p + ys.length) (m := ys.length * sz') hsd hsz hother hheap hh
            (by simp [setAllV_length]) (by
              intro i hi
              simp only [List.getElem?_toArray]
              rw [setAllV_ne _ _ _ _ (by omega)]; simp) hr hR (by rw [hpos]; exact hrow) hlor (by omega) (by omega)
          refine ⟨_, _, _, hrun, ?_, hstep⟩
          have key : ∀ i (hi : i < (xs ++ ys).length), ∀ j, j < sz' → ∃ q, w'.cell? ⟨R.pb, off + i * sz' + j, none⟩ = some q ∧ (G.prot R.pb (off + i * sz' + j) ∨ (R.fin ≤ off + i * sz' + j ∧ off + i * sz' + j < R.fin + ys.length * sz')) ∧ q.oneCell' = true ∧
              ∀ (hj : j < (xs ++ ys)[i].cells.length), VR G w (xs ++ ys)[i].cells[j] q := by
            intro i hi j hj
            by_cases hix : i < xs.length
            · have hlt := idx_lt hix hj
              obtain ⟨q, h1, h2⟩ := hu4 i hix j (by rw [hxz i hix]; exact hj)
              have h3 := hu2 _ q h1
              refine ⟨q, ?_, .inl (by rw [Nat.add_assoc]; exact h3.2.1), h3.2.2, fun hj' => ?_⟩
              · rw [Nat.add_assoc, hstep.ext.cell _ _ h3.2.1]; exact h3.1
              · simpa only [List.getElem_append_left hix] using h2
            · have hiy : i - xs.length < ys.length := by simp at hi; omega
              have hlt := idx_lt hiy hj
              obtain ⟨q, h1, h2⟩ := hyv (i - xs.length) hiy j (by rw [hyz _ hiy]; exact hj)
              have he : off + i * sz' + j = off + xs.length * sz' + ((i - xs.length) * sz' + j) := by
                have : i * sz' = xs.length * sz' + (i - xs.length) * sz' := by rw [← Nat.add_mul]; congr 1; omega
                omega
              refine ⟨q, ?_, .inr (by omega), hone q (List.mem_of_getElem? h1), fun hj' => ?_⟩
              · rw [he, cell_cells hh, List.getElem?_toArray]
                exact setAllV_at _ _ _ _ _ (by simp; omega) h1
              · simpa only [List.getElem_append_right (by omega : xs.length ≤ i)] using h2
          rw [← hxl]
          refine .sl (fun i j => (w'.cell? ⟨R.pb, off + i * sz' + j, none⟩).getD undef) (by rw [hxl]; omega) hz2 ?_ ?_ ?_
          · intro i hi j hj
            obtain ⟨q, h1, h2, h3, _⟩ := key i hi j hj
            rw [h1]
            refine ⟨rfl, ?_, h3⟩
            rcases h2 with h2 | h2
            · exact Or.inl h2
            · exact Or.inr ⟨rfl, h2⟩
          · intro i hi j hj
            obtain ⟨q, h1, _, _, h4⟩ := key i hi j (by rw [hz2 i hi] at hj; exact hj)
            rw [h1]
            exact (h4 hj).mono hstep.ext
          · intro _
            refine ⟨⟨R.pb, p + ys.length, R.fin + ys.length * sz', R.cap⟩, by simp, Nat.le_refl _, fun _ => ⟨rfl, ?_, ?_⟩⟩
            · simp only [hxl, Nat.add_mul]; omega
            · exact hcapE
        · -- in a new block
          have hrun := run_app_grow (ty := ty) (sLen := xs.length) (sCap := cc) (base := some ⟨R.pb, off, none⟩) (olds := us.toArray) ht hu hd hs hb hzv hn (hfc w.drew rfl) (by
            simp only [Builtin.firstCells]
            rw [← hu1]
            exact run_loadCells_list w.drew _ us (by
              intro j x hx
              rw [add_off]
              exact (hu2 j x hx).1)) (by omega) k4 (by
            have := Nat.mul_le_mul_right by_ (show 2 * (xs.length + ys.length) ≤ 2 * (xs.length + ys.length) + 192 by omega); omega)
          rw [← hxl] at hrun
          have hge := grownCap_ge w (xs ++ ys).length cc e
          let c : Array Value := us.toArray ++ news.toArray ++ Builtin.zeroCells z'.cells (grownCap w (xs ++ ys).length cc e - (xs ++ ys).length)
          have hcs : c.size = grownCap w (xs ++ ys).length cc e * sz' := by
            simp only [c, Array.size_append, List.size_toArray, size_zeroCells, hzs, hnl, hu1, ← Nat.add_mul]
            congr 1; omega
          have hstep := Step.growNew (w := w) (w' := w.drew.alloc (.cells c e)) (R := R) (c := c) (ty := e) (fr := (0, 0)) (pos := p + ys.length) (fin := (xs ++ ys).length * sz') (cap := grownCap w (xs ++ ys).length cc e * sz')
            rfl ⟨rfl, rfl, rfl⟩ hr hR (by rw [hpos]; exact hrow) hlor (by omega) (Nat.mul_le_mul_right _ (by omega)) (by omega) (fun _ _ => Or.inl rfl)
          refine ⟨_, _, _, hrun, ?_, hstep⟩
          have key : ∀ i (hi : i < (xs ++ ys).length), ∀ j, j < sz' → ∃ q, c[i * sz' + j]? = some q ∧ q.oneCell' = true ∧ ∀ (hj : j < (xs ++ ys)[i].cells.length), VR G w (xs ++ ys)[i].cells[j] q := by
            intro i hi j hj
            by_cases hix : i < xs.length
            · have hlt := idx_lt hix hj
              obtain ⟨q, h1, h2⟩ := hu4 i hix j (by rw [hxz i hix]; exact hj)
              refine ⟨q, ?_, (hu2 _ q h1).2.2, fun hj' => ?_⟩
              · simp only [c]
                rw [Array.getElem?_append_left (by simp; omega), Array.getElem?_append_left (by simp; omega)]
                simpa using h1
              · simpa only [List.getElem_append_left hix] using h2
            · have hiy : i - xs.length < ys.length := by simp at hi; omega
              have hlt := idx_lt hiy hj
              obtain ⟨q, h1, h2⟩ := hyv (i - xs.length) hiy j (by rw [hyz _ hiy]; exact hj)
              have he : i * sz' + j = xs.length * sz' + ((i - xs.length) * sz' + j) := by
                have : i * sz' = xs.length * sz' + (i - xs.length) * sz' := by rw [← Nat.add_mul]; congr 1; omega
                omega
              refine ⟨q, ?_, hone q (List.mem_of_getElem? h1), fun hj' => ?_⟩
              · simp only [c]
                rw [Array.getElem?_append_left (by simp; omega), Array.getElem?_append_right (by simp; omega)]
                simp only [List.size_toArray, List.getElem?_toArray, hu1]
                rw [he, Nat.add_sub_cancel_left]; exact h1
              · simpa only [List.getElem_append_right (by omega : xs.length ≤ i)] using h2
          refine .sl (fun i j => (c[i * sz' + j]?).getD undef) hge hz2 ?_ ?_ ?_
          · intro i hi j hj
            obtain ⟨q, h1, h2, _⟩ := key i hi j hj
            have hpn : (w.drew.alloc (.cells c e)).heap[w.heap.size]? = some (.cells c e (0, 0)) := push_new rfl
            rw [cell_cells hpn, Nat.zero_add, h1]
            exact ⟨rfl, Or.inr ⟨rfl, idx_lt hi hj⟩, h2⟩
          · intro i hi j hj
            obtain ⟨q, h1, _, h4⟩ := key i hi j (by rw [hz2 i hi] at hj; exact hj)
            rw [h1]
            exact (h4 hj).mono hstep.ext
          · intro _
            exact ⟨⟨w.heap.size, p + ys.length, (xs ++ ys).length * sz', grownCap w (xs ++ ys).length cc e * sz'⟩, by simp, Nat.le_refl _, fun _ => ⟨rfl, by simp, by simp⟩⟩
    · cases hl
  · cases hl

end Go.LM

namespace Go.LM
variable {P : Program} {G : Gh} {w : World}

structure SR (G : Gh) (w : World) (N : Nat) (s : S) (a : Act) : Prop where
  size : a.tmps.size = N
  defers : a.defers = []
  at_ : ∀ t, VR G w (s t) (a.tmps.getD t undef)

theorem SR.mono {G' : Gh} {w' : World} {N : Nat} {s : S} {a : Act} (h : SR G w N s a) (hx : Ext G w G' w') : SR G' w' N s a :=
  ⟨h.size, h.defers, fun t => (h.at_ t).mono hx⟩

theorem SR.put {N : Nat} {s : S} {a : Act} {d : Option Nat} {v : LV} {u : Value} (h : SR G w N s a) (hd : okDst N d = true) (hv : VR G w v u) : SR G w N (updO s d v) (a.put d u) := by
  cases d with
  | none => exact h
  | some d =>
    have hlt : d < a.tmps.size := by rw [h.size]; simpa [okDst] using hd
    refine ⟨by simp [Act.put, h.size], h.defers, fun t => ?_⟩
    simp only [updO, upd, Act.put]
    by_cases he : t = d
    · subst he; simp [Array.getD_eq_getD_getElem?, hlt]; exact hv
    · rw [if_neg he]
      have := h.at_ t
      simpa [Array.getD_eq_getD_getElem?, Array.getElem?_setIfInBounds, Ne.symm he] using this

theorem opr_ok {N : Nat} {s : S} {a : Act} {x : Operand} {v : LV} (h : opr s x = some v) (hs : SR G w N s a) : VR G w v (a.eval x) := by
  unfold opr at h
  split at h
  · cases h; exact hs.at_ _
  · exact ofV_vr h
  · cases h; exact .fn rfl rfl (fun i h => absurd h (by simp)) (fun i h => absurd h (by simp))
  · cases h
theorem oprs_ok {N : Nat} {s : S} {a : Act} (hs : SR G w N s a) : ∀ {xs : List Operand} {vs : List LV}, oprs s xs = some vs → VRs G w vs (xs.map a.eval)
  | [], vs, h => by simp only [oprs] at h; cases h; exact .nil
  | x :: xs, vs, h => by
    simp only [oprs] at h
    split at h
    · rename_i v l h1 h2
      cases h
      exact .cons (opr_ok h1 hs) (oprs_ok hs h2)
    · cases h
theorem oprP_ok {N : Nat} {s : S} {a : Act} (hs : SR G w N s a) : ∀ {xs : List (Nat × Operand)} {vs : List (Nat × LV)}, oprP s xs = some vs →
    Parts G w vs (xs.map fun x => (x.1, a.eval x.2))
  | [], vs, h => by simp only [oprP] at h; cases h; exact .nil
  | (i, x) :: xs, vs, h => by
    simp only [oprP] at h
    split at h
    · rename_i v l h1 h2
      cases h
      exact .cons (opr_ok h1 hs) (oprP_ok hs h2)
    · cases h
theorem oprO_ok {N : Nat} {s : S} {a : Act} {x : Option Operand} {v : Option LV} (h : oprO s x = some v) (hs : SR G w N s a) : VRo G w v (x.map a.eval) := by
  unfold oprO at h
  split at h
  · cases h; trivial
  · rename_i x
    cases hx : opr s x with
    | none => rw [hx] at h; cases h
    | some l => rw [hx] at h; cases h; exact opr_ok hx hs

/-- What is known of the callees. -/
def COk (P : Program) (base : Nat) (C : Callee') : Prop :=
  ∀ f args h v h', C f args h = some (v, h') → ∀ (G : Gh) (w : World) (args' : Array Value) (tb tr : Nat), HR base G w h → Fresh G h tb tr → h'.box.length ≤ tb → h'.row.length ≤ tr → VRs G w args args'.toList →
    Calls P f args' w fun e w' => ∃ G' v', e = .returned v' ∧ VR G' w' v v' ∧ Step base G w h G' w' h'
def CFn (P : Program) (C : Callee') : Prop :=
  ∀ f args h r, C f args h = some r → ∃ fn, P.funcs[f]? = some fn ∧ fn.body ≠ none ∧ fn.name ≠ "runtime.NumGoroutine"

theorem value_wp {o : Oper} {a : Act} {K : Act → World → Prop} {Q : Exit → Act → World → Prop} {u : Value} {w' : World} (h : (execOp a.eval o).run P w = .ok (.value u) w') (hk : K (a.put o.dst u) w') :
    o.wp P a w K Q := by
  unfold Oper.wp; rw [h]; exact hk
theorem skip_wp {o : Oper} {a : Act} {K : Act → World → Prop} {Q : Exit → Act → World → Prop} {w' : World} (h : (execOp a.eval o).run P w = .ok .skip w') (hk : K (a.put o.dst undef) w') :
    o.wp P a w K Q := by
  unfold Oper.wp; rw [h]; exact hk

theorem call_wp {base tb tr : Nat} {C : Callee'} (hC : COk P base C) (hF : CFn P C) {o : Oper} {a : Act} {K : Act → World → Prop} {Q : Exit → Act → World → Prop} {f : Nat} {args : List LV} {args' : Array Value} {h h' : H} {v : LV}
    (hr : (execOp a.eval o).run P w = (callFunc f args').run P w) (hc : C f args h = some (v, h')) (hh : HR base G w h) (hf : Fresh G h tb tr) (h1 : h'.box.length ≤ tb) (h2 : h'.row.length ≤ tr) (hv : VRs G w args args'.toList)
    (hk : ∀ G' w' u, Step base G w h G' w' h' → VR G' w' v u → K (a.put o.dst u) w') : o.wp P a w K Q := by
  obtain ⟨fn, e1, e2, e3⟩ := hF f args h _ hc
  have hcf : (callFunc f args').run P w = .ok (.enter f args') w := by
    simp [callFunc, e1, e2, e3]
  unfold Oper.wp
  rw [hr, hcf]
  refine (hC f args h v h' hc G w args' tb tr hh hf h1 h2 hv).mono ?_
  rintro e w' ⟨G', v', rfl, hv', hs⟩
  exact hk G' w' v' hs hv'

theorem op_sound {base tb tr N : Nat} {C : Callee'} (hC : COk P base C) (hF : CFn P C) {o : Oper} {a : Act} {s : S} {K : Act → World → Prop} {Q : Exit → Act → World → Prop} {h h' : H} {v : LV}
    (ho : opL P C s o.op h = some (v, h')) (hh : HR base G w h) (hf : Fresh G h tb tr) (h1 : h'.box.length ≤ tb) (h2 : h'.row.length ≤ tr) (hs : SR G w N s a)
    (hk : ∀ G' w' u, Step base G w h G' w' h' → VR G' w' v u → K (a.put o.dst u) w') : o.wp P a w K Q := by
  obtain ⟨dst, op, type, pos, after, guard⟩ := o
  dsimp only at ho hk
  cases op <;> try (simp only [opL] at ho; cases ho; done)
  case move x =>
    simp only [opL] at ho
    cases hx : opr s x with
    | none => rw [hx] at ho; cases ho
    | some y => rw [hx] at ho; cases ho; exact value_wp (u := a.eval x) (w' := w) rfl (hk G w _ (.refl hh) (opr_ok hx hs))
  case assign x =>
    simp only [opL] at ho
    cases hx : opr s x with
    | none => rw [hx] at ho; cases ho
    | some y => rw [hx] at ho; cases ho; exact value_wp (u := a.eval x) (w' := w) rfl (hk G w _ (.refl hh) (opr_ok hx hs))
  case pick c x y =>
    simp only [opL] at ho
    split at ho
    · rename_i hc
      have := opr_ok hc hs
      cases hx : opr s x with
      | none => rw [hx] at ho; cases ho
      | some z =>
        rw [hx] at ho; cases ho
        refine value_wp (u := a.eval x) (w' := w) ?_ (hk G w _ (.refl hh) (opr_ok hx hs))
        generalize hg : a.eval c = g at this; cases this; simp [execOp, hg, asBool]
    · rename_i hc
      have := opr_ok hc hs
      cases hx : opr s y with
      | none => rw [hx] at ho; cases ho
      | some z =>
        rw [hx] at ho; cases ho
        refine value_wp (u := a.eval y) (w' := w) ?_ (hk G w _ (.refl hh) (opr_ok hx hs))
        generalize hg : a.eval c = g at this; cases this; simp [execOp, hg, asBool]
    · cases ho
  case alloc t =>
    simp only [opL] at ho
    split at ho
    · rename_i z hz
      split at ho
      · rename_i hkn
        simp only [newBoxL, Option.some.injEq, Prod.mk.injEq] at ho
        obtain ⟨rfl, rfl⟩ := ho
        obtain ⟨z', hz', hzo⟩ := run_zeroL (w := w) hz
        have hstep := Step.newBox (w' := { w with heap := w.heap.push (.cells z'.cells t (0, 0)) }) rfl ⟨rfl, rfl, rfl⟩ hh (hf.box _ (Nat.le_refl _) (by simp at h1; omega)) (hf.mb _ (Nat.le_refl _) (by simp at h1; omega)) ((ofV_vr (G := G) (w := w) hzo).cells hkn)
        refine value_wp (u := .pointer (some ⟨w.heap.size, 0, none⟩)) ?_ (hk _ _ _ hstep (.ptr (by simp)))
        simp [execOp, Instr.alloc, hz', newVar, newRow]
      · cases ho
    · cases ho
  case box t x =>
    simp only [opL] at ho
    split at ho
    · rename_i z hz
      split at ho
      · rename_i hkn
        simp only [newBoxL, Option.some.injEq, Prod.mk.injEq] at ho
        obtain ⟨rfl, rfl⟩ := ho
        have hstep := Step.newBox (w' := { w with heap := w.heap.push (.cells (a.eval x).cells t (0, 0)) }) rfl ⟨rfl, rfl, rfl⟩ hh (hf.box _ (Nat.le_refl _) (by simp at h1; omega)) (hf.mb _ (Nat.le_refl _) (by simp at h1; omega)) ((opr_ok hz hs).cells hkn)
        refine value_wp (u := .pointer (some ⟨w.heap.size, 0, none⟩)) ?_ (hk _ _ _ hstep (.ptr (by simp)))
        simp [execOp, Instr.box, newVar, newRow]
      · cases ho
    · cases ho
  case build t parts =>
    simp only [opL] at ho
    split at ho
    · rename_i ps hps
      cases hb : buildL P t ps with
      | none => rw [hb] at ho; cases ho
      | some y =>
        rw [hb] at ho; cases ho
        obtain ⟨u, hu, hv⟩ := build_ok (parts' := parts.map fun x => (x.1, a.eval x.2)) hb (by simpa using oprP_ok hs hps)
        exact value_wp (w' := w) (by simp [execOp, hu]) (hk G w _ (.refl hh) hv)
    · cases ho
  case buildSlice t n parts =>
    simp only [opL] at ho
    split at ho
    · rename_i ps hps
      obtain ⟨u, w', G', hu, hv, hst⟩ := buildSlice_ok (parts' := parts.map fun x => (x.1, a.eval x.2)) ho hh hf h2 (by simpa using oprP_ok hs hps)
      exact value_wp (by simp [execOp, hu]) (hk _ _ _ hst hv)
    · cases ho
  case load t x =>
    simp only [opL] at ho
    split at ho
    · rename_i p hp
      cases hl : loadL P t p h with
      | none => rw [hl] at ho; cases ho
      | some y =>
        rw [hl] at ho; cases ho
        obtain ⟨u, hu, hv⟩ := load_ok hl hh (opr_ok hp hs)
        exact value_wp (w' := w) (by simp [execOp, hu]) (hk G w _ (.refl hh) hv)
    · cases ho
  case store t x y =>
    simp only [opL] at ho
    split at ho
    · rename_i p z hp hz
      cases hl : storeL P t p z h with
      | none => rw [hl] at ho; cases ho
      | some h2 =>
        rw [hl] at ho; cases ho
        obtain ⟨w', hu, hst⟩ := store_ok hl hh (opr_ok hp hs) (opr_ok hz hs)
        exact skip_wp (by simp [execOp, hu]) (hk G w' _ hst (.undef _))
    · cases ho
  case nilCheck x =>
    simp only [opL] at ho
    split at ho
    · rename_i hp
      cases ho
      have := opr_ok hp hs
      refine value_wp (u := a.eval x) (w' := w) ?_ (hk G w _ (.refl hh) this)
      generalize hg : a.eval x = g at this; cases this; simp [execOp, hg]
    · rename_i hp
      cases ho
      have := opr_ok hp hs
      refine value_wp (u := a.eval x) (w' := w) ?_ (hk G w _ (.refl hh) this)
      generalize hg : a.eval x = g at this; cases this; simp [execOp, hg]
    · rename_i hp
      cases ho
      have := opr_ok hp hs
      refine value_wp (u := a.eval x) (w' := w) ?_ (hk G w _ (.refl hh) this)
      generalize hg : a.eval x = g at this; cases this; simp [execOp, hg]
    · rename_i hp
      cases ho
      have := opr_ok hp hs
      refine value_wp (u := a.eval x) (w' := w) ?_ (hk G w _ (.refl hh) this)
      generalize hg : a.eval x = g at this; cases this; simp [execOp, hg]
    · cases ho
  case binOp op t x y ty =>
    simp only [opL] at ho
    split at ho
    · rename_i p q hp hq
      cases hl : binL P op t p q with
      | none => rw [hl] at ho; cases ho
      | some z =>
        rw [hl] at ho; cases ho
        obtain ⟨u, hu, hv⟩ := bin_ok x y hl (opr_ok hp hs) (opr_ok hq hs)
        exact value_wp (w' := w) (by
          have : (execOp a.eval ⟨dst, .binOp op t x y ty, type, pos, after, guard⟩).run P w = ((do eqGuard op t x y (a.eval x) (a.eval y); binOp op t (a.eval x) (a.eval y) : Sem Value).run P w).andThen fun v w' => .ok (.value v) w' := by
            simp only [execOp, Sem.run_bind, Sem.run_pure]
          rw [this, hu]; rfl) (hk G w _ (.refl hh) hv)
    · cases ho
  case unOp op t x =>
    simp only [opL] at ho
    split at ho
    · rename_i p hp
      cases hl : unL op p with
      | none => rw [hl] at ho; cases ho
      | some z =>
        rw [hl] at ho; cases ho
        obtain ⟨u, hu, hv⟩ := un_ok (P := P) hl (opr_ok hp hs)
        exact value_wp (w' := w) (by simp [execOp, hu]) (hk G w _ (.refl hh) hv)
    · cases ho
  case convert src d2 x =>
    simp only [opL] at ho
    split at ho
    · rename_i p hp
      obtain ⟨u, w', G', hu, hv, hst⟩ := conv_ok ho hh hf h2 (opr_ok hp hs)
      exact value_wp (by simp [execOp, hu]) (hk _ _ _ hst hv)
    · cases ho
  case typeAssert x xt t ok =>
    simp only [opL] at ho
    split at ho
    · rename_i y hy
      rw [Option.map_eq_some_iff] at ho
      obtain ⟨v', hv', he⟩ := ho
      cases he
      obtain ⟨u, hu, hvr⟩ := assert_ok (P := P) (w := w) (s := xt) hv' (opr_ok hy hs)
      exact value_wp (u := u) (w' := w) (by simp [execOp, hu]) (hk G w _ (.refl hh) hvr)
    · cases ho
  case makeInterface t x =>
    simp only [opL] at ho
    split at ho
    · cases ho
    · rename_i y d hd hx hu
      cases ho
      refine value_wp (u := .iface t (a.eval x)) (w' := w) ?_ (hk G w _ (.refl hh) (.iface (opr_ok hx hs)))
      simp only [execOp, Instr.makeInterface, Sem.run_bind, run_und hu, Result.andThen_ok]
      cases d <;> first | rfl | (exact (hd _ rfl).elim)
    · cases ho
  case makeFunc fn first caps =>
    cases fn <;> try (simp only [opL] at ho; cases ho; done)
    simp only [opL] at ho
    split at ho
    · rename_i p q hp hq
      cases ho
      have e1 := oprs_ok hs hp
      have e2 := oprs_ok hs hq
      refine value_wp (w' := w) (u := .func (.func _) (first.map a.eval) (caps.map a.eval)) (by simp [execOp, Instr.makeFunc]) (hk G w _ (.refl hh) (.fn ?_ ?_ ?_ ?_))
      · simpa using e1.1
      · simpa using e2.1
      · intro i hi hi'; have := e1.2 i hi (by simpa using hi'); simpa using this
      · intro i hi hi'; have := e2.2 i hi (by simpa using hi'); simpa using this
    · cases ho
  case slice t x lo hi mx =>
    cases mx with
    | some m => simp only [opL] at ho; cases ho
    | none =>
      simp only [opL] at ho
      split at ho
      · rename_i p q r hp hq hr
        obtain ⟨u, G', hu, hv, hst⟩ := slice_ok ho hh (opr_ok hp hs) (oprO_ok hq hs) (oprO_ok hr hs)
        exact value_wp (by simp [execOp, hu]) (hk _ _ _ hst hv)
      · cases ho
  case fieldAddr t x f =>
    simp only [opL] at ho
    split at ho
    · rename_i p hp
      cases hl : fieldAddrL P t p f with
      | none => rw [hl] at ho; cases ho
      | some z =>
        rw [hl] at ho; cases ho
        obtain ⟨u, hu, hv⟩ := fieldAddr_ok hl (opr_ok hp hs)
        exact value_wp (w' := w) (by simp [execOp, hu]) (hk G w _ (.refl hh) hv)
    · cases ho
  case field t x f =>
    simp only [opL] at ho
    split at ho
    · rename_i p hp
      cases hl : fieldL P t p f with
      | none => rw [hl] at ho; cases ho
      | some z =>
        rw [hl] at ho; cases ho
        obtain ⟨u, hu, hv⟩ := field_ok hl (opr_ok hp hs)
        exact value_wp (w' := w) (by simp [execOp, hu]) (hk G w _ (.refl hh) hv)
    · cases ho
  case indexAddr t x i =>
    simp only [opL] at ho
    split at ho
    · rename_i p q hp hq
      cases hl : indexAddrL P t p q with
      | none => rw [hl] at ho; cases ho
      | some z =>
        rw [hl] at ho; cases ho
        obtain ⟨u, hu, hv⟩ := indexAddr_ok hl (opr_ok hp hs) (opr_ok hq hs)
        exact value_wp (w' := w) (by simp [execOp, hu]) (hk G w _ (.refl hh) hv)
    · cases ho
  case index t x i =>
    simp only [opL] at ho
    split at ho
    · rename_i p q hp hq
      cases hl : indexL P t p q with
      | none => rw [hl] at ho; cases ho
      | some z =>
        rw [hl] at ho; cases ho
        obtain ⟨u, hu, hv⟩ := index_ok hl (opr_ok hp hs) (opr_ok hq hs)
        exact value_wp (w' := w) (by simp [execOp, hu]) (hk G w _ (.refl hh) hv)
    · cases ho
  case extract x i =>
    simp only [opL] at ho
    split at ho
    · rename_i vs hp
      cases hl : vs[i]? with
      | none => rw [hl] at ho; cases ho
      | some z =>
        rw [hl] at ho; cases ho
        have := opr_ok hp hs
        generalize hg : a.eval x = g at this
        cases this with
        | tup hl2 hv2 =>
          rename_i arr
          obtain ⟨u, hu, hv⟩ := (VR.tup hl2 hv2).ofTup.get hl
          have hu' : arr[i]? = some u := by simpa using hu
          exact value_wp (w' := w) (by simp [execOp, hg, Instr.extract, hu']) (hk G w _ (.refl hh) hv)
    · cases ho
  case call c =>
    obtain ⟨callee, args, argTypes⟩ := c
    simp only [opL, callL] at ho
    cases callee with
    | builtin b =>
      cases b <;> try (simp only [] at ho; cases ho; done)
      case append =>
        dsimp only at ho
        split at ho
        · rename_i x y t u hxs hts
          have hv := oprs_ok hs hxs
          obtain ⟨x', y', hxy⟩ : ∃ x' y', args.map a.eval = #[x', y'] := by
            have hl := hv.1
            simp at hl
            refine ⟨a.eval (args[0]'(by omega)), a.eval (args[1]'(by omega)), ?_⟩
            apply Array.ext
            · simp; omega
            · intro i h1 h2
              have : i = 0 ∨ i = 1 := by simp at h2; omega
              rcases this with rfl | rfl <;> simp
          have hat : argTypes = #[t, u] := by apply Array.ext'; simpa using hts
          rw [show args.toList.map a.eval = [x', y'] by rw [← Array.toList_map, hxy]] at hv
          obtain ⟨r, w', G', hu, hvv, hst⟩ := append_ok (ty := type) ho hh hf h2 h1 hv.head hv.tail.head
          refine value_wp ?_ (hk _ _ _ hst hvv)
          subst hat
          simp [execOp, resolve, invoke, builtin, hxy, hu]
        · cases ho
      case len =>
        dsimp only at ho
        split at ho
        · rename_i x t hxs hts
          cases hl : lenL P t x with
          | none => rw [hl] at ho; cases ho
          | some z =>
            rw [hl] at ho; cases ho
            have hv := oprs_ok hs hxs
            obtain ⟨x', hxy⟩ : ∃ x', args.map a.eval = #[x'] := by
              have hl := hv.1
              simp at hl
              refine ⟨a.eval (args[0]'(by omega)), ?_⟩
              apply Array.ext
              · simp; omega
              · intro i h1 h2
                have : i = 0 := by simp at h2; omega
                subst this; simp
            have hat : argTypes = #[t] := by apply Array.ext'; simpa using hts
            rw [show args.toList.map a.eval = [x'] by rw [← Array.toList_map, hxy]] at hv
            obtain ⟨u, hu, hvv⟩ := len_ok (ty := type) hl hv.head
            refine value_wp (w' := w) ?_ (hk G w _ (.refl hh) hvv)
            subst hat
            simp [execOp, resolve, invoke, builtin, hxy, hu]
        · cases ho
      case max =>
        dsimp only at ho
        split at ho
        · rename_i x xs hxs
          cases hl : foldL max2L x xs with
          | none => rw [hl] at ho; cases ho
          | some z =>
            rw [hl] at ho; cases ho
            have hv := oprs_ok hs hxs
            obtain ⟨x', xs', hxy⟩ : ∃ x' xs', args.toList.map a.eval = x' :: xs' := by
              cases hm : args.toList.map a.eval with
              | nil => rw [hm] at hv; simp [VRs] at hv
              | cons x' xs' => exact ⟨_, _, rfl⟩
            rw [hxy] at hv
            obtain ⟨u, hu, hvv⟩ := fold_ok (P := P) (g := Builtin.max2) max2_ok hl hv.head hv.tail
            refine value_wp (w' := w) ?_ (hk G w _ (.refl hh) hvv)
            have hl2 : (args.map a.eval).toList = x' :: xs' := by simpa using hxy
            simp [execOp, resolve, invoke, builtin, Builtin.max_, hxy, hu]
        · cases ho
      case min =>
        dsimp only at ho
        split at ho
        · rename_i x xs hxs
          cases hl : foldL min2L x xs with
          | none => rw [hl] at ho; cases ho
          | some z =>
            rw [hl] at ho; cases ho
            have hv := oprs_ok hs hxs
            obtain ⟨x', xs', hxy⟩ : ∃ x' xs', args.toList.map a.eval = x' :: xs' := by
              cases hm : args.toList.map a.eval with
              | nil => rw [hm] at hv; simp [VRs] at hv
              | cons x' xs' => exact ⟨_, _, rfl⟩
            rw [hxy] at hv
            obtain ⟨u, hu, hvv⟩ := fold_ok (P := P) (g := Builtin.min2) min2_ok hl hv.head hv.tail
            refine value_wp (w' := w) ?_ (hk G w _ (.refl hh) hvv)
            simp [execOp, resolve, invoke, builtin, Builtin.min_, hxy, hu]
        · cases ho
    | value f =>
      dsimp only at ho
      split at ho
      · rename_i k first caps as hfv has
        have hv := oprs_ok hs has
        have hfv' := opr_ok hfv hs
        generalize hg : a.eval f = g at hfv'
        cases hfv' with
        | fn l1 l2 v1 v2 =>
          rename_i fa ca
          have hfirst : VRs G w first fa.toList := ⟨by simpa using l1, fun i a b => by have := v1 i a (by simpa using b); rwa [Array.getElem_toList]⟩
          have hcaps : VRs G w caps ca.toList := ⟨by simpa using l2, fun i a b => by have := v2 i a (by simpa using b); rwa [Array.getElem_toList]⟩
          refine call_wp (args' := fa ++ args.map a.eval ++ ca) hC hF ?_ ho hh hf h1 h2 ?_ hk
          · simp [execOp, resolve, hg, Deferred.ofValue, invoke]
          · simpa using (hfirst.append hv).append hcaps
      · cases ho
    | invoke r name =>
      dsimp only at ho
      split at ho
      · rename_i t v0 as hrv has
        split at ho
        · rename_i f hm
          have hv := oprs_ok hs has
          have hrv' := opr_ok hrv hs
          generalize hg : a.eval r = g at hrv'
          cases hrv' with
          | iface hvr =>
            rename_i u0
            refine call_wp (args' := #[u0] ++ args.map a.eval) hC hF ?_ ho hh hf h1 h2 ?_ hk
            · have hmeth : ∀ n, (method (n + 1) t u0 name).run P w = .ok (f, u0) w := by
                intro n
                unfold methodL at hm
                split at hm
                · rename_i i hi
                  split at hm
                  · rename_i m hfind
                    split at hm
                    · rename_i f' hfunc
                      split at hm
                      · rename_i hpe
                        split at hm
                        · rename_i el hu
                          cases hm
                          have hp : m.path.toList = [] := by simpa using hpe
                          simp [method, typeInfo, hi, hfind, hp, follow, hfunc, receiverAt, run_und hu, Place.get]
                        · cases hm
                      · cases hm
                    · cases hm
                  · cases hm
                · cases hm
              have hd : ∃ n, P.types.size + Made.depth = n + 1 := ⟨P.types.size + Made.depth - 1, by
                have : 0 < Made.depth := by decide
                omega⟩
              obtain ⟨n, hn⟩ := hd
              have hget : (#[Value.iface t u0] ++ Array.map a.eval args)[0]? = some (.iface t u0) := by
                rw [Array.getElem?_append_left (by simp)]; rfl
              have hext : (#[Value.iface t u0] ++ Array.map a.eval args).extract 1 (#[Value.iface t u0] ++ Array.map a.eval args).size = Array.map a.eval args := by
                apply Array.ext'; simp only [Array.toList_extract, List.extract, Array.toList_append, Array.size_append, Array.toList_map]; simp [List.take_of_length_le]
              simp only [execOp, resolve, hg, invoke, Sem.run_bind, Sem.run_pure, Result.andThen_ok, hget, hext, callMethod, run_program, hn, hmeth n]
            · have : (#[u0] ++ Array.map a.eval args).toList = u0 :: args.toList.map a.eval := by simp
              rw [this]
              exact .cons hvr hv
        · cases ho
      · cases ho

end Go.LM
