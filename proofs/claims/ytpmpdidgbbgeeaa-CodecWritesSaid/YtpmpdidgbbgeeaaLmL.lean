import Derived.Test.YtpmpdidgbbgeeaaLmK
namespace Go.LM
variable {P : Program} {G : Gh} {w : World}

theorem elems_ok {sz : Nat} {x : LV} {ys : List LV} {x' : Value} (h : elemsL sz x = some ys) (vx : VR G w x x') :
    ∃ news : List Value, (Builtin.lenOf x').run P w = .ok ys.length w ∧ (∀ w1 : World, w1.heap = w.heap → (Builtin.firstCells sz ys.length x').run P w1 = .ok news.toArray w1) ∧
      news.length = ys.length * sz ∧ (∀ u ∈ news, u.oneCell' = true) ∧ (∀ i (h : i < ys.length), ys[i].cells.length = sz) ∧
      ∀ i (h : i < ys.length) j (hj : j < ys[i].cells.length), ∃ u, news[i * sz + j]? = some u ∧ VR G w ys[i].cells[j] u := by
  unfold elemsL at h
  split at h
  · cases h; cases vx
    exact ⟨[], by simp [Builtin.lenOf], fun w1 _ => by simp [Builtin.firstCells], by simp, by simp, fun i h => absurd h (by simp), fun i h => absurd h (by simp)⟩
  · split at h
    · rename_i hsz; subst hsz
      cases h
      have vx0 := vx
      cases vx with
      | sl u hcap hz hc hv ht =>
        rename_i blk off c
        obtain ⟨us, hu1, hu2, hu3, hu4⟩ := sl_cells vx0
        refine ⟨us, by simp [Builtin.lenOf], fun w1 hw1 => ?_, hu1, ?_, hu3, hu4⟩
        · simp only [Builtin.firstCells]
          rw [← hu1]
          exact run_loadCells_list w1 _ us (by
            intro j x hx
            rw [add_off]
            rw [cell_of_heap (w := w) (by rw [hw1])]
            exact (hu2 j x hx).1)
        · intro u hu
          obtain ⟨i, hi, rfl⟩ := List.getElem_of_mem hu
          exact (hu2 i _ (List.getElem?_eq_getElem hi)).2.2
      | sle hi sz a c =>
        exact ⟨[], by simp [Builtin.lenOf], fun w1 _ => by simp [Builtin.firstCells, loadCells, loadCellsFrom], by simp, by simp, fun i h => absurd h (by simp), fun i h => absurd h (by simp)⟩
    · cases h
  · rename_i s
    split at h
    · rename_i h1; subst h1
      cases h; cases vx
      have hl := bytes_len s
      refine ⟨s.data.toList.map (fun b => Value.int .u8 b.toNat), by simp [Builtin.lenOf, hl], fun w1 _ => ?_, by simp [hl], ?_, ?_, ?_⟩
      · simp only [Builtin.firstCells, hl, Sem.run_pure]
        have he : (s.extract 0 s.size).data = s.data := by simp
        rw [he]
        congr 1
        apply Array.ext'
        simp
      · intro u hu
        simp at hu
        obtain ⟨b, _, rfl⟩ := hu; rfl
      · intro i hi; simp [bytesL, LV.cells]
      · intro i hi j hj
        simp [bytesL, LV.cells] at hj hi
        subst hj
        refine ⟨.int .u8 (s.data[i]'hi).toNat, ?_, ?_⟩
        · simp only [Nat.mul_one, Nat.add_zero]
          rw [List.getElem?_map, List.getElem?_eq_getElem (by simpa using hi)]
          simp
        · simp only [bytesL, List.getElem_map, Array.getElem_toList]
          exact .int _ _
    · cases h
  · cases h

theorem run_app_nil0 {t u ty e : TypeId} {d : TypeDesc} {sz : Nat} {x : Value} {news : Array Value} (ht : P.underlying t = some (.slice e)) (hu : P.underlying u = some d)
    (hd : d = .string ∨ ∃ q, d = .slice q) (hs : sizeT P e = some sz) (hn : (Builtin.lenOf x).run P w = .ok 0 w) (hf : (Builtin.firstCells sz 0 x).run P w = .ok news w) :
    (Builtin.append_ #[t, u] ty #[.slice none 0 0, x]).run P w = .ok (.slice none 0 0) w := by
  rcases hd with rfl | ⟨q, rfl⟩ <;>
    (simp [Builtin.append_, run_und ht, run_und hu, run_size hs, hn, hf])

theorem idx_lt {n sz i j : Nat} (hi : i < n) (hj : j < sz) : i * sz + j < n * sz := by
  calc i * sz + j < i * sz + sz := by omega
    _ = (i + 1) * sz := by rw [Nat.add_mul]; omega
    _ ≤ n * sz := Nat.mul_le_mul_right _ hi

theorem append_ok {base tb tr : Nat} {t u ty : TypeId} {s x v : LV} {h h' : H} {s' x' : Value}
    (hl : appendL P t u s x h = some (v, h')) (hr : HR base G w h) (hf : Fresh G h tb tr) (htr : h'.row.length ≤ tr) (vs : VR G w s s') (vx : VR G w x x') :
    ∃ r w' G', (Builtin.append_ #[t, u] ty #[s', x']).run P w = .ok r w' ∧ VR G' w' v r ∧ Step base G w h G' w' h' := by
  unfold appendL at hl
  split at hl
  case h_2 => cases hl
  rename_i e ht hud
  have hu : ∃ d, P.underlying u = some d ∧ (d = .string ∨ ∃ q, d = .slice q) := by
    revert hud
    split
    · intro _; exact ⟨_, by assumption, .inl rfl⟩
    · intro _; exact ⟨_, by assumption, .inr ⟨_, rfl⟩⟩
    · intro h; cases h
  obtain ⟨d, hu, hd⟩ := hu
  split at hl
  case h_2 => cases hl
  rename_i sz by_ z hs hb hz
  split at hl
  case isFalse => cases hl
  rename_i hcond
  obtain ⟨k1, k2, k3, k4⟩ := hcond
  have hzv : ∃ z', (∀ w' : World, (zeroValue e).run P w' = .ok z' w') ∧ z'.cells.size = sz := by
    obtain ⟨z', hz', hzo⟩ := run_zeroL (w := w) hz
    refine ⟨z', fun w' => ?_, ?_⟩
    · unfold zeroL at hz
      cases hi : P.info? e with
      | none => rw [hi] at hz; cases hz
      | some i =>
        rw [hi] at hz
        cases hzz : i.zero with
        | none => simp [hzz] at hz
        | some z0 =>
          simp only [zeroValue, typeInfo, Sem.run_bind, run_program, Result.andThen_ok, hi, hzz, Sem.run_pure] at hz' ⊢
          cases hz'; rfl
    · have := ((ofV_vr (G := G) (w := w) hzo).cells k1).1
      simp at this; omega
  obtain ⟨z', hzv, hzs⟩ := hzv
  split at hl
  · -- nothing is appended
    rename_i hel
    obtain ⟨news, hn, hfc, hnl, _⟩ := elems_ok (P := P) hel vx
    have hnews : news = [] := by simpa using hnl
    subst hnews
    split at hl
    · cases hl; cases vs
      exact ⟨_, w, G, run_app_nil0 ht hu hd hs hn (hfc w rfl), .nils, .refl hr⟩
    · cases hl
      cases vs with
      | sl u' hcap hzz hc hv htk =>
        rename_i blk off c
        refine ⟨_, w, G, ?_, .sl u' hcap hzz hc hv htk, .refl hr⟩
        rw [run_app_room ht hu hd hs hn (hfc w rfl) (by simpa using hcap)]
        simp [storeCells]
      | sle =>
        rename_i a c
        refine ⟨.slice (some a) 0 c, w, G, ?_, .sle _ _ _ _, .refl hr⟩
        rw [run_app_room ht hu hd hs hn (hfc w rfl) (by simp)]
        simp [storeCells]
    · cases hl
  · rename_i ys hys hel
    have hyl : 0 < ys.length := by
      cases ys with
      | nil => exact absurd rfl hys
      | cons y ys => simp
    obtain ⟨news, hn, hfc, hnl, hone, hyz, hyv⟩ := elems_ok (P := P) hel vx
    split at hl
    · -- nil
      split at hl
      case isFalse => cases hl
      rename_i hbig
      simp only [newRowL, Option.some.injEq, Prod.mk.injEq] at hl
      obtain ⟨rfl, rfl⟩ := hl
      cases vs
      have hrun := run_app_grow (ty := ty) (sLen := 0) (sCap := 0) (base := none) (olds := #[]) ht hu hd hs hb hzv hn (hfc w.drew rfl) (by simp [Builtin.firstCells]) (by omega) k4 (by
        have := Nat.mul_le_mul_right by_ (show 2 * (0 + ys.length) ≤ 2 * ys.length + 192 by omega); omega)
      rw [Nat.zero_add] at hrun
      have hge := grownCap_ge w ys.length 0 e
      let c : Array Value := #[] ++ news.toArray ++ Builtin.zeroCells z'.cells (grownCap w ys.length 0 e - ys.length)
      have hcs : c.size = grownCap w ys.length 0 e * sz := by
        simp only [c, Array.size_append, List.size_toArray, size_zeroCells, hzs, hnl, List.length_nil, Nat.zero_add, ← Nat.add_mul]
        congr 1; omega
      have hstep := Step.newRow (w := w) (w' := w.drew.alloc (.cells c e)) (c := c) (ty := e) (fr := (0, 0)) (pos := ys.length) (fin := ys.length * sz) (cap := grownCap w ys.length 0 e * sz)
        rfl ⟨rfl, rfl, rfl⟩ hr (hf.row _ (Nat.le_refl _) (by simp at htr; omega)) (Nat.mul_le_mul_right _ (by omega)) (by omega) (fun _ _ => Or.inl rfl)
      refine ⟨_, _, _, hrun, ?_, hstep⟩
      refine newRow_vr (us := news) hyz (fun i hi j hj => ?_) hone (push_new rfl) (fun i hi => ?_) (fun o ho => Or.inr ⟨rfl, ho⟩) (by omega) (by simp)
      · obtain ⟨q, h1, h2⟩ := hyv i hi j hj
        exact ⟨q, h1, h2.mono hstep.ext⟩
      · simp only [Array.empty_append]
        rw [Array.getElem?_append_left (by simp; omega)]
        simp
    · rename_i r p sz' xs
      split at hl
      case isFalse => cases hl
      rename_i hc5
      obtain ⟨rfl, hr0, hlor, hrow, hbig⟩ := hc5
      simp only [Option.some.injEq, Prod.mk.injEq] at hl
      obtain ⟨rfl, rfl⟩ := hl
      have vs0 := vs
      cases vs with
      | sle hi sz a c => exact absurd rfl hr0
      | sl u' hcap hxz hc hv htk =>
        rename_i blk off cc
        obtain ⟨R, hR, hpR, hfull⟩ := htk hr0
        obtain ⟨hpos, hfc2, cR, tyR, frR, hheap, hcapR, hspare⟩ := hr.row r R p hR hrow
        obtain ⟨rfl, hfin, hcapE⟩ := hfull hpos.symm
        obtain ⟨us, hu1, hu2, hu3, hu4⟩ := sl_cells vs0
        have hxl : (xs ++ ys).length = xs.length + ys.length := by simp
        have hz2 : ∀ i (h : i < (xs ++ ys).length), (xs ++ ys)[i].cells.length = sz' := by
          intro i hi
          rw [List.getElem_append]
          split
          · exact hxz _ _
          · exact hyz _ _
        by_cases hroom : xs.length + ys.length ≤ cc
        · -- in place
          have hrun := run_app_room (ty := ty) (a := ⟨R.pb, off, none⟩) (sLen := xs.length) (sCap := cc) ht hu hd hs hn (hfc w rfl) hroom
          rw [add_off] at hrun
          have m1 : xs.length * sz' + ys.length * sz' ≤ cc * sz' := by rw [← Nat.add_mul]; exact Nat.mul_le_mul_right _ hroom
          obtain ⟨w', hst, hh, hsz, hsd, hother⟩ := storeCells_ok (P := P) R.pb (off + xs.length * sz') tyR frR news 0 cR w hheap (by omega) (by
            intro j h1 h2 h3; rcases (hspare j (by omega)).2 with h4 | h4 <;> omega) hone
          rw [show news.toArray.toList = news from rfl, hst, Result.andThen_ok] at hrun
          have hstep := Step.growHere (w := w) (w' := w') (R := R) (c := cR) (c' := (setAllV cR.toList (off + xs.length * sz' + 0) news).toArray) (pos := p + ys.length) (m := ys.length * sz') hsd hsz hother hheap hh
            (by simp [setAllV_length]) (by
              intro i hi
              simp only [List.getElem?_toArray]
              rw [setAllV_ne _ _ _ _ (by omega)]; simp) hr hR (by rw [hpos]; exact hrow) hlor (by omega) (by omega)
          refine ⟨_, _, _, hrun, ?_, hstep⟩
          have key : ∀ i (hi : i < (xs ++ ys).length), ∀ j, j < sz' → ∃ q, w'.cell? ⟨R.pb, off + i * sz' + j, none⟩ = some q ∧ (G.prot R.pb (off + i * sz' + j) ∨ (R.fin ≤ off + i * sz' + j ∧ off + i * sz' + j < R.fin + ys.length * sz')) ∧ q.oneCell' = true ∧
              ∀ (hj : j < (xs ++ ys)[i].cells.length), VR G w (xs ++ ys)[i].cells[j] q := by
            intro i hi j hj
            by_cases hix : i < xs.length
            · have hlt := idx_lt hix hj
              obtain ⟨q, h1, h2⟩ := hu4 i hix j (by rw [hxz i hix]; exact hj)
              have h3 := hu2 _ q h1
              refine ⟨q, ?_, .inl (by rw [Nat.add_assoc]; exact h3.2.1), h3.2.2, fun hj' => ?_⟩
              · rw [Nat.add_assoc, hstep.ext.cell _ _ h3.2.1]; exact h3.1
              · simpa only [List.getElem_append_left hix] using h2
            · have hiy : i - xs.length < ys.length := by simp at hi; omega
              have hlt := idx_lt hiy hj
              obtain ⟨q, h1, h2⟩ := hyv (i - xs.length) hiy j (by rw [hyz _ hiy]; exact hj)
              have he : off + i * sz' + j = off + xs.length * sz' + ((i - xs.length) * sz' + j) := by
                have : i * sz' = xs.length * sz' + (i - xs.length) * sz' := by rw [← Nat.add_mul]; congr 1; omega
                omega
              refine ⟨q, ?_, .inr (by omega), hone q (List.mem_of_getElem? h1), fun hj' => ?_⟩
              · rw [he, cell_cells hh, List.getElem?_toArray]
                exact setAllV_at _ _ _ _ _ (by simp; omega) h1
              · simpa only [List.getElem_append_right (by omega : xs.length ≤ i)] using h2
          rw [← hxl]
          refine .sl (fun i j => (w'.cell? ⟨R.pb, off + i * sz' + j, none⟩).getD undef) (by rw [hxl]; omega) hz2 ?_ ?_ ?_
          · intro i hi j hj
            obtain ⟨q, h1, h2, h3, _⟩ := key i hi j hj
            rw [h1]
            refine ⟨rfl, ?_, h3⟩
            rcases h2 with h2 | h2
            · exact Or.inl h2
            · exact Or.inr ⟨rfl, h2⟩
          · intro i hi j hj
            obtain ⟨q, h1, _, _, h4⟩ := key i hi j (by rw [hz2 i hi] at hj; exact hj)
            rw [h1]
            exact (h4 hj).mono hstep.ext
          · intro _
            refine ⟨⟨R.pb, p + ys.length, R.fin + ys.length * sz', R.cap⟩, by simp, Nat.le_refl _, fun _ => ⟨rfl, ?_, ?_⟩⟩
            · simp only [hxl, Nat.add_mul]; omega
            · exact hcapE
        · -- in a new block
          have hrun := run_app_grow (ty := ty) (sLen := xs.length) (sCap := cc) (base := some ⟨R.pb, off, none⟩) (olds := us.toArray) ht hu hd hs hb hzv hn (hfc w.drew rfl) (by
            simp only [Builtin.firstCells]
            rw [← hu1]
            exact run_loadCells_list w.drew _ us (by
              intro j x hx
              rw [add_off]
              exact (hu2 j x hx).1)) (by omega) k4 (by
            have := Nat.mul_le_mul_right by_ (show 2 * (xs.length + ys.length) ≤ 2 * (xs.length + ys.length) + 192 by omega); omega)
          rw [← hxl] at hrun
          have hge := grownCap_ge w (xs ++ ys).length cc e
          let c : Array Value := us.toArray ++ news.toArray ++ Builtin.zeroCells z'.cells (grownCap w (xs ++ ys).length cc e - (xs ++ ys).length)
          have hcs : c.size = grownCap w (xs ++ ys).length cc e * sz' := by
            simp only [c, Array.size_append, List.size_toArray, size_zeroCells, hzs, hnl, hu1, ← Nat.add_mul]
            congr 1; omega
          have hstep := Step.growNew (w := w) (w' := w.drew.alloc (.cells c e)) (R := R) (c := c) (ty := e) (fr := (0, 0)) (pos := p + ys.length) (fin := (xs ++ ys).length * sz') (cap := grownCap w (xs ++ ys).length cc e * sz')
            rfl ⟨rfl, rfl, rfl⟩ hr hR (by rw [hpos]; exact hrow) hlor (by omega) (Nat.mul_le_mul_right _ (by omega)) (by omega) (fun _ _ => Or.inl rfl)
          refine ⟨_, _, _, hrun, ?_, hstep⟩
          have key : ∀ i (hi : i < (xs ++ ys).length), ∀ j, j < sz' → ∃ q, c[i * sz' + j]? = some q ∧ q.oneCell' = true ∧ ∀ (hj : j < (xs ++ ys)[i].cells.length), VR G w (xs ++ ys)[i].cells[j] q := by
            intro i hi j hj
            by_cases hix : i < xs.length
            · have hlt := idx_lt hix hj
              obtain ⟨q, h1, h2⟩ := hu4 i hix j (by rw [hxz i hix]; exact hj)
              refine ⟨q, ?_, (hu2 _ q h1).2.2, fun hj' => ?_⟩
              · simp only [c]
                rw [Array.getElem?_append_left (by simp; omega), Array.getElem?_append_left (by simp; omega)]
                simpa using h1
              · simpa only [List.getElem_append_left hix] using h2
            · have hiy : i - xs.length < ys.length := by simp at hi; omega
              have hlt := idx_lt hiy hj
              obtain ⟨q, h1, h2⟩ := hyv (i - xs.length) hiy j (by rw [hyz _ hiy]; exact hj)
              have he : i * sz' + j = xs.length * sz' + ((i - xs.length) * sz' + j) := by
                have : i * sz' = xs.length * sz' + (i - xs.length) * sz' := by rw [← Nat.add_mul]; congr 1; omega
                omega
              refine ⟨q, ?_, hone q (List.mem_of_getElem? h1), fun hj' => ?_⟩
              · simp only [c]
                rw [Array.getElem?_append_left (by simp; omega), Array.getElem?_append_right (by simp; omega)]
                simp only [List.size_toArray, List.getElem?_toArray, hu1]
                rw [he, Nat.add_sub_cancel_left]; exact h1
              · simpa only [List.getElem_append_right (by omega : xs.length ≤ i)] using h2
          refine .sl (fun i j => (c[i * sz' + j]?).getD undef) hge hz2 ?_ ?_ ?_
          · intro i hi j hj
            obtain ⟨q, h1, h2, _⟩ := key i hi j hj
            have hpn : (w.drew.alloc (.cells c e)).heap[w.heap.size]? = some (.cells c e (0, 0)) := push_new rfl
            rw [cell_cells hpn, Nat.zero_add, h1]
            exact ⟨rfl, Or.inr ⟨rfl, idx_lt hi hj⟩, h2⟩
          · intro i hi j hj
            obtain ⟨q, h1, _, h4⟩ := key i hi j (by rw [hz2 i hi] at hj; exact hj)
            rw [h1]
            exact (h4 hj).mono hstep.ext
          · intro _
            exact ⟨⟨w.heap.size, p + ys.length, (xs ++ ys).length * sz', grownCap w (xs ++ ys).length cc e * sz'⟩, by simp, Nat.le_refl _, fun _ => ⟨rfl, by simp, by simp⟩⟩
    · cases hl
  · cases hl

end Go.LM
