import Derived.Test.YtpmpdidgbbgeeaaLmF
import Derived.Laws.AppendOwn
namespace Go.LM
variable {P : Program} {G : Gh} {w : World}

theorem toBytes_ok : ∀ {xs : List LV} {l : List UInt8}, toBytes xs = some l → ∃ ns : List Int, xs = ns.map (LV.int .u8) ∧ l = ns.map (fun n => UInt8.ofNat n.toNat)
  | [], l, h => by simp only [toBytes] at h; cases h; exact ⟨[], rfl, rfl⟩
  | x :: xs, l, h => by
    cases x <;> try (simp only [toBytes] at h; cases h; done)
    rename_i k n
    cases k <;> try (simp only [toBytes] at h; cases h; done)
    simp only [toBytes] at h
    cases hx : toBytes xs with
    | none => rw [hx] at h; cases h
    | some l' =>
      rw [hx] at h; cases h
      obtain ⟨ns, h1, h2⟩ := toBytes_ok hx
      exact ⟨n :: ns, by rw [h1]; rfl, by rw [h2]; rfl⟩

theorem foldl_push (ns : List Int) : ∀ s : ByteArray, ns.foldl (fun r n => r.push (UInt8.ofNat n.toNat)) s = ⟨s.data ++ (ns.map (fun n => UInt8.ofNat n.toNat)).toArray⟩ := by
  induction ns with
  | nil => intro s; simp
  | cons n ns ih =>
    intro s
    rw [List.foldl_cons, ih]
    simp [ByteArray.push]

/-- The cells of a slice's elements, all in one. -/
theorem sl_cells {r hi sz : Nat} {xs : List LV} {blk off c : Nat} (h : VR G w (.sl r hi sz xs) (.slice (some ⟨blk, off, none⟩) xs.length c)) :
    ∃ us : List Value, us.length = xs.length * sz ∧ (∀ j u, us[j]? = some u → w.cell? ⟨blk, off + j, none⟩ = some u ∧ G.prot blk (off + j) ∧ u.oneCell' = true) ∧
      (∀ i (h : i < xs.length), xs[i].cells.length = sz) ∧
      ∀ i (h : i < xs.length) j (hj : j < xs[i].cells.length), ∃ u, us[i * sz + j]? = some u ∧ VR G w xs[i].cells[j] u := by
  cases h with
  | sl u hcap hz hc hv ht =>
    by_cases h0 : sz = 0
    · subst h0
      exact ⟨[], by simp, by simp, hz, fun i hi j hj => by rw [hz i hi] at hj; omega⟩
    · refine ⟨(List.range (xs.length * sz)).map (fun k => u (k / sz) (k % sz)), by simp, ?_, hz, ?_⟩
      · intro j x hx
        obtain ⟨hj, hx⟩ := List.getElem?_eq_some_iff.1 hx
        simp at hj hx
        have h1 : j / sz < xs.length := Nat.div_lt_of_lt_mul (by rw [Nat.mul_comm]; exact hj)
        have h2 : j % sz < sz := Nat.mod_lt _ (by omega)
        have := hc _ h1 _ h2
        have he : off + j / sz * sz + j % sz = off + j := by have := Nat.div_add_mod j sz; rw [Nat.mul_comm] at this; omega
        rw [he, hx] at this
        exact this
      · intro i hi j hj
        have hj' : j < sz := by rw [hz i hi] at hj; exact hj
        have hlt : i * sz + j < xs.length * sz := by
          calc i * sz + j < i * sz + sz := by omega
            _ = (i + 1) * sz := by rw [Nat.add_mul]; omega
            _ ≤ xs.length * sz := Nat.mul_le_mul_right _ hi
        refine ⟨u i j, ?_, hv i hi j hj⟩
        rw [List.getElem?_map, List.getElem?_range hlt]
        have h1 : (i * sz + j) / sz = i := by
          rw [Nat.mul_comm, Nat.mul_add_div (by omega), Nat.div_eq_of_lt hj']; omega
        have h2 : (i * sz + j) % sz = j := by
          rw [Nat.mul_comm, Nat.mul_add_mod, Nat.mod_eq_of_lt hj']
        simp [h1, h2]
  | sle hi sz a c => exact ⟨[], by simp, by simp, by simp, fun i hi => absurd hi (by simp)⟩

theorem bytes_len (s : ByteArray) : (bytesL s).length = s.size := by simp [bytesL]

theorem conv_ok {base tb tr : Nat} {src dst : TypeId} {x v : LV} {h h' : H} {x' : Value}
    (hl : convL P src dst x h = some (v, h')) (hr : HR base G w h) (hf : Fresh G h tb tr) (ht : h'.row.length ≤ tr) (vx : VR G w x x') :
    ∃ u w' G', (convert src dst x').run P w = .ok u w' ∧ VR G' w' v u ∧ Step base G w h G' w' h' := by
  unfold convL at hl
  split at hl
  · cases hl
  · rename_i s hs
    split at hl
    · rename_i k hd
      split at hl
      · cases hl; cases vx
        exact ⟨_, w, G, by simp [convert, run_und hs, run_und hd, Conv.intToInt], .int _ _, .refl hr⟩
      · cases hl
    · rename_i hd
      split at hl
      · cases hl; cases vx
        exact ⟨_, w, G, by simp [convert, run_und hs, run_und hd], .str _, .refl hr⟩
      · split at hl
        · rename_i e
          split at hl
          · rename_i he
            cases hl; cases vx
            refine ⟨_, w, G, ?_, .str _, .refl hr⟩
            rw [run_convert_bytes_string w src dst e none 0 0 hs he hd]
            simp [Conv.bytesToString]
          · cases hl
        · cases hl
      · rename_i r p sz xs
        split at hl
        · rename_i e
          split at hl
          · rename_i he
            split at hl
            · rename_i h1; subst h1
              cases hb : toBytes xs with
              | none => rw [hb] at hl; cases hl
              | some l =>
                rw [hb] at hl
                cases hl
                obtain ⟨ns, rfl, rfl⟩ := toBytes_ok hb
                have vx0 := vx
                generalize hxs : ns.map (LV.int .u8) = xs at vx
                cases vx with
                | sle hi sz a c =>
                  obtain rfl : ns = [] := by simpa using hxs
                  refine ⟨_, w, G, ?_, .str _, .refl hr⟩
                  rw [run_convert_bytes_string w src dst e _ _ _ hs he hd]
                  simp [Conv.bytesToString, loadCells, loadCellsFrom]
                  rfl
                | sl u hcap hz hc hv htk =>
                  subst hxs
                  rename_i blk off c
                  obtain ⟨us, hu1, hu2, _, hu4⟩ := sl_cells vx0
                  have hus : us = ns.map (Value.int .u8) := by
                    apply List.ext_getElem?
                    intro i
                    by_cases hi : i < ns.length
                    · obtain ⟨x, hx1, hx2⟩ := hu4 i (by simpa using hi) 0 (by simp [LV.cells])
                      simp only [Nat.mul_one, Nat.add_zero] at hx1
                      rw [hx1]
                      simp only [List.getElem_map] at hx2
                      cases hx2
                      simp [hi]
                    · rw [List.getElem?_eq_none (by rw [hu1]; simp; omega), List.getElem?_eq_none (by simp; omega)]
                  have hlc := run_loadCells_list (P := P) (w := w) ⟨blk, off, none⟩ us (by intro j x hx; rw [add_off]; exact (hu2 j x hx).1)
                  rw [hus] at hlc
                  simp only [List.length_map] at hlc
                  refine ⟨_, w, G, ?_, .str _, .refl hr⟩
                  rw [run_convert_bytes_string w src dst e _ _ _ hs he hd]
                  simp only [List.length_map]
                  rw [run_bytesToString w _ _ _ ns hlc, foldl_push]
                  simp
            · cases hl
          · cases hl
        · cases hl
      · cases hl
    · rename_i e hd
      split at hl
      · rename_i a
        split at hl
        · rename_i he
          simp only [newRowL, Option.some.injEq, Prod.mk.injEq] at hl
          obtain ⟨rfl, rfl⟩ := hl
          cases vx
          have hcap := grownCap_ge w a.size 0 e
          have hsz : (Lib.bytesCells w e a).size = grownCap w a.size 0 e := by simp [Lib.bytesCells]; change a.size + _ = _; omega
          have hblen := bytes_len a
          have hheap : (Lib.bytesWorld w e a).heap = w.heap.push (.cells (Lib.bytesCells w e a) e ((Lib.bytesCells w e a).size, (Lib.bytesCells w e a).size + 1)) := by
            apply Array.ext_getElem?
            intro i
            by_cases hi : i < w.heap.size
            · rw [Lib.bytesWorld_at_old w e a i hi, Array.getElem?_push_lt hi, Array.getElem?_eq_getElem hi]
            · by_cases hi2 : i = w.heap.size
              · subst hi2; rw [Lib.bytesWorld_at_new]; simp
              · rw [Array.getElem?_eq_none (by rw [Lib.bytesWorld_size]; omega), Array.getElem?_eq_none (by simp; omega)]
          have hstep := Step.newRow (w := w) (w' := Lib.bytesWorld w e a) (c := Lib.bytesCells w e a) (ty := e) (fr := ((Lib.bytesCells w e a).size, (Lib.bytesCells w e a).size + 1))
            (pos := (bytesL a).length) (fin := (bytesL a).length * 1) (cap := grownCap w a.size 0 e * 1)
            hheap ⟨rfl, rfl, rfl⟩ hr (hf.row _ (Nat.le_refl _) (by simp at ht; omega)) (by omega) (by omega) (by intro o ho; omega)
          refine ⟨_, _, _, Lib.run_convert_string_bytes w src dst e a hs hd he, ?_, hstep⟩
          have hnew := newRow_vr (G' := { G with row := fun r => if r = h.row.length then some ⟨w.heap.size, (bytesL a).length, (bytesL a).length * 1, grownCap w a.size 0 e * 1⟩ else G.row r, prot := fun b o => G.prot b o ∨ (b = w.heap.size ∧ o < (bytesL a).length * 1) })
            (w' := Lib.bytesWorld w e a) (r := h.row.length) (blk := w.heap.size) (cap := grownCap w a.size 0 e) (xs := bytesL a) (sz := 1) (c := Lib.bytesCells w e a)
            (us := (Lib.bytesCells w e a).toList)
            (fun i hi => by simp [bytesL, LV.cells]) ?_ (by intro u hu; simp [Lib.bytesCells] at hu; rcases hu with ⟨_, _, rfl⟩ | ⟨_, rfl⟩ <;> rfl) (Lib.bytesWorld_at_new w e a) (fun i _ => by simp) (fun o ho => Or.inr ⟨rfl, ho⟩) (by omega) (by simp)
          · rw [hblen] at hnew ⊢; exact hnew
          · intro i hi j hj
            simp [bytesL, LV.cells] at hj hi
            subst hj
            refine ⟨.int .u8 (a.data[i]'hi).toNat, ?_, ?_⟩
            · simp only [Lib.bytesCells, Array.toList_append, Array.toList_map, Array.toList_replicate, Nat.mul_one, Nat.add_zero]
              have hi' : i < a.data.toList.length := by simpa using hi
              rw [List.getElem?_append_left (by simpa using hi), List.getElem?_map, List.getElem?_eq_getElem hi']
              simp
            · simp only [bytesL, List.getElem_map, Array.getElem_toList]
              exact .int _ _
        · cases hl
      · rename_i r p sz xs
        split at hl
        · rename_i he
          split at hl
          · rename_i hc
            obtain ⟨rfl, hr0, hlor, hrow⟩ := hc
            cases hl
            cases vx with
            | sle hi sz a c => exact absurd rfl hr0
            | sl u' hcap hxz hcc hv htk =>
              rename_i blk off cc
              obtain ⟨R, hR, hpR, hfull⟩ := htk hr0
              obtain ⟨hpos, hfc2, cR, tyR, frR, hheap, hcapR, hspare⟩ := hr.row r R p hR hrow
              obtain ⟨rfl, hfin, hcapE⟩ := hfull hpos.symm
              subst hpos
              have hsame : ({ h with row := h.row.set r R.pos } : H) = h := by
                have : h.row.set r R.pos = h.row := by
                  refine List.ext_getElem? fun i => ?_
                  by_cases hi : i = r
                  · subst hi
                    rw [List.getElem?_set_self (List.getElem?_eq_some_iff.1 hrow).1, hrow]
                  · rw [List.getElem?_set_ne (by omega)]
                rw [this]
              have hshape : w.shape? R.pb = some (tyR, cR.size) := by simp [World.shape?, hheap]
              have hfz : ∃ fr', (w.freeze ⟨R.pb, cR.size, none⟩ 1).heap[R.pb]? = some (.cells cR tyR fr') ∧ (∀ o, o < R.cap → (fr'.1 = fr'.2 ∨ o < fr'.1)) := by
                obtain ⟨lo, hi⟩ := frR
                have hlt : R.pb < w.heap.size := (Array.getElem?_eq_some_iff.1 hheap).1
                refine ⟨if lo == hi then (cR.size, cR.size + 1) else (min lo cR.size, max hi (cR.size + 1)), ?_, ?_⟩
                · simp only [World.freeze, Nat.one_ne_zero, if_false]
                  rw [Array.getElem?_modify, if_pos rfl, hheap]; rfl
                · intro o ho
                  have := (hspare o ho).2
                  dsimp only at this
                  split
                  · right; dsimp only; omega
                  · rename_i hne
                    have hne : ¬ lo = hi := by simpa using hne
                    right; dsimp only; omega
              obtain ⟨fr', h1, h2⟩ := hfz
              have hother : ∀ i, i ≠ R.pb → (w.freeze ⟨R.pb, cR.size, none⟩ 1).heap[i]? = w.heap[i]? := by
                intro i hi
                simp only [World.freeze, Nat.one_ne_zero, if_false]
                rw [Array.getElem?_modify, if_neg (Ne.symm hi)]
              have hst := Step.mark (w := w) (w' := w.freeze ⟨R.pb, cR.size, none⟩ 1) (h := h) ⟨rfl, rfl, rfl⟩ (by simp [World.freeze]) hother hheap h1 hr hR hrow hlor h2
              refine ⟨_, w.freeze ⟨R.pb, cR.size, none⟩ 1, G, ?_, (VR.sl u' hcap hxz hcc hv htk).mono hst.ext, by rw [hsame]; exact hst⟩
              rw [hs] at hd; cases hd
              simp [convert, run_und hs, run_und he, markStringish, hshape]
          · cases hl
        · cases hl
      · cases hl
    · cases hl


def VRo (G : Gh) (w : World) : Option LV → Option Value → Prop
  | none, none => True
  | some a, some b => VR G w a b
  | _, _ => False

theorem bound_ok {v : Option LV} {d hi n : Nat} {v' : Option Value} {cd : BoundsCode} (h : boundL v d hi = some n) (hd : d ≤ hi) (hv : VRo G w v v') :
    n ≤ hi ∧ ∀ b, (v' = none → n = d) ∧ (v' = some b → (Instr.sliceBound b hi cd).run P w = .ok n w) := by
  cases v with
  | none =>
    cases v' with
    | none => simp only [boundL] at h; cases h; exact ⟨hd, fun b => ⟨fun _ => rfl, fun h => (by cases h)⟩⟩
    | some b => exact hv.elim
  | some x =>
    cases v' with
    | none => exact hv.elim
    | some b =>
      have hv : VR G w x b := hv
      cases x <;> first
        | (simp only [boundL] at h; cases h; done)
        | (simp only [boundL] at h
           split at h
           · rename_i hc
             cases h
             cases hv
             exact ⟨by omega, fun b => ⟨fun h => (by cases h), fun h => (by cases h; simp [Instr.sliceBound, asIntOf, hc.1, hc.2])⟩⟩
           · cases h)

theorem bounds_ok {sl : Bool} {len cap q l : Nat} {lo hi : Option LV} {lo' hi' : Option Value} (h1 : boundL hi len len = some q) (h2 : boundL lo 0 q = some l)
    (hc : len ≤ cap) (vl : VRo G w lo lo') (vh : VRo G w hi hi') : l ≤ q ∧ q ≤ len ∧ (Instr.sliceBounds sl len cap lo' hi' none).run P w = .ok (l, q, cap) w := by
  have hq := (bound_ok (P := P) (cd := .index) h1 (Nat.le_refl _) vh).1
  have h1' : boundL hi len cap = some q := by
    cases hi with
    | none => exact h1
    | some x =>
      cases x <;> first
        | (simp only [boundL] at h1; cases h1; done)
        | (simp only [boundL] at h1 ⊢
           split at h1
           · cases h1; rw [if_pos (by omega)]
           · cases h1)
  have b1 := (bound_ok (P := P) (cd := if sl then .sliceAcap else .sliceAlen) h1' hc vh).2
  obtain ⟨b2a, b2⟩ := bound_ok (P := P) (cd := .sliceB) h2 (Nat.zero_le _) vl
  refine ⟨b2a, hq, ?_⟩
  cases hi' with
  | none =>
    have := (b1 undef).1 rfl; subst this
    cases lo' with
    | none => have := (b2 undef).1 rfl; subst this; simp [Instr.sliceBounds]
    | some b => have := (b2 b).2 rfl; simp [Instr.sliceBounds, this]
  | some c =>
    have b1 := (b1 c).2 rfl
    cases lo' with
    | none => have := (b2 undef).1 rfl; subst this; simp [Instr.sliceBounds, b1]
    | some b => have := (b2 b).2 rfl; simp [Instr.sliceBounds, b1, this]

theorem slice_ok {base : Nat} {t : TypeId} {x v : LV} {lo hi : Option LV} {h h' : H} {x' : Value} {lo' hi' : Option Value}
    (hl : sliceL P t x lo hi h = some (v, h')) (hr : HR base G w h) (vx : VR G w x x') (vl : VRo G w lo lo') (vh : VRo G w hi hi') :
    ∃ u G', (Instr.sliceAt t x' lo' hi' none).run P w = .ok u w ∧ VR G' w v u ∧ Step base G w h G' w h' := by
  unfold sliceL at hl
  split at hl
  · rename_i e hu
    split at hl
    · cases hl
    · rename_i sz hs
      split at hl
      · split at hl
        · rename_i q hq
          split at hl
          · rename_i l hlo
            cases hl; cases vx
            obtain ⟨k1, k2, k3⟩ := bounds_ok (P := P) (sl := true) (cap := 0) hq hlo (Nat.le_refl _) vl vh
            obtain rfl : q = 0 := by omega
            obtain rfl : l = 0 := by omega
            refine ⟨.slice none 0 0, G, ?_, .nils, .refl hr⟩
            simp [Instr.sliceAt, Instr.slice, run_und hu, k3, run_size hs]
          · cases hl
        · cases hl
      · rename_i r p sz' xs
        split at hl
        · rename_i hsz; subst hsz
          split at hl
          · rename_i q hq
            split at hl
            · rename_i l hlo
              simp only [Option.some.injEq, Prod.mk.injEq] at hl
              obtain ⟨rfl, rfl⟩ := hl
              cases vx with
              | sle hi' sz a c =>
                obtain ⟨k1, k2, k3⟩ := bounds_ok (P := P) (sl := true) (cap := c) hq hlo (Nat.zero_le _) vl vh
                obtain rfl : q = 0 := by simpa using k2
                obtain rfl : l = 0 := by omega
                refine ⟨.slice (some (if c = 0 then a else a.add 0)) 0 c, G, ?_, ?_, .refl hr⟩
                · have k3' : (Instr.sliceBounds true 0 c lo' hi' none).run P w = Result.ok (0, 0, c) w := k3
                  simp only [Instr.sliceAt, Instr.slice, Sem.run_bind, run_und hu, Result.andThen_ok, k3', run_size hs, Sem.run_pure]
                  by_cases hc0 : c = 0 <;> simp [hc0]
                · simp; exact .sle _ _ _ _
              | sl u hcap hz hc hv ht =>
                rename_i blk off c
                obtain ⟨k1, k2, k3⟩ := bounds_ok (P := P) (sl := true) (cap := c) hq hlo hcap vl vh
                have hrun : (Instr.sliceAt t (.slice (some ⟨blk, off, none⟩) xs.length c) lo' hi' none).run P w =
                    .ok (.slice (some ⟨blk, off + (if c = l then 0 else l * sz'), none⟩) (q - l) (c - l)) w := by
                  simp only [Instr.sliceAt, Instr.slice, Sem.run_bind, run_und hu, Result.andThen_ok, k3, run_size hs, Sem.run_pure]
                  by_cases hcl : c = l
                  · simp [hcl]
                  · simp [hcl, add_off]
                refine ⟨_, G, hrun, ?_, .refl hr⟩
                split
                · rename_i hcond
                  obtain ⟨rfl, hlt⟩ := hcond
                  have hne : ¬ c = l := by omega
                  rw [if_neg hne]
                  have hlen : (xs.drop l).length = xs.length - l := by simp
                  rw [← hlen]
                  have hidx : ∀ i j, off + l * sz' + i * sz' + j = off + (l + i) * sz' + j := by intro i j; rw [Nat.add_mul]; omega
                  refine .sl (fun i j => u (l + i) j) (by rw [hlen]; omega) ?_ ?_ ?_ ?_
                  · intro i hi; rw [List.getElem_drop]; exact hz _ _
                  · intro i hi j hj
                    rw [hidx]
                    exact hc (l + i) (by rw [hlen] at hi; omega) j hj
                  · intro i hi j hj
                    have := hv (l + i) (by rw [hlen] at hi; omega) j (by rw [List.getElem_drop] at hj; exact hj)
                    simpa only [List.getElem_drop] using this
                  · intro hr0
                    obtain ⟨R, h1, h2, h3⟩ := ht hr0
                    refine ⟨R, h1, h2, fun he => ?_⟩
                    obtain ⟨e1, e2, e3⟩ := h3 he
                    have m1 : l * sz' + (xs.length - l) * sz' = xs.length * sz' := by rw [← Nat.add_mul]; congr 1; omega
                    have m2 : l * sz' + (c - l) * sz' = c * sz' := by rw [← Nat.add_mul]; congr 1; omega
                    refine ⟨e1, ?_, ?_⟩
                    · rw [hlen]; omega
                    · omega
                · have hlen : ((xs.take q).drop l).length = q - l := by simp; omega
                  rw [← hlen]
                  by_cases h0 : q - l = 0
                  · refine .sl (fun _ _ => undef) (by omega) ?_ ?_ ?_ (fun h => absurd rfl h)
                    · intro i hi; omega
                    · intro i hi; omega
                    · intro i hi; omega
                  have hne : ¬ c = l := by omega
                  rw [if_neg hne]
                  have hidx : ∀ i j, off + l * sz' + i * sz' + j = off + (l + i) * sz' + j := by intro i j; rw [Nat.add_mul]; omega
                  refine .sl (fun i j => u (l + i) j) (by rw [hlen]; omega) ?_ ?_ ?_ (fun h => absurd rfl h)
                  · intro i hi; rw [List.getElem_drop, List.getElem_take]; exact hz _ _
                  · intro i hi j hj
                    rw [hidx]
                    exact hc (l + i) (by rw [hlen] at hi; omega) j hj
                  · intro i hi j hj
                    have := hv (l + i) (by rw [hlen] at hi; omega) j (by rw [List.getElem_drop, List.getElem_take] at hj; exact hj)
                    simpa only [List.getElem_drop, List.getElem_take] using this
            · cases hl
          · cases hl
        · cases hl
      · cases hl
  · rename_i hu
    split at hl
    · rename_i s
      split at hl
      · rename_i q hq
        split at hl
        · rename_i l hlo
          cases hl; cases vx
          obtain ⟨k1, k2, k3⟩ := bounds_ok (P := P) (sl := false) (cap := s.size) hq hlo (Nat.le_refl _) vl vh
          exact ⟨_, G, by simp [Instr.sliceAt, Instr.slice, run_und hu, k3], .str _, .refl hr⟩
        · cases hl
      · cases hl
    · cases hl
  · rename_i n e hu
    split at hl
    · rename_i sz b off hs
      split at hl
      · rename_i B hB
        split at hl
        · rename_i hcond
          obtain ⟨c1, c2, c3, c4⟩ := hcond
          split at hl
          · rename_i q hq
            split at hl
            · rename_i l hlo
              split at hl
              · rename_i xs hxs
                simp only [Option.some.injEq, Prod.mk.injEq] at hl
                obtain ⟨rfl, rfl⟩ := hl
                cases vx with
                | ptr hb =>
                  rename_i pb
                  obtain ⟨k1, k2, k3⟩ := bounds_ok (P := P) (sl := false) (cap := n) hq hlo (Nat.le_refl _) vl vh
                  have hstep : ∃ G', Step base G w h G' w (if B.ro = true then h else { h with box := h.box.set b ⟨true, B.cells⟩ }) ∧ ∀ i, i < B.cells.length → G'.prot pb i := by
                    by_cases hro : B.ro = true
                    · rw [if_pos hro]
                      obtain ⟨c, ty, _, hvv, hp, _⟩ := hr.box b pb B hb hB
                      exact ⟨G, .refl hr, fun i hi => hp hro i (by have := hvv.1; simp at this; omega)⟩
                    · rw [if_neg hro]
                      exact ⟨_, Step.freeze hr hb hB (c1.resolve_left hro), fun i hi => Or.inr ⟨rfl, hi⟩⟩
                  obtain ⟨G2, hstep, hprot⟩ := hstep
                  refine ⟨.slice (some ⟨pb, off + (if n = l then 0 else l * sz), none⟩) (q - l) (n - l), _, ?_, ?_, hstep⟩
                  · simp only [Instr.sliceAt, Sem.run_bind, run_und hu, Result.andThen_ok, Instr.sureAddr, Sem.run_pure, k3, run_size hs]
                    by_cases hcl : n = l
                    · simp [hcl]
                    · simp [hcl, add_off]
                  · obtain ⟨c, ty, hcc, hvv, _, _⟩ := hr.box b pb B hb hB
                    obtain ⟨e1, e2, e3, e4⟩ := chunk_ok hs hxs (hvv.drop off) (by simp; omega)
                    have hlen : ((xs.take q).drop l).length = q - l := by simp; omega
                    rw [← hlen]
                    by_cases h0 : q - l = 0
                    · refine .sl (fun _ _ => undef) (by omega) ?_ ?_ ?_ (fun h => absurd rfl h)
                      · intro i hi; omega
                      · intro i hi; omega
                      · intro i hi; omega
                    have hne : ¬ n = l := by omega
                    rw [if_neg hne]
                    have hBc : B.cells.length = c.size := by simpa using hvv.1
                    have hin : ∀ i, i < q - l → ∀ j, j < sz → (l + i) * sz + j < n * sz := by
                      intro i hi j hj
                      calc (l + i) * sz + j < (l + i) * sz + sz := by omega
                        _ = (l + i + 1) * sz := by rw [Nat.add_mul (l + i)]; omega
                        _ ≤ n * sz := Nat.mul_le_mul_right _ (by omega)
                    refine .sl (fun i j => (c.toList[off + ((l + i) * sz + j)]?).getD undef) (by rw [hlen]; omega) ?_ ?_ ?_ (fun h => absurd rfl h)
                    · intro i hi; rw [List.getElem_drop, List.getElem_take]; exact e2 _ _
                    · intro i hi j hj
                      have hlt := hin i (by omega) j hj
                      have heq : off + l * sz + i * sz + j = off + ((l + i) * sz + j) := by rw [Nat.add_mul]; omega
                      rw [heq, cell_cells hcc]
                      refine ⟨?_, hprot _ (by omega), ?_⟩
                      · rw [Array.getElem?_toList, Array.getElem?_eq_getElem (by omega)]; rfl
                      · rw [Array.getElem?_toList, Array.getElem?_eq_getElem (by omega), Option.getD_some]
                        have := hvv.2 (off + ((l + i) * sz + j)) (by omega) (by simp; omega)
                        exact one_cell (by simpa using this) (List.all_eq_true.1 c4 _ (List.getElem_mem _))
                    · intro i hi j hj
                      obtain ⟨u, hu1, hu2⟩ := e4 (l + i) (by omega) j (by rw [List.getElem_drop, List.getElem_take] at hj; exact hj)
                      rw [List.getElem?_drop] at hu1
                      rw [hu1]
                      have := hu2.mono hstep.ext
                      simpa only [List.getElem_drop, List.getElem_take, Option.getD_some] using this
              · cases hl
            · cases hl
          · cases hl
        · cases hl
      · cases hl
    · cases hl
  · cases hl

end Go.LM

namespace Go.LM
variable {P : Program} {G : Gh} {w : World}

theorem run_app_room {t u ty e : TypeId} {d : TypeDesc} {sz n sLen sCap : Nat} {a : Addr} {x : Value} {news : Array Value} (ht : P.underlying t = some (.slice e)) (hu : P.underlying u = some d)
    (hd : d = .string ∨ ∃ q, d = .slice q) (hs : sizeT P e = some sz) (hn : (Builtin.lenOf x).run P w = .ok n w) (hf : (Builtin.firstCells sz n x).run P w = .ok news w) (hle : sLen + n ≤ sCap) :
    (Builtin.append_ #[t, u] ty #[.slice (some a) sLen sCap, x]).run P w =
      ((storeCells (a.add (sLen * sz)) news.toList).run P w).andThen fun _ w' => .ok (.slice (some a) (sLen + n) sCap) w' := by
  rcases hd with rfl | ⟨q, rfl⟩ <;>
    (simp [Builtin.append_, run_und ht, run_und hu, run_size hs, hn, hle, hf])

theorem run_app_grow {t u ty e : TypeId} {d : TypeDesc} {sz n sLen sCap by_ : Nat} {base : Option Addr} {x z : Value} {olds news : Array Value} (ht : P.underlying t = some (.slice e)) (hu : P.underlying u = some d)
    (hd : d = .string ∨ ∃ q, d = .slice q) (hs : sizeT P e = some sz) (hb : bytesT P e = some by_) (hzv : ∀ w' : World, (zeroValue e).run P w' = .ok z w') (hn : (Builtin.lenOf x).run P w = .ok n w) (hf : (Builtin.firstCells sz n x).run P w.drew = .ok news w.drew)
    (ho : (Builtin.firstCells sz sLen (.slice base sLen sCap)).run P w.drew = .ok olds w.drew) (hlt : sCap < sLen + n) (hby : 0 < by_) (hfit : (2 * (sLen + n)) * by_ ≤ 281474976710656) :
    (Builtin.append_ #[t, u] ty #[.slice base sLen sCap, x]).run P w =
      .ok (.slice (some ⟨w.heap.size, 0, none⟩) (sLen + n) (grownCap w (sLen + n) sCap e))
        (w.drew.alloc (.cells (olds ++ news ++ Builtin.zeroCells z.cells (grownCap w (sLen + n) sCap e - (sLen + n))) e)) := by
  have hle : ¬ sLen + n ≤ sCap := by omega
  have h48 : ¬ (281474976710656 < Builtin.nextslicecap (sLen + n) sCap * by_) := by
    have h1 := Nat.mul_le_mul_right by_ (nextslicecap_le hlt); omega
  have hbt : ∀ w' : World, (typeInfo e).run P w' = .ok ((P.info? e).getD default) w' ∧ ((P.info? e).getD default).bytes = by_ := by
    intro w'
    unfold bytesT at hb
    cases hi : P.info? e with
    | none => rw [hi] at hb; cases hb
    | some i => rw [hi] at hb; cases hb; simp [typeInfo, hi]
  have hne : ¬ by_ = 0 := by omega
  have hti := (hbt w).1
  have hti2 := (hbt w.drew).1
  have hby2 := (hbt w).2
  have hzv2 := hzv w.drew
  rcases hd with rfl | ⟨q, rfl⟩ <;>
    (simp [Builtin.append_, run_und ht, run_und hu, run_size hs, hn, hle, hti, hti2, hby2, hne, h48, Question.forced, hf, ho, hzv2, newRow, grownCap])

end Go.LM

namespace Go.LM
variable {P : Program} {G : Gh} {w : World}

theorem elems_ok {sz : Nat} {x : LV} {ys : List LV} {x' : Value} (h : elemsL sz x = some ys) (vx : VR G w x x') :
    ∃ news : List Value, (Builtin.lenOf x').run P w = .ok ys.length w ∧ (∀ w1 : World, w1.heap = w.heap → (Builtin.firstCells sz ys.length x').run P w1 = .ok news.toArray w1) ∧
      news.length = ys.length * sz ∧ (∀ u ∈ news, u.oneCell' = true) ∧ (∀ i (h : i < ys.length), ys[i].cells.length = sz) ∧
      ∀ i (h : i < ys.length) j (hj : j < ys[i].cells.length), ∃ u, news[i * sz + j]? = some u ∧ VR G w ys[i].cells[j] u := by
  unfold elemsL at h
  split at h
  · cases h; cases vx
    exact ⟨[], by simp [Builtin.lenOf], fun w1 _ => by simp [Builtin.firstCells], by simp, by simp, fun i h => absurd h (by simp), fun i h => absurd h (by simp)⟩
  · split at h
    · rename_i hsz; subst hsz
      cases h
      have vx0 := vx
      cases vx with
      | sl u hcap hz hc hv ht =>
        rename_i blk off c
        obtain ⟨us, hu1, hu2, hu3, hu4⟩ := sl_cells vx0
        refine ⟨us, by simp [Builtin.lenOf], fun w1 hw1 => ?_, hu1, ?_, hu3, hu4⟩
        · simp only [Builtin.firstCells]
          rw [← hu1]
          exact run_loadCells_list w1 _ us (by
            intro j x hx
            rw [add_off]
            rw [cell_of_heap (w := w) (by rw [hw1])]
            exact (hu2 j x hx).1)
        · intro u hu
          obtain ⟨i, hi, rfl⟩ := List.getElem_of_mem hu
          exact (hu2 i _ (List.getElem?_eq_getElem hi)).2.2
      | sle hi sz a c =>
        exact ⟨[], by simp [Builtin.lenOf], fun w1 _ => by simp [Builtin.firstCells, loadCells, loadCellsFrom], by simp, by simp, fun i h => absurd h (by simp), fun i h => absurd h (by simp)⟩
    · cases h
  · rename_i s
    split at h
    · rename_i h1; subst h1
      cases h; cases vx
      have hl := bytes_len s
      refine ⟨s.data.toList.map (fun b => Value.int .u8 b.toNat), by simp [Builtin.lenOf, hl], fun w1 _ => ?_, by simp [hl], ?_, ?_, ?_⟩
      · simp only [Builtin.firstCells, hl, Sem.run_pure]
        have he : (s.extract 0 s.size).data = s.data := by simp
        rw [he]
        congr 1
        apply Array.ext'
        simp
      · intro u hu
        simp at hu
        obtain ⟨b, _, rfl⟩ := hu; rfl
      · intro i hi; simp [bytesL, LV.cells]
      · intro i hi j hj
        simp [bytesL, LV.cells] at hj hi
        subst hj
        refine ⟨.int .u8 (s.data[i]'hi).toNat, ?_, ?_⟩
        · simp only [Nat.mul_one, Nat.add_zero]
          rw [List.getElem?_map, List.getElem?_eq_getElem (by simpa using hi)]
          simp
        · simp only [bytesL, List.getElem_map, Array.getElem_toList]
          exact .int _ _
    · cases h
  · cases h

theorem run_app_nil0 {t u ty e : TypeId} {d : TypeDesc} {sz : Nat} {x : Value} {news : Array Value} (ht : P.underlying t = some (.slice e)) (hu : P.underlying u = some d)
    (hd : d = .string ∨ ∃ q, d = .slice q) (hs : sizeT P e = some sz) (hn : (Builtin.lenOf x).run P w = .ok 0 w) (hf : (Builtin.firstCells sz 0 x).run P w = .ok news w) :
    (Builtin.append_ #[t, u] ty #[.slice none 0 0, x]).run P w = .ok (.slice none 0 0) w := by
  rcases hd with rfl | ⟨q, rfl⟩ <;>
    (simp [Builtin.append_, run_und ht, run_und hu, run_size hs, hn, hf])

theorem idx_lt {n sz i j : Nat} (hi : i < n) (hj : j < sz) : i * sz + j < n * sz := by
  calc i * sz + j < i * sz + sz := by omega
    _ = (i + 1) * sz := by rw [Nat.add_mul]; omega
    _ ≤ n * sz := Nat.mul_le_mul_right _ hi

theorem append_ok {base tb tr : Nat} {t u ty : TypeId} {s x v : LV} {h h' : H} {s' x' : Value}
    (hl : appendL P t u s x h = some (v, h')) (hr : HR base G w h) (hf : Fresh G h tb tr) (htr : h'.row.length ≤ tr) (vs : VR G w s s') (vx : VR G w x x') :
    ∃ r w' G', (Builtin.append_ #[t, u] ty #[s', x']).run P w = .ok r w' ∧ VR G' w' v r ∧ Step base G w h G' w' h' := by
  unfold appendL at hl
  split at hl
  case h_2 => cases hl
  rename_i e ht hud
  have hu : ∃ d, P.underlying u = some d ∧ (d = .string ∨ ∃ q, d = .slice q) := by
    revert hud
    split
    · intro _; exact ⟨_, by assumption, .inl rfl⟩
    · intro _; exact ⟨_, by assumption, .inr ⟨_, rfl⟩⟩
    · intro h; cases h
  obtain ⟨d, hu, hd⟩ := hu
  split at hl
  case h_2 => cases hl
  rename_i sz by_ z hs hb hz
  split at hl
  case isFalse => cases hl
  rename_i hcond
  obtain ⟨k1, k2, k3, k4⟩ := hcond
  have hzv : ∃ z', (∀ w' : World, (zeroValue e).run P w' = .ok z' w') ∧ z'.cells.size = sz := by
    obtain ⟨z', hz', hzo⟩ := run_zeroL (w := w) hz
    refine ⟨z', fun w' => ?_, ?_⟩
    · unfold zeroL at hz
      cases hi : P.info? e with
      | none => rw [hi] at hz; cases hz
      | some i =>
        rw [hi] at hz
        cases hzz : i.zero with
        | none => simp [hzz] at hz
        | some z0 =>
          simp only [zeroValue, typeInfo, Sem.run_bind, run_program, Result.andThen_ok, hi, hzz, Sem.run_pure] at hz' ⊢
          cases hz'; rfl
    · have := ((ofV_vr (G := G) (w := w) hzo).cells k1).1
      simp at this; omega
  obtain ⟨z', hzv, hzs⟩ := hzv
  split at hl
  · -- nothing is appended
    rename_i hel
    obtain ⟨news, hn, hfc, hnl, _⟩ := elems_ok (P := P) hel vx
    have hnews : news = [] := by simpa using hnl
    subst hnews
    split at hl
    · cases hl; cases vs
      exact ⟨_, w, G, run_app_nil0 ht hu hd hs hn (hfc w rfl), .nils, .refl hr⟩
    · cases hl
      cases vs with
      | sl u' hcap hzz hc hv htk =>
        rename_i blk off c
        refine ⟨_, w, G, ?_, .sl u' hcap hzz hc hv htk, .refl hr⟩
        rw [run_app_room ht hu hd hs hn (hfc w rfl) (by simpa using hcap)]
        simp [storeCells]
      | sle =>
        rename_i a c
        refine ⟨.slice (some a) 0 c, w, G, ?_, .sle _ _ _ _, .refl hr⟩
        rw [run_app_room ht hu hd hs hn (hfc w rfl) (by simp)]
        simp [storeCells]
    · cases hl
  · rename_i ys hys hel
    have hyl : 0 < ys.length := by
      cases ys with
      | nil => exact absurd rfl hys
      | cons y ys => simp
    obtain ⟨news, hn, hfc, hnl, hone, hyz, hyv⟩ := elems_ok (P := P) hel vx
    split at hl
    · -- nil
      split at hl
      case isFalse => cases hl
      rename_i hbig
      simp only [newRowL, Option.some.injEq, Prod.mk.injEq] at hl
      obtain ⟨rfl, rfl⟩ := hl
      cases vs
      have hrun := run_app_grow (ty := ty) (sLen := 0) (sCap := 0) (base := none) (olds := #[]) ht hu hd hs hb hzv hn (hfc w.drew rfl) (by simp [Builtin.firstCells]) (by omega) k4 (by
        have := Nat.mul_le_mul_right by_ (show 2 * (0 + ys.length) ≤ 2 * ys.length + 192 by omega); omega)
      rw [Nat.zero_add] at hrun
      have hge := grownCap_ge w ys.length 0 e
      let c : Array Value := #[] ++ news.toArray ++ Builtin.zeroCells z'.cells (grownCap w ys.length 0 e - ys.length)
      have hcs : c.size = grownCap w ys.length 0 e * sz := by
        simp only [c, Array.size_append, List.size_toArray, size_zeroCells, hzs, hnl, List.length_nil, Nat.zero_add, ← Nat.add_mul]
        congr 1; omega
      have hstep := Step.newRow (w := w) (w' := w.drew.alloc (.cells c e)) (c := c) (ty := e) (fr := (0, 0)) (pos := ys.length) (fin := ys.length * sz) (cap := grownCap w ys.length 0 e * sz)
        rfl ⟨rfl, rfl, rfl⟩ hr (hf.row _ (Nat.le_refl _) (by simp at htr; omega)) (Nat.mul_le_mul_right _ (by omega)) (by omega) (fun _ _ => Or.inl rfl)
      refine ⟨_, _, _, hrun, ?_, hstep⟩
      refine newRow_vr (us := news) hyz (fun i hi j hj => ?_) hone (push_new rfl) (fun i hi => ?_) (fun o ho => Or.inr ⟨rfl, ho⟩) (by omega) (by simp)
      · obtain ⟨q, h1, h2⟩ := hyv i hi j hj
        exact ⟨q, h1, h2.mono hstep.ext⟩
      · simp only [Array.empty_append]
        rw [Array.getElem?_append_left (by simp; omega)]
        simp
    · rename_i r p sz' xs
      split at hl
      case isFalse => cases hl
      rename_i hc5
      obtain ⟨rfl, hr0, hlor, hrow, hbig⟩ := hc5
      simp only [Option.some.injEq, Prod.mk.injEq] at hl
      obtain ⟨rfl, rfl⟩ := hl
      have vs0 := vs
      cases vs with
      | sle hi sz a c => exact absurd rfl hr0
      | sl u' hcap hxz hc hv htk =>
        rename_i blk off cc
        obtain ⟨R, hR, hpR, hfull⟩ := htk hr0
        obtain ⟨hpos, hfc2, cR, tyR, frR, hheap, hcapR, hspare⟩ := hr.row r R p hR hrow
        obtain ⟨rfl, hfin, hcapE⟩ := hfull hpos.symm
        obtain ⟨us, hu1, hu2, hu3, hu4⟩ := sl_cells vs0
        have hxl : (xs ++ ys).length = xs.length + ys.length := by simp
        have hz2 : ∀ i (h : i < (xs ++ ys).length), (xs ++ ys)[i].cells.length = sz' := by
          intro i hi
          rw [List.getElem_append]
          split
          · exact hxz _ _
          · exact hyz _ _
        by_cases hroom : xs.length + ys.length ≤ cc
        · -- in place
          have hrun := run_app_room (ty := ty) (a := ⟨R.pb, off, none⟩) (sLen := xs.length) (sCap := cc) ht hu hd hs hn (hfc w rfl) hroom
          rw [add_off] at hrun
          have m1 : xs.length * sz' + ys.length * sz' ≤ cc * sz' := by rw [← Nat.add_mul]; exact Nat.mul_le_mul_right _ hroom
          obtain ⟨w', hst, hh, hsz, hsd, hother⟩ := storeCells_ok (P := P) R.pb (off + xs.length * sz') tyR frR news 0 cR w hheap (by omega) (by
            intro j h1 h2 h3; rcases (hspare j (by omega)).2 with h4 | h4 <;> omega) hone
          rw [show news.toArray.toList = news from rfl, hst, Result.andThen_ok] at hrun
          have hstep := Step.growHere (w := w) (w' := w') (R := R) (c := cR) (c' := (setAllV cR.toList (off + xs.length * sz' + 0) news).toArray) (pos := p + ys.length) (m := ys.length * sz') hsd hsz hother hheap hh
            (by simp [setAllV_length]) (by
              intro i hi
              simp only [List.getElem?_toArray]
              rw [setAllV_ne _ _ _ _ (by omega)]; simp) hr hR (by rw [hpos]; exact hrow) hlor (by omega) (by omega)
          refine ⟨_, _, _, hrun, ?_, hstep⟩
          have key : ∀ i (hi : i < (xs ++ ys).length), ∀ j, j < sz' → ∃ q, w'.cell? ⟨R.pb, off + i * sz' + j, none⟩ = some q ∧ (G.prot R.pb (off + i * sz' + j) ∨ (R.fin ≤ off + i * sz' + j ∧ off + i * sz' + j < R.fin + ys.length * sz')) ∧ q.oneCell' = true ∧
              ∀ (hj : j < (xs ++ ys)[i].cells.length), VR G w (xs ++ ys)[i].cells[j] q := by
            intro i hi j hj
            by_cases hix : i < xs.length
            · have hlt := idx_lt hix hj
              obtain ⟨q, h1, h2⟩ := hu4 i hix j (by rw [hxz i hix]; exact hj)
              have h3 := hu2 _ q h1
              refine ⟨q, ?_, .inl (by rw [Nat.add_assoc]; exact h3.2.1), h3.2.2, fun hj' => ?_⟩
              · rw [Nat.add_assoc, hstep.ext.cell _ _ h3.2.1]; exact h3.1
              · simpa only [List.getElem_append_left hix] using h2
            · have hiy : i - xs.length < ys.length := by simp at hi; omega
              have hlt := idx_lt hiy hj
              obtain ⟨q, h1, h2⟩ := hyv (i - xs.length) hiy j (by rw [hyz _ hiy]; exact hj)
              have he : off + i * sz' + j = off + xs.length * sz' + ((i - xs.length) * sz' + j) := by
                have : i * sz' = xs.length * sz' + (i - xs.length) * sz' := by rw [← Nat.add_mul]; congr 1; omega
                omega
              refine ⟨q, ?_, .inr (by omega), hone q (List.mem_of_getElem? h1), fun hj' => ?_⟩
              · rw [he, cell_cells hh, List.getElem?_toArray]
                exact setAllV_at _ _ _ _ _ (by simp; omega) h1
              · simpa only [List.getElem_append_right (by omega : xs.length ≤ i)] using h2
          rw [← hxl]
          refine .sl (fun i j => (w'.cell? ⟨R.pb, off + i * sz' + j, none⟩).getD undef) (by rw [hxl]; omega) hz2 ?_ ?_ ?_
          · intro i hi j hj
            obtain ⟨q, h1, h2, h3, _⟩ := key i hi j hj
            rw [h1]
            refine ⟨rfl, ?_, h3⟩
            rcases h2 with h2 | h2
            · exact Or.inl h2
            · exact Or.inr ⟨rfl, h2⟩
          · intro i hi j hj
            obtain ⟨q, h1, _, _, h4⟩ := key i hi j (by rw [hz2 i hi] at hj; exact hj)
            rw [h1]
            exact (h4 hj).mono hstep.ext
          · intro _
            refine ⟨⟨R.pb, p + ys.length, R.fin + ys.length * sz', R.cap⟩, by simp, Nat.le_refl _, fun _ => ⟨rfl, ?_, ?_⟩⟩
            · simp only [hxl, Nat.add_mul]; omega
            · exact hcapE
        · -- in a new block
          have hrun := run_app_grow (ty := ty) (sLen := xs.length) (sCap := cc) (base := some ⟨R.pb, off, none⟩) (olds := us.toArray) ht hu hd hs hb hzv hn (hfc w.drew rfl) (by
            simp only [Builtin.firstCells]
            rw [← hu1]
            exact run_loadCells_list w.drew _ us (by
              intro j x hx
              rw [add_off]
              exact (hu2 j x hx).1)) (by omega) k4 (by
            have := Nat.mul_le_mul_right by_ (show 2 * (xs.length + ys.length) ≤ 2 * (xs.length + ys.length) + 192 by omega); omega)
          rw [← hxl] at hrun
          have hge := grownCap_ge w (xs ++ ys).length cc e
          let c : Array Value := us.toArray ++ news.toArray ++ Builtin.zeroCells z'.cells (grownCap w (xs ++ ys).length cc e - (xs ++ ys).length)
          have hcs : c.size = grownCap w (xs ++ ys).length cc e * sz' := by
            simp only [c, Array.size_append, List.size_toArray, size_zeroCells, hzs, hnl, hu1, ← Nat.add_mul]
            congr 1; omega
          have hstep := Step.growNew (w := w) (w' := w.drew.alloc (.cells c e)) (R := R) (c := c) (ty := e) (fr := (0, 0)) (pos := p + ys.length) (fin := (xs ++ ys).length * sz') (cap := grownCap w (xs ++ ys).length cc e * sz')
            rfl ⟨rfl, rfl, rfl⟩ hr hR (by rw [hpos]; exact hrow) hlor (by omega) (Nat.mul_le_mul_right _ (by omega)) (by omega) (fun _ _ => Or.inl rfl)
          refine ⟨_, _, _, hrun, ?_, hstep⟩
          have key : ∀ i (hi : i < (xs ++ ys).length), ∀ j, j < sz' → ∃ q, c[i * sz' + j]? = some q ∧ q.oneCell' = true ∧ ∀ (hj : j < (xs ++ ys)[i].cells.length), VR G w (xs ++ ys)[i].cells[j] q := by
            intro i hi j hj
            by_cases hix : i < xs.length
            · have hlt := idx_lt hix hj
              obtain ⟨q, h1, h2⟩ := hu4 i hix j (by rw [hxz i hix]; exact hj)
              refine ⟨q, ?_, (hu2 _ q h1).2.2, fun hj' => ?_⟩
              · simp only [c]
                rw [Array.getElem?_append_left (by simp; omega), Array.getElem?_append_left (by simp; omega)]
                simpa using h1
              · simpa only [List.getElem_append_left hix] using h2
            · have hiy : i - xs.length < ys.length := by simp at hi; omega
              have hlt := idx_lt hiy hj
              obtain ⟨q, h1, h2⟩ := hyv (i - xs.length) hiy j (by rw [hyz _ hiy]; exact hj)
              have he : i * sz' + j = xs.length * sz' + ((i - xs.length) * sz' + j) := by
                have : i * sz' = xs.length * sz' + (i - xs.length) * sz' := by rw [← Nat.add_mul]; congr 1; omega
                omega
              refine ⟨q, ?_, hone q (List.mem_of_getElem? h1), fun hj' => ?_⟩
              · simp only [c]
                rw [Array.getElem?_append_left (by simp; omega), Array.getElem?_append_right (by simp; omega)]
                simp only [List.size_toArray, List.getElem?_toArray, hu1]
                rw [he, Nat.add_sub_cancel_left]; exact h1
              · simpa only [List.getElem_append_right (by omega : xs.length ≤ i)] using h2
          refine .sl (fun i j => (c[i * sz' + j]?).getD undef) hge hz2 ?_ ?_ ?_
          · intro i hi j hj
            obtain ⟨q, h1, h2, _⟩ := key i hi j hj
            have hpn : (w.drew.alloc (.cells c e)).heap[w.heap.size]? = some (.cells c e (0, 0)) := push_new rfl
            rw [cell_cells hpn, Nat.zero_add, h1]
            exact ⟨rfl, Or.inr ⟨rfl, idx_lt hi hj⟩, h2⟩
          · intro i hi j hj
            obtain ⟨q, h1, _, h4⟩ := key i hi j (by rw [hz2 i hi] at hj; exact hj)
            rw [h1]
            exact (h4 hj).mono hstep.ext
          · intro _
            exact ⟨⟨w.heap.size, p + ys.length, (xs ++ ys).length * sz', grownCap w (xs ++ ys).length cc e * sz'⟩, by simp, Nat.le_refl _, fun _ => ⟨rfl, by simp, by simp⟩⟩
    · cases hl
  · cases hl

end Go.LM
