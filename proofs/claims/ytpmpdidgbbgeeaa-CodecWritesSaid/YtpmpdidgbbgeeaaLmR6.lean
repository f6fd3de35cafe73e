import Derived.Test.YtpmpdidgbbgeeaaLmR5
namespace Go.LM
variable {P : Program}

theorem drawW_sound {base tb tr N : Nat} {C : Callee'} (hC : COk P base C) (hF : CFn P C) (hL : CLen C) (hm : P.follows .mixedOrders = true) {id : Nat} {all : Array Oper} (hd : drawOkL all = true) {Q : Exit → Act → World → Prop}
    {rows : List (Cl × List Nat)} (hp : planW P all.toList = some rows)
    {s s' : S} {h h' : H} {G : Gh} {w : World} {a : Act} (ho : opsW P C N all (all.toList.zip rows) s h = some (s', h')) (hh : HR base G w h) (hf : Fresh G h tb tr) (h1 : h'.box.length ≤ tb) (h2 : h'.row.length ≤ tr)
    (hs : SR G w N s a) (hq : ∀ G' w' a', Step base G w h G' w' h' → SR G' w' N s' a' → Q .normal a' w') : (Code.region id all true).wp P Q a w := by
  refine wp_region_any hm ?_
  have hst0 := Step.same (w := w) (w' := { w with drawn := w.drawn + 1 }) rfl ⟨rfl, rfl, rfl⟩ hh
  obtain ⟨σ, η, val, e1, e2, e3, e4, htr⟩ := opsW_trace hL ho
  have hrl := (planW_ok hp).1
  have hzl : (all.toList.zip rows).length = all.size := by simp [hrl]
  rw [hzl] at e3 e4
  have W : WTr P C N all rows σ η val := ⟨hp, fun i o c D hi hr => htr i o c D (by
    rw [List.getElem?_zip_eq_some]
    exact ⟨by simpa using hi, hr⟩)⟩
  subst e1; subst e2
  have htext : ∀ m, m ≤ all.size → slotAt all val (fun _ => true) (σ 0) m = σ m := by
    intro m
    induction m with
    | zero => intro _; rfl
    | succ m ih =>
      intro h
      have ho := Array.getElem?_eq_getElem (show m < all.size by omega)
      obtain ⟨D, A⟩ := W.at_ ho
      simp only [slotAt, if_true, ho]
      rw [ih (by omega)]
      exact A.st.slot.symm
  have hgn : Gro (η 0) (η all.size) := W.le (Nat.zero_le _) (Nat.le_refl _)
  have g0 : ∀ b pb, G.box b = some pb → b < (η all.size).box.length → b < (η 0).box.length := by
    intro b pb hb hn
    rcases Nat.lt_or_ge b (η 0).box.length with h3 | h3
    · exact h3
    · rw [hf.box b h3 (by rw [e4] at hn; omega)] at hb; cases hb
  have r0 : ∀ r R, G.row r = some R → r < (η all.size).row.length → r < (η 0).row.length := by
    intro b pb hb hn
    rcases Nat.lt_or_ge b (η 0).row.length with h3 | h3
    · exact h3
    · rw [hf.row b h3 (by rw [e4] at hn; omega)] at hb; cases hb
  refine drawW_any hC hF hL hd W hh.lo (G0 := G) (w0 := { w with drawn := w.drawn + 1 }) hf (by rw [e4]; exact h1) (by rw [e4]; exact h2) ?_ all.size _ G _ a (by simp) ?_ ?_
  · intro L G2 w2 a2 hall hinv
    refine hq G2 w2 a2 ?_ ?_
    · refine hst0.trans (h1 := η 0) ⟨hinv.sd, hinv.ext, ?_, ?_⟩
      · rw [← e4]
        refine ⟨hinv.size, hinv.old, hgn.len, ⟨hgn.lob, hgn.lor⟩, fun b pb hb hc => hinv.keepB b pb hb hc, fun r R hR hc => hinv.keepR r R hR hc, ?_, ?_, fun b hb => hgn.kb hh.lo.1 b hb, fun r hr => hgn.kr hh.lo.2.1 r hr⟩
        · intro b pb hb
          rcases hinv.newB b pb hb with h3 | ⟨j, ⟨hjn, hj⟩, h3, h4⟩
          · exact .inl h3
          · have a1 := (W.le (Nat.zero_le j) (by omega)).len.1
            have a2 := (W.le (show j + 1 ≤ all.size from hjn) (Nat.le_refl _)).len.1
            exact .inr ⟨by omega, by omega⟩
        · intro r R hR
          rcases hinv.newR r R hR with h3 | ⟨j, ⟨hjn, hj⟩, h3, h4⟩
          · exact .inl h3
          · have a1 := (W.le (Nat.zero_le j) (by omega)).len.2
            have a2 := (W.le (show j + 1 ≤ all.size from hjn) (Nat.le_refl _)).len.2
            exact .inr ⟨by omega, by omega⟩
      · rw [← e4]
        refine ⟨hinv.low, ⟨by rw [hgn.lob]; exact Nat.le_trans hh.lo.1 hgn.len.1, by rw [hgn.lor]; exact Nat.le_trans hh.lo.2.1 hgn.len.2, Nat.le_trans hh.lo.2.2 hgn.len.2⟩, hinv.prot, hinv.boxAt, hinv.boxInj, hinv.rowAt, hinv.rowInj, ?_, ?_⟩
        · intro b pb B hb hB
          have hbl := (List.getElem?_eq_some_iff.1 hB).1
          obtain ⟨k, B', c1, c2, c3⟩ := hinv.box b pb hb hbl
          have cn : CutL all.size (bxs η) L b all.size := ⟨Nat.le_refl _, hbl, fun j hj _ => by simp [hj, hall j hj]⟩
          have := cut_same W.monoB c1 cn
          rw [c2] at this
          have hB : (bxs η all.size)[b]? = some B := hB
          rw [hB] at this; cases this
          exact c3
        · intro r R p hR hp'
          have hbl := (List.getElem?_eq_some_iff.1 hp').1
          obtain ⟨k, B', c1, c2, c3⟩ := hinv.row r R hR hbl
          have cn : CutL all.size (rws η) L r all.size := ⟨Nat.le_refl _, hbl, fun j hj _ => by simp [hj, hall j hj]⟩
          have := cut_same W.monoR c1 cn
          rw [c2] at this
          have hB : (rws η all.size)[r]? = some p := hp'
          rw [hB] at this; cases this
          exact c3
    · have := hinv.slots
      rw [slotAt_congr (L' := fun _ => true) all.size hall, htext all.size (Nat.le_refl _), e3] at this
      exact this
  · have := List.length_filter_le (fun i => !listedL (Array.replicate all.size false) i) (List.range all.size)
    simpa using this
  · have hz : ∀ i, listedL (Array.replicate all.size false) i = false := by
      intro i
      unfold listedL
      rw [Array.getD_eq_getD_getElem?, Array.getElem?_replicate]
      split <;> rfl
    have hL0 : listedL (Array.replicate all.size false) = fun _ => false := funext hz
    rw [hL0]
    have hslot : ∀ m, slotAt all val (fun _ => false) (σ 0) m = σ 0 := by
      intro m
      induction m with
      | zero => rfl
      | succ m ih => simp [slotAt, ih]
    have hr1 := hst0.hr
    refine ⟨fun i o _ hl => (by cases hl), .refl _, .refl _ _, hr1.size, hr1.prot, hr1.boxAt, hr1.boxInj, hr1.rowAt, hr1.rowInj, Nat.le_refl _, fun _ _ => rfl, fun _ _ _ _ => ⟨rfl, fun _ h => h⟩, fun _ _ hR _ => ⟨hR, rfl, fun _ h => h⟩,
      fun _ _ hb => .inl hb, fun _ R hR => .inl ⟨R, hR⟩, ?_, ?_, fun j b _ hl => by simp at hl, fun j b _ hl => by simp at hl, by rw [hslot]; exact hs.mono hst0.ext⟩
    · intro b pb hb hn
      have h3 := g0 b pb hb hn
      have hB : (η 0).box[b]? = some (η 0).box[b] := List.getElem?_eq_getElem h3
      exact ⟨0, _, ⟨Nat.zero_le _, h3, fun j _ _ => by simp⟩, hB, hr1.box b pb _ hb hB⟩
    · intro r R hR hn
      have h3 := r0 r R hR hn
      have hB : (η 0).row[r]? = some (η 0).row[r] := List.getElem?_eq_getElem h3
      exact ⟨0, _, ⟨Nat.zero_le _, h3, fun j _ _ => by simp⟩, hB, hr1.row r R _ hR hB⟩
end Go.LM
