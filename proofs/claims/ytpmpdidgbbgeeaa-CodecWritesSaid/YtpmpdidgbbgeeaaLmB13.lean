import Derived.Test.YtpmpdidgbbgeeaaLmB12
namespace Go.LM
variable {P : Program} {T : Nat → Option LV}
/-- A turn of a loop that ends as a turn: the rest behind the loop is put aside. -/
theorem ru_step {k : List Fk} {r : Option (X × S × H)} {A B : X × S × H → Prop} (hr : Ru P T k r A) : Ru P T k r (fun r => A r ∨ B r) := hr.mono fun _ h => .inl h
/-! ### bytes gathered in a loop -/
structure Acc (h0 : H) (o : Option (Nat × Nat)) (pre : List Int) (h : H) : Prop where
  tok : okTok o pre.length h
  new : newTok o h0
  keep : Keep h0 h
  wf : WF h
theorem Acc.start {h0 h : H} (k : Keep h0 h) (w : WF h) : Acc h0 none [] h := ⟨rfl, trivial, k, w⟩
theorem Acc.next {h0 : H} {o : Option (Nat × Nat)} {pre : List Int} {h h' : H} (a : Acc h0 o pre h) (k : Keep h h') : Acc h0 o pre h' := ⟨okTok_keep k a.tok, a.new, a.keep.trans k, a.wf.keep k⟩
theorem Acc.app {h0 : H} {o : Option (Nat × Nat)} {pre : List Int} {h : H} (a : Acc h0 o pre h) (ys : List Int) (hb : pre.length + ys.length ≤ 1000000000) :
    ∃ o' h', appS 1 1 (mkS o 1 (pre.map (LV.int .u8))) h (some (ys.map (LV.int .u8))) = some (mkS o' 1 ((pre ++ ys).map (LV.int .u8)), h') ∧ Acc h0 o' (pre ++ ys) h' ∧ (∀ c, h'.get c = h.get c) ∧ h'.len = h.len ∧ h'.lob = h.lob := by
  have ap := append_mk (sz := 1) (by_ := 1) (xs := pre.map (LV.int .u8)) (ys := ys.map (LV.int .u8)) (o := o) (h := h) (by simpa using a.tok) (by simp; omega)
  rw [← List.map_append] at ap
  have t2 := okTok_ap (m := (ys.map (LV.int .u8)).length) a.wf a.tok
  refine ⟨_, _, ap, ⟨?_, newTok_ap a.keep a.new, keep_ap a.keep a.new, wf_ap a.wf⟩, fun c => get_ap c, len_ap, lob_ap⟩
  rw [List.length_append]
  simpa using t2

/-! ### pages, and their lengths on the way -/
theorem pre_len {l : List PageR} (hl : l.length ≤ 40) (h : ∀ x ∈ l, x.ok) (i : Nat) : ([84, 89, 80, 49] ++ chn l.length ++ (l.take i).flatMap pageB).length ≤ 5000000 := by
  rw [List.length_append, List.length_append]
  have h1 := flat_len (f := pageB) (k := 100440) (l := l.take i) (fun n hn => pageB_len (h n (List.mem_of_mem_take hn)))
  have h2 := chn_len (n := (l.length : Int)) ⟨by omega, by omega⟩
  have h3 : (l.take i).length ≤ 40 := by rw [List.length_take]; omega
  have := Nat.mul_le_mul_left 100440 h3
  simp only [List.length_cons, List.length_nil]
  omega
theorem lane_pre {p : PageR} (h : p.ok) (k : Nat) : ((p.lanes.take k).flatMap laneB).length ≤ 110000 := by
  have h1 := flat_len (f := laneB) (k := 5020) (l := p.lanes.take k) (fun n hn => laneB_len (h.2.2 n (List.mem_of_mem_take hn)))
  have h3 : (p.lanes.take k).length ≤ 20 := by have := h.2.1; rw [List.length_take]; omega
  have := Nat.mul_le_mul_left 5020 h3
  omega
theorem put_pre {x : LaneR} (h : x.ok) (k : Nat) : ((x.puts.take k).flatMap putB).length ≤ 5000 := by
  have h1 := flat_len (f := putB) (k := 50) (l := x.puts.take k) (fun n hn => putB_len (h.2.2 n (List.mem_of_mem_take hn)))
  have h3 : (x.puts.take k).length ≤ 100 := by have := h.2.1; rw [List.length_take]; omega
  have := Nat.mul_le_mul_left 50 h3
  omega

/-! ### unlike pages have unlike bytes -/
abbrev PlainL := Int × List PutR
abbrev PlainP := Int × Int × Int × List PlainL
instance dPL : DecidableEq (List PlainL) := inferInstance
instance dP1 : DecidableEq (Int × List PlainL) := inferInstance
instance dP2 : DecidableEq (Int × Int × List PlainL) := inferInstance
instance dPP : DecidableEq PlainP := @instDecidableEqProd Int (Int × Int × List PlainL) inferInstance dP2
def LaneR.plain (x : LaneR) : PlainL := (x.x, x.puts)
def PageR.plain (x : PageR) : PlainP := (x.top, x.first, x.last, x.lanes.map LaneR.plain)
theorem putB_inj {p q : PutR} {r s : List Int} (hp : p.ok) (hq : q.ok) (h : putB p ++ r = putB q ++ s) : p = q ∧ r = s := by
  obtain ⟨h1, h2⟩ := chns_inj (by simp [PutR.nums]) hp hq h
  simp only [PutR.nums, List.cons.injEq, and_true] at h1
  obtain ⟨a, b, c, d, e⟩ := h1
  cases p; cases q; simp_all
theorem ext_R {α β : Type} {f : α → β} {a b : List α} (hl : a.length = b.length) (h : ∀ (i : Nat) x y, a[i]? = some x → b[i]? = some y → f x = f y) : a.map f = b.map f := by
  apply List.ext_getElem?
  intro i
  rw [List.getElem?_map, List.getElem?_map]
  by_cases hi : i < a.length
  · rw [List.getElem?_eq_getElem hi, List.getElem?_eq_getElem (hl ▸ hi)]
    simp only [Option.map_some, Option.some.injEq]
    exact h i _ _ (List.getElem?_eq_getElem hi) (List.getElem?_eq_getElem (hl ▸ hi))
  · rw [List.getElem?_eq_none (by omega), List.getElem?_eq_none (by omega)]
theorem laneB_inj {p q : LaneR} {r s : List Int} (hp : p.ok) (hq : q.ok) (h : laneB p ++ r = laneB q ++ s) : p.plain = q.plain ∧ r = s := by
  unfold laneB at h
  rw [List.append_assoc, List.append_assoc] at h
  obtain ⟨h1, h⟩ := chns_inj (a := [p.x]) (b := [q.x]) rfl (by simpa using hp.1) (by simpa using hq.1) h
  have lp := hp.2.1; have lq := hq.2.1
  obtain ⟨h2, h3, h4⟩ := many_inj (R := fun x y => x = y) ⟨by omega, by omega⟩ ⟨by omega, by omega⟩ (fun x hx y hy r s e => putB_inj (hp.2.2 x hx) (hq.2.2 y hy) e) h
  have := ext_R (f := id) h2 h3
  simp only [List.map_id_fun, id_eq, List.cons.injEq, and_true] at this h1
  exact ⟨by unfold LaneR.plain; rw [h1, this], h4⟩
theorem pageB_inj {p q : PageR} {r s : List Int} (hp : p.ok) (hq : q.ok) (h : pageB p ++ r = pageB q ++ s) : p.plain = q.plain ∧ r = s := by
  unfold pageB at h
  rw [List.append_assoc, List.append_assoc] at h
  obtain ⟨h1, h⟩ := chns_inj (a := [p.top, p.first, p.last]) (b := [q.top, q.first, q.last]) rfl hp.1 hq.1 h
  have lp := hp.2.1; have lq := hq.2.1
  obtain ⟨h2, h3, h4⟩ := many_inj (R := fun x y => x.plain = y.plain) ⟨by omega, by omega⟩ ⟨by omega, by omega⟩ (fun x hx y hy r s e => laneB_inj (hp.2.2 x hx) (hq.2.2 y hy) e) h
  have := ext_R (f := LaneR.plain) h2 h3
  simp only [List.cons.injEq, and_true] at h1
  obtain ⟨a, b, c⟩ := h1
  exact ⟨by unfold PageR.plain; rw [a, b, c, this], h4⟩
theorem many_congr {α β : Type} {f : α → List Int} {g : α → β} (hf : ∀ x y, g x = g y → f x = f y) : ∀ {a b : List α}, a.map g = b.map g → a.flatMap f = b.flatMap f
  | [], [], _ => rfl
  | [], _ :: _, h => by simp at h
  | _ :: _, [], h => by simp at h
  | x :: a, y :: b, h => by
    simp only [List.map_cons, List.cons.injEq] at h
    rw [List.flatMap_cons, List.flatMap_cons, hf x y h.1, many_congr hf h.2]
theorem laneB_congr (x y : LaneR) (h : x.plain = y.plain) : laneB x = laneB y := by
  unfold LaneR.plain at h
  simp only [Prod.mk.injEq] at h
  unfold laneB
  rw [h.1, h.2]
theorem pageB_congr (x y : PageR) (h : x.plain = y.plain) : pageB x = pageB y := by
  unfold PageR.plain at h
  simp only [Prod.mk.injEq] at h
  obtain ⟨a, b, c, d⟩ := h
  unfold pageB many
  have hl := congrArg List.length d
  simp only [List.length_map] at hl
  rw [a, b, c, hl, many_congr laneB_congr d]
theorem pagesB_iff {a b : List PageR} (la : a.length ≤ 40) (lb : b.length ≤ 40) (ha : ∀ x ∈ a, x.ok) (hb : ∀ x ∈ b, x.ok) : pagesB a = pagesB b ↔ a.map PageR.plain = b.map PageR.plain := by
  constructor
  · intro h
    unfold pagesB at h
    have h := List.append_cancel_left h
    have h' : many pageB a ++ [] = many pageB b ++ [] := by rw [h]
    obtain ⟨h2, h3, h4⟩ := many_inj (R := fun x y => x.plain = y.plain) ⟨by omega, by omega⟩ ⟨by omega, by omega⟩ (fun x hx y hy r s e => pageB_inj (ha x hx) (hb y hy) e) h'
    exact ext_R h2 h3
  · intro h
    have hl := congrArg List.length h
    simp only [List.length_map] at hl
    unfold pagesB many
    rw [hl, many_congr pageB_congr h]
theorem putB_iff {p q : PutR} (hp : p.ok) (hq : q.ok) : putB p = putB q ↔ p = q := by
  constructor
  · intro h
    exact (putB_inj (r := []) (s := []) hp hq (by rw [h])).1
  · rintro rfl; rfl
theorem take_map_succ {α β : Type} {f : α → β} {a b : List α} {i : Nat} {x y : α} (hx : a[i]? = some x) (hy : b[i]? = some y) (h : (a.take i).map f = (b.take i).map f) (he : f x = f y) : (a.take (i + 1)).map f = (b.take (i + 1)).map f := by
  obtain ⟨h1, rfl⟩ := List.getElem?_eq_some_iff.1 hx
  obtain ⟨h2, rfl⟩ := List.getElem?_eq_some_iff.1 hy
  rw [← List.take_append_getElem h1, ← List.take_append_getElem h2, List.map_append, List.map_append, h]
  simp [he]
theorem map_ne {α β : Type} {f : α → β} {a b : List α} {i : Nat} {x y : α} (hx : a[i]? = some x) (hy : b[i]? = some y) (he : f x ≠ f y) : ¬ a.map f = b.map f := by
  intro h
  have := congrArg (·[i]?) h
  simp only [List.getElem?_map, hx, hy, Option.map_some, Option.some.injEq] at this
  exact he this
end Go.LM
