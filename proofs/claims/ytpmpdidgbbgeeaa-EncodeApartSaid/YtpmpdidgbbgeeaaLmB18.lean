import Derived.Test.YtpmpdidgbbgeeaaLmB8
namespace Go.LM
variable {P : Program} {T : Nat → Option LV}
/-! ### numbers, one behind the other -/
def numsR : Nat → RS → List Int × RS
  | 0, r => ([], r)
  | n + 1, r => (r.int.1 :: (numsR n r.int.2).1, (numsR n r.int.2).2)
theorem nums_one : ∀ n, OneOk (numsR n)
  | 0 => ⟨fun _ => rfl, fun _ h => h⟩
  | n + 1 => ⟨fun r => ((nums_one n).b r.int.2).trans r.int_b, fun r h => (nums_one n).ok _ (RS.int_one.ok r h)⟩
theorem nums_len : ∀ n (r : RS), (numsR n r).1.length = n
  | 0, _ => rfl
  | n + 1, r => by simp only [numsR, List.length_cons, nums_len n]
theorem nums_64 : ∀ n (r : RS), r.ok → ∀ x ∈ (numsR n r).1, I64 x
  | 0, _, _, x, hx => by simp [numsR] at hx
  | n + 1, r, ok, x, hx => by
    simp only [numsR, List.mem_cons] at hx
    rcases hx with rfl | hx
    · exact (RS.int_ok ok).2.1
    · exact nums_64 n _ (RS.int_ok ok).1 x hx
theorem Reads.nums : ∀ {l : List Int}, (∀ n ∈ l, I64 n) → Reads (numsR l.length) (chns l) l
  | [], _ => by intro r rest ok hs h; simp [numsR, chns]
  | n :: l, hn => by
    intro r rest ok hs h
    rw [chns_cons, List.append_assoc] at h
    have e1 := Reads.int (hn n (by simp)) r _ ok hs h
    obtain ⟨ok2, h2⟩ := Reads.after ok h
    have e2 := Reads.nums (l := l) (fun x hx => hn x (by simp [hx])) { r with at_ := r.at_ + (chn n).length } rest ok2 hs h2
    simp only [List.length_cons, numsR, e1, e2, chns_cons, List.length_append, Prod.mk.injEq, true_and]
    congr 1; omega
theorem Wrote.nums : ∀ n, Wrote (numsR n) chns
  | 0 => by intro r ok hs; exact ⟨hs, Int.le_refl _, by simp [numsR, chns]⟩
  | n + 1 => by
    intro r ok hs
    obtain ⟨s2, a2, d2⟩ := Wrote.nums n r.int.2 (RS.int_ok ok).1 hs
    obtain ⟨s1, a1, d1⟩ := Wrote.int r ok s2
    rw [r.int_b] at d2
    refine ⟨s1, by simp only [numsR]; omega, ?_⟩
    simp only [numsR]
    rw [d1, d2, chns_cons, List.append_assoc]
/-- Places of a variable, set to numbers. -/
def setN : List LV → List Nat → List Int → List LV
  | cs, j :: js, n :: ns => setN (cs.set j (.int .i64 n)) js ns
  | cs, _, _ => cs
theorem setN_len : ∀ (js : List Nat) (ns : List Int) (cs : List LV), (setN cs js ns).length = cs.length
  | [], _, _ => rfl
  | _ :: _, [], _ => rfl
  | j :: js, n :: ns, cs => by simp only [setN]; rw [setN_len js ns]; simp

/-! ### pages, read -/
def putRd (r : RS) : PutR × RS :=
  (⟨r.int.1, r.int.2.int.1, r.int.2.int.2.int.1, r.int.2.int.2.int.2.int.1, r.int.2.int.2.int.2.int.2.int.1⟩, r.int.2.int.2.int.2.int.2.int.2)
theorem put_nums (r : RS) : (putRd r).1.nums = (numsR 5 r).1 ∧ (putRd r).2 = (numsR 5 r).2 := ⟨rfl, rfl⟩
theorem put_one : OneOk putRd := ⟨fun r => (nums_one 5).b r, fun r h => (nums_one 5).ok r h⟩
theorem put_64 {r : RS} (ok : r.ok) : (putRd r).1.ok := nums_64 5 r ok
theorem Reads.put {p : PutR} (hp : p.ok) : Reads putRd (putB p) p := by
  intro r rest ok hs h
  have e : numsR 5 r = _ := Reads.nums (l := p.nums) hp r rest ok hs h
  have e1 := (put_nums r).1
  have e2 := (put_nums r).2
  rw [e] at e1 e2
  simp only [PutR.nums, List.cons.injEq, and_true] at e1
  refine Prod.ext ?_ e2
  show (putRd r).1 = p
  generalize (putRd r).1 = q at *
  obtain ⟨a, b, c, d, f⟩ := e1
  cases q; cases p; simp_all
theorem Wrote.put : Wrote putRd putB := fun r ok hs => Wrote.nums 5 r ok hs
def laneRd (r : RS) : PlainL × RS := ((r.int.1, (eachL putRd r.int.2).1), (eachL putRd r.int.2).2)
def pageRd (r : RS) : PlainP × RS :=
  ((r.int.1, r.int.2.int.1, r.int.2.int.2.int.1, (eachL laneRd r.int.2.int.2.int.2).1), (eachL laneRd r.int.2.int.2.int.2).2)
def laneBP (x : PlainL) : List Int := chns [x.1] ++ many putB x.2
def pageBP (x : PlainP) : List Int := chns [x.1, x.2.1, x.2.2.1] ++ many laneBP x.2.2.2
def magicP : List Int := [84, 89, 80, 49]
def pagesBP (l : List PlainP) : List Int := magicP ++ many pageBP l
theorem many_map {α β : Type} (f : β → List Int) (g : α → β) (l : List α) : many f (l.map g) = many (fun x => f (g x)) l := by
  unfold many
  rw [List.length_map, List.flatMap_map]
theorem pageB_plain (x : PageR) : pageB x = pageBP x.plain := by
  unfold pageB pageBP PageR.plain
  simp only
  rw [many_map]; rfl
theorem pagesB_plain (l : List PageR) : pagesB l = pagesBP (l.map PageR.plain) := by
  unfold pagesB pagesBP
  rw [many_map]
  congr 1
  congr 1
  funext x
  exact pageB_plain x
theorem lane_one : OneOk laneRd := ⟨fun r => ((each_one put_one).b _).trans r.int_b, fun r h => (each_one put_one).ok _ (RS.int_ok h).1⟩
theorem page_one : OneOk pageRd := ⟨fun r => ((each_one lane_one).b _).trans ((nums_one 3).b r), fun r h => (each_one lane_one).ok _ ((nums_one 3).ok r h)⟩
/-- Plain pages whose numbers and lengths are in bounds. -/
def okL (m : Nat) (x : PlainL) : Prop := I64 x.1 ∧ x.2.length ≤ m ∧ ∀ p ∈ x.2, p.ok
def okP (m : Nat) (x : PlainP) : Prop := (∀ n ∈ [x.1, x.2.1, x.2.2.1], I64 n) ∧ x.2.2.2.length ≤ m ∧ ∀ y ∈ x.2.2.2, okL m y
theorem each_all {α : Type} {one : RS → α × RS} {Q : α → Prop} {B : List Int} (ho : OneOk one) (hq : ∀ r : RS, r.ok → r.b = B → Q (one r).1) {r : RS} (ok : r.ok) (hb : r.b = B) : ∀ x ∈ (eachL one r).1, Q x := by
  have key : ∀ n (r : RS), r.ok → r.b = B → ∀ x ∈ (gather one n r).1, Q x := by
    intro n
    induction n with
    | zero => intro r _ _ x hx; simp [gather] at hx
    | succ n ih =>
      intro r ok hb x hx
      by_cases hs : r.stop = true
      · rw [gather_stop hs] at hx; simp at hx
      · rw [gather_go (by simpa using hs)] at hx
        simp only [List.mem_cons] at hx
        rcases hx with rfl | hx
        · exact hq r ok hb
        · exact ih _ (ho.ok r ok) ((ho.b r).trans hb) x hx
  intro x hx
  unfold eachL at hx
  dsimp only at hx
  split at hx
  · simp at hx
  · exact key _ _ (RS.count_ok ok).1 (r.count_b.trans hb) x hx
theorem lane_ok {r : RS} (ok : r.ok) : okL r.b.length (laneRd r).1 := by
  have h1 := RS.int_ok ok
  refine ⟨h1.2.1, ?_, each_all (B := r.b) put_one (fun r ok _ => put_64 ok) h1.1 r.int_b⟩
  have := each_len put_one h1.1
  rwa [r.int_b] at this
theorem page_ok {r : RS} (ok : r.ok) : okP r.b.length (pageRd r).1 := by
  have hb := (nums_one 3).b r
  have h3 := (nums_one 3).ok r ok
  refine ⟨nums_64 3 r ok, ?_, each_all (B := r.b) lane_one (fun q okq hq => by have := lane_ok okq; rwa [hq] at this) h3 hb⟩
  have := each_len lane_one h3
  rwa [hb] at this
theorem Reads.lane {m : Nat} {x : PlainL} (hm : m ≤ 1000000000000) (hx : okL m x) : Reads laneRd (laneBP x) x := by
  intro r rest ok hs h
  unfold laneBP at h
  rw [List.append_assoc] at h
  have e1 : numsR 1 r = _ := Reads.nums (l := [x.1]) (by simpa using hx.1) r _ ok hs h
  obtain ⟨ok2, h2⟩ := Reads.after ok h
  simp only [numsR, Prod.mk.injEq, List.cons.injEq, and_true] at e1
  have e2 := Reads.each (one := putRd) (f := putB) (g := id) (l := x.2) ⟨by omega, by have := hx.2.1; omega⟩ (fun p hp => Reads.put (hx.2.2 p hp)) (fun p _ => by unfold putB PutR.nums; rw [chns_cons, List.length_append]; have := chn_pos p.k; omega) { r with at_ := r.at_ + (chns [x.1]).length } rest ok2 hs h2
  unfold laneRd
  rw [e1.1, e1.2, e2, List.map_id]
  unfold laneBP
  simp only [List.length_append, Prod.mk.injEq, true_and, RS.mk.injEq, and_true, Prod.eta]
  omega
theorem Reads.page {m : Nat} {x : PlainP} (hm : m ≤ 1000000000000) (hx : okP m x) : Reads pageRd (pageBP x) x := by
  intro r rest ok hs h
  unfold pageBP at h
  rw [List.append_assoc] at h
  have e1 : numsR 3 r = _ := Reads.nums (l := [x.1, x.2.1, x.2.2.1]) hx.1 r _ ok hs h
  obtain ⟨ok2, h2⟩ := Reads.after ok h
  simp only [numsR, Prod.mk.injEq, List.cons.injEq, and_true] at e1
  have e2 := Reads.each (one := laneRd) (f := laneBP) (g := id) (l := x.2.2.2) ⟨by omega, by have := hx.2.1; omega⟩ (fun p hp => Reads.lane hm (hx.2.2 p hp)) (fun p _ => by unfold laneBP; rw [chns_cons, List.length_append, List.length_append]; have := chn_pos p.1; omega) { r with at_ := r.at_ + (chns [x.1, x.2.1, x.2.2.1]).length } rest ok2 hs h2
  obtain ⟨⟨a1, a2, a3⟩, a4⟩ := e1
  unfold pageRd
  rw [a1, a2, a3, a4, e2, List.map_id]
  unfold pageBP
  simp only [List.length_append, Prod.mk.injEq, true_and, RS.mk.injEq, and_true, Prod.eta]
  omega
theorem Wrote.lane : Wrote laneRd laneBP := by
  intro r ok hs
  obtain ⟨s2, a2, d2⟩ := Wrote.each put_one Wrote.put r.int.2 (RS.int_ok ok).1 hs
  obtain ⟨s1, a1, d1⟩ := Wrote.int r ok s2
  rw [r.int_b] at d2
  refine ⟨s1, Int.le_trans a1 a2, ?_⟩
  rw [d1, d2]
  unfold laneRd laneBP
  simp [chns]
theorem Wrote.page : Wrote pageRd pageBP := by
  intro r ok hs
  obtain ⟨s2, a2, d2⟩ := Wrote.each lane_one Wrote.lane (numsR 3 r).2 ((nums_one 3).ok r ok) hs
  obtain ⟨s1, a1, d1⟩ := Wrote.nums 3 r ok s2
  rw [(nums_one 3).b r] at d2
  refine ⟨s1, Int.le_trans a1 a2, ?_⟩
  rw [d1, d2, ← List.append_assoc]
  rfl
/-- The pages that bytes are. -/
def pagesRd (b : List Int) : Option (List PlainP) :=
  let e := eachL pageRd (RS.mark ⟨b, 0, false⟩ magicP)
  if e.2.stop = false ∧ (b.length : Int) ≤ e.2.at_ then some e.1 else none
theorem rs0_ok {b : List Int} (hb : ∀ c ∈ b, 0 ≤ c ∧ c < 256) : (⟨b, 0, false⟩ : RS).ok := ⟨hb, Int.le_refl _, Int.natCast_nonneg _⟩
theorem pagesRd_some {b : List Int} {l : List PlainP} (hb : ∀ c ∈ b, 0 ≤ c ∧ c < 256) (h : pagesRd b = some l) : b = pagesBP l ∧ l.length ≤ b.length ∧ ∀ x ∈ l, okP b.length x := by
  unfold pagesRd at h
  dsimp only at h
  split at h
  · rename_i hc
    simp only [Option.some.injEq] at h
    have ok0 := rs0_ok hb
    have ok1 := RS.mark_ok ok0 magicP
    obtain ⟨s2, a2, d2⟩ := Wrote.each page_one Wrote.page _ ok1 hc.1
    obtain ⟨s1, a1, d1⟩ := Wrote.mark ok0 s2
    rw [RS.mark_b] at d2
    have hz : b.drop ((eachL pageRd (RS.mark ⟨b, 0, false⟩ magicP)).2.at_).toNat = [] := List.drop_eq_nil_of_le (by omega)
    refine ⟨?_, ?_, ?_⟩
    · have e : b = magicP ++ (many pageBP (eachL pageRd (RS.mark ⟨b, 0, false⟩ magicP)).1 ++ b.drop ((eachL pageRd (RS.mark ⟨b, 0, false⟩ magicP)).2.at_).toNat) := by
        rw [← d2]; exact d1
      rw [hz, List.append_nil, h] at e
      exact e
    · have := each_len page_one ok1
      rw [h, RS.mark_b] at this
      exact this
    · rw [← h]
      exact each_all (B := b) page_one (fun q okq hq => by have := page_ok okq; rwa [hq] at this) ok1 (RS.mark_b _ _)
  · cases h
theorem pagesBP_bytes (l : List PlainP) : ∀ c ∈ pagesBP l, 0 ≤ c ∧ c < 256 := by
  have hch : ∀ l : List Int, ∀ c ∈ chns l, 0 ≤ c ∧ c < 256 := by
    intro l c hc
    obtain ⟨n, _, h⟩ := List.mem_flatMap.1 hc
    exact chn_bytes _ c h
  have hm : ∀ {α : Type} (f : α → List Int) (l : List α), (∀ x ∈ l, ∀ c ∈ f x, 0 ≤ c ∧ c < 256) → ∀ c ∈ many f l, 0 ≤ c ∧ c < 256 := by
    intro α f l h c hc
    unfold many at hc
    rcases List.mem_append.1 hc with hc | hc
    · exact chn_bytes _ c hc
    · obtain ⟨x, hx, h2⟩ := List.mem_flatMap.1 hc
      exact h x hx c h2
  intro c hc
  rcases List.mem_append.1 hc with hc | hc
  · unfold magicP at hc
    simp only [List.mem_cons, List.not_mem_nil, or_false] at hc
    omega
  · refine hm pageBP l (fun x _ c hc => ?_) c hc
    rcases List.mem_append.1 hc with hc | hc
    · exact hch _ c hc
    · refine hm laneBP _ (fun y _ c hc => ?_) c hc
      rcases List.mem_append.1 hc with hc | hc
      · exact hch _ c hc
      · exact hm putB _ (fun z _ c hc => hch _ c hc) c hc
theorem pagesRd_of {m : Nat} {l : List PlainP} (hm : m ≤ 1000000000000) (hl : l.length ≤ m) (hx : ∀ x ∈ l, okP m x) : pagesRd (pagesBP l) = some l := by
  have ok0 := rs0_ok (pagesBP_bytes l)
  have e1 : RS.mark ⟨pagesBP l, 0, false⟩ magicP = ⟨pagesBP l, magicP.length, false⟩ := by
    have := Reads.mark (s := magicP) (r := ⟨pagesBP l, 0, false⟩) (rest := many pageBP l) rfl rfl
    rw [this]; simp
  have ok1 := RS.mark_ok ok0 magicP
  rw [e1] at ok1
  have hd : (pagesBP l).drop ((magicP.length : Int).toNat) = many pageBP l ++ [] := by
    rw [Int.toNat_natCast, List.append_nil]; unfold pagesBP; rw [List.drop_left]
  have e2 := Reads.each (one := pageRd) (f := pageBP) (g := id) (l := l) ⟨by omega, by omega⟩ (fun p hp => Reads.page hm (hx p hp)) (fun p _ => by unfold pageBP; rw [chns_cons, List.length_append, List.length_append]; have := chn_pos p.1; omega) ⟨pagesBP l, magicP.length, false⟩ [] ok1 rfl hd
  unfold pagesRd
  rw [e1, e2]
  dsimp only
  rw [List.map_id, if_pos]
  refine ⟨rfl, ?_⟩
  unfold pagesBP
  rw [List.length_append]; omega

/-! ### the document's reading: lists are not thrown away -/
def gatherX {α : Type} (one : RS → α × RS) (r : RS) : List α × RS := gather one r.count.1.toNat r.count.2
def Agree {α : Type} (f g : RS → α × RS) : Prop := ∀ r, (f r).2 = (g r).2 ∧ ((g r).2.stop = false → (f r).1 = (g r).1)
theorem Agree.gather {α : Type} {f g : RS → α × RS} (h : Agree f g) : ∀ n r, (gather f n r).2 = (gather g n r).2 ∧ ((gather g n r).2.stop = false → (gather f n r).1 = (gather g n r).1)
  | 0, r => ⟨rfl, fun _ => rfl⟩
  | n + 1, r => by
    by_cases hs : r.stop = true
    · rw [gather_stop hs, gather_stop hs]; exact ⟨rfl, fun _ => rfl⟩
    · have hs' : r.stop = false := by simpa using hs
      rw [gather_go hs', gather_go hs']
      obtain ⟨h1, h2⟩ := h r
      obtain ⟨i1, i2⟩ := Agree.gather h n (g r).2
      dsimp only
      rw [h1]
      refine ⟨i1, fun q => ?_⟩
      have hg : (g r).2.stop = false := by
        cases e : (g r).2.stop
        · rfl
        · rw [gather_stop e] at q; simp only at q; rw [e] at q; cases q
      rw [h2 hg, i2 q]
theorem Agree.each {α : Type} {f g : RS → α × RS} (h : Agree f g) : Agree (gatherX f) (eachL g) := by
  intro r
  obtain ⟨i1, i2⟩ := Agree.gather h r.count.1.toNat r.count.2
  unfold gatherX eachL
  dsimp only
  split
  · rename_i hs
    exact ⟨i1, fun q => by simp only at q; rw [hs] at q; cases q⟩
  · exact ⟨i1, i2⟩
theorem Agree.refl {α : Type} (f : RS → α × RS) : Agree f f := fun _ => ⟨rfl, fun _ => rfl⟩
def laneX (r : RS) : PlainL × RS := ((r.int.1, (gatherX putRd r.int.2).1), (gatherX putRd r.int.2).2)
def pageX (r : RS) : PlainP × RS :=
  ((r.int.1, r.int.2.int.1, r.int.2.int.2.int.1, (gatherX laneX r.int.2.int.2.int.2).1), (gatherX laneX r.int.2.int.2.int.2).2)
theorem agree_lane : Agree laneX laneRd := by
  intro r
  obtain ⟨h1, h2⟩ := (Agree.refl putRd).each r.int.2
  exact ⟨h1, fun q => by unfold laneX laneRd; simp only; rw [h2 q]⟩
theorem agree_page : Agree pageX pageRd := by
  intro r
  obtain ⟨h1, h2⟩ := agree_lane.each r.int.2.int.2.int.2
  exact ⟨h1, fun q => by unfold pageX pageRd; simp only; rw [h2 q]⟩
/-- What the document answers. -/
def pagesX (b : List Int) : Option (List PlainP) :=
  if b.take 4 ≠ magicP then none else
  let e := gatherX pageX ⟨b, 4, false⟩
  if e.2.stop = true ∨ pagesBP e.1 ≠ b then none else some e.1
theorem pagesX_eq {b : List Int} (hb : ∀ c ∈ b, 0 ≤ c ∧ c < 256) : pagesX b = pagesRd b := by
  unfold pagesX pagesRd
  by_cases hm : b.take 4 = magicP
  · have e1 : RS.mark ⟨b, 0, false⟩ magicP = ⟨b, 4, false⟩ := by
      unfold RS.mark
      rw [if_neg]
      · rfl
      · simp only [Bool.false_eq_true, false_or]; intro h; exact h hm
    rw [if_neg (fun h => h hm), e1]
    obtain ⟨i1, i2⟩ := agree_page.each ⟨b, 4, false⟩
    dsimp only
    rw [i1]
    have ok1 : (⟨b, 4, false⟩ : RS).ok := by rw [← e1]; exact RS.mark_ok (rs0_ok hb) magicP
    by_cases hs : (eachL pageRd ⟨b, 4, false⟩).2.stop = true
    · rw [if_pos (.inl hs), if_neg (by simp [hs])]
    · have hs' : (eachL pageRd ⟨b, 4, false⟩).2.stop = false := by simpa using hs
      rw [i2 hs']
      obtain ⟨s2, a2, d2⟩ := Wrote.each page_one Wrote.page _ ok1 hs'
      have d3 : b = magicP ++ (many pageBP (eachL pageRd ⟨b, 4, false⟩).1 ++ b.drop ((eachL pageRd ⟨b, 4, false⟩).2.at_).toNat) := by
        rw [← d2]
        conv => lhs; rw [← List.take_append_drop 4 b, hm]
        rfl
      have hat := ((each_one page_one).ok _ ok1).2
      have hbb := (each_one page_one).b ⟨b, 4, false⟩
      rw [hbb] at hat
      have hat1 := hat.1
      have hat2 := hat.2
      by_cases hc : (b.length : Int) ≤ (eachL pageRd ⟨b, 4, false⟩).2.at_
      · have hz : b.drop ((eachL pageRd ⟨b, 4, false⟩).2.at_).toNat = [] := List.drop_eq_nil_of_le (by omega)
        rw [hz, List.append_nil] at d3
        have hn : ¬ ((eachL pageRd ⟨b, 4, false⟩).2.stop = true ∨ pagesBP (eachL pageRd ⟨b, 4, false⟩).1 ≠ b) := by
          rintro (h | h)
          · exact hs h
          · exact h d3.symm
        rw [if_neg hn, if_pos ⟨hs', hc⟩]
      · have hp : (eachL pageRd ⟨b, 4, false⟩).2.stop = true ∨ pagesBP (eachL pageRd ⟨b, 4, false⟩).1 ≠ b := by
          refine .inr (fun h => hc ?_)
          have hl := congrArg List.length d3
          have hl2 := congrArg List.length h
          unfold pagesBP at hl2
          rw [List.length_append, List.length_append, List.length_drop] at hl
          rw [List.length_append] at hl2
          omega
        rw [if_pos hp, if_neg (fun h => hc h.2)]
  · have e1 : RS.mark ⟨b, 0, false⟩ magicP = (⟨b, 0, true⟩ : RS) := by
      unfold RS.mark
      rw [if_pos]
      · rfl
      · exact .inr hm
    rw [if_pos hm, e1, each_stop rfl]
    rfl
end Go.LM

namespace Go.LM
variable {P : Program} {T : Nat → Option LV}
/-! ### two boxes are written -/
structure Ot2 (p a : Nat) (h h' : H) : Prop where
  len : h.len ≤ h'.len
  get : ∀ c, c < h.len → c ≠ p → c ≠ a → h'.get c = h.get c
  rlen : h.rlen ≤ h'.rlen
  rget : ∀ r, r < h.rlen → h'.rget r = h.rget r
  lob : h'.lob = h.lob
  lor : h'.lor = h.lor
theorem Ot2.refl (p a : Nat) (h : H) : Ot2 p a h h := ⟨Nat.le_refl _, fun _ _ _ _ => rfl, Nat.le_refl _, fun _ _ => rfl, rfl, rfl⟩
theorem Ot2.trans {p a : Nat} {h h' h2 : H} (x : Ot2 p a h h') (y : Ot2 p a h' h2) : Ot2 p a h h2 :=
  ⟨Nat.le_trans x.len y.len, fun c hc h1 h2 => (y.get c (Nat.lt_of_lt_of_le hc x.len) h1 h2).trans (x.get c hc h1 h2), Nat.le_trans x.rlen y.rlen,
    fun r hr => (y.rget r (Nat.lt_of_lt_of_le hr x.rlen)).trans (x.rget r hr), y.lob.trans x.lob, y.lor.trans x.lor⟩
theorem Otr.two {p : Nat} {h h' : H} (o : Otr p h h') (a : Nat) : Ot2 p a h h' := ⟨o.len, fun _ hc h1 _ => o.get hc h1, o.rlen, o.rget, o.lob, o.lor⟩
theorem Otr.two' {p : Nat} {h h' : H} (o : Otr p h h') (a : Nat) : Ot2 a p h h' := ⟨o.len, fun _ hc _ h1 => o.get hc h1, o.rlen, o.rget, o.lob, o.lor⟩
theorem Keep.two {h h' : H} (k : Keep h h') (p a : Nat) : Ot2 p a h h' := (k.otr p).two a
theorem Ot2.put (p a : Nat) (B : Box) (h : H) : Ot2 p a h (h.put a B) := (Otr.put a B h).two' p
/-- What is written besides is new. -/
theorem Ot2.otr {p a : Nat} {hs h h' : H} (x : Otr p hs h) (ha : hs.len ≤ a) (y : Ot2 p a h h') : Otr p hs h' :=
  ⟨⟨Nat.le_trans x.len y.len, fun c hc h1 => (y.get c (Nat.lt_of_lt_of_le hc x.len) h1 (by omega)).trans (x.get hc h1)⟩, Nat.le_trans x.rlen y.rlen,
    fun r hr => (y.rget r (Nat.lt_of_lt_of_le hr x.rlen)).trans (x.rget r hr), y.lob.trans x.lob, y.lor.trans x.lor⟩
theorem Otr.new {p a : Nat} {hs h : H} (x : Otr p hs h) (ha : hs.len ≤ a) (B : Box) : Otr p hs (h.put a B) := Ot2.otr x ha (.put p a B h)
theorem Rdr.put2 {h0 : H} {p a : Nat} {r : RS} {h : H} (R : Rdr h0 p r h) (hne : a ≠ p) (ha : h0.len ≤ a) (B : Box) : Rdr h0 p r (h.put a B) := by
  obtain ⟨o, hg⟩ := R.get
  exact ⟨⟨o, by rw [get_put_ne hne]; exact hg⟩, by rw [lob_put]; exact R.lob, R.new, R.keep.put ha _, wf_put R.wf⟩
theorem Gth.put2 {h0 h hh : H} {p a : Nat} {r : RS} {o : Option (Nat × Nat)} {n : Nat} (g : Gth h0 h p r o n hh) (hne : a ≠ p) (ha0 : h0.len ≤ a) (ha : h.len ≤ a) (B : Box) : Gth h0 h p r o n (hh.put a B) :=
  ⟨g.rdr.put2 hne ha0 B, g.otr.new ha B, by
    rcases o with _ | ⟨q, hi⟩
    · exact g.tok
    · obtain ⟨h1, h2, h3, h4⟩ := g.tok
      exact ⟨h1, by rw [lor_put]; exact h2, by rw [rlen_put]; exact h3, by rw [rget_put]; exact h4⟩, g.new⟩
theorem fin_gather {α : Type} {one : RS → α × RS} {r r' : RS} {n i : Nat} {zs : List α} (hg : gather one n r = (zs ++ (gather one (n - i) r').1, (gather one (n - i) r').2)) (h : n ≤ i ∨ r'.stop = true) : gather one n r = (zs, r') := by
  rw [hg]
  rcases h with h | h
  · rw [show n - i = 0 by omega]; simp [gather]
  · rw [gather_stop h]; simp
theorem step_gather {α : Type} {one : RS → α × RS} {r r' : RS} {n i : Nat} {zs : List α} (hlt : i < n) (hs : r'.stop = false) (hg : gather one n r = (zs ++ (gather one (n - i) r').1, (gather one (n - i) r').2)) :
    gather one n r = ((zs ++ [(one r').1]) ++ (gather one (n - (i + 1)) (one r').2).1, (gather one (n - (i + 1)) (one r').2).2) := by
  rw [hg, show n - i = (n - (i + 1)) + 1 by omega, gather_go hs]
  simp
/-- A call that leaves all as it was, in a region that draws its order: what others read is as it was. -/
theorem rw_kcallW {k : List Fk} {ow : List RW} {d : Option Nat} {s s' : S} {h : H} {Q : X × S × H → Prop} {D : List Nat} {f : Nat} {args : List LV} {v : LV} (hr : runI P T f args h = some (v, hp P T f args h)) (w : WF h)
    (hD : ∀ hh, Keep h hh → keptD s' h hh D = true) (hk : ∀ hh, Keep h hh → WF hh → Ro P T k (opsKW P (runI P T) ow d s (some (v, hh))) Q) :
    Ro P T k (opsKW P (runI P T) ow d s (wK D s' h (runI P T f args h))) Q := by
  rw [hr, wK_some, if_pos (hD _ (hp_keep _ _ _))]
  exact hk _ (hp_keep _ _ _) (w.keep (hp_keep _ _ _))
theorem rw_wcallW {k : List Fk} {ow : List RW} {d : Option Nat} {s s' : S} {h : H} {Q : X × S × H → Prop} {D : List Nat} {f : Nat} {args : List LV} {v : LV} {J : H → Prop} (hr : ∃ h', runI P T f args h = some (v, h') ∧ J h')
    (hD : ∀ hh, J hh → keptD s' h hh D = true) (hk : ∀ hh, J hh → Ro P T k (opsKW P (runI P T) ow d s (some (v, hh))) Q) : Ro P T k (opsKW P (runI P T) ow d s (wK D s' h (runI P T f args h))) Q := by
  obtain ⟨h', e, hj⟩ := hr
  rw [e, wK_some, if_pos (hD _ hj)]; exact hk h' hj
theorem rw_vcallW {k : List Fk} {ow : List RW} {d : Option Nat} {s s' : S} {h : H} {Q : X × S × H → Prop} {D : List Nat} {f : Nat} {args : List LV} {J : LV → H → Prop} (hr : ∃ v h', runI P T f args h = some (v, h') ∧ J v h')
    (hD : ∀ v hh, J v hh → keptD s' h hh D = true) (hk : ∀ v hh, J v hh → Ro P T k (opsKW P (runI P T) ow d s (some (v, hh))) Q) : Ro P T k (opsKW P (runI P T) ow d s (wK D s' h (runI P T f args h))) Q := by
  obtain ⟨v, h', e, hj⟩ := hr
  rw [e, wK_some, if_pos (hD _ _ hj)]; exact hk v h' hj
end Go.LM

namespace Go.LM
/-! ### pages cut off, and with more behind -/
theorem PageR.ok_of {m : Nat} (hm : m ≤ 2000) {x : PageR} (h : okP m x.plain) : x.ok := by
  obtain ⟨h1, h2, h3⟩ := h
  unfold PageR.plain at h1 h2 h3
  simp only [List.length_map] at h2
  refine ⟨h1, by omega, fun p hp => ?_⟩
  obtain ⟨a, b, c⟩ := h3 _ (List.mem_map.2 ⟨p, hp, rfl⟩)
  unfold LaneR.plain at a b c
  exact ⟨a, by simp only at b; omega, c⟩
theorem PageR.of_ok {x : PageR} (h : x.ok) : okP 2000 x.plain := by
  obtain ⟨h1, h2, h3⟩ := h
  refine ⟨h1, by unfold PageR.plain; simp only [List.length_map]; exact h2, fun y hy => ?_⟩
  obtain ⟨p, hp, rfl⟩ := List.mem_map.1 hy
  obtain ⟨a, b, c⟩ := h3 p hp
  exact ⟨a, b, c⟩
theorem pages_read {m : Nat} {l : List PlainP} {more : List Int} (hm : m ≤ 1000000000000) (hl : l.length ≤ m) (hx : ∀ x ∈ l, okP m x) (hb : ∀ c ∈ more, 0 ≤ c ∧ c < 256) :
    eachL pageRd (RS.mark ⟨pagesBP l ++ more, 0, false⟩ magicP) = (l, ⟨pagesBP l ++ more, (pagesBP l).length, false⟩) := by
  have hB : ∀ c ∈ pagesBP l ++ more, 0 ≤ c ∧ c < 256 := by
    intro c hc
    rcases List.mem_append.1 hc with hc | hc
    · exact pagesBP_bytes l c hc
    · exact hb c hc
  have ok0 := rs0_ok hB
  have hsp : pagesBP l ++ more = magicP ++ (many pageBP l ++ more) := by unfold pagesBP; rw [List.append_assoc]
  have e1 : RS.mark ⟨pagesBP l ++ more, 0, false⟩ magicP = ⟨pagesBP l ++ more, magicP.length, false⟩ := by
    have := Reads.mark (s := magicP) (r := ⟨pagesBP l ++ more, 0, false⟩) (rest := many pageBP l ++ more) rfl hsp
    rw [this]; simp
  have ok1 := RS.mark_ok ok0 magicP
  rw [e1] at ok1
  have hd : (pagesBP l ++ more).drop ((magicP.length : Int).toNat) = many pageBP l ++ more := by
    rw [Int.toNat_natCast, hsp, List.drop_left]
  have e2 := Reads.each (one := pageRd) (f := pageBP) (g := id) (l := l) ⟨by omega, by omega⟩ (fun p hp => Reads.page hm (hx p hp)) (fun p _ => by unfold pageBP; rw [chns_cons, List.length_append, List.length_append]; have := chn_pos p.1; omega) ⟨pagesBP l ++ more, magicP.length, false⟩ more ok1 rfl hd
  rw [e1, e2, List.map_id]
  simp only [Prod.mk.injEq, true_and, RS.mk.injEq, and_true]
  unfold pagesBP
  rw [List.length_append]; omega
theorem pages_more {m : Nat} {l : List PlainP} {more : List Int} (hm : m ≤ 1000000000000) (hl : l.length ≤ m) (hx : ∀ x ∈ l, okP m x) (hb : ∀ c ∈ more, 0 ≤ c ∧ c < 256) :
    (pagesRd (pagesBP l ++ more)).isSome = decide (more.length = 0) := by
  unfold pagesRd
  rw [pages_read hm hl hx hb]
  dsimp only
  by_cases h0 : more.length = 0
  · rw [if_pos ⟨rfl, by rw [List.length_append]; omega⟩, decide_eq_true h0]; rfl
  · rw [if_neg (by rw [List.length_append]; omega), decide_eq_false h0]; rfl
theorem pages_cut {m n : Nat} {l : List PlainP} (hm : m ≤ 1000000000000) (hl : l.length ≤ m) (hx : ∀ x ∈ l, okP m x) (hn : n < (pagesBP l).length) (hlen : (pagesBP l).length ≤ 1000000000000) : pagesRd ((pagesBP l).take n) = none := by
  cases h : pagesRd ((pagesBP l).take n) with
  | none => rfl
  | some k =>
    exfalso
    have hb : ∀ c ∈ (pagesBP l).take n, 0 ≤ c ∧ c < 256 := fun c hc => pagesBP_bytes l c (List.mem_of_mem_take hc)
    obtain ⟨h1, h2, h3⟩ := pagesRd_some hb h
    have hlt : ((pagesBP l).take n).length = n := by rw [List.length_take]; omega
    rw [hlt] at h2 h3
    have hsp : pagesBP l = pagesBP k ++ (pagesBP l).drop n := by rw [← h1, List.take_append_drop]
    have a := pages_read (more := []) hm hl hx (by simp)
    have b := pages_read (l := k) (more := (pagesBP l).drop n) (m := n) (by omega) h2 h3 (fun c hc => pagesBP_bytes l c (List.mem_of_mem_drop hc))
    rw [List.append_nil] at a
    rw [← hsp, a] at b
    simp only [Prod.mk.injEq, RS.mk.injEq, true_and, and_true] at b
    have := congrArg List.length h1
    rw [hlt] at this
    omega
end Go.LM

namespace Go.LM
/-! ### jobs, plainly -/
structure ItemR where
  k : Int
  h : Int
  f : Int
  str : Int
  ord : Int
  shr : Int
  n : Int
  deriving DecidableEq
def ItemR.e (x : ItemR) : LV := .agg [.int .i64 x.k, .int .i64 x.h, .int .i64 x.f, .int .i64 x.str, .int .i64 x.ord, .int .i64 x.shr, .int .i64 x.n]
def ItemR.nums (x : ItemR) : List Int := [x.k, x.h, x.f, x.str, x.ord, x.shr, x.n]
abbrev ItemR.ok (x : ItemR) : Prop := ∀ n ∈ x.nums, I64 n
structure GeomR where
  c0 : Int
  c1 : Int
  c2 : Int
  c3 : Int
  c4 : Int
  c5 : Int
  c6 : Int
  c7 : Int
  c8 : Int
  c9 : Int
  c10 : Int
  c11 : Int
  c12 : Int
  c13 : Int
  c14 : Int
  c15 : Int
  c16 : Int
  c17 : Int
  bal : Bool
  deriving DecidableEq
def GeomR.numsA (g : GeomR) : List Int := [g.c0, g.c1, g.c2, g.c3, g.c4, g.c5, g.c6, g.c7, g.c8, g.c9, g.c10]
def GeomR.numsB (g : GeomR) : List Int := [g.c11, g.c12, g.c13, g.c14, g.c15, g.c16, g.c17]
def GeomR.nums (g : GeomR) : List Int := g.numsA ++ g.numsB
def GeomR.cells (g : GeomR) : List LV := [.int .i64 g.c0, .int .i64 g.c1, .int .i64 g.c2, .int .i64 g.c3, .int .i64 g.c4, .int .i64 g.c5, .int .i64 g.c6, .int .i64 g.c7, .int .i64 g.c8, .int .i64 g.c9, .int .i64 g.c10, .int .i64 g.c11, .int .i64 g.c12, .int .i64 g.c13, .int .i64 g.c14, .int .i64 g.c15, .int .i64 g.c16, .int .i64 g.c17, .bool g.bal]
def GeomR.e (g : GeomR) : LV := .agg g.cells
abbrev GeomR.ok (g : GeomR) : Prop := ∀ n ∈ g.nums, I64 n
structure NoteR where
  ol : Option (Nat × Nat)
  lines : List Int
  op : Option (Nat × Nat)
  pens : List Int
def NoteR.e (x : NoteR) : LV := .agg [ints x.ol x.lines, ints x.op x.pens]
def NoteR.plain (x : NoteR) : List Int × List Int := (x.lines, x.pens)
abbrev NoteR.num (x : NoteR) : Prop := (∀ n ∈ x.lines, I64 n) ∧ ∀ n ∈ x.pens, I64 n
structure FloatR where
  c : Int
  h : Int
  w : Int
  deriving DecidableEq
def FloatR.e (x : FloatR) : LV := .agg [.int .i64 x.c, .int .i64 x.h, .int .i64 x.w]
def FloatR.nums (x : FloatR) : List Int := [x.c, x.h, x.w]
abbrev FloatR.ok (x : FloatR) : Prop := ∀ n ∈ x.nums, I64 n
structure JobR where
  g : GeomR
  oi : Option (Nat × Nat)
  items : List ItemR
  on : Option (Nat × Nat)
  notes : List NoteR
  of : Option (Nat × Nat)
  floats : List FloatR
def JobR.cells (j : JobR) : List LV := [.int .i64 j.g.c0, .int .i64 j.g.c1, .int .i64 j.g.c2, .int .i64 j.g.c3, .int .i64 j.g.c4, .int .i64 j.g.c5, .int .i64 j.g.c6, .int .i64 j.g.c7, .int .i64 j.g.c8, .int .i64 j.g.c9, .int .i64 j.g.c10, .int .i64 j.g.c11, .int .i64 j.g.c12, .int .i64 j.g.c13, .int .i64 j.g.c14, .int .i64 j.g.c15, .int .i64 j.g.c16, .int .i64 j.g.c17, .bool j.g.bal, mkS j.oi 7 (j.items.map ItemR.e), mkS j.on 2 (j.notes.map NoteR.e), mkS j.of 3 (j.floats.map FloatR.e)]
def JobR.e (j : JobR) : LV := .agg j.cells
/-- A job without its marks. -/
abbrev PlainJ := GeomR × List ItemR × List (List Int × List Int) × List FloatR
def JobR.plain (j : JobR) : PlainJ := (j.g, j.items, j.notes.map NoteR.plain, j.floats)
def okJ (m : Nat) (j : PlainJ) : Prop := j.1.ok ∧ j.2.1.length ≤ m ∧ (∀ x ∈ j.2.1, x.ok) ∧ j.2.2.1.length ≤ m ∧ (∀ x ∈ j.2.2.1, x.1.length ≤ m ∧ x.2.length ≤ m ∧ (∀ n ∈ x.1, I64 n) ∧ ∀ n ∈ x.2, I64 n) ∧ j.2.2.2.length ≤ m ∧ ∀ x ∈ j.2.2.2, x.ok

/-! ### bare items, and bytes -/
def bareR (x : ItemR) : Bool :=
  if x.k = 1 then x.str == 0 && (x.ord == 0 && (x.shr == 0 && x.n == 0))
  else if x.k = 2 then x.f == 0 && x.n == 0
  else if x.k = 3 ∨ x.k = 4 ∨ x.k = 5 ∨ x.k = 6 then x.h == 0 && (x.f == 0 && (x.str == 0 && (x.ord == 0 && x.shr == 0)))
  else if x.k = 7 then x.h == 0 && (x.f == 0 && (x.str == 0 && (x.ord == 0 && (x.shr == 0 && x.n == 0))))
  else false
def fieldsR (x : ItemR) : List Int := if x.k = 1 then [x.h, x.f] else if x.k = 2 then [x.h, x.str, x.ord, x.shr] else if x.k = 7 then [] else [x.n]
def itemB (x : ItemR) : List Int := chn x.k ++ chns (fieldsR x)
def geomB (g : GeomR) : List Int := chns g.nums ++ [if g.bal = true then 1 else 0]
def noteBP (x : List Int × List Int) : List Int := many chn x.1 ++ many chn x.2
def floatB (x : FloatR) : List Int := chns x.nums
def magicJ : List Int := [84, 89, 77, 49]
def jobBP (j : PlainJ) : List Int := magicJ ++ (geomB j.1 ++ (many itemB j.2.1 ++ (many noteBP j.2.2.1 ++ many floatB j.2.2.2)))
def bareL (l : List ItemR) : Bool := l.all bareR
theorem eqSeq_1 (a : Bool) : eqSeq [some a] = some a := by cases a <;> rfl
theorem eqSeq_2 (a b : Bool) : eqSeq [some a, some b] = some (a && b) := by cases a <;> cases b <;> rfl
theorem eqSeq_3 (a b c : Bool) : eqSeq [some a, some b, some c] = some (a && (b && c)) := by cases a <;> cases b <;> cases c <;> rfl
theorem eqSeq_4 (a b c d : Bool) : eqSeq [some a, some b, some c, some d] = some (a && (b && (c && d))) := by cases a <;> cases b <;> cases c <;> cases d <;> rfl
theorem eqSeq_5 (a b c d e : Bool) : eqSeq [some a, some b, some c, some d, some e] = some (a && (b && (c && (d && e)))) := by cases a <;> cases b <;> cases c <;> cases d <;> cases e <;> rfl
theorem eqSeq_6 (a b c d e f : Bool) : eqSeq [some a, some b, some c, some d, some e, some f] = some (a && (b && (c && (d && (e && f))))) := by cases a <;> cases b <;> cases c <;> cases d <;> cases e <;> cases f <;> rfl
theorem eqSeq_7 (a b c d e f g : Bool) : eqSeq [some a, some b, some c, some d, some e, some f, some g] = some (a && (b && (c && (d && (e && (f && g)))))) := by
  cases a <;> cases b <;> cases c <;> cases d <;> cases e <;> cases f <;> cases g <;> rfl
theorem fieldsR_len (x : ItemR) : (fieldsR x).length ≤ 4 := by
  unfold fieldsR
  split
  · simp
  split
  · simp
  split <;> simp
theorem fieldsR_64 {x : ItemR} (h : x.ok) : ∀ n ∈ fieldsR x, I64 n := by
  intro n hn
  apply h
  unfold fieldsR at hn
  unfold ItemR.nums
  split at hn
  · simp at hn ⊢; rcases hn with rfl | rfl <;> simp
  split at hn
  · simp at hn ⊢; rcases hn with rfl | rfl | rfl | rfl <;> simp
  split at hn
  · cases hn
  · simp at hn ⊢; subst hn; simp
theorem item_k64 {x : ItemR} (h : x.ok) : I64 x.k := h _ (by simp [ItemR.nums])
theorem itemB_len {x : ItemR} (h : x.ok) : (itemB x).length ≤ 50 := by
  unfold itemB
  rw [List.length_append]
  have h1 := chn_len (item_k64 h)
  have h2 := chns_len (fieldsR_64 h)
  have := fieldsR_len x
  omega
theorem itemB_pos (x : ItemR) : 0 < (itemB x).length := by
  unfold itemB; rw [List.length_append]; have := chn_pos x.k; omega
theorem geomB_len {g : GeomR} (h : g.ok) : (geomB g).length ≤ 181 := by
  unfold geomB
  rw [List.length_append]
  have := chns_len (l := g.nums) h
  have e : g.nums.length = 18 := rfl
  rw [e] at this
  simp only [List.length_cons, List.length_nil]
  omega
theorem floatB_len {x : FloatR} (h : x.ok) : (floatB x).length ≤ 30 := by
  have := chns_len (l := x.nums) h
  have e : x.nums.length = 3 := rfl
  unfold floatB; omega
theorem floatB_pos (x : FloatR) : 0 < (floatB x).length := by
  unfold floatB FloatR.nums; rw [chns_cons, List.length_append]; have := chn_pos x.c; omega
theorem many_pos {α : Type} (f : α → List Int) (l : List α) : 0 < (many f l).length := by
  unfold many; rw [List.length_append]; have := chn_pos (l.length : Int); omega
theorem noteBP_pos (x : List Int × List Int) : 0 < (noteBP x).length := by
  unfold noteBP; rw [List.length_append]; have := many_pos chn x.1; omega
theorem many_chn_len {l : List Int} {m : Nat} (hl : l.length ≤ m) (hm : m ≤ 100000000000) (h : ∀ n ∈ l, I64 n) : (many chn l).length ≤ 10 + 10 * m := by
  have := many_len (f := chn) (l := l) (k := 10) ⟨by omega, by omega⟩ (fun n hn => chn_len (h n hn))
  omega
theorem noteBP_len {x : List Int × List Int} {m : Nat} (h1 : x.1.length ≤ m) (h2 : x.2.length ≤ m) (hm : m ≤ 100000000000) (h3 : ∀ n ∈ x.1, I64 n) (h4 : ∀ n ∈ x.2, I64 n) : (noteBP x).length ≤ 20 + 20 * m := by
  unfold noteBP
  rw [List.length_append]
  have a := many_chn_len h1 hm h3
  have b := many_chn_len h2 hm h4
  omega
theorem jobBP_len {j : PlainJ} (h : okJ 2000 j) : (jobBP j).length ≤ 1000000000 := by
  obtain ⟨h1, h2, h3, h4, h5, h6, h7⟩ := h
  unfold jobBP
  simp only [List.length_append]
  have a := geomB_len h1
  have b := many_len (f := itemB) (l := j.2.1) (k := 50) ⟨by omega, by omega⟩ (fun x hx => itemB_len (h3 x hx))
  have c := many_len (f := noteBP) (l := j.2.2.1) (k := 40020) ⟨by omega, by omega⟩ (fun x hx => by
    obtain ⟨p, q, r, s⟩ := h5 x hx
    have := noteBP_len p q (by decide) r s
    omega)
  have d := many_len (f := floatB) (l := j.2.2.2) (k := 30) ⟨by omega, by omega⟩ (fun x hx => floatB_len (h7 x hx))
  have e : magicJ.length = 4 := rfl
  omega
end Go.LM

namespace Go.LM
/-! ### any list gathered on a row of its own -/
structure AccN (h0 : H) (o : Option (Nat × Nat)) (n : Nat) (h : H) : Prop where
  tok : okTok o n h
  new : newTok o h0
  keep : Keep h0 h
  wf : WF h
theorem AccN.start {h0 h : H} (k : Keep h0 h) (w : WF h) : AccN h0 none 0 h := ⟨rfl, trivial, k, w⟩
theorem AccN.fresh {h0 h : H} (k : Keep h0 h) (w : WF h) (n : Nat) : AccN h0 (some (h.rlen, n)) n (h.nrow n) := by
  have := w.2.1
  have := w.2.2
  exact ⟨⟨by omega, by rw [lor_nrow]; omega, by rw [rlen_nrow]; omega, by rw [rget_nrow_eq]⟩, k.rlen, k.nrow _, wf_nrow w⟩
theorem AccN.next {h0 : H} {o : Option (Nat × Nat)} {n : Nat} {h h' : H} (a : AccN h0 o n h) (k : Keep h h') : AccN h0 o n h' := ⟨okTok_keep k a.tok, a.new, a.keep.trans k, a.wf.keep k⟩
theorem AccN.app {h0 : H} {o : Option (Nat × Nat)} {sz by_ : Nat} {xs : List LV} {h : H} (a : AccN h0 o xs.length h) (ys : List LV) (hb : (2 * (xs.length + ys.length) + 192) * by_ ≤ 2 ^ 48) :
    ∃ o' h', appS sz by_ (mkS o sz xs) h (some ys) = some (mkS o' sz (xs ++ ys), h') ∧ AccN h0 o' (xs ++ ys).length h' ∧ (∀ c, h'.get c = h.get c) ∧ h'.len = h.len ∧ h'.lob = h.lob := by
  have t2 := okTok_ap (m := ys.length) a.wf a.tok
  exact ⟨_, _, append_mk a.tok hb, ⟨by rw [List.length_append]; exact t2, newTok_ap a.keep a.new, keep_ap a.keep a.new, wf_ap a.wf⟩, fun c => get_ap c, len_ap, lob_ap⟩
theorem AccN.appI {h0 : H} {o : Option (Nat × Nat)} {by_ : Nat} {l : List Int} {h : H} (a : AccN h0 o l.length h) (ys : List Int) (hb : (2 * (l.length + ys.length) + 192) * by_ ≤ 2 ^ 48) :
    ∃ o' h', appS 1 by_ (ints o l) h (some (ys.map (LV.int .i64))) = some (ints o' (l ++ ys), h') ∧ AccN h0 o' (l ++ ys).length h' ∧ (∀ c, h'.get c = h.get c) ∧ h'.len = h.len ∧ h'.lob = h.lob := by
  obtain ⟨o', h', h1, h2, h3⟩ := AccN.app (sz := 1) (by_ := by_) (xs := l.map (LV.int .i64)) (h := h) (h0 := h0) (o := o) (by rw [List.length_map]; exact a) (ys.map (LV.int .i64)) (by rw [List.length_map, List.length_map]; exact hb)
  rw [← List.map_append] at h1 h2
  rw [List.length_map] at h2
  exact ⟨o', h', h1, h2, h3⟩
theorem acc_of {h0 : H} {o : Option (Nat × Nat)} {pre : List Int} {h : H} (a : Acc h0 o pre h) : AccN h0 o pre.length h := ⟨a.tok, a.new, a.keep, a.wf⟩
theorem of_acc {h0 : H} {o : Option (Nat × Nat)} {pre : List Int} {h : H} (a : AccN h0 o pre.length h) : Acc h0 o pre h := ⟨a.tok, a.new, a.keep, a.wf⟩
theorem take_succ {α : Type} {l : List α} {i : Nat} {x : α} (hx : l[i]? = some x) : l.take (i + 1) = l.take i ++ [x] := by
  obtain ⟨hlt, rfl⟩ := List.getElem?_eq_some_iff.1 hx
  rw [← List.take_append_getElem hlt]
end Go.LM
