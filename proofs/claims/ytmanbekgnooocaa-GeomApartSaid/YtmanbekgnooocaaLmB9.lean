import Derived.Test.YtmanbekgnooocaaLmB7
namespace Go.LM
/-! ### geometry, plainly -/
structure Geo where
  cols : Int
  wide : Int
  gap : Int
  high : Int
  first : Int
  grid : Int
  rule : Int
  sep : Int
  noteMost : Int
  topMost : Int
  botMost : Int
  topMany : Int
  botMany : Int
  club : Int
  widow : Int
  split : Int
  defer_ : Int
  spare : Int
  balance : Bool
def Geo.e (g : Geo) : LV := .agg [.int .i64 g.cols, .int .i64 g.wide, .int .i64 g.gap, .int .i64 g.high, .int .i64 g.first, .int .i64 g.grid, .int .i64 g.rule, .int .i64 g.sep, .int .i64 g.noteMost, .int .i64 g.topMost, .int .i64 g.botMost,
  .int .i64 g.topMany, .int .i64 g.botMany, .int .i64 g.club, .int .i64 g.widow, .int .i64 g.split, .int .i64 g.defer_, .int .i64 g.spare, .bool g.balance]
def in1 (lo hi x : Int) : Bool := decide (lo ≤ x) && decide (x ≤ hi)
def inR (lo hi : Int) : List Int → Bool
  | [] => true
  | x :: l => in1 lo hi x && inR lo hi l
theorem inR_all {lo hi : Int} : ∀ {l : List Int}, inR lo hi l = true ↔ ∀ x ∈ l, lo ≤ x ∧ x ≤ hi
  | [] => by simp [inR]
  | x :: l => by simp [inR, in1, inR_all (l := l)]
abbrev geoBad (g : Geo) : Prop :=
  g.wide < 1 ∨ 1073741823 < g.wide ∨ g.high < 1 ∨ 1073741823 < g.high ∨ g.first < 1 ∨ 1073741823 < g.first ∨
  g.gap < 0 ∨ 1073741823 < g.gap ∨ g.rule < 0 ∨ 536870912 < g.rule ∨ g.sep < 0 ∨ 536870912 < g.sep ∨ g.noteMost < 0 ∨ 1073741823 < g.noteMost ∨
  g.topMost < 0 ∨ 1073741823 < g.topMost ∨ g.botMost < 0 ∨ 1073741823 < g.botMost ∨ g.grid < 0 ∨ 536870912 < g.grid ∨
  g.topMany < 0 ∨ 4 < g.topMany ∨ g.botMany < 0 ∨ 4 < g.botMany ∨ g.club < 0 ∨ 1048576 < g.club ∨ g.widow < 0 ∨ 1048576 < g.widow ∨ g.split < 0 ∨ 1048576 < g.split ∨
  g.defer_ < 0 ∨ 1048576 < g.defer_ ∨ g.spare < 0 ∨ 1048576 < g.spare ∨ g.high < g.first ∨ g.first < g.grid
def geoCheck (g : Geo) : Int := if g.cols < 1 ∨ 8 < g.cols then 6 else if geoBad g then 7 else 0
theorem lt_of_get {h : H} {b : Nat} {B : Box} (hb : h.get b = some B) : b < h.len := (List.getElem?_eq_some_iff.1 hb).1
def intsOf : List LV → Option (List Int)
  | [] => some []
  | .int .i64 n :: l => (intsOf l).map (n :: ·)
  | _ => none
def consM (n : Int) : Option (List Int) → Option (List Int)
  | some l => some (n :: l)
  | none => none
theorem intsOf_nil : intsOf [] = some [] := rfl
theorem intsOf_cons (n : Int) (l : List LV) : intsOf (.int .i64 n :: l) = consM n (intsOf l) := by simp only [intsOf, consM]; cases intsOf l <;> rfl
theorem consM_some (n : Int) (l : List Int) : consM n (some l) = some (n :: l) := rfl
theorem intsOf_map : ∀ {xs : List LV} {l : List Int}, intsOf xs = some l → xs = l.map (LV.int .i64)
  | [], l, h => by simp only [intsOf] at h; cases h; rfl
  | x :: xs, l, h => by
    unfold intsOf at h
    split at h
    · rename_i he; cases he
    · rename_i n l' he
      cases he
      rw [Option.map_eq_some_iff] at h
      obtain ⟨m, h1, rfl⟩ := h
      rw [intsOf_map h1]; rfl
    · cases h
/-- Does it lie between, if the bounds are known? -/
def inK (r : Option (LV × H)) (h' : H) : Option (List Int) → Option Box → Option Box → Option (LV × H)
  | some l, some ⟨_, [.int .i64 lo]⟩, some ⟨_, [.int .i64 hi]⟩ => if l.length ≤ 100000 then some (.bool (inR lo hi l), h') else r
  | _, _, _ => r
theorem inK_some (r : Option (LV × H)) (h' : H) (l : List Int) (ra rb : Bool) (lo hi : Int) : inK r h' (some l) (some ⟨ra, [.int .i64 lo]⟩) (some ⟨rb, [.int .i64 hi]⟩) = if l.length ≤ 100000 then some (.bool (inR lo hi l), h') else r := rfl
noncomputable def runX (P : Program) (T : Nat → Option LV) : Callee' := runI P T
theorem inR_nil (lo hi : Int) : inR lo hi [] = true := rfl
theorem inR_cons (lo hi x : Int) (l : List Int) : inR lo hi (x :: l) = (in1 lo hi x && inR lo hi l) := rfl
end Go.LM
