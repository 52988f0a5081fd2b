/- Frames: the least box. -/
import Derived.Test.YthhimlicaiifdaaFrF
namespace Fb
namespace Fr

def westOf (l : List (Nat × Nat)) (m : Nat) : Nat := l.foldl (fun m p => min m p.1) m
def eastOf (l : List (Nat × Nat)) (m : Nat) : Nat := l.foldl (fun m p => max m p.1) m
theorem westOf_le : ∀ (l : List (Nat × Nat)) (m : Nat), westOf l m ≤ m ∧ ∀ p, p ∈ l → westOf l m ≤ p.1
  | [], m => ⟨Nat.le_refl _, fun p h => by cases h⟩
  | q :: l, m => by
    obtain ⟨h1, h2⟩ := westOf_le l (min m q.1)
    have e : westOf (q :: l) m = westOf l (min m q.1) := rfl
    refine ⟨by omega, fun p hp => ?_⟩
    rcases List.mem_cons.1 hp with rfl | hp
    · omega
    · rw [e]; exact h2 p hp
theorem eastOf_le : ∀ (l : List (Nat × Nat)) (m : Nat), m ≤ eastOf l m ∧ ∀ p, p ∈ l → p.1 ≤ eastOf l m
  | [], m => ⟨Nat.le_refl _, fun p h => by cases h⟩
  | q :: l, m => by
    obtain ⟨h1, h2⟩ := eastOf_le l (max m q.1)
    have e : eastOf (q :: l) m = eastOf l (max m q.1) := rfl
    refine ⟨by omega, fun p hp => ?_⟩
    rcases List.mem_cons.1 hp with rfl | hp
    · omega
    · rw [e]; exact h2 p hp
theorem eastOf_mem : ∀ (l : List (Nat × Nat)) (m : Nat), eastOf l m = m ∨ ∃ p, p ∈ l ∧ p.1 = eastOf l m
  | [], m => .inl rfl
  | q :: l, m => by
    have e : eastOf (q :: l) m = eastOf l (max m q.1) := rfl
    rcases eastOf_mem l (max m q.1) with h | ⟨p, hp, h⟩
    · by_cases hm : q.1 ≤ m
      · left; rw [e, h]; omega
      · right; exact ⟨q, List.mem_cons_self, by rw [e, h]; omega⟩
    · right; exact ⟨p, List.mem_cons_of_mem _ hp, by rw [e, h]⟩
theorem westOf_snoc (l : List (Nat × Nat)) (m : Nat) (p : Nat × Nat) : westOf (l ++ [p]) m = min (westOf l m) p.1 := by unfold westOf; rw [List.foldl_append]; rfl
theorem eastOf_snoc (l : List (Nat × Nat)) (m : Nat) (p : Nat × Nat) : eastOf (l ++ [p]) m = max (eastOf l m) p.1 := by unfold eastOf; rw [List.foldl_append]; rfl

def west (f : Fr) : Nat := westOf f.dots 12
def east (f : Fr) : Nat := eastOf f.dots 0
def north (f : Fr) : Nat := match f.dots with | [] => 0 | p :: _ => p.2
def south (f : Fr) : Nat := match f.dots.getLast? with | none => 0 | some p => p.2

theorem pairwise_places : places.Pairwise fun p q => p.2 ≤ q.2 := by decide +kernel
theorem pairwise_dots (f : Fr) : f.dots.Pairwise fun p q => p.2 ≤ q.2 := List.Pairwise.filter _ pairwise_places

theorem dots_west (f : Fr) {p0 : Nat × Nat} {rest : List (Nat × Nat)} (h : f.dots = p0 :: rest) : westOf f.dots p0.1 = f.west ∧ eastOf f.dots p0.1 = f.east := by
  have hm : p0 ∈ f.dots := by rw [h]; exact List.mem_cons_self
  obtain ⟨x, y⟩ := p0
  have hx := (mem_dots f x y).1 hm
  unfold west east westOf eastOf
  rw [h]
  simp only [List.foldl_cons]
  have h1 : min x x = x := Nat.min_self x
  have h2 : min 12 x = x := Nat.min_eq_right (by omega)
  have h3 : max x x = x := Nat.max_self x
  have h4 : max 0 x = x := Nat.max_eq_right (by omega)
  rw [h1, h2, h3, h4]
  exact ⟨rfl, rfl⟩

theorem in_box {f : Fr} {x y : Nat} (hx : x < 12) (hy : y < 12) (hd : f.dot x y = true) : f.west ≤ x ∧ x ≤ f.east ∧ f.north ≤ y ∧ y ≤ f.south := by
  have hm : (x, y) ∈ f.dots := (mem_dots f x y).2 ⟨hx, hy, hd⟩
  refine ⟨(westOf_le f.dots 12).2 _ hm, (eastOf_le f.dots 0).2 _ hm, ?_, ?_⟩
  · unfold north
    have hp := pairwise_dots f
    cases hl : f.dots with
    | nil => rw [hl] at hm; cases hm
    | cons q l =>
      rw [hl] at hm hp
      rcases List.mem_cons.1 hm with h | h
      · rw [← h]; exact Nat.le_refl _
      · exact (List.pairwise_cons.1 hp).1 _ h
  · unfold south
    have hp := pairwise_dots f
    cases hl : f.dots.getLast? with
    | none => rw [List.getLast?_eq_none_iff] at hl; rw [hl] at hm; cases hm
    | some q =>
      obtain ⟨ys, hy'⟩ := List.getLast?_eq_some_iff.1 hl
      rw [hy'] at hm hp
      rcases List.mem_append.1 hm with h | h
      · exact (List.pairwise_append.1 hp).2.2 _ h q (by simp)
      · simp at h; rw [← h]; exact Nat.le_refl _

theorem box_bd {f : Fr} (hne : f.dots ≠ []) : f.west ≤ f.east ∧ f.east < 12 ∧ f.north ≤ f.south ∧ f.south < 12 := by
  cases hl : f.dots with
  | nil => exact absurd hl hne
  | cons q l =>
    obtain ⟨x, y⟩ := q
    have hm : (x, y) ∈ f.dots := by rw [hl]; exact List.mem_cons_self
    have hd := (mem_dots f x y).1 hm
    have hb := in_box hd.1 hd.2.1 hd.2.2
    refine ⟨by omega, ?_, by omega, ?_⟩
    · rcases eastOf_mem f.dots 0 with h | ⟨p, hp, h⟩
      · unfold east; omega
      · have := (mem_dots f p.1 p.2).1 hp
        unfold east; omega
    · unfold south
      cases hq : f.dots.getLast? with
      | none => simp
      | some q =>
        have hm' : q ∈ f.dots := List.mem_of_getLast? hq
        have := (mem_dots f q.1 q.2).1 hm'
        exact this.2.1

/-- What lies within a box. -/
def cut (f : Fr) (x y wide high : Int) : Fr := ofHas fun u v => f.has u v && decide (x ≤ u ∧ u ≤ x + wide - 1) && decide (y ≤ v ∧ v ≤ y + high - 1)
theorem ok_cut (f : Fr) (x y wide high : Int) : (f.cut x y wide high).ok = true := ok_ofHas _
theorem has_cut (f : Fr) (x y wide high u v : Int) : (f.cut x y wide high).has u v = (f.has u v && decide (x ≤ u ∧ u ≤ x + wide - 1) && decide (y ≤ v ∧ v ≤ y + high - 1)) := by
  unfold cut
  rw [has_ofHas]
  by_cases h : 0 ≤ u ∧ u < 12 ∧ 0 ≤ v ∧ v < 12
  · rw [decide_eq_true h, Bool.true_and]
  · rw [has_out f h]; simp
theorem cut_box {f : Fr} (hf : f.ok = true) : f.cut f.west f.north ((f.east : Int) - f.west + 1) ((f.south : Int) - f.north + 1) = f := by
  apply ext_has (ok_cut _ _ _ _ _) hf
  intro u v h1 h2 h3 h4
  rw [has_cut]
  cases hq : f.has u v with
  | false => rfl
  | true =>
    have hd := dot_of_has hq
    have hb := in_box (f := f) (x := u.toNat) (y := v.toNat) (by omega) (by omega) hd
    have e1 : (f.west : Int) ≤ u ∧ u ≤ f.west + ((f.east : Int) - f.west + 1) - 1 := by omega
    have e2 : (f.north : Int) ≤ v ∧ v ≤ f.north + ((f.south : Int) - f.north + 1) - 1 := by omega
    rw [decide_eq_true e1, decide_eq_true e2]; rfl
theorem cut_less {f : Fr} (hne : f.dots ≠ []) (hw : (f.west : Int) < f.east) : f.cut f.west f.north ((f.east : Int) - f.west) ((f.south : Int) - f.north + 1) ≠ f := by
  intro e
  have hbd := box_bd hne
  rcases eastOf_mem f.dots 0 with h | ⟨p, hp, h⟩
  · have : f.east = 0 := h
    omega
  · obtain ⟨x, y⟩ := p
    have hd := (mem_dots f x y).1 hp
    have h1 : f.has (x : Int) (y : Int) = true := by rw [has_nat]; simp [hd.1, hd.2.1, hd.2.2]
    have h2 := congrArg (fun g : Fr => g.has (x : Int) (y : Int)) e
    simp only [has_cut, h1, Bool.true_and] at h2
    have h3 : x = f.east := h
    have h4 : ¬ ((f.west : Int) ≤ (x : Int) ∧ (x : Int) ≤ f.west + ((f.east : Int) - f.west) - 1) := by omega
    rw [decide_eq_false h4] at h2
    simp at h2
end Fr
end Fb
