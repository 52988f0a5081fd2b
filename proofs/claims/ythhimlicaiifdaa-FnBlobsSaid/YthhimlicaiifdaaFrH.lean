/- Frames: grown and shrunk dot by dot. -/
import Derived.Test.YthhimlicaiifdaaFrG
namespace Fb
namespace Fr

/-- The four places beside a dot are put. -/
def put4 (h : Fr) (p : Nat × Nat) : Fr := (((h.putI ((p.1 : Int) - 1) p.2).putI ((p.1 : Int) + 1) p.2).putI p.1 ((p.2 : Int) - 1)).putI p.1 ((p.2 : Int) + 1)
theorem has_put4 (h : Fr) (p : Nat × Nat) (u v : Int) : (put4 h p).has u v = true ↔ h.has u v = true ∨ (place u v ∧ ((u = (p.1 : Int) - 1 ∧ v = p.2) ∨ (u = (p.1 : Int) + 1 ∧ v = p.2) ∨ (u = p.1 ∧ v = (p.2 : Int) - 1) ∨ (u = p.1 ∧ v = (p.2 : Int) + 1))) := by
  unfold put4 place
  simp only [has_putI, Bool.or_eq_true, Bool.and_eq_true, decide_eq_true_eq]
  by_cases hA : h.has u v = true
  · simp only [hA, true_or]
  · simp only [hA, Bool.false_eq_true, false_or]
    omega
theorem ok_put4 {h : Fr} (hh : h.ok = true) (p : Nat × Nat) : (put4 h p).ok = true := ok_putI (ok_putI (ok_putI (ok_putI hh _ _) _ _) _ _) _ _
def growTo (f : Fr) (l : List (Nat × Nat)) (k : Nat) : Fr := (l.take k).foldl put4 f
theorem growTo_zero (f : Fr) (l : List (Nat × Nat)) : growTo f l 0 = f := rfl
theorem growTo_succ (f : Fr) (l : List (Nat × Nat)) (k : Nat) (p : Nat × Nat) (h : l[k]? = some p) : put4 (growTo f l k) p = growTo f l (k + 1) := by
  unfold growTo; rw [List.take_add_one, h, List.foldl_append]; rfl
theorem has_foldl_put4 : ∀ (l : List (Nat × Nat)) (h : Fr) (u v : Int), (l.foldl put4 h).has u v = true ↔ h.has u v = true ∨ ∃ p, p ∈ l ∧ place u v ∧ ((u = (p.1 : Int) - 1 ∧ v = p.2) ∨ (u = (p.1 : Int) + 1 ∧ v = p.2) ∨ (u = p.1 ∧ v = (p.2 : Int) - 1) ∨ (u = p.1 ∧ v = (p.2 : Int) + 1))
  | [], h, u, v => by simp
  | p :: l, h, u, v => by
    rw [List.foldl_cons, has_foldl_put4 l, has_put4]
    constructor
    · rintro ((h | h) | ⟨q, hq, h⟩)
      · exact .inl h
      · exact .inr ⟨p, List.mem_cons_self, h⟩
      · exact .inr ⟨q, List.mem_cons_of_mem _ hq, h⟩
    · rintro (h | ⟨q, hq, h⟩)
      · exact .inl (.inl h)
      · rcases List.mem_cons.1 hq with rfl | hq
        · exact .inl (.inr h)
        · exact .inr ⟨q, hq, h⟩
theorem ok_foldl_put4 : ∀ (l : List (Nat × Nat)) {h : Fr}, h.ok = true → (l.foldl put4 h).ok = true
  | [], _, hh => hh
  | p :: l, _, hh => ok_foldl_put4 l (ok_put4 hh p)
theorem growTo_all {f : Fr} (hf : f.ok = true) : growTo f f.dots f.dots.length = f.grow := by
  unfold growTo
  rw [List.take_length]
  apply ext_has (ok_foldl_put4 _ hf) (ok_grow f)
  intro u v h1 h2 h3 h4
  rw [Bool.eq_iff_iff, has_foldl_put4, has_grow]
  have hp : place u v := ⟨h1, h2, h3, h4⟩
  constructor
  · rintro (h | ⟨⟨x, y⟩, hm, _, h⟩)
    · exact ⟨hp, u, v, near_refl u v, h⟩
    · have hd := (mem_dots f x y).1 hm
      refine ⟨hp, x, y, ?_, by rw [has_nat]; simp [hd.1, hd.2.1, hd.2.2]⟩
      unfold near
      simp only at h
      omega
  · rintro ⟨_, a, b, hn, hh⟩
    have hab := place_of_has hh
    unfold place at hab
    by_cases e : a = u ∧ b = v
    · obtain ⟨rfl, rfl⟩ := e; exact .inl hh
    · right
      refine ⟨(a.toNat, b.toNat), (mem_dots f _ _).2 ⟨by omega, by omega, dot_of_has hh⟩, hp, ?_⟩
      unfold near at hn
      simp only
      omega

/-! ### Shrunk, dot by dot -/
def sideX (x : Int) : Nat → Int | 0 => x - 1 | 1 => x + 1 | _ => x
def sideY (y : Int) : Nat → Int | 2 => y - 1 | 3 => y + 1 | _ => y
def plc (x y : Int) : Bool := decide (0 ≤ x ∧ x < 12 ∧ 0 ≤ y ∧ y < 12)
/-- The first sides are full. -/
def fullTo (f : Fr) (x y : Int) : Nat → Bool
  | 0 => true
  | j + 1 => fullTo f x y j && !(plc (sideX x j) (sideY y j) && !f.has (sideX x j) (sideY y j))
theorem full_iff (f : Fr) (x y : Int) (h : place x y) : fullTo f x y 4 = true ↔ ((x + 1 = 12 ∨ f.has (x + 1) y = true) ∧ (x = 0 ∨ f.has (x - 1) y = true) ∧ (y + 1 = 12 ∨ f.has x (y + 1) = true) ∧ (y = 0 ∨ f.has x (y - 1) = true)) := by
  unfold place at h
  simp only [fullTo, sideX, sideY, plc, Bool.and_eq_true, Bool.not_eq_true', Bool.and_eq_false_iff, Bool.not_eq_false', decide_eq_false_iff_not, true_and, and_assoc]
  have e1 : ¬ (0 ≤ x - 1 ∧ x - 1 < 12 ∧ 0 ≤ y ∧ y < 12) ↔ x = 0 := by omega
  have e2 : ¬ (0 ≤ x + 1 ∧ x + 1 < 12 ∧ 0 ≤ y ∧ y < 12) ↔ x + 1 = 12 := by omega
  have e3 : ¬ (0 ≤ x ∧ x < 12 ∧ 0 ≤ y - 1 ∧ y - 1 < 12) ↔ y = 0 := by omega
  have e4 : ¬ (0 ≤ x ∧ x < 12 ∧ 0 ≤ y + 1 ∧ y + 1 < 12) ↔ y + 1 = 12 := by omega
  rw [e1, e2, e3, e4]
  constructor
  · rintro ⟨a, b, c, d⟩; exact ⟨b, a, d, c⟩
  · rintro ⟨a, b, c, d⟩; exact ⟨b, a, d, c⟩
def shrStep (f : Fr) (h : Fr) (p : Nat × Nat) : Fr := if fullTo f p.1 p.2 4 then h.putI p.1 p.2 else h
def shrTo (f : Fr) (l : List (Nat × Nat)) (k : Nat) : Fr := (l.take k).foldl (shrStep f) zero
theorem shrTo_zero (f : Fr) (l : List (Nat × Nat)) : shrTo f l 0 = zero := rfl
theorem shrTo_succ (f : Fr) (l : List (Nat × Nat)) (k : Nat) (p : Nat × Nat) (h : l[k]? = some p) : shrStep f (shrTo f l k) p = shrTo f l (k + 1) := by
  unfold shrTo; rw [List.take_add_one, h, List.foldl_append]; rfl
theorem ok_shrStep {f h : Fr} (hh : h.ok = true) (p : Nat × Nat) : (shrStep f h p).ok = true := by
  unfold shrStep
  split
  · exact ok_putI hh _ _
  · exact hh
theorem ok_foldl_shr (f : Fr) : ∀ (l : List (Nat × Nat)) {h : Fr}, h.ok = true → (l.foldl (shrStep f) h).ok = true
  | [], _, hh => hh
  | p :: l, _, hh => ok_foldl_shr f l (ok_shrStep hh p)
theorem has_foldl_shr (f : Fr) : ∀ (l : List (Nat × Nat)) (h : Fr) (u v : Int), (l.foldl (shrStep f) h).has u v = true ↔ h.has u v = true ∨ ∃ p, p ∈ l ∧ fullTo f p.1 p.2 4 = true ∧ (u = (p.1 : Int) ∧ v = p.2) ∧ place p.1 p.2
  | [], h, u, v => by simp
  | p :: l, h, u, v => by
    have key : (shrStep f h p).has u v = true ↔ h.has u v = true ∨ (fullTo f p.1 p.2 4 = true ∧ (u = (p.1 : Int) ∧ v = p.2) ∧ place p.1 p.2) := by
      unfold shrStep place
      split
      · rename_i hq
        rw [has_putI]
        simp only [Bool.or_eq_true, Bool.and_eq_true, decide_eq_true_eq, hq, true_and]
      · rename_i hq
        simp [hq]
    rw [List.foldl_cons, has_foldl_shr f l, key]
    constructor
    · rintro ((h | h) | ⟨q, hq, h⟩)
      · exact .inl h
      · exact .inr ⟨p, List.mem_cons_self, h⟩
      · exact .inr ⟨q, List.mem_cons_of_mem _ hq, h⟩
    · rintro (h | ⟨q, hq, h⟩)
      · exact .inl (.inl h)
      · rcases List.mem_cons.1 hq with rfl | hq
        · exact .inl (.inr h)
        · exact .inr ⟨q, hq, h⟩
theorem shrTo_all (f : Fr) : shrTo f f.dots f.dots.length = f.shrink := by
  unfold shrTo
  rw [List.take_length]
  apply ext_has (ok_foldl_shr f _ ok_zero) (ok_shrink f)
  intro u v h1 h2 h3 h4
  have hp : place u v := ⟨h1, h2, h3, h4⟩
  rw [Bool.eq_iff_iff, has_foldl_shr, has_zero]
  have hs : f.shrink.has u v = true ↔ f.has u v = true ∧ fullTo f u v 4 = true := by
    rw [full_iff f u v hp]
    unfold shrink
    rw [has_ofHas]
    simp only [Bool.and_eq_true, Bool.or_eq_true, decide_eq_true_eq]
    constructor
    · rintro ⟨_, ⟨⟨⟨a, b⟩, c⟩, d⟩, e⟩; exact ⟨a, b, c, d, e⟩
    · rintro ⟨a, b, c, d, e⟩; exact ⟨⟨h1, h2, h3, h4⟩, ⟨⟨⟨a, b⟩, c⟩, d⟩, e⟩
  rw [hs]
  constructor
  · rintro (h | ⟨⟨x, y⟩, hm, hfull, ⟨rfl, rfl⟩, _⟩)
    · cases h
    · have hd := (mem_dots f x y).1 hm
      exact ⟨by rw [has_nat]; simp [hd.1, hd.2.1, hd.2.2], hfull⟩
  · rintro ⟨hh, hfull⟩
    right
    have e1 : ((u.toNat : Nat) : Int) = u := by omega
    have e2 : ((v.toNat : Nat) : Int) = v := by omega
    exact ⟨(u.toNat, v.toNat), (mem_dots f _ _).2 ⟨by omega, by omega, dot_of_has hh⟩, by rw [e1, e2]; exact hfull, ⟨e1.symm, e2.symm⟩, by rw [e1, e2]; exact hp⟩
end Fr
end Fb
