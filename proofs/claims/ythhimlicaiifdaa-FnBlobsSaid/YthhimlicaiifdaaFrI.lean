/- Frames: a place struck and set. -/
import Derived.Test.YthhimlicaiifdaaFrG
namespace Fb
namespace Fr
def strike (f : Fr) (x y : Nat) : Fr := f.set y (f.row y &&& ~~~(1#16 <<< x))
theorem dot_strike (f : Fr) {x y : Nat} (hx : x < 16) (hy : y < 12) (u v : Nat) : (f.strike x y).dot u v = (f.dot u v && !(decide (u = x) && decide (v = y))) := by
  unfold dot strike
  rw [row_set _ _ _ _ hy]
  by_cases hv : v = y
  · subst hv
    rw [if_pos rfl, BitVec.getLsbD_and, BitVec.getLsbD_not]
    by_cases hu16 : u < 16
    · have h1 : ((1#16 : Row) <<< x).getLsbD u = decide (u = x) := by
        rw [BitVec.getLsbD_shiftLeft, BitVec.getLsbD_one]
        by_cases e : u = x
        · subst e; simp [hu16]
        · simp [e]; omega
      rw [h1]; simp [hu16]
    · have hge : 16 ≤ u := by omega
      rw [BitVec.getLsbD_of_ge _ _ hge]; simp
  · rw [if_neg hv]; simp [hv]
theorem ok_strike {f : Fr} (h : f.ok = true) {x y : Nat} (hx : x < 12) (hy : y < 12) : (f.strike x y).ok = true := ok_of_dot fun u v hu _ => by
  rw [dot_strike f (by omega) hy, ok_dot h hu]; rfl
theorem has_struck {f : Fr} {x y : Nat} (hx : x < 12) (hy : y < 12) : (f.strike x y).has (x : Int) (y : Int) = false := by
  rw [has_nat, dot_strike f (by omega) hy]; simp
theorem has_set {f : Fr} {x y : Nat} (hx : x < 12) (hy : y < 12) : ((f.strike x y).put x y).has (x : Int) (y : Int) = true := by
  rw [has_nat, dot_put _ (by omega) hy]; simp [hx, hy]
theorem dot_struck {f : Fr} {x y : Nat} (hx : x < 12) (hy : y < 12) : (f.strike x y).dot x y = false := by
  rw [dot_strike f (by omega) hy]; simp
theorem dots_one_len : ∀ x, x < 12 → ∀ y, y < 12 → (places.filter fun p => decide (p.1 = x) && decide (p.2 = y)).length = 1 := by decide +kernel
theorem jump_set {f : Fr} {x y : Nat} (hx : x < 12) (hy : y < 12) : ((jump f ((f.strike x y).put x y) : Nat) : Int) = 1 - (if (f.row y).getLsbD x then 1 else 0) := by
  have hd : ∀ u v, (f.differ ((f.strike x y).put x y)).dot u v = (decide (u = x) && decide (v = y) && !f.dot x y) := by
    intro u v
    rw [dot_differ, dot_put _ (by omega) hy, dot_strike f (by omega) hy]
    by_cases e : u = x ∧ v = y
    · obtain ⟨rfl, rfl⟩ := e
      cases f.dot u v <;> simp
    · have e' : (decide (u = x) && decide (v = y)) = false := by simpa using e
      rw [e']; cases f.dot u v <;> simp
  have hj : jump f ((f.strike x y).put x y) = if f.dot x y then 0 else 1 := by
    unfold jump cnt dots
    simp only [hd]
    cases f.dot x y with
    | true => simp
    | false => simpa using dots_one_len x hx y hy
  have hdd : f.dot x y = (f.row y).getLsbD x := rfl
  rw [hj, hdd]
  cases (f.row y).getLsbD x <;> rfl
end Fr
end Fb
