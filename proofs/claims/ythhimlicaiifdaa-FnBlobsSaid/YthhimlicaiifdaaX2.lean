import Derived.Test.YthhimlicaiifdaaK1
import Derived.Deep.QuietTactic
import Derived.BigQuiet
set_option maxRecDepth 100000
namespace Go.Proofs.Ythhimlicaiifdaa
open Go.RowKit Fb

def inR (n lo hi : Int) : Bool := decide (lo ≤ n ∧ n ≤ hi)
theorem inR_t {n lo hi : Int} (h1 : lo ≤ n) (h2 : n ≤ hi) : inR n lo hi = true := by simp [inR, h1, h2]
theorem inR_f {n lo hi : Int} (h1 : ¬ (lo ≤ n ∧ n ≤ hi)) : inR n lo hi = false := by unfold inR; exact decide_eq_false h1

theorem inRange_any (n lo hi : Int) (w : World) : Calls Try.prog 145 #[.int .i64 n, .int .i64 lo, .int .i64 hi] w (RetQ (.bool (inR n lo hi)) w) := by
  by_cases h1 : lo ≤ n
  · by_cases h2 : n ≤ hi
    · go_enter Try.func145, Try.ntmps145
      go_wp2
      go_ret
      exact RetQ.mk (by rw [inR_t h1 h2]; rfl)
    · go_enter Try.func145, Try.ntmps145
      go_wp2
      go_ret
      exact RetQ.mk (by rw [inR_f (by omega)]; rfl)
  · go_enter Try.func145, Try.ntmps145
    go_wp2
    go_ret
    exact RetQ.mk (by rw [inR_f (by omega)]; rfl)

def isP (x y : Int) : Bool := decide (0 ≤ x ∧ x < 12 ∧ 0 ≤ y ∧ y < 12)
theorem isP_eq (x y : Int) : isP x y = (inR x 0 11 && inR y 0 11) := by unfold isP inR; rw [Bool.eq_iff_iff]; simp; omega
theorem isPlace_any (x y : Int) (w : World) : Calls Try.prog 131 #[.int .i64 x, .int .i64 y] w (RetQ (.bool (isP x y)) w) := by
  rw [isP_eq]
  cases hb : inR x 0 11 with
  | true =>
    go_enter Try.func131, Try.ntmps131
    go_wp2_with (go_at_call 145; refine (inRange_any _ _ _ _).mono ?_; rintro e w' ⟨rfl, rfl⟩)
    go_ret
    exact RetQ.mk rfl
  | false =>
    go_enter Try.func131, Try.ntmps131
    go_wp2_with (go_at_call 145; refine (inRange_any _ _ _ _).mono ?_; rintro e w' ⟨rfl, rfl⟩)
    go_ret
    exact RetQ.mk rfl

theorem has_any (f : Fr) (x y : Int) (w : World) : Calls Try.prog 108 #[frV f, .int .i64 x, .int .i64 y] w (RetB (.bool (f.has x y)) w) := by
  cases hp : isP x y with
  | true =>
    have hx : 0 ≤ x ∧ x < 12 ∧ 0 ≤ y ∧ y < 12 := by simpa [isP] using hp
    obtain ⟨y, rfl⟩ := Int.eq_ofNat_of_zero_le hx.2.2.1
    obtain ⟨x, rfl⟩ := Int.eq_ofNat_of_zero_le hx.1
    have hy : y < 12 := by omega
    have hH : Hid (f.has x y = (f.row y).getLsbD x) := Lib.hid (by rw [Fr.has_nat]; simp [hy, show x < 12 by omega, Fr.dot])
    go_enter Try.func108, Try.ntmps108
    go_wp2_with (go_at_call 131; refine (isPlace_any _ _ _).mono ?_; rintro e w' ⟨rfl, rfl⟩)
    go_ret
    exact RetB.mk (by rw [hH.out]; rfl) ((Below.refl _ _).alloc (Nat.le_refl _) _)
  | false =>
    have hH : Hid (f.has x y = false) := Lib.hid (Fr.has_out f (by simpa [isP] using hp))
    go_enter Try.func108, Try.ntmps108
    go_wp2_with (go_at_call 131; refine (isPlace_any _ _ _).mono ?_; rintro e w' ⟨rfl, rfl⟩)
    go_ret
    exact RetB.mk (by rw [hH.out]; rfl) ((Below.refl _ _).alloc (Nat.le_refl _) _)
end Go.Proofs.Ythhimlicaiifdaa
