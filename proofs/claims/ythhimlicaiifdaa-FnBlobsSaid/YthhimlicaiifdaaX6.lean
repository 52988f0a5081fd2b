import Derived.Test.YthhimlicaiifdaaX5
import Derived.Test.YthhimlicaiifdaaK2
import Derived.Shelf.Abstract
set_option maxRecDepth 100000
namespace Go.Proofs.Ythhimlicaiifdaa
open Go.RowKit Fb

/-- A function value that tells of each place. -/
structure IsAt (g : FuncId) (caps : Array Value) (d : Int → Int → Bool) (w : World) : Prop where
  ent : ∀ args W, (callFunc g args).run Try.prog W = .ok (.enter g args) W
  gives : ∀ (W : World) (x y : Nat), Below w.heap.size w W → x < 12 → y < 12 → Calls Try.prog g (#[.int .i64 x, .int .i64 y] ++ caps) W (RetB (.bool (d x y)) W)

/-- The places before row k, and of row k those before j. -/
def upTo (d : Int → Int → Bool) (k j : Nat) : Fr := Fr.ofDots fun x y => (decide (y < k) || (decide (y = k) && decide (x < j))) && d x y
theorem upTo_zero (d : Int → Int → Bool) : upTo d 0 0 = Fr.zero := by
  apply Fr.ext_ok (Fr.ok_ofDots _) Fr.ok_zero
  intro x y _ _
  rw [Fr.dot_ofDots, Fr.dot_zero]
  simp
theorem upTo_row (d : Int → Int → Bool) (k : Nat) : upTo d k 12 = upTo d (k + 1) 0 := by
  apply Fr.ext_ok (Fr.ok_ofDots _) (Fr.ok_ofDots _)
  intro x y hx hy
  rw [Fr.dot_ofDots, Fr.dot_ofDots]
  congr 2
  rw [Bool.eq_iff_iff]
  simp
  omega
theorem upTo_all (d : Int → Int → Bool) : upTo d 12 0 = Fr.ofHas d := by
  apply Fr.ext_ok (Fr.ok_ofDots _) (Fr.ok_ofDots _)
  intro x y hx hy
  rw [Fr.dot_ofDots, Fr.dot_ofDots]
  simp [hy]
theorem upTo_yes (d : Int → Int → Bool) (k j : Nat) (hk : k < 12) (hj : j < 12) (h : d j k = true) : (upTo d k j).put j k = upTo d k (j + 1) := by
  apply Fr.ext_ok (Fr.ok_put (Fr.ok_ofDots _) hj hk) (Fr.ok_ofDots _)
  intro x y hx hy
  rw [Fr.dot_put _ (by omega) hk]
  rw [Fr.dot_ofDots, Fr.dot_ofDots]
  by_cases e : x = j ∧ y = k
  · obtain ⟨rfl, rfl⟩ := e
    simp [hx, hy, h]
  · have h1 : (decide (x = j) && decide (y = k)) = false := by simp; omega
    rw [h1, Bool.or_false]
    congr 2
    rw [Bool.eq_iff_iff]
    simp
    omega
theorem upTo_no (d : Int → Int → Bool) (k j : Nat) (h : d j k = false) : upTo d k j = upTo d k (j + 1) := by
  apply Fr.ext_ok (Fr.ok_ofDots _) (Fr.ok_ofDots _)
  intro x y hx hy
  rw [Fr.dot_ofDots, Fr.dot_ofDots]
  by_cases e : x = j ∧ y = k
  · obtain ⟨rfl, rfl⟩ := e
    simp [h]
  · congr 2
    rw [Bool.eq_iff_iff]
    simp
    omega

set_option maxHeartbeats 1000000 in
theorem where_any (g : FuncId) (caps : Array Value) (d : Int → Int → Bool) (w : World) (h : IsAt g caps d w) : Calls Try.prog 104 #[.func (.func g) #[] caps] w (RetB (frV (Fr.ofHas d)) w) := by
  have eg := h.ent
  go_enter Try.func104, Try.ntmps104
  go_wp2
  go_loopw [7] (fun t wr => ∃ k : Nat, k ≤ 12 ∧ t = .int .i64 k ∧ Own w [(frC Fr.zero, 26), (frC (upTo d k 0), 26)] wr) (fun t _ => 12 - (intOf t).toNat)
  case atStart => exact ⟨0, by omega, rfl, by rw [upTo_zero]; exact ((Own.start w).push rfl _ _).push (by simp) _ _⟩
  case round =>
    obtain ⟨k, hk, rfl, ho⟩ := hrel
    by_cases hlt : k < 12
    · have hkd : decide ((k : Int) < 12) = true := decide_eq_true (by omega)
      go_wp2
      go_loopw [10] (fun t wr => ∃ j : Nat, j ≤ 12 ∧ t = .int .i64 j ∧ Own w [(frC Fr.zero, 26), (frC (upTo d k j), 26)] wr) (fun t _ => 12 - (intOf t).toNat)
      case atStart => exact ⟨0, by omega, rfl, ho⟩
      case round =>
        clear ho
        obtain ⟨j, hj, rfl, ho⟩ := hrel
        by_cases hjlt : j < 12
        · cases hd : d (j : Int) (k : Int) with
          | true =>
            have hY := Lib.hid (upTo_yes d k j hlt hjlt hd)
            go_wp2_with (first | (go_at_fn g; refine (h.gives _ j k ho.below hjlt hlt).mono ?_; rintro e w1 ⟨rfl, hb1⟩; have ho1 := ho.call hb1; obtain ⟨f1, f2, f3, f4, f5, f6, f7⟩ := (ho1.at 1 rfl).facts rfl) | (go_at_call 132; refine (with_any _ j k _ (by omega) hlt).mono ?_; rintro e w2 ⟨rfl, hb2⟩; have ho2 := Own.call (by assumption) hb2; obtain ⟨k1, k2, k3, k4, k5, k6, k7⟩ := (ho2.at 1 rfl).facts rfl))
            go_roundw
            case rel => exact ⟨j + 1, by omega, by go_num, by rw [hY.out]; exact ho2.set' 1 rfl rfl _ rfl⟩
            case measure => simp [intOf]; omega
          | false =>
            have hN := Lib.hid (upTo_no d k j hd)
            go_wp2_with (go_at_fn g; refine (h.gives _ j k ho.below hjlt hlt).mono ?_; rintro e w1 ⟨rfl, hb1⟩; have ho1 := ho.call hb1)
            go_roundw
            case rel => exact ⟨j + 1, by omega, by go_num, by rw [← hN.out]; exact ho1⟩
            case measure => simp [intOf]; omega
        · obtain rfl : j = 12 := by omega
          go_wp2
          go_roundw
          case rel => exact ⟨k + 1, by omega, by go_num, by rw [← upTo_row]; exact ho⟩
          case measure => simp [intOf]; omega
    · obtain rfl : k = 12 := by omega
      obtain ⟨f1, f2, f3, f4, f5, f6, f7⟩ := (ho.at 1 rfl).facts rfl
      obtain ⟨k1, k2, k3, k4, k5, k6, k7⟩ := (ho.at 0 rfl).facts (Nat.add_zero _)
      go_wp2
      have ho2 := ho.set' 0 rfl (Nat.add_zero _).symm (frC (upTo d 12 0)) rfl
      exact bodyPost_ret (results26_blk rfl rfl ((ho2.at 0 rfl).facts' (Nat.add_zero _))) rfl (RetB.mk (by rw [upTo_all]) ho2.below)
end Go.Proofs.Ythhimlicaiifdaa
