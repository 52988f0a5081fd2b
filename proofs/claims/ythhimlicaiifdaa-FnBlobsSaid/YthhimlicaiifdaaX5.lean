import Derived.Test.YthhimlicaiifdaaX4
set_option maxRecDepth 100000
namespace Go.Proofs.Ythhimlicaiifdaa
open Go.RowKit Fb

/-- The rows before k moved, the others empty. -/
def slidTo (f : Fr) (e s : Int) (k : Nat) : Fr := Fr.gen fun y => if y < k then (f.slid e s).row y else 0
theorem slidTo_zero (f : Fr) (e s : Int) : slidTo f e s 0 = Fr.zero := Fr.ext_row fun y hy => by unfold slidTo; rw [Fr.row_gen_lt _ hy, Fr.row_zero]; rfl
theorem slidTo_all (f : Fr) (e s : Int) : slidTo f e s 12 = f.slid e s := Fr.ext_row fun y hy => by unfold slidTo; rw [Fr.row_gen_lt _ hy, if_pos hy]
theorem slidTo_out (f : Fr) (e s : Int) (k : Nat) (h : ¬ (0 ≤ (k : Int) - s ∧ (k : Int) - s < 12)) : slidTo f e s (k + 1) = slidTo f e s k := Fr.ext_row fun y hy => by
  unfold slidTo
  rw [Fr.row_gen_lt _ hy, Fr.row_gen_lt _ hy]
  by_cases h1 : y < k
  · rw [if_pos h1, if_pos (by omega)]
  · rw [if_neg h1]
    by_cases h2 : y = k
    · subst h2
      rw [if_pos (by omega)]
      unfold Fr.slid
      rw [Fr.row_gen_lt _ hy, if_neg h]
    · rw [if_neg (by omega)]
theorem slidTo_in (f : Fr) (e s : Int) (k : Nat) (hk : k < 12) (h : 0 ≤ (k : Int) - s ∧ (k : Int) - s < 12) : (slidTo f e s k).set k (Fr.shiftRow (f.row ((k : Int) - s).toNat) e) = slidTo f e s (k + 1) := Fr.ext_row fun y hy => by
  rw [Fr.row_set _ _ _ _ hk]
  unfold slidTo
  rw [Fr.row_gen_lt _ hy, Fr.row_gen_lt _ hy]
  by_cases h1 : y = k
  · subst h1
    rw [if_pos rfl, if_pos (by omega)]
    unfold Fr.slid
    rw [Fr.row_gen_lt _ hy, if_pos h]
  · rw [if_neg h1]
    by_cases h2 : y < k
    · rw [if_pos h2, if_pos (by omega)]
    · rw [if_neg h2, if_neg (by omega)]

theorem moved_out (f : Fr) (e s : Int) (w : World) (h : ¬ (-12 ≤ e ∧ e ≤ 12)) : Calls Try.prog 121 #[frV f, .int .i64 e, .int .i64 s] w (RetB (frV Fr.zero) w) := by
  have hb := inR_f h
  go_enter Try.func121, Try.ntmps121
  go_wp2_with (go_at_call 145; refine (inRange_any _ _ _ _).mono ?_; rintro e w' ⟨rfl, rfl⟩)
  exact bodyPost_ret (results26 rfl _ _ _ 0 (frC Fr.zero) rfl (by simp [go_sem])) rfl (RetB.mk rfl ((((Below.refl _ _).alloc (Nat.le_refl _) _).alloc (by simp) _).alloc (by simp; omega) _))

set_option maxHeartbeats 400000 in
theorem moved_in (f : Fr) (e s : Int) (w : World) (h : -12 ≤ e ∧ e ≤ 12) (hs : -4611686018427387904 ≤ s ∧ s ≤ 4611686018427387904) : Calls Try.prog 121 #[frV f, .int .i64 e, .int .i64 s] w (RetB (frV (f.slid e s)) w) := by
  have hb := inR_t h.1 h.2
  go_enter Try.func121, Try.ntmps121
  go_wp2_with (go_at_call 145; refine (inRange_any _ _ _ _).mono ?_; rintro e w' ⟨rfl, rfl⟩)
  go_loopw [15] (fun t wr => ∃ k : Nat, k ≤ 12 ∧ t = .int .i64 k ∧ wr = ((w.alloc (.cells (frC f) 26)).alloc (.cells (frC Fr.zero) 26)).alloc (.cells (frC (slidTo f e s k)) 26)) (fun t _ => 12 - (intOf t).toNat)
  case atStart => exact ⟨0, by omega, rfl, by rw [slidTo_zero]⟩
  case round =>
    obtain ⟨k, hk, rfl, rfl⟩ := hrel
    by_cases hlt : k < 12
    · by_cases hin : 0 ≤ (k : Int) - s ∧ (k : Int) - s ≤ 11
      · have hS := Lib.hid (slidTo_in f e s k hlt (by omega))
        obtain ⟨j, hj⟩ := Int.eq_ofNat_of_zero_le hin.1
        have hi : inR (j : Int) 0 11 = true := inR_t (by omega) (by omega)
        have hj2 : j < 12 := by omega
        have hJ := Lib.hid hj
        by_cases hpos : 0 ≤ e
        · obtain ⟨n, rfl⟩ := Int.eq_ofNat_of_zero_le hpos
          go_wp2_with (go_at_call 145; refine (inRange_any _ _ _ _).mono ?_; rintro e w' ⟨rfl, rfl⟩)
          go_roundw
          case rel =>
            refine ⟨k + 1, by omega, by go_num, ?_⟩
            rw [← hS.out, hJ.out]
            rfl
          case measure => simp [intOf]; omega
        · obtain ⟨n, rfl⟩ : ∃ n : Nat, e = -(n : Int) := ⟨(-e).toNat, by omega⟩
          go_wp2_with (go_at_call 145; refine (inRange_any _ _ _ _).mono ?_; rintro e w' ⟨rfl, rfl⟩)
          go_roundw
          case rel =>
            refine ⟨k + 1, by omega, by go_num, ?_⟩
            rw [← hS.out, hJ.out]
            unfold Fr.shiftRow
            rw [if_neg (by omega)]
            simp
          case measure => simp [intOf]; omega
      · have hi := inR_f hin
        have hS := Lib.hid (slidTo_out f e s k (by omega))
        go_wp2_with (go_at_call 145; refine (inRange_any _ _ _ _).mono ?_; rintro e w' ⟨rfl, rfl⟩)
        go_roundw
        case rel => exact ⟨k + 1, by omega, by go_num, by rw [hS.out]⟩
        case measure => simp [intOf]; omega
    · obtain rfl : k = 12 := by omega
      go_wp2
      exact bodyPost_ret (results26 rfl _ _ _ 0 (frC (slidTo f e s 12)) rfl (by simp [go_sem])) rfl (RetB.mk (by rw [slidTo_all]) ((((Below.refl _ _).alloc (Nat.le_refl _) _).alloc (by simp) _).alloc (by simp; omega) _))
end Go.Proofs.Ythhimlicaiifdaa
