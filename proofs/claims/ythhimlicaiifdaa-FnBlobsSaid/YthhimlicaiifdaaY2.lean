/- Frames: all dots, in the program and in the reference. -/
import Derived.Test.YthhimlicaiifdaaY1
import Derived.Test.YthhimlicaiifdaaK3
set_option maxRecDepth 100000
namespace Go.Proofs.Ythhimlicaiifdaa
open Go.RowKit Fb

theorem infoDot : (Try.prog.info? 52).map (fun i => (i.zero, i.size, i.bytes)) = some (some (.agg #[.int .i8 0, .int .i8 0]), 2, 2) := by kernel_rfl
def dotE (p : Nat × Nat) : List Value := [.int .i8 p.1, .int .i8 p.2]
theorem dotE_len (p : Nat × Nat) : (dotE p).length = 2 := rfl
theorem dotE_one (p : Nat × Nat) (u : Value) (h : u ∈ dotE p) : u.oneCell' = true := by simp [dotE] at h; rcases h with rfl | rfl <;> rfl

/-- A slice of the call's own comes back. -/
def RetOwn {α : Type} (e : TypeId) (enc : α → List Value) (sz : Nat) (xs : List α) (w : World) (en : Ending) (w' : World) : Prop :=
  ∃ v, en = .returned v ∧ Owns w' w.heap.size e enc sz v xs ∧ Below w.heap.size w w'

/-- The dots before row k, and of row k those before j. -/
def dotsTo (f : Fr) (k j : Nat) : List (Nat × Nat) := ((List.range k).flatMap fun y => ((List.range 12).map fun x => (x, y)).filter fun p => f.dot p.1 p.2) ++ ((List.range j).map fun x => (x, k)).filter fun p => f.dot p.1 p.2
theorem dotsTo_zero (f : Fr) : dotsTo f 0 0 = [] := rfl
theorem dotsTo_row (f : Fr) (k : Nat) : dotsTo f k 12 = dotsTo f (k + 1) 0 := by
  unfold dotsTo; rw [List.range_succ (n := k), List.flatMap_append]; simp
theorem dotsTo_all (f : Fr) : dotsTo f 12 0 = f.dots := by
  unfold dotsTo Fr.dots Fr.places
  rw [List.filter_flatMap]
  simp
theorem dotsTo_yes (f : Fr) (k j : Nat) (h : f.dot j k = true) : dotsTo f k j ++ [(j, k)] = dotsTo f k (j + 1) := by
  unfold dotsTo; rw [List.range_succ (n := j), List.map_append, List.filter_append, List.append_assoc]
  congr 2
  simp [h]
theorem dotsTo_no (f : Fr) (k j : Nat) (h : f.dot j k = false) : dotsTo f k j = dotsTo f k (j + 1) := by
  unfold dotsTo; rw [List.range_succ (n := j), List.map_append, List.filter_append]
  simp [h]
theorem dotsTo_le (f : Fr) (k j : Nat) : (dotsTo f k j).length ≤ 12 * k + j := by
  unfold dotsTo
  rw [List.length_append]
  have h1 : (((List.range j).map fun x => (x, k)).filter fun p => f.dot p.1 p.2).length ≤ j := by
    have := List.length_filter_le (fun p : Nat × Nat => f.dot p.1 p.2) ((List.range j).map fun x => (x, k))
    simpa using this
  have h2 : ((List.range k).flatMap fun y => ((List.range 12).map fun x => (x, y)).filter fun p => f.dot p.1 p.2).length ≤ 12 * k := by
    clear h1
    induction k with
    | zero => simp
    | succ k ih =>
      rw [List.range_succ (n := k), List.flatMap_append, List.length_append]
      have := List.length_filter_le (fun p : Nat × Nat => f.dot p.1 p.2) ((List.range 12).map fun x => (x, k))
      simp only [List.length_map, List.length_range] at this
      simp only [List.flatMap_cons, List.flatMap_nil, List.append_nil]
      omega
  omega

set_option maxHeartbeats 1000000 in
theorem dots_any (f : Fr) (w : World) : Calls Try.prog 130 #[frV f] w (RetOwn 52 dotE 2 f.dots w) := by
  go_enter Try.func130, Try.ntmps130
  go_wp2
  go_loopw [3, 7] (fun v t wr => ∃ k : Nat, k ≤ 12 ∧ t = .int .i64 k ∧ Own w [(frC f, 26)] wr ∧ w.heap.size + 1 ≤ wr.heap.size ∧ Owns wr (w.heap.size + 1) 52 dotE 2 v (dotsTo f k 0)) (fun _ t _ => 12 - (intOf t).toNat)
  case atStart => exact ⟨0, by omega, rfl, ((Own.start w).push rfl _ _).alloc _, by simp, by rw [dotsTo_zero]; exact Owns.empty' _ _ _ _ (by simp) (Nat.le_refl _)⟩
  case round =>
    obtain ⟨k, hk, rfl, ho, hz, hv⟩ := hrel
    by_cases hlt : k < 12
    · have hkd : decide ((k : Int) < 12) = true := decide_eq_true (by omega)
      go_wp2
      go_loopw [3, 10] (fun v t wr => ∃ j : Nat, j ≤ 12 ∧ t = .int .i64 j ∧ Own w [(frC f, 26)] wr ∧ w.heap.size + 1 ≤ wr.heap.size ∧ Owns wr (w.heap.size + 1) 52 dotE 2 v (dotsTo f k j)) (fun _ t _ => 12 - (intOf t).toNat)
      case atStart => exact ⟨0, by omega, rfl, ho, hz, hv⟩
      case round =>
        clear ho hz hv
        obtain ⟨j, hj, rfl, ho, hz, hv⟩ := hrel
        by_cases hjlt : j < 12
        · obtain ⟨f1, f2, f3, f4, f5, f6, f7⟩ := (ho.at 0 rfl).facts (Nat.add_zero _)
          have hjd : decide ((j : Int) < 12) = true := decide_eq_true (by omega)
          have hH := Lib.hid (show f.has (j : Int) (k : Int) = f.dot j k by rw [Fr.has_nat]; simp [hjlt, hlt])
          cases hd : f.dot j k with
          | true =>
            have hY := Lib.hid (dotsTo_yes f k j hd)
            have hD := Lib.hid hd
            clear hd
            have hl : ((dotsTo f k j).length + 1) * 2 ≤ 140737488355328 := by have := dotsTo_le f k j; omega
            go_wp2_with (first | (go_at_call 108; refine (has_any f j k _).mono ?_; rintro e w1 ⟨rfl, hb1⟩; rw [hH.out, hD.out]; have ho1 := ho.call hb1; have hv1 := hv.below hb1; have hz1 := hb1.size) | (at_builtin; refine wpList_append1 rfl _ _ 42 52 2 _ 2 dotE rfl Try.underlying42 infoDot rfl (by omega) (by omega) dotE_len dotE_one (j, k) ?_ ?_ ?_ ho1 hv1 (Nat.le_trans hz hz1) hl ?_; rfl; rfl; rfl; intro v2 w2 ho2 hv2 hz2))
            go_roundw
            case rel => exact ⟨j + 1, by omega, by go_num, ho2, by omega, by rw [← hY.out]; exact hv2⟩
            case measure => simp [intOf]; omega
          | false =>
            have hN := Lib.hid (dotsTo_no f k j hd)
            have hD := Lib.hid hd
            clear hd
            go_wp2_with (go_at_call 108; refine (has_any f j k _).mono ?_; rintro e w1 ⟨rfl, hb1⟩; rw [hH.out, hD.out]; have ho1 := ho.call hb1; have hv1 := hv.below hb1; have hz1 := hb1.size)
            go_roundw
            case rel => exact ⟨j + 1, by omega, by go_num, ho1, by omega, by rw [← hN.out]; exact hv1⟩
            case measure => simp [intOf]; omega
        · obtain rfl : j = 12 := by omega
          go_wp2
          go_roundw
          case rel => exact ⟨k + 1, by omega, by go_num, ho, hz, by rw [← dotsTo_row]; exact hv⟩
          case measure => simp [intOf]; omega
    · obtain rfl : k = 12 := by omega
      go_wp2
      go_ret
      exact ⟨_, rfl, by rw [← dotsTo_all]; exact hv.mono (by omega), ho.below⟩
set_option maxHeartbeats 1000000 in
theorem sDots_any (f : Fr) (b o : Nat) (w : World) (hF : FrAt w b o f) : Calls Try.prog 110 #[.pointer (some ⟨b, o, none⟩)] w (RetOwn 52 dotE 2 f.dots w) := by
  go_enter Try.func110, Try.ntmps110
  go_wp2
  go_loopw [3, 4] (fun v t wr => ∃ k : Nat, k ≤ 12 ∧ t = .int .i64 k ∧ Own w [] wr ∧ Owns wr w.heap.size 52 dotE 2 v (dotsTo f k 0)) (fun _ t _ => 12 - (intOf t).toNat)
  case atStart => exact ⟨0, by omega, rfl, (Own.start w).alloc _, by rw [dotsTo_zero]; exact Owns.empty' _ _ _ _ rfl (Nat.le_refl _)⟩
  case round =>
    obtain ⟨k, hk, rfl, ho, hv⟩ := hrel
    by_cases hlt : k < 12
    · have hkd : decide ((k : Int) < 12) = true := decide_eq_true (by omega)
      go_wp2
      go_loopw [3, 5] (fun v t wr => ∃ j : Nat, j ≤ 12 ∧ t = .int .i64 j ∧ Own w [] wr ∧ Owns wr w.heap.size 52 dotE 2 v (dotsTo f k j)) (fun _ t _ => 12 - (intOf t).toNat)
      case atStart => exact ⟨0, by omega, rfl, ho, hv⟩
      case round =>
        clear ho hv
        obtain ⟨j, hj, rfl, ho, hv⟩ := hrel
        have hF1 := hF.below ho.below
        have hz := ho.below.size
        by_cases hjlt : j < 12
        · have hjd : decide ((j : Int) < 12) = true := decide_eq_true (by omega)
          have hH := Lib.hid (show f.has (j : Int) (k : Int) = f.dot j k by rw [Fr.has_nat]; simp [hjlt, hlt])
          cases hd : f.dot j k with
          | true =>
            have hY := Lib.hid (dotsTo_yes f k j hd)
            have hD := Lib.hid hd
            clear hd
            have hl : ((dotsTo f k j).length + 1) * 2 ≤ 140737488355328 := by have := dotsTo_le f k j; omega
            go_wp2_with (first | (go_at_call 140; refine (sHas_any f _ _ j k _ hF1).mono ?_; rintro e w1 ⟨rfl, rfl⟩; rw [hH.out, hD.out]) | (at_builtin; refine wpList_append1 rfl _ _ 42 52 2 _ 2 dotE rfl Try.underlying42 infoDot rfl (by omega) (by omega) dotE_len dotE_one (j, k) ?_ ?_ ?_ ho hv hz hl ?_; rfl; rfl; rfl; intro v2 w2 ho2 hv2 hz2))
            go_roundw
            case rel => exact ⟨j + 1, by omega, by go_num, ho2, by rw [← hY.out]; exact hv2⟩
            case measure => simp [intOf]; omega
          | false =>
            have hN := Lib.hid (dotsTo_no f k j hd)
            have hD := Lib.hid hd
            clear hd
            go_wp2_with (go_at_call 140; refine (sHas_any f _ _ j k _ hF1).mono ?_; rintro e w1 ⟨rfl, rfl⟩; rw [hH.out, hD.out])
            go_roundw
            case rel => exact ⟨j + 1, by omega, by go_num, ho, by rw [← hN.out]; exact hv⟩
            case measure => simp [intOf]; omega
        · obtain rfl : j = 12 := by omega
          go_wp2
          go_roundw
          case rel => exact ⟨k + 1, by omega, by go_num, ho, by rw [← dotsTo_row]; exact hv⟩
          case measure => simp [intOf]; omega
    · obtain rfl : k = 12 := by omega
      go_wp2
      go_ret
      exact ⟨_, rfl, by rw [← dotsTo_all]; exact hv, ho.below⟩
end Go.Proofs.Ythhimlicaiifdaa
