/- Frames: whether they are valid; places; dots of the reference: read, and put. -/
import Derived.Test.YthhimlicaiifdaaX6
set_option maxRecDepth 100000
namespace Go.Proofs.Ythhimlicaiifdaa
open Go.RowKit Fb

/-- A frame lies in memory. -/
def FrAt (w : World) (b o : Nat) (f : Fr) : Prop := ∀ y, y < 12 → w.cell? ⟨b, o + y, none⟩ = some (.int .u16 (rowI (f.row y)))
theorem FrAt.below {w w' : World} {b o : Nat} {f : Fr} (h : FrAt w b o f) (hb : Below w.heap.size w w') : FrAt w' b o f := fun y hy => by
  have := h y hy
  exact (hb.cell (p := ⟨b, o + y, none⟩) (World.block_lt_of_cell? w _ this)).trans this
theorem FrAt.of_blk {w : World} {b : Nat} {f : Fr} {t : TypeId} (h : Blk w b (frC f) t) : FrAt w b 0 f := fun y hy => by
  rw [h.cell, Nat.zero_add]; exact frC_at f hy
theorem FrAt.row {w : World} {b o : Nat} {f : Fr} {c : Array Value} {t : TypeId} (h : Blk w b c t) (hc : rowIn c o 12 = some (frC f)) : FrAt w b o f := fun y hy => by
  rw [h.cell]
  exact (rowIn_get hc).2 y _ (by rw [Array.getElem?_toList]; exact frC_at f hy)

theorem rowI_le {f : Fr} (h : f.ok = true) (y : Nat) : rowI (f.row y) ≤ 4095 := by unfold rowI; have := Fr.ok_row h y; omega

/-- An index that is there, or is none. -/
def IdxQ (p : Bool) (w : World) (e : Ending) (w' : World) : Prop := ∃ r : Int, e = .returned (.int .i64 r) ∧ decide (0 ≤ r) = p ∧ w = w'

theorem valid1_any (n : Int) (w : World) : Calls Try.prog 117 #[.int .u16 n] w (RetQ (.bool (decide (4095 < n))) w) := by
  go_enter Try.func117, Try.ntmps117
  go_wp2
  go_ret
  exact RetQ.mk rfl

/-- All rows before k have twelve bits. -/
def okTo (f : Fr) (k : Nat) : Prop := ∀ y, y < k → rowI (f.row y) ≤ 4095
theorem okTo_all {f : Fr} (h : okTo f 12) : f.ok = true := Fr.ok_of_row fun y hy => by have := h y hy; unfold rowI at this; omega
theorem okTo_not {f : Fr} {y : Nat} (h : 4095 < rowI (f.row y)) : f.ok = false := by
  cases hk : f.ok with
  | false => rfl
  | true => have := rowI_le hk y; omega

set_option maxHeartbeats 400000 in
theorem validIdx_any (f : Fr) (b o : Nat) (w : World) (hF : FrAt w b o f) : Calls Try.prog 205 #[.slice (some ⟨b, o, none⟩) 12 12, .func (.func 117) #[] #[]] w (IdxQ (!f.ok) w) := by
  go_enter Try.func205, Try.ntmps205
  go_wp2
  go_loop [8] (fun t => ∃ k : Nat, k ≤ 12 ∧ t = .int .i64 k ∧ okTo f k) (fun t => 12 - (intOf t).toNat)
  case atStart => exact ⟨0, by omega, rfl, fun y hy => by omega⟩
  case round =>
    obtain ⟨k, hk, rfl, ho⟩ := hrel
    by_cases hlt : k < 12
    · have hc := hF k hlt
      by_cases hb : 4095 < rowI (f.row k)
      · go_wp2_with (go_at_call 117; refine (valid1_any _ _).mono ?_; rintro e w' ⟨rfl, rfl⟩)
        go_ret
        exact ⟨k, rfl, by rw [okTo_not hb]; simp, rfl⟩
      · go_wp2_with (go_at_call 117; refine (valid1_any _ _).mono ?_; rintro e w' ⟨rfl, rfl⟩)
        go_round
        case rel =>
          refine ⟨k + 1, by omega, by go_num, fun y hy => ?_⟩
          by_cases e : y = k
          · subst e; omega
          · exact ho y (by omega)
        case measure => simp [intOf]; omega
    · obtain rfl : k = 12 := by omega
      go_wp2
      go_ret
      exact ⟨-1, rfl, by rw [okTo_all ho]; rfl, rfl⟩

theorem validHas_any (f : Fr) (b o : Nat) (w : World) (hF : FrAt w b o f) : Calls Try.prog 116 #[.slice (some ⟨b, o, none⟩) 12 12, .func (.func 117) #[] #[]] w (RetQ (.bool (!f.ok)) w) := by
  go_enter Try.func116, Try.ntmps116
  go_wp2_with (go_at_call 205; refine (validIdx_any f _ _ _ hF).mono ?_; rintro e w' ⟨r, rfl, hr, rfl⟩)
  go_ret
  exact RetQ.mk (by rw [← hr]; rfl)

theorem valid_any (f : Fr) (w : World) : Calls Try.prog 20 #[frV f] w (RetB (.bool f.ok) w) := by
  go_enter Try.func20, Try.ntmps20
  go_wp2_with (go_at_call 116; refine (validHas_any f _ _ _ (FrAt.of_blk (Blk.alloc_new _ _ _))).mono ?_; rintro e w' ⟨rfl, rfl⟩)
  go_ret
  exact RetB.mk (by simp) ((Below.refl _ _).alloc (Nat.le_refl _) _)

/-! ### The reference -/
theorem sIn_any (n lo hi : Int) (w : World) : Calls Try.prog 180 #[.int .i64 n, .int .i64 lo, .int .i64 hi] w (RetQ (.bool (inR n lo hi)) w) := by
  by_cases h1 : lo ≤ n
  · by_cases h2 : n ≤ hi
    · go_enter Try.func180, Try.ntmps180
      go_wp2
      go_ret
      exact RetQ.mk (by rw [inR_t h1 h2]; rfl)
    · go_enter Try.func180, Try.ntmps180
      go_wp2
      go_ret
      exact RetQ.mk (by rw [inR_f (by omega)]; rfl)
  · go_enter Try.func180, Try.ntmps180
    go_wp2
    go_ret
    exact RetQ.mk (by rw [inR_f (by omega)]; rfl)

theorem sPlace_any (x y : Int) (w : World) : Calls Try.prog 139 #[.int .i64 x, .int .i64 y] w (RetQ (.bool (isP x y)) w) := by
  rw [isP_eq]
  cases hb : inR x 0 11 with
  | true =>
    go_enter Try.func139, Try.ntmps139
    go_wp2_with (go_at_call 180; refine (sIn_any _ _ _ _).mono ?_; rintro e w' ⟨rfl, rfl⟩)
    go_ret
    exact RetQ.mk rfl
  | false =>
    go_enter Try.func139, Try.ntmps139
    go_wp2_with (go_at_call 180; refine (sIn_any _ _ _ _).mono ?_; rintro e w' ⟨rfl, rfl⟩)
    go_ret
    exact RetQ.mk rfl

set_option maxHeartbeats 400000 in
theorem sOk_any (f : Fr) (b o : Nat) (w : World) (hF : FrAt w b o f) : Calls Try.prog 109 #[.pointer (some ⟨b, o, none⟩)] w (RetQ (.bool f.ok) w) := by
  go_enter Try.func109, Try.ntmps109
  go_wp2
  go_loop [3] (fun t => ∃ k : Nat, k ≤ 12 ∧ t = .int .i64 k ∧ okTo f k) (fun t => 12 - (intOf t).toNat)
  case atStart => exact ⟨0, by omega, rfl, fun y hy => by omega⟩
  case round =>
    obtain ⟨k, hk, rfl, ho⟩ := hrel
    by_cases hlt : k < 12
    · have hc := hF k hlt
      by_cases hb : 4095 < rowI (f.row k)
      · go_wp2
        go_ret
        exact RetQ.mk (by rw [okTo_not hb]; rfl)
      · go_wp2
        go_round
        case rel =>
          refine ⟨k + 1, by omega, by go_num, fun y hy => ?_⟩
          by_cases e : y = k
          · subst e; omega
          · exact ho y (by omega)
        case measure => simp [intOf]; omega
    · obtain rfl : k = 12 := by omega
      go_wp2
      go_ret
      exact RetQ.mk (by rw [okTo_all ho]; rfl)

theorem row_bit_mod (v : Row) (x : Nat) : (rowI (v >>> x) % 2 == 1) = v.getLsbD x := by
  have h := row_bit_beq v x
  rw [← h]
  congr 1
  unfold rowI
  have : ((v >>> x) &&& 1#16).toNat = (v >>> x).toNat % 2 := by rw [BitVec.toNat_and]; exact Nat.and_one_is_mod _
  rw [this]
  omega

theorem row_bit_tmod (v : Row) (x : Nat) : ((rowI (v >>> x)).tmod 2 == 1) = v.getLsbD x := by
  rw [Int.tmod_eq_emod_of_nonneg (rowI_lo _)]; exact row_bit_mod v x

theorem sHas_any (f : Fr) (b o : Nat) (x y : Int) (w : World) (hF : FrAt w b o f) : Calls Try.prog 140 #[.pointer (some ⟨b, o, none⟩), .int .i64 x, .int .i64 y] w (RetQ (.bool (f.has x y)) w) := by
  cases hp : isP x y with
  | true =>
    have hx : 0 ≤ x ∧ x < 12 ∧ 0 ≤ y ∧ y < 12 := by simpa [isP] using hp
    obtain ⟨y, rfl⟩ := Int.eq_ofNat_of_zero_le hx.2.2.1
    obtain ⟨x, rfl⟩ := Int.eq_ofNat_of_zero_le hx.1
    have hy : y < 12 := by omega
    have hc := hF y hy
    have hH : Hid (f.has x y = (f.row y).getLsbD x) := Lib.hid (by rw [Fr.has_nat]; simp [hy, show x < 12 by omega, Fr.dot])
    go_enter Try.func140, Try.ntmps140
    go_wp2_with (go_at_call 139; refine (sPlace_any _ _ _).mono ?_; rintro e w' ⟨rfl, rfl⟩)
    go_ret
    exact RetQ.mk (by rw [hH.out]; exact congrArg Value.bool (row_bit_tmod _ _))
  | false =>
    have hH : Hid (f.has x y = false) := Lib.hid (Fr.has_out f (by simpa [isP] using hp))
    go_enter Try.func140, Try.ntmps140
    go_wp2_with (go_at_call 139; refine (sPlace_any _ _ _).mono ?_; rintro e w' ⟨rfl, rfl⟩)
    go_ret
    exact RetQ.mk (by rw [hH.out]; rfl)
/-- A dot is put: the block holds the new frame. -/
def PutQ (b : Nat) (f : Fr) (w : World) (e : Ending) (w' : World) : Prop := e = .returned (.tuple #[]) ∧ Upd w b (frC f) w'

theorem sPut_any (f : Fr) (b : Nat) (t : TypeId) (x y : Int) (w : World) (hB : Blk w b (frC f) t) : Calls Try.prog 111 #[.pointer (some ⟨b, 0, none⟩), .int .i64 x, .int .i64 y] w (PutQ b (f.putI x y) w) := by
  cases hp : isP x y with
  | true =>
    have hx : 0 ≤ x ∧ x < 12 ∧ 0 ≤ y ∧ y < 12 := by simpa [isP] using hp
    have hP := Lib.hid (show f.putI x y = f.put x.toNat y.toNat by unfold Fr.putI; rw [if_pos hx])
    obtain ⟨y, rfl⟩ := Int.eq_ofNat_of_zero_le hx.2.2.1
    obtain ⟨x, rfl⟩ := Int.eq_ofNat_of_zero_le hx.1
    have hy : y < 12 := by omega
    obtain ⟨f1, f2, f3, f4, f5, f6, f7⟩ := hB.facts rfl
    go_enter Try.func111, Try.ntmps111
    go_wp2_with (go_at_call 139; refine (sPlace_any _ _ _).mono ?_; rintro e w' ⟨rfl, rfl⟩)
    go_region
    all_goals go_wp2
    all_goals (go_end0; exact ⟨rfl, 1, by rw [hP.out]; rfl⟩)
  | false =>
    have hP := Lib.hid (show f.putI x y = f by unfold Fr.putI; rw [if_neg (by simpa [isP] using hp)])
    go_enter Try.func111, Try.ntmps111
    go_wp2_with (go_at_call 139; refine (sPlace_any _ _ _).mono ?_; rintro e w' ⟨rfl, rfl⟩)
    go_end0
    exact ⟨rfl, 0, by rw [hP.out, setRow_self w b (frC f) t _ hB]; rfl⟩
end Go.Proofs.Ythhimlicaiifdaa
