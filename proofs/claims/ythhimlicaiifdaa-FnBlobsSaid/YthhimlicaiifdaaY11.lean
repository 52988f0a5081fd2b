/- The text of a frame, and a frame read from its text. -/
import Derived.Test.YthhimlicaiifdaaY10
set_option maxRecDepth 100000
set_option linter.unusedSimpArgs false
set_option linter.unusedVariables false
namespace Go.Proofs.Ythhimlicaiifdaa
open Go.RowKit Fb

theorem Bld.below {B b : Nat} {bs : List Value} {w w1 : World} (h : Bld B b bs w) (hb : Below w.heap.size w w1) : Bld B b bs w1 := by
  have hk : ∀ p, Lib.BuilderAt 203 5 B b p bs w → Lib.BuilderAt 203 5 B b p bs w1 := by
    rintro p ⟨h1, v, h2, h3, h4⟩
    have hl : b < w.heap.size := (Array.getElem?_eq_some_iff.1 h2).1
    exact ⟨h1, v, (hb.block b hl).trans h2, h3.kept ⟨hb.os, hb.tape, hb.output, hb.size, fun i hi _ => hb.block i hi⟩ (row := none) (by cases v.ownBlock <;> simp), h4⟩
  exact h.imp (hk _) (hk _)

theorem Bld.le {B b : Nat} {bs : List Value} {w : World} (h : Bld B b bs w) : B ≤ w.heap.size := by
  rcases h with h | h
  · exact Nat.le_of_lt (Nat.lt_of_le_of_lt h.1 h.lt)
  · exact Nat.le_of_lt (Nat.lt_of_le_of_lt h.1 h.lt)
theorem Own.callAt {w0 w w1 : World} {bs : List (Array Value × TypeId)} {B : Nat} (h : Own w0 bs w) (hb : Below B w w1) (hn : w0.heap.size + bs.length ≤ B) : Own w0 bs w1 :=
  ⟨h.1.trans ⟨hb.os, hb.tape, hb.output, hb.size, fun k hk => hb.block k (by omega)⟩, fun i c t hi => (hb.block _ (by have := (List.getElem?_eq_some_iff.1 hi).1; omega)).trans (h.2 i c t hi)⟩

/-- The byte at a place of the text of a frame. -/
def tAt (f : Fr) (i : Nat) : UInt8 := if i % 13 = 12 then 10 else if f.dot (i % 13) (i / 13) then 35 else 46
def txt (f : Fr) (n : Nat) : List UInt8 := (List.range n).map (tAt f)
theorem txt_zero (f : Fr) : txt f 0 = [] := rfl
theorem txt_succ (f : Fr) (n : Nat) : Lib.byteCells (txt f (n + 1)) = Lib.byteCells (txt f n) ++ [.int .u8 (tAt f n).toNat] := by
  simp [txt, List.range_succ, Lib.byteCells]
theorem txt_len (f : Fr) (n : Nat) : (Lib.byteCells (txt f n)).length = n := by simp [txt, Lib.byteCells]
theorem tAt_dot (f : Fr) {x y : Nat} (hx : x < 12) : tAt f (13 * y + x) = if f.dot x y then 35 else 46 := by
  unfold tAt
  rw [show (13 * y + x) % 13 = x by omega, show (13 * y + x) / 13 = y by omega, if_neg (by omega)]
theorem tAt_end (f : Fr) (y : Nat) : tAt f (13 * y + 12) = 10 := by
  unfold tAt
  rw [if_pos (by omega)]
/-- The text of a frame. -/
def textOf (f : Fr) : ByteArray := ⟨(txt f 156).toArray⟩

set_option maxHeartbeats 2000000 in
theorem frameText_any (f : Fr) (w : World) : Calls Try.prog 106 #[frV f] w (RetB (.string (textOf f)) w) := by
  have ho : Own w [(frC f, 26)] (w.alloc (.cells (frC f) 26)) := (Own.start w).push rfl _ _
  have hb0 : Bld (w.heap.size + 1) (w.heap.size + 1) (Lib.byteCells (txt f (13 * 0))) ((w.alloc (.cells (frC f) 26)).alloc (.cells #[.pointer none, .slice none 0 0] 203)) := by
    have := Lib.fresh_isBuilder 203 5 (w.alloc (.cells (frC f) 26))
    rwa [show (w.alloc (.cells (frC f) 26)).heap.size = w.heap.size + 1 by simp] at this
  have ho2 := ho.alloc (.cells #[.pointer none, .slice none 0 0] 203)
  replace hb0 := Lib.hid hb0
  go_enter Try.func106, Try.ntmps106
  go_wp2
  go_loopw [6] (fun t wr => ∃ k : Nat, k ≤ 12 ∧ t = .int .i64 k ∧ Own w [(frC f, 26)] wr ∧ Bld (w.heap.size + 1) (w.heap.size + 1) (Lib.byteCells (txt f (13 * k))) wr) (fun t _ => 12 - (intOf t).toNat)
  case atStart => exact ⟨0, by omega, rfl, ho2, hb0.out⟩
  case round =>
    clear ho ho2 hb0
    obtain ⟨k, hk, rfl, ho, hB⟩ := hrel
    replace hB := Lib.hid hB
    by_cases hlt : k < 12
    · have hkd : decide ((k : Int) < 12) = true := by simp; omega
      obtain ⟨wo, rfl⟩ : ∃ wo : World, wo = wr := ⟨_, rfl⟩
      go_wp2
      go_loopw [9] (fun t wr => ∃ j : Nat, j ≤ 12 ∧ t = .int .i64 j ∧ Own w [(frC f, 26)] wr ∧ Bld (w.heap.size + 1) (w.heap.size + 1) (Lib.byteCells (txt f (13 * k + j))) wr) (fun t _ => 12 - (intOf t).toNat)
      case atStart => exact ⟨0, by omega, rfl, ho, hB.out⟩
      case round =>
        clear ho hB
        obtain ⟨j, hj, rfl, ho, hB⟩ := hrel
        replace hB := Lib.hid hB
        obtain ⟨f1, f2, f3, f4, f5, f6, f7⟩ := (ho.at 0 rfl).facts (Nat.add_zero _)
        by_cases hjl : j < 12
        · have hk1 := Lib.hid (tAt_dot f hjl (y := k))
          have hxd : Hid (f.has (j : Int) (k : Int) = f.dot j k) := Lib.hid (by rw [Fr.has_nat]; simp [hjl, hlt])
          go_wp2_with (first | (go_at_call 108; refine (has_any f _ _ _).mono ?_; rintro e w1 ⟨rfl, hb1⟩; have ho1 := ho.call hb1; have hB1 := Lib.hid (hB.out.below hb1)) | (go_at_call 203; refine (writeByte_any _ _ _ _ _ hB1.out (by rw [txt_len]; omega) hB1.out.le).mono ?_; rintro e w2 ⟨rfl, hB2, hb2⟩; have ho2 := Own.callAt ho1 hb2 (by simp); replace hB2 := Lib.hid hB2))
          all_goals go_roundw
          all_goals first | (simp [intOf]; omega) | skip
          · refine ⟨j + 1, by omega, by go_num, ho2, ?_⟩
            have hb : f.has (j : Int) (k : Int) = true := by assumption
            have := hB2.out
            rw [show 13 * k + (j + 1) = 13 * k + j + 1 by omega, txt_succ, hk1.out, ← hxd.out, if_pos hb]
            exact this
          · refine ⟨j + 1, by omega, by go_num, ho2, ?_⟩
            have hb : f.has (j : Int) (k : Int) = false := by assumption
            have := hB2.out
            rw [show 13 * k + (j + 1) = 13 * k + j + 1 by omega, txt_succ, hk1.out, ← hxd.out, if_neg (by rw [hb]; simp)]
            exact this
        · obtain rfl : j = 12 := by omega
          go_wp2_with (go_at_call 203; refine (writeByte_any _ _ _ _ _ hB.out (by rw [txt_len]; omega) hB.out.le).mono ?_; rintro e w2 ⟨rfl, hB2, hb2⟩; have ho2 := Own.callAt ho hb2 (by simp); replace hB2 := Lib.hid hB2)
          go_roundw
          case rel =>
            refine ⟨k + 1, by omega, by go_num, ho2, ?_⟩
            have := hB2.out
            rw [show 13 * (k + 1) = 13 * k + 12 + 1 by omega, txt_succ, tAt_end]
            exact this
          case measure => simp [intOf]; omega
    · obtain rfl : k = 12 := by omega
      go_wp2_with (go_at_call 204; refine (Try.Builder_String_any _ _ _ _ hB.out hB.out.le).mono ?_; rintro e w1 ⟨rfl, hb1⟩; have ho1 := Own.callAt ho hb1 (by simp))
      go_ret
      exact RetB.mk rfl ho1.below

theorem FrameText_ok (f : Fr) (w : World) (hf : f.ok = true) : Calls Try.prog 11 #[frV f] w (RetB (.string (textOf f)) w) := by
  have ho : Own w [(frC f, 26)] (w.alloc (.cells (frC f) 26)) := (Own.start w).push rfl _ _
  go_enter Try.func11, Try.ntmps11
  go_wp2_with (first | (go_at_call 20; refine (valid_any f _).mono ?_; rintro e w1 ⟨rfl, hb1⟩; have ho1 := ho.call hb1; obtain ⟨f1, f2, f3, f4, f5, f6, f7⟩ := (ho1.at 0 rfl).facts (Nat.add_zero _)) | (go_at_call 106; refine (frameText_any f _).mono ?_; rintro e w2 ⟨rfl, hb2⟩; have ho2 := ho1.call hb2))
  go_ret
  exact RetB.mk rfl ho2.below
end Go.Proofs.Ythhimlicaiifdaa
