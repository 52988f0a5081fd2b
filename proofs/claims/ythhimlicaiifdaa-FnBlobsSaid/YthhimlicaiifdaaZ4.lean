/- A frame shrunk: the program's own function on a valid frame. -/
import Derived.Test.YthhimlicaiifdaaZ3
set_option maxRecDepth 100000
set_option linter.unusedSimpArgs false
set_option linter.unusedVariables false
namespace Go.Proofs.Ythhimlicaiifdaa
open Go.RowKit Fb

/-- A place with a dot, or no place at all. -/
def filled (f : Fr) (x y : Int) : Bool := !isP x y || f.has x y
set_option maxHeartbeats 1000000 in
theorem filled_any (f : Fr) (b : Nat) (x y : Int) (w : World) (hB : Blk w b (frC f) 26) : Calls Try.prog 137 #[.int .i64 x, .int .i64 y, .pointer (some ⟨b, 0, none⟩)] w (RetB (.bool (filled f x y)) w) := by
  have l1 : row? w b 0 12 = some (frC f) := by rw [hB.row, rowIn_fr]
  unfold filled
  cases hp : isP x y with
  | true =>
    go_enter Try.func137, Try.ntmps137
    go_wp2_with (first | (go_at_call 131; refine (isPlace_any _ _ _).mono ?_; rintro e w' ⟨rfl, rfl⟩; rw [hp]) | (go_at_call 108; refine (has_any f _ _ _).mono ?_; rintro e w1 ⟨rfl, hb1⟩))
    go_ret
    exact RetB.mk rfl hb1
  | false =>
    go_enter Try.func137, Try.ntmps137
    go_wp2_with (first | (go_at_call 131; refine (isPlace_any _ _ _).mono ?_; rintro e w' ⟨rfl, rfl⟩; rw [hp]) | (go_at_call 108; refine (has_any f _ _ _).mono ?_; rintro e w1 ⟨rfl, hb1⟩))
    go_ret
    exact RetB.mk rfl (Below.refl _ _)
/-- A dot, and dots or no places all around. -/
def inner (f : Fr) (x y : Int) : Bool := f.has x y && filled f (x + 1) y && filled f (x - 1) y && filled f x (y + 1) && filled f x (y - 1)
set_option maxHeartbeats 4000000 in
theorem inner_any (f : Fr) (b c : Nat) (x y : Nat) (hx : x < 12) (hy : y < 12) (w : World) (hB : Blk w b (frC f) 26) (hC : Blk w c #[.func (.func 137) #[] #[.pointer (some ⟨b, 0, none⟩)]] 124) : Calls Try.prog 138 #[.int .i64 x, .int .i64 y, .pointer (some ⟨b, 0, none⟩), .pointer (some ⟨c, 0, none⟩)] w (RetB (.bool (inner f x y)) w) := by
  have l1 : row? w b 0 12 = some (frC f) := by rw [hB.row, rowIn_fr]
  have hcb := hC.lt
  cases h0 : f.has (x : Int) (y : Int) with
  | false =>
    go_enter Try.func138, Try.ntmps138
    go_wp2_with (first | (go_at_call 108; refine (has_any f _ _ _).mono ?_; rintro e w0 ⟨rfl, hb0⟩; rw [h0]; have c0 := (hC.below hb0).cell 0; have hB0 := hB.below hb0; have hC0 := hC.below hb0))
    go_ret
    exact RetB.mk (by unfold inner; rw [h0]; rfl) (hb0)
  | true =>
    cases h1 : filled f ((x : Int) + 1) (y : Int) with
    | false =>
      go_enter Try.func138, Try.ntmps138
      go_wp2_with (first | (go_at_call 108; refine (has_any f _ _ _).mono ?_; rintro e w0 ⟨rfl, hb0⟩; rw [h0]; have c0 := (hC.below hb0).cell 0; have hB0 := hB.below hb0; have hC0 := hC.below hb0) | (go_at_call 137; refine (filled_any f b _ _ _ hB0).mono ?_; rintro e w1 ⟨rfl, hb1⟩; rw [h1]; have c1 := (hC0.below hb1).cell 0; have hB1 := hB0.below hb1; have hC1 := hC0.below hb1))
      go_ret
      exact RetB.mk (by unfold inner; rw [h0, h1]; rfl) ((hb0).trans (hb1.mono (hb0).size))
    | true =>
      cases h2 : filled f ((x : Int) - 1) (y : Int) with
      | false =>
        go_enter Try.func138, Try.ntmps138
        go_wp2_with (first | (go_at_call 108; refine (has_any f _ _ _).mono ?_; rintro e w0 ⟨rfl, hb0⟩; rw [h0]; have c0 := (hC.below hb0).cell 0; have hB0 := hB.below hb0; have hC0 := hC.below hb0) | (go_at_call 137; refine (filled_any f b _ _ _ hB0).mono ?_; rintro e w1 ⟨rfl, hb1⟩; rw [h1]; have c1 := (hC0.below hb1).cell 0; have hB1 := hB0.below hb1; have hC1 := hC0.below hb1) | (go_at_call 137; refine (filled_any f b _ _ _ hB1).mono ?_; rintro e w2 ⟨rfl, hb2⟩; rw [h2]; have c2 := (hC1.below hb2).cell 0; have hB2 := hB1.below hb2; have hC2 := hC1.below hb2))
        go_ret
        exact RetB.mk (by unfold inner; rw [h0, h1, h2]; rfl) (((hb0).trans (hb1.mono (hb0).size)).trans (hb2.mono ((hb0).trans (hb1.mono (hb0).size)).size))
      | true =>
        cases h3 : filled f (x : Int) ((y : Int) + 1) with
        | false =>
          go_enter Try.func138, Try.ntmps138
          go_wp2_with (first | (go_at_call 108; refine (has_any f _ _ _).mono ?_; rintro e w0 ⟨rfl, hb0⟩; rw [h0]; have c0 := (hC.below hb0).cell 0; have hB0 := hB.below hb0; have hC0 := hC.below hb0) | (go_at_call 137; refine (filled_any f b _ _ _ hB0).mono ?_; rintro e w1 ⟨rfl, hb1⟩; rw [h1]; have c1 := (hC0.below hb1).cell 0; have hB1 := hB0.below hb1; have hC1 := hC0.below hb1) | (go_at_call 137; refine (filled_any f b _ _ _ hB1).mono ?_; rintro e w2 ⟨rfl, hb2⟩; rw [h2]; have c2 := (hC1.below hb2).cell 0; have hB2 := hB1.below hb2; have hC2 := hC1.below hb2) | (go_at_call 137; refine (filled_any f b _ _ _ hB2).mono ?_; rintro e w3 ⟨rfl, hb3⟩; rw [h3]; have c3 := (hC2.below hb3).cell 0; have hB3 := hB2.below hb3; have hC3 := hC2.below hb3))
          go_ret
          exact RetB.mk (by unfold inner; rw [h0, h1, h2, h3]; rfl) ((((hb0).trans (hb1.mono (hb0).size)).trans (hb2.mono ((hb0).trans (hb1.mono (hb0).size)).size)).trans (hb3.mono (((hb0).trans (hb1.mono (hb0).size)).trans (hb2.mono ((hb0).trans (hb1.mono (hb0).size)).size)).size))
        | true =>
          cases h4 : filled f (x : Int) ((y : Int) - 1) with
          | false =>
            go_enter Try.func138, Try.ntmps138
            go_wp2_with (first | (go_at_call 108; refine (has_any f _ _ _).mono ?_; rintro e w0 ⟨rfl, hb0⟩; rw [h0]; have c0 := (hC.below hb0).cell 0; have hB0 := hB.below hb0; have hC0 := hC.below hb0) | (go_at_call 137; refine (filled_any f b _ _ _ hB0).mono ?_; rintro e w1 ⟨rfl, hb1⟩; rw [h1]; have c1 := (hC0.below hb1).cell 0; have hB1 := hB0.below hb1; have hC1 := hC0.below hb1) | (go_at_call 137; refine (filled_any f b _ _ _ hB1).mono ?_; rintro e w2 ⟨rfl, hb2⟩; rw [h2]; have c2 := (hC1.below hb2).cell 0; have hB2 := hB1.below hb2; have hC2 := hC1.below hb2) | (go_at_call 137; refine (filled_any f b _ _ _ hB2).mono ?_; rintro e w3 ⟨rfl, hb3⟩; rw [h3]; have c3 := (hC2.below hb3).cell 0; have hB3 := hB2.below hb3; have hC3 := hC2.below hb3) | (go_at_call 137; refine (filled_any f b _ _ _ hB3).mono ?_; rintro e w4 ⟨rfl, hb4⟩; rw [h4]; have c4 := (hC3.below hb4).cell 0; have hB4 := hB3.below hb4; have hC4 := hC3.below hb4))
            go_ret
            exact RetB.mk (by unfold inner; rw [h0, h1, h2, h3, h4]; rfl) (((((hb0).trans (hb1.mono (hb0).size)).trans (hb2.mono ((hb0).trans (hb1.mono (hb0).size)).size)).trans (hb3.mono (((hb0).trans (hb1.mono (hb0).size)).trans (hb2.mono ((hb0).trans (hb1.mono (hb0).size)).size)).size)).trans (hb4.mono ((((hb0).trans (hb1.mono (hb0).size)).trans (hb2.mono ((hb0).trans (hb1.mono (hb0).size)).size)).trans (hb3.mono (((hb0).trans (hb1.mono (hb0).size)).trans (hb2.mono ((hb0).trans (hb1.mono (hb0).size)).size)).size)).size))
          | true =>
            go_enter Try.func138, Try.ntmps138
            go_wp2_with (first | (go_at_call 108; refine (has_any f _ _ _).mono ?_; rintro e w0 ⟨rfl, hb0⟩; rw [h0]; have c0 := (hC.below hb0).cell 0; have hB0 := hB.below hb0; have hC0 := hC.below hb0) | (go_at_call 137; refine (filled_any f b _ _ _ hB0).mono ?_; rintro e w1 ⟨rfl, hb1⟩; rw [h1]; have c1 := (hC0.below hb1).cell 0; have hB1 := hB0.below hb1; have hC1 := hC0.below hb1) | (go_at_call 137; refine (filled_any f b _ _ _ hB1).mono ?_; rintro e w2 ⟨rfl, hb2⟩; rw [h2]; have c2 := (hC1.below hb2).cell 0; have hB2 := hB1.below hb2; have hC2 := hC1.below hb2) | (go_at_call 137; refine (filled_any f b _ _ _ hB2).mono ?_; rintro e w3 ⟨rfl, hb3⟩; rw [h3]; have c3 := (hC2.below hb3).cell 0; have hB3 := hB2.below hb3; have hC3 := hC2.below hb3) | (go_at_call 137; refine (filled_any f b _ _ _ hB3).mono ?_; rintro e w4 ⟨rfl, hb4⟩; rw [h4]; have c4 := (hC3.below hb4).cell 0; have hB4 := hB3.below hb4; have hC4 := hC3.below hb4))
            go_ret
            exact RetB.mk (by unfold inner; rw [h0, h1, h2, h3, h4]; rfl) (((((hb0).trans (hb1.mono (hb0).size)).trans (hb2.mono ((hb0).trans (hb1.mono (hb0).size)).size)).trans (hb3.mono (((hb0).trans (hb1.mono (hb0).size)).trans (hb2.mono ((hb0).trans (hb1.mono (hb0).size)).size)).size)).trans (hb4.mono ((((hb0).trans (hb1.mono (hb0).size)).trans (hb2.mono ((hb0).trans (hb1.mono (hb0).size)).size)).trans (hb3.mono (((hb0).trans (hb1.mono (hb0).size)).trans (hb2.mono ((hb0).trans (hb1.mono (hb0).size)).size)).size)).size))
end Go.Proofs.Ythhimlicaiifdaa
