/- Blobs, frames grown and shrunk: the program's own functions on valid frames. -/
import Derived.Test.YthhimlicaiifdaaZ2
set_option maxRecDepth 100000
set_option linter.unusedSimpArgs false
set_option linter.unusedVariables false
namespace Go.Proofs.Ythhimlicaiifdaa
open Go.RowKit Fb

theorem GrowFrame_ok (f : Fr) (w : World) (hf : f.ok = true) : Calls Try.prog 38 #[frV f] w (RetF2 f.grow 0 w) := by
  have ho : Own w [(frC f, 26), (frC Fr.zero, 26)] ((w.alloc (.cells (frC f) 26)).alloc (.cells (frC Fr.zero) 26)) := ((Own.start w).push rfl _ _).push (by simp) _ _
  go_enter Try.func38, Try.ntmps38
  go_wp2_with (first | (go_at_call 20; refine (valid_any f _).mono ?_; rintro e w1 ⟨rfl, hb1⟩; have ho1 := ho.call hb1; obtain ⟨f1, f2, f3, f4, f5, f6, f7⟩ := (ho1.at 0 rfl).facts (Nat.add_zero _)) | (go_at_call 135; refine (grown_ok f _ hf).mono ?_; rintro e w2 ⟨rfl, hb2⟩; have ho2 := ho1.call hb2; obtain ⟨k1, k2, k3, k4, k5, k6, k7⟩ := (ho2.at 1 rfl).facts rfl))
  have ho3 := ho2.set' 1 rfl rfl (frC f.grow) rfl
  exact bodyPost_ret (results26_two rfl rfl rfl (ho3.at 1 rfl)) rfl ⟨rfl, ho3.below⟩

theorem BlobAt_ok (f : Fr) (x y : Nat) (w : World) (hf : f.ok = true) (hx : x < 12) (hy : y < 12) (hd : f.dot x y = true) : Calls Try.prog 43 #[frV f, .int .i64 x, .int .i64 y] w (RetF2 (Fr.blobAt f x y) 0 w) := by
  have ho : Own w [(frC f, 26), (frC Fr.zero, 26)] ((w.alloc (.cells (frC f) 26)).alloc (.cells (frC Fr.zero) 26)) := ((Own.start w).push rfl _ _).push (by simp) _ _
  have hP := isP_in hx hy
  have hH : f.has (x : Int) (y : Int) = true := by rw [Fr.has_nat]; simp [hx, hy, hd]
  go_enter Try.func43, Try.ntmps43
  go_wp2_with (first | (go_at_call 129; refine (checkPlace_ok f _ _ _ hf hP).mono ?_; rintro e w1 ⟨rfl, hb1⟩; have ho1 := ho.call hb1; obtain ⟨f1, f2, f3, f4, f5, f6, f7⟩ := (ho1.at 0 rfl).facts (Nat.add_zero _)) | (go_at_call 108; refine (has_any f _ _ _).mono ?_; rintro e w2 ⟨rfl, hb2⟩; rw [hH]; have ho2 := ho1.call hb2; obtain ⟨q1, q2, q3, q4, q5, q6, q7⟩ := (ho2.at 0 rfl).facts (Nat.add_zero _)) | (go_at_call 133; refine (blob_any f x y _ hf hx hy hd).mono ?_; rintro e w3 ⟨rfl, hb3⟩; have ho3 := ho2.call hb3; obtain ⟨k1, k2, k3, k4, k5, k6, k7⟩ := (ho3.at 1 rfl).facts rfl))
  have ho4 := ho3.set' 1 rfl rfl (frC (Fr.blobAt f x y)) rfl
  exact bodyPost_ret (results26_two rfl rfl rfl (ho4.at 1 rfl)) rfl ⟨rfl, ho4.below⟩
theorem BlobAt_none (f : Fr) (x y : Nat) (w : World) (hf : f.ok = true) (hx : x < 12) (hy : y < 12) (hd : f.dot x y = false) : Calls Try.prog 43 #[frV f, .int .i64 x, .int .i64 y] w (RetF2 Fr.zero 6 w) := by
  have ho : Own w [(frC f, 26), (frC Fr.zero, 26)] ((w.alloc (.cells (frC f) 26)).alloc (.cells (frC Fr.zero) 26)) := ((Own.start w).push rfl _ _).push (by simp) _ _
  have hP := isP_in hx hy
  have hH : f.has (x : Int) (y : Int) = false := by rw [Fr.has_nat]; simp [hx, hy, hd]
  go_enter Try.func43, Try.ntmps43
  go_wp2_with (first | (go_at_call 129; refine (checkPlace_ok f _ _ _ hf hP).mono ?_; rintro e w1 ⟨rfl, hb1⟩; have ho1 := ho.call hb1; obtain ⟨f1, f2, f3, f4, f5, f6, f7⟩ := (ho1.at 0 rfl).facts (Nat.add_zero _)) | (go_at_call 108; refine (has_any f _ _ _).mono ?_; rintro e w2 ⟨rfl, hb2⟩; rw [hH]; have ho2 := ho1.call hb2; obtain ⟨q1, q2, q3, q4, q5, q6, q7⟩ := (ho2.at 1 rfl).facts rfl))
  have ho4 := ho2.set' 1 rfl rfl (frC Fr.zero) rfl
  exact bodyPost_ret (results26_two rfl rfl rfl (ho4.at 1 rfl)) rfl ⟨rfl, ho4.below⟩

/-- A frame with a place set or struck. -/
def setDot (f : Fr) (x y : Nat) (black : Bool) : Fr := if black then (f.set y (f.row y &&& ~~~(1#16 <<< x))).put x y else f.set y (f.row y &&& ~~~(1#16 <<< x))
set_option maxHeartbeats 2000000 in
theorem WithDot_ok (f : Fr) (x y : Nat) (black : Bool) (w : World) (hf : f.ok = true) (hx : x < 12) (hy : y < 12) : Calls Try.prog 47 #[frV f, .int .i64 x, .int .i64 y, .bool black] w (RetF2 (setDot f x y black) 0 w) := by
  have ho : Own w [(frC f, 26), (frC Fr.zero, 26)] ((w.alloc (.cells (frC f) 26)).alloc (.cells (frC Fr.zero) 26)) := ((Own.start w).push rfl _ _).push (by simp) _ _
  have hP := isP_in hx hy
  cases black with
  | true =>
    go_enter Try.func47, Try.ntmps47
    go_wp2_with (go_at_call 129; refine (checkPlace_ok f _ _ _ hf hP).mono ?_; rintro e w1 ⟨rfl, hb1⟩; have ho1 := ho.call hb1; obtain ⟨f1, f2, f3, f4, f5, f6, f7⟩ := (ho1.at 0 rfl).facts (Nat.add_zero _); have c1 := f1 y; rw [frC_at f hy] at c1)
    go_region
    have ho2 := (ho1.set' 0 rfl (Nat.add_zero _).symm (frC (f.set y (f.row y &&& ~~~(1#16 <<< x)))) rfl).drew
    obtain ⟨q1, q2, q3, q4, q5, q6, q7⟩ := (ho2.at 0 rfl).facts (Nat.add_zero _)
    generalize hg : f.set y (f.row y &&& ~~~(1#16 <<< x)) = g at *
    replace hg := Lib.hid hg
    go_wp2_with (go_at_call 132; refine (with_any g x y _ (by omega) hy).mono ?_; rintro e w3 ⟨rfl, hb3⟩; have ho3 := ho2.call hb3; obtain ⟨k1, k2, k3, k4, k5, k6, k7⟩ := (ho3.at 0 rfl).facts (Nat.add_zero _); have ho4 := ho3.set' 0 rfl (Nat.add_zero _).symm (frC (g.put x y)) rfl; obtain ⟨m1, m2, m3, m4, m5, m6, m7⟩ := (ho4.at 0 rfl).facts (Nat.add_zero _); obtain ⟨j1, j2, j3, j4, j5, j6, j7⟩ := (ho4.at 1 rfl).facts rfl)
    have ho5 := ho4.set' 1 rfl rfl (frC (g.put x y)) rfl
    exact bodyPost_ret (results26_two rfl rfl rfl (ho5.at 1 rfl)) rfl ⟨by rw [← hg.out]; rfl, ho5.below⟩
  | false =>
    go_enter Try.func47, Try.ntmps47
    go_wp2_with (go_at_call 129; refine (checkPlace_ok f _ _ _ hf hP).mono ?_; rintro e w1 ⟨rfl, hb1⟩; have ho1 := ho.call hb1; obtain ⟨f1, f2, f3, f4, f5, f6, f7⟩ := (ho1.at 0 rfl).facts (Nat.add_zero _); have c1 := f1 y; rw [frC_at f hy] at c1)
    go_region
    have ho2 := (ho1.set' 0 rfl (Nat.add_zero _).symm (frC (f.set y (f.row y &&& ~~~(1#16 <<< x)))) rfl).drew
    obtain ⟨q1, q2, q3, q4, q5, q6, q7⟩ := (ho2.at 0 rfl).facts (Nat.add_zero _)
    obtain ⟨k1, k2, k3, k4, k5, k6, k7⟩ := (ho2.at 1 rfl).facts rfl
    generalize hg : f.set y (f.row y &&& ~~~(1#16 <<< x)) = g at *
    replace hg := Lib.hid hg
    go_wp2
    have ho5 := ho2.set' 1 rfl rfl (frC g) rfl
    exact bodyPost_ret (results26_two rfl rfl rfl (ho5.at 1 rfl)) rfl ⟨by rw [← hg.out]; rfl, ho5.below⟩
end Go.Proofs.Ythhimlicaiifdaa
