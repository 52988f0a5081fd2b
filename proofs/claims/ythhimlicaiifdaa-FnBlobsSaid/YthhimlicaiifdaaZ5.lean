/- A frame shrunk: the program's own function on a valid frame. -/
import Derived.Test.YthhimlicaiifdaaZ4
import Derived.Laws.EntriesVeiled
set_option maxRecDepth 100000
set_option linter.unusedSimpArgs false
set_option linter.unusedVariables false
namespace Go.Proofs.Ythhimlicaiifdaa
open Go.RowKit Fb

theorem inner_at (f : Fr) (b c : Nat) (w : World) (hB : Blk w b (frC f) 26) (hC : Blk w c #[.func (.func 137) #[] #[.pointer (some ⟨b, 0, none⟩)]] 124) : IsAt 138 #[.pointer (some ⟨b, 0, none⟩), .pointer (some ⟨c, 0, none⟩)] (inner f) w :=
  ⟨fun args W => by kernel_rfl, fun W x y hb hx hy => inner_any f b c x y hx hy W (hB.below hb) (hC.below hb)⟩
theorem shrink_eq (f : Fr) : Fr.ofHas (inner f) = f.shrink := by
  refine Fr.ext_has (Fr.ok_ofHas _) (Fr.ok_ofHas _) ?_
  intro x y h1 h2 h3 h4
  unfold Fr.shrink
  rw [Fr.has_ofHas, Fr.has_ofHas]
  have e1 : isP (x + 1) y = !decide (x + 1 = 12) := by unfold isP; rw [Bool.eq_iff_iff]; simp; omega
  have e2 : isP (x - 1) y = !decide (x = 0) := by unfold isP; rw [Bool.eq_iff_iff]; simp; omega
  have e3 : isP x (y + 1) = !decide (y + 1 = 12) := by unfold isP; rw [Bool.eq_iff_iff]; simp; omega
  have e4 : isP x (y - 1) = !decide (y = 0) := by unfold isP; rw [Bool.eq_iff_iff]; simp; omega
  unfold inner filled
  rw [e1, e2, e3, e4]
  simp
set_option maxHeartbeats 2000000 in
theorem ShrinkFrame_ok (f : Fr) (w : World) (hf : f.ok = true) : Calls Try.prog 40 #[frV f] w (RetF2 f.shrink 0 w) := by
  have ho : Own w [(frC f, 26), (frC Fr.zero, 26)] ((w.alloc (.cells (frC f) 26)).alloc (.cells (frC Fr.zero) 26)) := ((Own.start w).push rfl _ _).push (by simp) _ _
  go_enter Try.func40, Try.ntmps40
  go_wp2_with (first | (go_at_call 20; refine (valid_any f _).mono ?_; rintro e w1 ⟨rfl, hb1⟩; have ho1 := ho.call hb1; have hn := Blk.alloc_new w1 #[.nilFunc] 124; obtain ⟨n1, n2, n3, n4, n5, n6, n7⟩ := hn.facts rfl; have n0 := n1 0; have hc := hn.setRow #[.func (.func 137) #[] #[.pointer (some ⟨w.heap.size, 0, none⟩)]]; have ho2 := (ho1.alloc (.cells #[.nilFunc] 124)).setOther w1.heap.size (by have := (ho1.at 1 rfl).lt; simp; omega) #[.func (.func 137) #[] #[.pointer (some ⟨w.heap.size, 0, none⟩)]]) | (go_at_call 104; refine (where_any _ _ _ _ (inner_at f _ _ _ ((ho2.at 0 rfl).facts' (Nat.add_zero _)) hc)).mono ?_; rintro e w3 ⟨rfl, hb3⟩; rw [shrink_eq]; have ho3 := ho2.call hb3; obtain ⟨k1, k2, k3, k4, k5, k6, k7⟩ := (ho3.at 1 rfl).facts rfl))
  have ho4 := ho3.set' 1 rfl rfl (frC f.shrink) rfl
  exact bodyPost_ret (results26_two rfl rfl rfl (ho4.at 1 rfl)) rfl ⟨rfl, ho4.below⟩
end Go.Proofs.Ythhimlicaiifdaa
