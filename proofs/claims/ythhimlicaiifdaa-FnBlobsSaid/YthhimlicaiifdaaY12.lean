/- A frame read from its text. -/
import Derived.Test.YthhimlicaiifdaaY11
import Derived.Deep.RegionWith
import Derived.Deep.DrawnRows
set_option maxRecDepth 100000
set_option linter.unusedSimpArgs false
set_option linter.unusedVariables false
namespace Go.Proofs.Ythhimlicaiifdaa
open Go.RowKit Fb
attribute [local go_sem ↓] Go.wp_at_zero Go.wp_at_succ

theorem textOf_size (f : Fr) : (textOf f).size = 156 := by
  show (txt f 156).toArray.size = 156
  simp [txt]
theorem textOf_get (f : Fr) {i : Nat} (h : i < 156) : (textOf f).data[i]? = some (tAt f i) := by
  show (txt f 156).toArray[i]? = _
  simp [txt, h]

set_option maxHeartbeats 2000000 in
theorem read1_any (f : Fr) (b : Nat) (t : TypeId) (x y : Nat) (hx : x < 12) (hy : y < 12) (w : World) (hB : Blk w b #[.string (textOf f)] t) : Calls Try.prog 105 #[.int .i64 x, .int .i64 y, .pointer (some ⟨b, 0, none⟩)] w (RetB (.bool (f.dot x y)) w) := by
  obtain ⟨f1, f2, f3, f4, f5, f6, f7⟩ := hB.facts rfl
  have c0 := f1 0
  have hs := textOf_size f
  have hg := textOf_get f (i := 13 * y + x) (by omega)
  go_enter Try.func105, Try.ntmps105
  go_wp2
  go_ret
  have e : (textOf f)[y * 13 + x]'(by omega) = tAt f (13 * y + x) := by
    rw [← (Array.getElem?_eq_some_iff.1 hg).2]
    show (textOf f).data[y * 13 + x]'_ = _
    congr 1
    omega
  refine RetB.mk ?_ (Below.refl _ _)
  rw [e, tAt_dot f hx]
  cases f.dot x y <;> rfl

theorem read1_at (f : Fr) (b : Nat) (t : TypeId) (w : World) (hB : Blk w b #[.string (textOf f)] t) : IsAt 105 #[.pointer (some ⟨b, 0, none⟩)] (fun x y => f.dot x.toNat y.toNat) w :=
  ⟨fun args W => by kernel_rfl, fun W x y hb hx hy => read1_any f b t x y hx hy W (hB.below hb)⟩
theorem ofHas_dot {f : Fr} (h : f.ok = true) : Fr.ofHas (fun x y => f.dot x.toNat y.toNat) = f := by
  conv => rhs; rw [Fr.eq_ofDots h]
  rfl

set_option maxHeartbeats 2000000 in
theorem ReadFrame_ok (f : Fr) (w : World) (hf : f.ok = true) : Calls Try.prog 10 #[.string (textOf f)] w (RetF2 f 0 w) := by
  have hs := textOf_size f
  have ho : Own w [(#[.string (textOf f)], 9), (frC Fr.zero, 26)] ((w.alloc (.cells #[.string (textOf f)] 9)).alloc (.cells (frC Fr.zero) 26)) := ((Own.start w).push rfl _ _).push (by simp) _ _
  obtain ⟨e1, e2, e3, e4, e5, e6, e7⟩ := (ho.at 0 rfl).facts (Nat.add_zero _)
  go_enter Try.func10, Try.ntmps10
  go_wp2_with (go_at_call 104; refine (where_any _ _ _ _ (read1_at f _ _ _ ((ho.at 0 rfl).facts' (Nat.add_zero _)))).mono ?_; rintro e w1 ⟨rfl, hb1⟩; rw [ofHas_dot hf]; have ho1 := ho.call hb1; have ho1' := ho1.alloc (.cells (frC f) 26); have hn := Blk.alloc_new w1 (frC f) 26)
  obtain ⟨q1, q2, q3, q4, q5, q6, q7⟩ := (ho1.at 0 rfl).facts (Nat.add_zero _)
  have q0 := q1 0
  go_region_with (go_at_call 106; refine (frameText_any f _).mono ?_; rintro e w2 ⟨rfl, hb2⟩; have ho2 := ho1'.drew.call hb2; have hn2 := hn.drew.below hb2; obtain ⟨r1, r2, r3, r4, r5, r6, r7⟩ := (ho2.at 0 rfl).facts (Nat.add_zero _); have r0 := r1 0)
  all_goals (obtain ⟨g1, g2, g3, g4, g5, g6, g7⟩ := (ho2.at 1 rfl).facts rfl)
  all_goals (obtain ⟨m1, m2, m3, m4, m5, m6, m7⟩ := hn2.facts rfl)
  all_goals go_wp2
  all_goals exact bodyPost_ret (results26_two rfl rfl rfl ((ho2.set' 1 rfl rfl (frC f) rfl).at 1 rfl)) rfl ⟨rfl, (ho2.set' 1 rfl rfl (frC f) rfl).below⟩
end Go.Proofs.Ythhimlicaiifdaa
