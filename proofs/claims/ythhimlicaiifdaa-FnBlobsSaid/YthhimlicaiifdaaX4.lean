import Derived.Test.YthhimlicaiifdaaX2
set_option maxRecDepth 100000
namespace Go.Proofs.Ythhimlicaiifdaa
open Go.RowKit Fb

theorem with_any (f : Fr) (x y : Nat) (w : World) (hx : x < 16) (hy : y < 12) : Calls Try.prog 132 #[frV f, .int .i64 x, .int .i64 y] w (RetB (frV (f.put x y)) w) := by
  go_enter Try.func132, Try.ntmps132
  go_wp2
  go_region
  go_wp2
  exact bodyPost_ret (results26 rfl _ _ _ 0 (frC (f.put x y)) rfl (by simp [go_sem]; rfl)) rfl (RetB.mk rfl ((((Below.refl _ _).alloc (Nat.le_refl _) _).alloc (by simp) _).drew))
end Go.Proofs.Ythhimlicaiifdaa
