/- Whether two frames are the same: what the model's == comes to. -/
import Derived.Test.YthhimlicaiifdaaK1
import Derived.ChangeKeysEq
set_option maxRecDepth 100000
namespace Go.Proofs.Ythhimlicaiifdaa
open Go.RowKit Fb

theorem run_eqItems_fr (d : Nat) (f g : Fr) (w : World) : ∀ is : List Nat, (∀ i, i ∈ is → i < 12) → (Op.eqItems (d + 1) 24 1 (frC f) (frC g) is).run Try.prog w = .ok (is.all fun i => decide (f.row i = g.row i)) w
  | [], _ => by simp [Op.eqItems]
  | i :: is, h => by
    have hi : i < 12 := h i (by simp)
    have ih := run_eqItems_fr d f g w is fun j hj => h j (by simp [hj])
    have e1 : ∀ x : Fr, (part 24 (frC x) (i * 1)).run Try.prog w = .ok (.int .u16 (rowI (x.row i))) w := fun x => by
      simp [part, frC_at x hi, Sem.run_bind]
    have e2 : (Op.equalIn (d + 1) 24 (.int .u16 (rowI (f.row i))) (.int .u16 (rowI (g.row i)))).run Try.prog w = .ok (decide (f.row i = g.row i)) w := by
      rw [run_equalIn_int w d 24 .u16 .u16 _ _ Try.underlying24, row_beq]
    simp only [Op.eqItems, Sem.run_bind, e1, e2, Result.andThen_ok, List.all_cons]
    cases decide (f.row i = g.row i) with
    | true => simpa using ih
    | false => simp

theorem fr_all (f g : Fr) : ((List.range 12).all fun i => decide (f.row i = g.row i)) = decide (f = g) := by
  rw [Bool.eq_iff_iff, List.all_eq_true, decide_eq_true_eq]
  constructor
  · intro h
    exact Fr.ext_row fun y hy => of_decide_eq_true (h y (List.mem_range.2 hy))
  · rintro rfl i _
    simp

theorem info24 : ∃ i, Try.prog.info? 24 = some i := by
  obtain ⟨i, hi⟩ := Option.isSome_iff_exists.1 (show (Try.prog.info? 24).isSome = true by kernel_rfl)
  exact ⟨i, hi⟩
theorem cells24 : Try.prog.cellsOf 24 = 1 := by kernel_rfl
@[go_sem ↓] theorem run_equal26 (f g : Fr) (w : World) : (Op.equalIn 10000 26 (.agg (frC f)) (.agg (frC g))).run Try.prog w = .ok (decide (f = g)) w := by
  obtain ⟨i, hi⟩ := info24
  rw [show (10000 : Nat) = 9999 + 1 from rfl, run_equalIn_array w 9999 _ _ under26 hi, cells24, show (9999 : Nat) = 9998 + 1 from rfl, run_eqItems_fr 9998 f g w _ (fun i hi => List.mem_range.1 hi), fr_all]
end Go.Proofs.Ythhimlicaiifdaa
