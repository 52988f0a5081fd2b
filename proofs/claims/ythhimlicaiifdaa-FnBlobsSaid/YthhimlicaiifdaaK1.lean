import Derived.Test.YthhimlicaiifdaaProg
import Derived.Test.YthhimlicaiifdaaK0
import Derived.KernelRfl
set_option maxRecDepth 100000
namespace Go.Proofs.Ythhimlicaiifdaa
open Go.RowKit Fb

theorem info26 : (Try.prog.info? 26).map (·.size) = some 12 := by kernel_rfl
theorem under26 : Try.prog.underlying 26 = some (.array 12 24) := by kernel_rfl
@[go_sem ↓] theorem execOp_load26 (ρ : Operand → Value) (dst : Option Tmp) (x : Operand) (ty : TypeId) (pos : String) (after : Array Edge) (guard : Option (Nat × Bool)) :
    execOp ρ { dst, op := .load 26 x, type := ty, pos, after, guard } = (do pure (.value (← loadBig 26 (ρ x)))) := rfl
@[go_sem ↓] theorem execOp_store26 (ρ : Operand → Value) (dst : Option Tmp) (x y : Operand) (ty : TypeId) (pos : String) (after : Array Edge) (guard : Option (Nat × Bool)) :
    execOp ρ { dst, op := .store 26 x y, type := ty, pos, after, guard } = (do storeBig 26 (ρ x) (ρ y); pure .skip) := rfl
@[go_sem] theorem run_load26 (b o : Nat) (w : World) : (loadBig 26 (.pointer (some ⟨b, o, none⟩))).run Try.prog w = loadK (row? w b o 12) ((Instr.loadAt 26 (.pointer (some ⟨b, o, none⟩))).run Try.prog w) w := run_loadBig under26 rfl info26 b o w
@[go_sem] theorem run_store26 (b o : Nat) (cs : Array Value) (w : World) : (storeBig 26 (.pointer (some ⟨b, o, none⟩)) (.agg cs)).run Try.prog w = storeK (fits w b o 12 && decide (cs.size = 12) && oneAll cs) (putRow w b o cs) ((Instr.storeAt 26 (.pointer (some ⟨b, o, none⟩)) (.agg cs)).run Try.prog w) := run_storeBig info26 b o cs w

theorem isAgg24 (w : World) : (isAgg 24).run Try.prog w = .ok false w := by kernel_rfl
theorem size24 (w : World) : (sizeOf 24).run Try.prog w = .ok 1 w := by kernel_rfl
@[go_sem] theorem run_index26 (f : Fr) (ik : IntKind) (k : Nat) (hk : k < 12) (w : World) : (Instr.index 26 (.agg (frC f)) (.int ik (k : Int))).run Try.prog w = .ok (.int .u16 (rowI (f.row k))) w := by
  have h1 : (0 : Int) ≤ k ∧ (k : Int) < 12 := by omega
  unfold Instr.index
  simp only [asIntOf, Sem.run_bind, Sem.run_pure, Result.andThen_ok, run_underlying under26]
  simp [h1, isAgg24, size24, part, frC_at f hk, Sem.run_bind]

theorem results26 {fn : Func} {p : Tmp} (h : fn.results = #[.cell p 26]) (tmps : Array Value) (w : World) (b o : Nat) (cs : Array Value)
    (hp : tmps.getD p undef = .pointer (some ⟨b, o, none⟩)) (hr : row? w b o 12 = some cs) : (results fn tmps).run Try.prog w = .ok (.agg cs) w := by
  have hp' : tmps[p]?.getD undef = .pointer (some ⟨b, o, none⟩) := by simpa using hp
  have h1 := run_loadVar_big under26 rfl info26 b o w
  rw [hr, loadK_some] at h1
  simp [results, h, hp', asAddr, h1]
theorem results26_blk {fn : Func} {p : Tmp} (h : fn.results = #[.cell p 26]) {tmps : Array Value} {w : World} {b : Nat} {f : Fr} {t : TypeId}
    (hp : tmps.getD p undef = .pointer (some ⟨b, 0, none⟩)) (hb : Blk w b (frC f) t) : (results fn tmps).run Try.prog w = .ok (frV f) w :=
  results26 h tmps w b 0 (frC f) hp (by rw [hb.row, rowIn_fr])
end Go.Proofs.Ythhimlicaiifdaa
