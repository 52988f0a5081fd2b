/- Frames: counted, inverted, flipped. -/
import Derived.Test.YthhimlicaiifdaaY3
import Derived.Lib.Tables
import Derived.Lib.BitFns
import Derived.Deep.QuietTactic
import Derived.BigQuiet
set_option maxRecDepth 100000
set_option linter.unusedSimpArgs false
set_option linter.unusedVariables false
namespace Go.Proofs.Ythhimlicaiifdaa
open Go.RowKit Fb

theorem wpQuiet_idx {P : Program} {ops : Array Oper} {C : World → Prop} {Q : Act → Prop} {a : Act} {o : Oper} {rest : List Oper} (hg : o.guard = none) (T : TypeId) (s : ByteArray) (x : Operand)
    (ho : o.op = .index T (.const (.string s)) x) (hT : P.underlying T = some .string) (hs : s = Lib.pop8tab) (k : IntKind) (i : Int) (hx : a.eval x = .int k i) (h0 : 0 ≤ i) (h1 : i ≤ 255)
    (h : wpQuiet P ops C Q rest (a.put o.dst (.int .u8 (Lib.pop8 i)))) : wpQuiet P ops C Q (o :: rest) a := by
  refine wpQuiet_step fun K hK => ?_
  rw [if_pos (by simp [Region.wanted, hg])]
  refine ⟨.int .u8 (Lib.pop8 i), fun w _ => ?_, hK _ h⟩
  have hr := Lib.run_index_pop8tab (P := P) (w := w) T k i hT h0 h1
  subst hs
  unfold Oper.quietAt execOp
  rw [ho]
  have he : a.eval (.const (.string Lib.pop8tab)) = .string Lib.pop8tab := rfl
  simp only [he, hx, Sem.run_bind, hr, Result.andThen_ok, Sem.run_pure]
  exact ⟨rfl, rfl⟩

theorem pop8_lo (i : Int) : 0 ≤ Lib.pop8 i := by unfold Lib.pop8; omega
theorem pop8_pop : ∀ n : Fin 256, Lib.pop8 (n.val : Int) = (((List.range 8).countP fun x => n.val.testBit x : Nat) : Int) := by decide +kernel
theorem ones_val (v : Row) : Lib.pop8 (rowI v / 256) + Lib.pop8 (rowI v % 256) = (Fr.pop v : Int) := by
  have hl : v.toNat < 65536 := v.isLt
  have h1 := pop8_pop ⟨v.toNat / 256, by omega⟩
  have h2 := pop8_pop ⟨v.toNat % 256, by omega⟩
  have e1 : rowI v / 256 = ((v.toNat / 256 : Nat) : Int) := by unfold rowI; omega
  have e2 : rowI v % 256 = ((v.toNat % 256 : Nat) : Int) := by unfold rowI; omega
  simp only at h1 h2
  rw [e1, e2, h1, h2, ← Int.natCast_add]
  congr 1
  unfold Fr.pop
  have e : List.range 16 = List.range 8 ++ (List.range 8).map (· + 8) := by decide
  rw [e, List.countP_append, List.countP_map, Nat.add_comm]
  congr 1
  · apply List.countP_congr
    intro x hx
    have hx8 : x < 8 := by simpa using hx
    unfold BitVec.getLsbD
    rw [show (256 : Nat) = 2 ^ 8 from rfl, Nat.testBit_mod_two_pow]
    simp [hx8]
  · apply List.countP_congr
    intro x hx
    simp only [Function.comp]
    unfold BitVec.getLsbD
    rw [show (256 : Nat) = 2 ^ 8 from rfl, Nat.testBit_div_two_pow, Nat.add_comm]

theorem and255_row (v : Row) : bits .and .u16 (rowI v) 255 = rowI v % 256 := by
  have h := bits_and_row v 255
  have : rowI (v &&& 255) = rowI v % 256 := by
    unfold rowI
    rw [BitVec.toNat_and, show (255 : Row).toNat = 2 ^ 8 - 1 from rfl, Nat.and_two_pow_sub_one_eq_mod]
    omega
  rw [← this, ← h]; rfl

theorem ones_any (v : Row) (w : World) : Calls Try.prog 206 #[.int .u16 (rowI v)] w (RetB (.int .i64 (Fr.pop v)) w) := by
  have h0 := rowI_lo v
  have h1 := rowI_hi v
  have hV := Lib.hid (ones_val v)
  have hp := Fr.pop_le v
  have hA := and255_row v
  have q1 := pop8_lo (rowI v / 256)
  have q2 := pop8_lo (rowI v % 256)
  have q3 : Lib.pop8 (rowI v / 256) + Lib.pop8 (rowI v % 256) ≤ 16 := by rw [hV.out]; omega
  go_enter Try.func206, Try.ntmps206
  go_wp2
  refine wp_region_quiet_lit (by kernel_rfl) (by kernel_rfl) ?_
  go_big_quiet_step (fail)
  go_big_quiet_step (fail)
  refine wpQuiet_idx rfl 9 _ _ rfl Try.underlying9 (by kernel_rfl) .u16 (rowI v / 256) rfl (by omega) (by omega) ?_
  simp only [Act.put, List.setIfInBounds_toArray, List.set_cons_succ, List.set_cons_zero]
  go_big_quiet_step (fail)
  go_big_quiet_step (fail)
  refine wpQuiet_idx rfl 9 _ _ rfl Try.underlying9 (by kernel_rfl) .u16 (rowI v % 256) rfl (by omega) (by omega) ?_
  simp only [Act.put, List.setIfInBounds_toArray, List.set_cons_succ, List.set_cons_zero]
  repeat (go_big_quiet_step (fail))
  refine wpQuiet_nil ?_
  intro _ hw'
  obtain ⟨nq, rfl⟩ := hw'
  go_wp2
  go_ret
  exact RetB.mk (by rw [← hV.out]; rfl) ⟨rfl, rfl, rfl, Nat.le_refl _, fun _ _ => rfl⟩

set_option maxHeartbeats 400000 in
theorem count_any (f : Fr) (w : World) (hk : f.ok = true) : Calls Try.prog 123 #[frV f] w (RetB (.int .i64 f.cnt) w) := by
  rw [Fr.cnt_eq hk]
  go_enter Try.func123, Try.ntmps123
  go_wp2
  go_loopw [3, 7] (fun s t wr => ∃ k : Nat, k ≤ 12 ∧ t = .int .i64 k ∧ s = .int .i64 (f.cntTo k) ∧ Own w [] wr) (fun _ t _ => 12 - (intOf t).toNat)
  case atStart => exact ⟨0, by omega, rfl, rfl, (Own.start w).alloc _⟩
  case round =>
    obtain ⟨k, hk2, rfl, rfl, ho⟩ := hrel
    by_cases hlt : k < 12
    · have hS := Lib.hid (Fr.cntTo_succ f k)
      have hl := Fr.cntTo_le f k
      have hp := Fr.pop_le (f.row k)
      go_wp2_with (go_at_call 206; refine (ones_any (f.row k) _).mono ?_; rintro e w1 ⟨rfl, hb1⟩)
      go_roundw
      case rel => exact ⟨k + 1, by omega, by go_num, by rw [hS.out]; go_num, ho.call hb1⟩
      case measure => simp [intOf]; omega
    · obtain rfl : k = 12 := by omega
      go_wp2
      go_ret
      exact RetB.mk rfl ho.below

theorem invert_ok (f : Fr) (w : World) (hk : f.ok = true) : Calls Try.prog 18 #[frV f] w (RetF2 f.invert 0 w) := by
  have ho : Own w [(frC f, 26), (frC Fr.zero, 26)] ((w.alloc (.cells (frC f) 26)).alloc (.cells (frC Fr.zero) 26)) := ((Own.start w).push rfl _ _).push (by simp) _ _
  go_enter Try.func18, Try.ntmps18
  go_wp2_with (first | (go_at_call 20; refine (valid_any f _).mono ?_; rintro e w1 ⟨rfl, hb1⟩; have ho1 := ho.call hb1; obtain ⟨f1, f2, f3, f4, f5, f6, f7⟩ := (ho1.at 0 rfl).facts (Nat.add_zero _)) | (go_at_call 114; refine (mix_any _ _ invert1_mix f f _).mono ?_; rintro e w2 ⟨rfl, hb2⟩; have ho2 := ho1.call hb2; obtain ⟨k1, k2, k3, k4, k5, k6, k7⟩ := (ho2.at 1 rfl).facts rfl))
  have ho3 := ho2.set' 1 rfl rfl (frC f.invert) rfl
  exact bodyPost_ret (results26_two rfl rfl rfl (ho3.at 1 rfl)) rfl ⟨rfl, ho3.below⟩

/-! ### Frames in slices -/
def frE (f : Fr) : List Value := (frC f).toList
theorem frE_len (f : Fr) : (frE f).length = 12 := by unfold frE; rw [Array.length_toList, frC_size]
theorem frE_one (f : Fr) (u : Value) (h : u ∈ frE f) : u.oneCell' = true := by
  have := frC_oneCell f
  rw [Array.all_eq_true_iff_forall_mem] at this
  exact this u (by simpa [frE] using h)
theorem frE_get (f : Fr) {y : Nat} (h : y < 12) : (frE f)[y]? = some (.int .u16 (rowI (f.row y))) := by unfold frE; rw [Array.getElem?_toList]; exact frC_at f h
theorem infoFr : (Try.prog.info? 26).map (fun i => (i.zero, i.size, i.bytes)) = some (some (.agg #[.int .u16 0, .int .u16 0, .int .u16 0, .int .u16 0, .int .u16 0, .int .u16 0, .int .u16 0, .int .u16 0, .int .u16 0, .int .u16 0, .int .u16 0, .int .u16 0]), 12, 24) := by kernel_rfl

theorem FrAt.row? {w : World} {b o : Nat} {f : Fr} (h : FrAt w b o f) : Fb.row? w b o 12 = some (frC f) := by
  unfold Fb.row?
  have h11 := h 11 (by omega)
  unfold World.cell? at h11
  split at h11
  · rename_i c t fr hb
    rw [hb]
    simp only [Option.isSome_none, Bool.false_eq_true, if_false] at h11
    have hsz : o + 11 < c.size := (Array.getElem?_eq_some_iff.1 h11).1
    show rowIn c o 12 = _
    unfold rowIn
    rw [if_pos (by omega)]
    congr 1
    apply Array.ext_getElem?
    intro i
    rw [Array.getElem?_extract]
    by_cases hi : i < 12
    · rw [if_pos (by omega), frC_at f hi]
      have := h i hi
      rw [cell_of_row w b (o + i) c t fr hb] at this
      exact this
    · rw [if_neg (by omega)]
      exact (Array.getElem?_eq_none (by rw [frC_size]; omega)).symm
  · cases h11
theorem Reads.frAt {w : World} {b o c n : Nat} {xs : List Fr} (h : ∀ i x, xs[i]? = some x → ∀ j u, (frE x)[j]? = some u → w.cell? ⟨b, o + i * 12 + j, none⟩ = some u) {k : Nat} {f : Fr} (hk : xs[k]? = some f) : FrAt w b (o + k * 12) f := fun y hy => h k f hk y _ (frE_get f hy)

def bsBig (t : TypeId) (n : Nat) (parts : Array (Nat × Value)) : Sem Value := Instr.buildSlice t n parts
@[go_sem ↓] theorem execOp_bs1 (ρ : Operand → Value) (dst : Option Tmp) (x : Operand) (ty : TypeId) (pos : String) (after : Array Edge) (guard : Option (Nat × Bool)) :
    execOp ρ { dst, op := .buildSlice 47 1 #[(0, x)], type := ty, pos, after, guard } = (do pure (.value (← bsBig 47 1 #[(0, ρ x)]))) := by simp [execOp, bsBig]
@[go_sem ↓] theorem execOp_bs2 (ρ : Operand → Value) (dst : Option Tmp) (x y : Operand) (ty : TypeId) (pos : String) (after : Array Edge) (guard : Option (Nat × Bool)) :
    execOp ρ { dst, op := .buildSlice 47 2 #[(0, x), (1, y)], type := ty, pos, after, guard } = (do pure (.value (← bsBig 47 2 #[(0, ρ x), (1, ρ y)]))) := by simp [execOp, bsBig]
@[go_sem] theorem run_bs1 (f : Fr) (w : World) : (bsBig 47 1 #[(0, .agg (frC f))]).run Try.prog w = .ok (.slice (some ⟨w.heap.size, 0, none⟩) 1 1) (w.alloc (.cells (frC f) 26)) := by kernel_rfl
@[go_sem] theorem run_bs2 (f g : Fr) (w : World) : (bsBig 47 2 #[(0, .agg (frC f)), (1, .agg (frC g))]).run Try.prog w = .ok (.slice (some ⟨w.heap.size, 0, none⟩) 2 2) (w.alloc (.cells (frC f ++ frC g) 26)) := by kernel_rfl
end Go.Proofs.Ythhimlicaiifdaa
