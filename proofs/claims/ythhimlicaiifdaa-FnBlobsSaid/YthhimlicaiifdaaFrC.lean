/- Frames: how many dots there are. -/
import Derived.Test.YthhimlicaiifdaaFrB
namespace Fb
namespace Fr

/-- The bits of a row. -/
def pop (v : Row) : Nat := (List.range 16).countP fun x => v.getLsbD x
def cnt (f : Fr) : Nat := f.dots.length

theorem pop_le (v : Row) : pop v ≤ 16 := by
  unfold pop
  have := List.countP_le_length (p := fun x => v.getLsbD x) (l := List.range 16)
  simpa using this

theorem pop_ok {v : Row} (h : v.toNat ≤ 4095) : pop v = (List.range 12).countP fun x => v.getLsbD x := by
  unfold pop
  have e : List.range 16 = List.range 12 ++ [12, 13, 14, 15] := by decide
  rw [e, List.countP_append]
  have hz : ([12, 13, 14, 15] : List Nat).countP (fun x => v.getLsbD x) = 0 := by
    rw [List.countP_eq_zero]
    intro x hx
    rw [lsb_high h (by simp at hx; omega)]
    simp
  rw [hz]; rfl

/-- The counts of the rows before y. -/
def cntTo (f : Fr) (y : Nat) : Nat := ((List.range y).map fun i => pop (f.row i)).sum

theorem cntTo_zero (f : Fr) : f.cntTo 0 = 0 := rfl
theorem cntTo_succ (f : Fr) (y : Nat) : f.cntTo (y + 1) = f.cntTo y + pop (f.row y) := by
  unfold cntTo; rw [List.range_succ, List.map_append, List.sum_append]; simp
theorem cntTo_le (f : Fr) (y : Nat) : f.cntTo y ≤ 16 * y := by
  induction y with
  | zero => simp [cntTo]
  | succ y ih => rw [cntTo_succ]; have := pop_le (f.row y); omega

theorem cnt_eq {f : Fr} (h : f.ok = true) : f.cnt = f.cntTo 12 := by
  unfold cnt dots places cntTo
  rw [List.filter_flatMap, List.length_flatMap]
  congr 1
  apply List.map_congr_left
  intro y _
  rw [List.filter_map, List.length_map, pop_ok (ok_row h y), List.countP_eq_length_filter]
  rfl

theorem cnt_le (f : Fr) : f.cnt ≤ 144 := by
  unfold cnt dots
  have : places.length = 144 := by decide +kernel
  rw [← this]
  exact List.length_filter_le _ _

theorem cnt_zero_iff {f : Fr} (h : f.ok = true) : f.cnt = 0 ↔ f = zero := by
  constructor
  · intro hc
    apply ext_ok h ok_zero
    intro x y hx hy
    rw [dot_zero]
    cases hd : f.dot x y with
    | false => rfl
    | true =>
      have := (mem_dots f x y).2 ⟨hx, hy, hd⟩
      have hn : f.dots = [] := List.eq_nil_of_length_eq_zero hc
      rw [hn] at this
      cases this
  · rintro rfl
    unfold cnt
    have : zero.dots = [] := by
      unfold dots
      rw [List.filter_eq_nil_iff]
      intro p _
      rw [dot_zero]; simp
    rw [this]; rfl

/-- Frames of which one has all dots of the other. -/
def sub (a b : Fr) : Prop := ∀ x y, a.dot x y = true → b.dot x y = true

theorem sub_refl (a : Fr) : sub a a := fun _ _ h => h
theorem sub_trans {a b c : Fr} (h : sub a b) (k : sub b c) : sub a c := fun x y d => k x y (h x y d)
theorem sub_antisymm {a b : Fr} (h : sub a b) (k : sub b a) : a = b := ext_dot fun x y _ _ => by
  cases ha : a.dot x y with
  | true => rw [h x y ha]
  | false =>
    cases hb : b.dot x y with
    | false => rfl
    | true => have := k x y hb; rw [ha] at this; cases this

theorem filter_len_lt {α : Type} (p q : α → Bool) (l : List α) (h : ∀ a, p a = true → q a = true) {a : α} (ha : a ∈ l) (hp : p a = false) (hq : q a = true) :
    (l.filter p).length < (l.filter q).length := by
  induction l with
  | nil => cases ha
  | cons b l ih =>
    have hle : (l.filter p).length ≤ (l.filter q).length := by
      rw [← List.countP_eq_length_filter, ← List.countP_eq_length_filter]
      exact List.countP_mono_left fun x _ hx => h x hx
    rcases List.mem_cons.1 ha with e | ha'
    · subst e
      rw [List.filter_cons_of_neg (by simp [hp]), List.filter_cons_of_pos hq, List.length_cons]
      omega
    · have := ih ha'
      cases hb : p b with
      | true => rw [List.filter_cons_of_pos hb, List.filter_cons_of_pos (h b hb), List.length_cons, List.length_cons]; omega
      | false =>
        rw [List.filter_cons_of_neg (by simp [hb])]
        cases hc : q b with
        | true => rw [List.filter_cons_of_pos hc, List.length_cons]; omega
        | false => rw [List.filter_cons_of_neg (by simp [hc])]; exact this

theorem cnt_mono {a b : Fr} (h : sub a b) : a.cnt ≤ b.cnt := by
  unfold cnt dots
  rw [← List.countP_eq_length_filter, ← List.countP_eq_length_filter]
  exact List.countP_mono_left fun p _ hp => h _ _ hp

theorem cnt_lt {a b : Fr} (hb : b.ok = true) (h : sub a b) (hne : a ≠ b) : a.cnt < b.cnt := by
  have : ∃ x y, x < 12 ∧ y < 12 ∧ a.dot x y = false ∧ b.dot x y = true := by
    apply Classical.byContradiction
    intro hn
    apply hne
    apply sub_antisymm h
    intro x y hd
    have hx : x < 12 := by
      apply Classical.byContradiction
      intro hx
      rw [ok_dot hb (by omega)] at hd
      cases hd
    have hy : y < 12 := by
      apply Classical.byContradiction
      intro hy
      rw [dot_ge b (by omega)] at hd
      cases hd
    cases ha : a.dot x y with
    | true => rfl
    | false => exact absurd ⟨x, y, hx, hy, ha, hd⟩ hn
  obtain ⟨x, y, hx, hy, ha, hb⟩ := this
  unfold cnt dots
  exact filter_len_lt _ _ places (fun p hp => h _ _ hp) ((mem_places x y).2 ⟨hx, hy⟩) ha hb

theorem dot_of_has {f : Fr} {x y : Int} (h : f.has x y = true) : f.dot x.toNat y.toNat = true := by
  unfold has at h; simp only [Bool.and_eq_true] at h; exact h.2

theorem dots_head {f : Fr} (h : f.ok = true) (hne : f ≠ zero) : ∃ x y rest, f.dots = (x, y) :: rest ∧ x < 12 ∧ y < 12 ∧ f.dot x y = true := by
  cases hd : f.dots with
  | nil =>
    exfalso; apply hne
    exact (cnt_zero_iff h).1 (by unfold cnt; rw [hd]; rfl)
  | cons p rest =>
    obtain ⟨x, y⟩ := p
    have hm : (x, y) ∈ f.dots := by rw [hd]; exact List.mem_cons_self
    rw [mem_dots] at hm
    exact ⟨x, y, rest, rfl, hm.1, hm.2.1, hm.2.2⟩

/-! ### The number of dots in which two frames differ -/
def jump (a b : Fr) : Nat := (a.differ b).cnt
theorem jump_le (a b : Fr) : jump a b ≤ 144 := cnt_le _
theorem differ_comm (a b : Fr) : a.differ b = b.differ a := ext_dot fun x y _ _ => by rw [dot_differ, dot_differ, Bool.xor_comm]
theorem jump_comm (a b : Fr) : jump a b = jump b a := by unfold jump; rw [differ_comm]
theorem jump_zero_iff {a b : Fr} (ha : a.ok = true) (hb : b.ok = true) : jump a b = 0 ↔ a = b := by
  unfold jump
  rw [cnt_zero_iff (ok_differ ha hb)]
  constructor
  · intro h
    apply ext_dot
    intro x y _ _
    have : (a.differ b).dot x y = zero.dot x y := by rw [h]
    rw [dot_differ, dot_zero] at this
    cases ha : a.dot x y <;> cases hb : b.dot x y <;> rw [ha, hb] at this <;> first | rfl | cases this
  · rintro rfl
    apply ext_dot
    intro x y _ _
    rw [dot_differ, dot_zero]; simp

end Fr
end Fb
