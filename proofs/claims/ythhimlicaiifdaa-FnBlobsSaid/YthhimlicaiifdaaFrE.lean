/- Frames: how many dots are kept; differences, place by place. -/
import Derived.Test.YthhimlicaiifdaaFrD
namespace Fb
namespace Fr

theorem nodup_le {α : Type} [DecidableEq α] : ∀ (l m : List α), l.Nodup → (∀ a, a ∈ l → a ∈ m) → l.length ≤ m.length
  | [], _, _, _ => Nat.zero_le _
  | a :: l, m, hn, hs => by
    have hn' := List.nodup_cons.1 hn
    have ha : a ∈ m := hs a List.mem_cons_self
    have := nodup_le l (m.erase a) hn'.2 (fun b hb => by
      have hne : b ≠ a := fun e => hn'.1 (e ▸ hb)
      exact (List.mem_erase_of_ne hne).2 (hs b (List.mem_cons_of_mem _ hb)))
    rw [List.length_erase_of_mem ha] at this
    have hp : 0 < m.length := List.length_pos_of_mem ha
    rw [List.length_cons]
    omega

theorem nodup_places : places.Nodup := by decide +kernel
theorem nodup_dots (f : Fr) : f.dots.Nodup := List.Pairwise.filter _ nodup_places

/-- Whoever takes its dots, each to its own place, from another frame has no more of them. -/
theorem cnt_le_of {a b : Fr} (φ : Nat × Nat → Nat × Nat) (h : ∀ x y, x < 12 → y < 12 → a.dot x y = true → (φ (x, y)).1 < 12 ∧ (φ (x, y)).2 < 12 ∧ b.dot (φ (x, y)).1 (φ (x, y)).2 = true)
    (hinj : ∀ x y u v, x < 12 → y < 12 → u < 12 → v < 12 → a.dot x y = true → a.dot u v = true → φ (x, y) = φ (u, v) → (x, y) = (u, v)) : a.cnt ≤ b.cnt := by
  unfold cnt
  rw [← List.length_map (f := φ) (as := a.dots)]
  apply nodup_le
  · rw [List.Nodup, List.pairwise_map]
    apply List.Pairwise.imp_of_mem _ (nodup_dots a)
    intro p q hp hq hne he
    obtain ⟨x, y⟩ := p
    obtain ⟨u, v⟩ := q
    have h1 := (mem_dots a x y).1 hp
    have h2 := (mem_dots a u v).1 hq
    exact hne (hinj x y u v h1.1 h1.2.1 h2.1 h2.2.1 h1.2.2 h2.2.2 he)
  · intro p hp
    obtain ⟨⟨x, y⟩, hm, rfl⟩ := List.mem_map.1 hp
    have h1 := (mem_dots a x y).1 hm
    have h2 := h x y h1.1 h1.2.1 h1.2.2
    exact (mem_dots b _ _).2 h2

theorem dot_of_place (f : Fr) {x y : Nat} (hx : x < 12) (hy : y < 12) : f.dot x y = f.has x y := by rw [has_nat]; simp [hx, hy]

theorem cnt_mv (f : Fr) (e s : Int) : (f.mv e s).cnt ≤ f.cnt := by
  apply cnt_le_of (fun p => (((p.1 : Int) - e).toNat, ((p.2 : Int) - s).toNat))
  · intro x y hx hy hd
    rw [dot_of_place _ hx hy, has_mv, Bool.and_eq_true] at hd
    have hp := place_of_has hd.2
    unfold place at hp
    refine ⟨by simp only; omega, by simp only; omega, ?_⟩
    have := dot_of_has hd.2
    exact this
  · intro x y u v hx hy hu hv h1 h2 he
    rw [dot_of_place _ hx hy, has_mv, Bool.and_eq_true] at h1
    rw [dot_of_place _ hu hv, has_mv, Bool.and_eq_true] at h2
    have p1 := place_of_has h1.2
    have p2 := place_of_has h2.2
    unfold place at p1 p2
    simp only [Prod.mk.injEq] at he ⊢
    omega

theorem cnt_roll_le (f : Fr) (e s : Int) : (f.roll e s).cnt ≤ f.cnt := by
  apply cnt_le_of (fun p => ((((p.1 : Int) - e + 24) % 12).toNat, (((p.2 : Int) - s + 24) % 12).toNat))
  · intro x y hx hy hd
    rw [dot_of_place _ hx hy] at hd
    unfold roll at hd
    rw [has_ofHas, Bool.and_eq_true] at hd
    refine ⟨by simp only; omega, by simp only; omega, ?_⟩
    exact dot_of_has hd.2
  · intro x y u v hx hy hu hv _ _ he
    simp only [Prod.mk.injEq] at he ⊢
    omega

theorem ok_roll (f : Fr) (e s : Int) : (f.roll e s).ok = true := ok_ofHas _
theorem cnt_roll {f : Fr} (h : f.ok = true) (e s : Int) : (f.roll e s).cnt = f.cnt := by
  apply Nat.le_antisymm (cnt_roll_le f e s)
  have := cnt_roll_le (f.roll e s) (-e) (-s)
  rw [roll2 h] at this
  exact this

theorem mv_sub_roll (f : Fr) (e s : Int) : (f.mv e s).less (f.roll e s) = zero := by
  apply ext_has (ok_less (ok_mv f e s)) ok_zero
  intro x y h1 h2 h3 h4
  rw [has_less, has_zero, has_mv]
  unfold roll
  rw [has_ofHas]
  cases hh : f.has (x - e) (y - s) with
  | false => simp
  | true =>
    have hp := place_of_has hh
    unfold place at hp
    have e1 : (x - e + 24) % 12 = x - e := by omega
    have e2 : (y - s + 24) % 12 = y - s := by omega
    rw [e1, e2, hh]
    simp [h1, h2, h3, h4]

/-- The dots, each put anew. -/
theorem foldl_put_dots {f : Fr} (h : f.ok = true) : f.dots.foldl (fun h p => h.putI (p.1 : Int) (p.2 : Int)) zero = f := by
  have := foldl_mv f 0 0
  simp only [Int.add_zero] at this
  rw [this, mv_zero h]

theorem putI_id {f : Fr} (h : f.ok = true) {x y : Int} (hh : f.has x y = true) : f.putI x y = f := by
  apply ext_has (ok_putI h x y) h
  intro u v _ _ _ _
  rw [has_putI]
  by_cases e : u = x ∧ v = y
  · obtain ⟨rfl, rfl⟩ := e; rw [hh]; rfl
  · simp [e]

theorem foldl_put_id {f : Fr} (h : f.ok = true) : ∀ (l : List (Nat × Nat)), (∀ p, p ∈ l → f.has (p.1 : Int) (p.2 : Int) = true) → l.foldl (fun h p => h.putI (p.1 : Int) (p.2 : Int)) f = f := by
  intro l
  induction l with
  | nil => intro _; rfl
  | cons p l ih =>
    intro hl
    rw [List.foldl_cons, putI_id h (hl p List.mem_cons_self)]
    exact ih fun q hq => hl q (List.mem_cons_of_mem _ hq)

theorem foldl_put_dots2 {f : Fr} (h : f.ok = true) : (f.dots ++ f.dots).foldl (fun h p => h.putI (p.1 : Int) (p.2 : Int)) zero = f := by
  rw [List.foldl_append, foldl_put_dots h]
  apply foldl_put_id h
  intro p hp
  obtain ⟨x, y⟩ := p
  have := (mem_dots f x y).1 hp
  rw [has_nat]; simp [this.1, this.2.1, this.2.2]

/-- How many of the first places differ: counted row by row, place by place. -/
def diffTo (f g : Fr) (y x : Nat) : Nat := ((List.range y).map fun v => (List.range 12).countP fun u => (f.dot u v != g.dot u v)).sum + (List.range x).countP fun u => (f.dot u y != g.dot u y)
theorem diffTo_zero (f g : Fr) : diffTo f g 0 0 = 0 := rfl
theorem diffTo_step (f g : Fr) (y x : Nat) : diffTo f g y (x + 1) = diffTo f g y x + if (f.dot x y != g.dot x y) = true then 1 else 0 := by
  unfold diffTo; rw [List.range_succ (n := x), List.countP_append]; simp [List.countP_cons]; omega
theorem diffTo_row (f g : Fr) (y : Nat) : diffTo f g y 12 = diffTo f g (y + 1) 0 := by
  unfold diffTo; rw [List.range_succ (n := y), List.map_append, List.sum_append]; simp
theorem diffTo_le (f g : Fr) (y x : Nat) : diffTo f g y x ≤ 12 * y + x := by
  unfold diffTo
  have h1 : (List.range x).countP (fun u => (f.dot u y != g.dot u y)) ≤ x := by
    have := List.countP_le_length (p := fun u => (f.dot u y != g.dot u y)) (l := List.range x); simpa using this
  have h2 : ((List.range y).map fun v => (List.range 12).countP fun u => (f.dot u v != g.dot u v)).sum ≤ 12 * y := by
    induction y with
    | zero => simp
    | succ y ih =>
      rw [List.range_succ (n := y), List.map_append, List.sum_append]
      have h3 := List.countP_le_length (p := fun u => (f.dot u y != g.dot u y)) (l := List.range 12)
      rw [List.length_range] at h3
      have := ih (by
        have := List.countP_le_length (p := fun u => (f.dot u y != g.dot u y)) (l := List.range x); simpa using this)
      simp only [List.map_cons, List.map_nil, List.sum_cons, List.sum_nil]
      omega
  omega
theorem diffTo_all (f g : Fr) : diffTo f g 12 0 = jump f g := by
  unfold diffTo jump cnt dots places
  rw [List.filter_flatMap, List.length_flatMap]
  simp only [List.range_zero, List.countP_nil, Nat.add_zero]
  congr 1
  apply List.map_congr_left
  intro y _
  rw [List.filter_map, List.length_map, List.countP_eq_length_filter]
  apply congrArg (fun p => (List.filter p (List.range 12)).length)
  funext x
  simp only [Function.comp]
  rw [dot_differ]

end Fr
end Fb
