/- Frames of 12 rows of 16 bits: plain definitions and laws, no program in sight. -/
namespace Fb

abbrev Row := BitVec 16

/-- A frame: twelve rows. -/
structure Fr where
  rows : Vector Row 12
deriving DecidableEq

namespace Fr

def row (f : Fr) (y : Nat) : Row := f.rows.toArray.getD y 0
def gen (g : Nat → Row) : Fr := ⟨Vector.ofFn fun i => g i.val⟩

theorem row_gen (g : Nat → Row) (y : Nat) : (gen g).row y = if y < 12 then g y else 0 := by
  unfold row gen
  by_cases h : y < 12
  · simp [h]
  · simp [h]

theorem row_gen_lt (g : Nat → Row) {y : Nat} (h : y < 12) : (gen g).row y = g y := by rw [row_gen, if_pos h]

theorem row_ge (f : Fr) {y : Nat} (h : 12 ≤ y) : f.row y = 0 := by
  unfold row
  have : ¬ y < 12 := by omega
  simp [this]

theorem ext_row {f g : Fr} (h : ∀ y, y < 12 → f.row y = g.row y) : f = g := by
  cases f with | mk f => cases g with | mk g =>
  congr 1
  apply Vector.ext
  intro i hi
  have := h i hi
  simpa [row, hi] using this

theorem gen_row (f : Fr) : gen f.row = f := ext_row fun _ h => row_gen_lt _ h

def zero : Fr := gen fun _ => 0
theorem row_zero (y : Nat) : zero.row y = 0 := by unfold zero; rw [row_gen]; split <;> rfl

def set (f : Fr) (y : Nat) (v : Row) : Fr := gen fun i => if i = y then v else f.row i
theorem row_set (f : Fr) (y : Nat) (v : Row) (i : Nat) (hy : y < 12) : (f.set y v).row i = if i = y then v else f.row i := by
  unfold set
  rw [row_gen]
  by_cases h : i < 12
  · rw [if_pos h]
  · rw [if_neg h, if_neg (by omega), row_ge f (by omega)]

/-- There is a dot at x, y (whatever bit of the sixteen). -/
def dot (f : Fr) (x y : Nat) : Bool := (f.row y).getLsbD x

theorem ext_dot {f g : Fr} (h : ∀ x y, x < 16 → y < 12 → f.dot x y = g.dot x y) : f = g :=
  ext_row fun y hy => BitVec.eq_of_getLsbD_eq fun x hx => h x y hx hy

theorem dot_ge (f : Fr) {x y : Nat} (h : 16 ≤ x ∨ 12 ≤ y) : f.dot x y = false := by
  unfold dot
  rcases h with h | h
  · exact BitVec.getLsbD_of_ge _ _ h
  · rw [row_ge f h]; simp

theorem dot_zero (x y : Nat) : zero.dot x y = false := by unfold dot; rw [row_zero]; simp

/-- All rows have twelve bits. -/
def ok (f : Fr) : Bool := (List.range 12).all fun y => decide ((f.row y).toNat ≤ 4095)

theorem ok_row {f : Fr} (h : f.ok = true) (y : Nat) : (f.row y).toNat ≤ 4095 := by
  by_cases hy : y < 12
  · unfold ok at h
    rw [List.all_eq_true] at h
    simpa using h y (by simpa using hy)
  · rw [row_ge f (by omega)]; simp

theorem ok_of_row {f : Fr} (h : ∀ y, y < 12 → (f.row y).toNat ≤ 4095) : f.ok = true := by
  unfold ok
  rw [List.all_eq_true]
  intro y hy
  simpa using h y (by simpa using hy)

theorem lsb_high {v : Row} (h : v.toNat ≤ 4095) {x : Nat} (hx : 12 ≤ x) : v.getLsbD x = false := by
  unfold BitVec.getLsbD
  apply Nat.testBit_lt_two_pow
  have : 2 ^ 12 ≤ 2 ^ x := Nat.pow_le_pow_right (by omega) hx
  omega

theorem le_of_high {v : Row} (h : ∀ x, 12 ≤ x → v.getLsbD x = false) : v.toNat ≤ 4095 := by
  have : v.toNat < 2 ^ 12 := by
    apply Nat.lt_pow_two_of_testBit
    intro i hi
    exact h i hi
  omega

theorem ok_dot {f : Fr} (h : f.ok = true) {x y : Nat} (hx : 12 ≤ x) : f.dot x y = false := lsb_high (ok_row h y) hx

theorem ok_of_dot {f : Fr} (h : ∀ x y, 12 ≤ x → y < 12 → f.dot x y = false) : f.ok = true :=
  ok_of_row fun y hy => le_of_high fun x hx => h x y hx hy

theorem ext_ok {f g : Fr} (hf : f.ok = true) (hg : g.ok = true) (h : ∀ x y, x < 12 → y < 12 → f.dot x y = g.dot x y) : f = g :=
  ext_dot fun x y hx hy => by
    by_cases h12 : x < 12
    · exact h x y h12 hy
    · rw [ok_dot hf (by omega), ok_dot hg (by omega)]

theorem ok_zero : zero.ok = true := ok_of_dot fun x y _ _ => dot_zero x y

/-- The row whose bit x is p x, of the first twelve. -/
def rowOf (p : Nat → Bool) : Row := (List.range 12).foldl (fun r x => if p x then r ||| ((1 : Row) <<< x) else r) 0

theorem one_shl (k x : Nat) : ((1 : Row) <<< k).getLsbD x = (decide (x < 16) && decide (x = k)) := by
  rw [BitVec.getLsbD_shiftLeft]
  by_cases h : x < 16
  · by_cases e : x = k
    · subst e; simp [h]
    · by_cases l : x < k
      · simp [h, e, l]
      · have : x - k ≠ 0 := by omega
        simp [h, e, l, BitVec.getLsbD_one, this]
  · simp [h]

theorem rowOf_lsb (p : Nat → Bool) (x : Nat) : (rowOf p).getLsbD x = (decide (x < 12) && p x) := by
  have key : ∀ n, n ≤ 12 → ((List.range n).foldl (fun r x => if p x then r ||| ((1 : Row) <<< x) else r) (0 : Row)).getLsbD x = (decide (x < n) && p x) := by
    intro n
    induction n with
    | zero => intro _; simp
    | succ n ih =>
      intro hn
      rw [List.range_succ, List.foldl_append]
      simp only [List.foldl_cons, List.foldl_nil]
      have ih := ih (by omega)
      by_cases hp : p n = true
      · rw [if_pos hp, BitVec.getLsbD_or, ih, one_shl]
        by_cases e : x = n
        · subst e
          have : x < 16 := by omega
          simp [this, hp]
        · have : (decide (x < n + 1)) = decide (x < n) := by rw [decide_eq_decide]; omega
          simp [e, this]
      · rw [if_neg hp, ih]
        by_cases e : x = n
        · subst e; simp [hp]
        · have : (decide (x < n + 1)) = decide (x < n) := by rw [decide_eq_decide]; omega
          rw [this]
  exact key 12 (by omega)

/-- The frame with dots where d says. -/
def ofDots (d : Nat → Nat → Bool) : Fr := gen fun y => rowOf fun x => d x y

theorem dot_ofDots (d : Nat → Nat → Bool) (x y : Nat) : (ofDots d).dot x y = (decide (x < 12) && decide (y < 12) && d x y) := by
  unfold dot ofDots
  rw [row_gen]
  by_cases h : y < 12
  · rw [if_pos h, rowOf_lsb]; simp [h]
  · rw [if_neg h]; simp [h]

theorem ok_ofDots (d : Nat → Nat → Bool) : (ofDots d).ok = true := ok_of_dot fun x y hx _ => by
  rw [dot_ofDots]
  have : ¬ x < 12 := by omega
  simp [this]

theorem eq_ofDots {f : Fr} (h : f.ok = true) : f = ofDots f.dot := ext_ok h (ok_ofDots _) fun x y hx hy => by rw [dot_ofDots]; simp [hx, hy]

/-- There is a dot at the place x, y; none outside. -/
def has (f : Fr) (x y : Int) : Bool := decide (0 ≤ x ∧ x < 12 ∧ 0 ≤ y ∧ y < 12) && f.dot x.toNat y.toNat

theorem has_nat (f : Fr) (x y : Nat) : f.has x y = (decide (x < 12) && decide (y < 12) && f.dot x y) := by
  unfold has
  rw [Bool.eq_iff_iff]
  simp
  omega

theorem ext_has {f g : Fr} (hf : f.ok = true) (hg : g.ok = true) (h : ∀ x y : Int, 0 ≤ x → x < 12 → 0 ≤ y → y < 12 → f.has x y = g.has x y) : f = g :=
  ext_ok hf hg fun x y hx hy => by
    have := h x y (by omega) (by omega) (by omega) (by omega)
    simpa [has_nat, hx, hy] using this

/-- The frame with dots at the places where d says. -/
def ofHas (d : Int → Int → Bool) : Fr := ofDots fun x y => d x y

theorem has_ofHas (d : Int → Int → Bool) (x y : Int) : (ofHas d).has x y = (decide (0 ≤ x ∧ x < 12 ∧ 0 ≤ y ∧ y < 12) && d x y) := by
  unfold has ofHas
  by_cases h : 0 ≤ x ∧ x < 12 ∧ 0 ≤ y ∧ y < 12
  · rw [dot_ofDots]
    have h1 : x.toNat < 12 := by omega
    have h2 : y.toNat < 12 := by omega
    have h3 : ((x.toNat : Nat) : Int) = x := by omega
    have h4 : ((y.toNat : Nat) : Int) = y := by omega
    simp [h, h1, h2, h3, h4]
  · simp [h]

theorem ok_ofHas (d : Int → Int → Bool) : (ofHas d).ok = true := ok_ofDots _

theorem has_out (f : Fr) {x y : Int} (h : ¬ (0 ≤ x ∧ x < 12 ∧ 0 ≤ y ∧ y < 12)) : f.has x y = false := by unfold has; simp [h]

/-- A frame with a dot more. -/
def put (f : Fr) (x y : Nat) : Fr := f.set y (f.row y ||| ((1 : Row) <<< x))

theorem dot_put (f : Fr) {x y : Nat} (hx : x < 16) (hy : y < 12) (u v : Nat) : (f.put x y).dot u v = (f.dot u v || (decide (u = x) && decide (v = y))) := by
  unfold dot put
  rw [row_set _ _ _ _ hy]
  by_cases h : v = y
  · subst h
    rw [if_pos rfl, BitVec.getLsbD_or, one_shl]
    by_cases e : u = x
    · subst e; simp [hx]
    · simp [e]
  · rw [if_neg h]; simp [h]

theorem ok_put {f : Fr} (h : f.ok = true) {x y : Nat} (hx : x < 12) (hy : y < 12) : (f.put x y).ok = true := ok_of_dot fun u v hu _ => by
  rw [dot_put f (by omega) hy, ok_dot h hu]
  have : ¬ u = x := by omega
  simp [this]

/-- Places put where they are places. -/
def putI (f : Fr) (x y : Int) : Fr := if 0 ≤ x ∧ x < 12 ∧ 0 ≤ y ∧ y < 12 then f.put x.toNat y.toNat else f

theorem ok_putI {f : Fr} (h : f.ok = true) (x y : Int) : (f.putI x y).ok = true := by
  unfold putI
  split
  · exact ok_put h (by omega) (by omega)
  · exact h

theorem has_putI (f : Fr) (x y u v : Int) : (f.putI x y).has u v = (f.has u v || (decide (u = x ∧ v = y) && decide (0 ≤ x ∧ x < 12 ∧ 0 ≤ y ∧ y < 12))) := by
  unfold putI
  split
  · rename_i h
    by_cases hp : 0 ≤ u ∧ u < 12 ∧ 0 ≤ v ∧ v < 12
    · unfold has
      rw [dot_put _ (by omega) (by omega)]
      have e1 : (u.toNat = x.toNat) ↔ u = x := by omega
      have e2 : (v.toNat = y.toNat) ↔ v = y := by omega
      simp [hp, h, e1, e2]
    · rw [has_out _ hp, has_out _ hp]
      have : ¬ (u = x ∧ v = y) := by omega
      simp [this]
  · rename_i h
    simp [h]

theorem has_zero (x y : Int) : zero.has x y = false := by unfold has; rw [dot_zero]; simp

/-! ### The dots, by row, then by place -/
def places : List (Nat × Nat) := (List.range 12).flatMap fun y => (List.range 12).map fun x => (x, y)
def dots (f : Fr) : List (Nat × Nat) := places.filter fun p => f.dot p.1 p.2

theorem mem_places (x y : Nat) : (x, y) ∈ places ↔ x < 12 ∧ y < 12 := by
  unfold places
  simp only [List.mem_flatMap, List.mem_map, List.mem_range, Prod.mk.injEq]
  constructor
  · rintro ⟨b, hb, a, ha, rfl, rfl⟩; exact ⟨ha, hb⟩
  · rintro ⟨hx, hy⟩; exact ⟨y, hy, x, hx, rfl, rfl⟩

theorem mem_dots (f : Fr) (x y : Nat) : (x, y) ∈ f.dots ↔ x < 12 ∧ y < 12 ∧ f.dot x y = true := by
  unfold dots
  rw [List.mem_filter, mem_places]
  constructor
  · rintro ⟨⟨a, b⟩, c⟩; exact ⟨a, b, c⟩
  · rintro ⟨a, b, c⟩; exact ⟨⟨a, b⟩, c⟩

/-- Putting images of all dots. -/
theorem has_foldl_putI (l : List (Nat × Nat)) (g : Nat × Nat → Int × Int) (f : Fr) (u v : Int) :
    (l.foldl (fun h p => h.putI (g p).1 (g p).2) f).has u v = (f.has u v || l.any fun p => decide (u = (g p).1 ∧ v = (g p).2) && decide (0 ≤ u ∧ u < 12 ∧ 0 ≤ v ∧ v < 12)) := by
  induction l generalizing f with
  | nil => simp
  | cons p l ih =>
    rw [List.foldl_cons, ih, has_putI, List.any_cons, Bool.or_assoc]
    congr 2
    by_cases e : u = (g p).1 ∧ v = (g p).2
    · obtain ⟨rfl, rfl⟩ := e; rfl
    · simp [e]

theorem ok_foldl_putI (l : List (Nat × Nat)) (g : Nat × Nat → Int × Int) {f : Fr} (h : f.ok = true) : (l.foldl (fun h p => h.putI (g p).1 (g p).2) f).ok = true := by
  induction l generalizing f with
  | nil => exact h
  | cons p l ih => rw [List.foldl_cons]; exact ih (ok_putI h _ _)

/-- Dots that are taken elsewhere: the place from which a dot comes is known. -/
theorem foldl_dots_eq (f : Fr) (g : Nat × Nat → Int × Int) (d : Int → Int → Bool)
    (h : ∀ u v : Int, 0 ≤ u → u < 12 → 0 ≤ v → v < 12 → (d u v = true ↔ ∃ x y : Nat, x < 12 ∧ y < 12 ∧ f.dot x y = true ∧ u = (g (x, y)).1 ∧ v = (g (x, y)).2)) :
    f.dots.foldl (fun h p => h.putI (g p).1 (g p).2) zero = ofHas d := by
  apply ext_has (ok_foldl_putI _ _ ok_zero) (ok_ofHas _)
  intro u v h1 h2 h3 h4
  rw [has_foldl_putI, has_zero, has_ofHas, Bool.eq_iff_iff]
  have hin : (0 ≤ u ∧ u < 12 ∧ 0 ≤ v ∧ v < 12) := ⟨h1, h2, h3, h4⟩
  simp only [Bool.false_or, hin, and_self, decide_true, Bool.and_true, Bool.true_and]
  rw [h u v h1 h2 h3 h4, List.any_eq_true]
  constructor
  · rintro ⟨⟨x, y⟩, hm, he⟩
    rw [mem_dots] at hm
    exact ⟨x, y, hm.1, hm.2.1, hm.2.2, by simpa using he⟩
  · rintro ⟨x, y, hx, hy, hd, he⟩
    exact ⟨(x, y), (mem_dots f x y).2 ⟨hx, hy, hd⟩, by simpa using he⟩

end Fr
end Fb
