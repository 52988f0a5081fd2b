/- Frames: moved, joined, turned, grown: what the rows come to, place by place. -/
import Derived.Test.YthhimlicaiifdaaFrA
namespace Fb
namespace Fr

/-! ### Moved -/
/-- A row that is moved to the east, or to the west. -/
def shiftRow (v : Row) (e : Int) : Row := if 0 ≤ e then (v <<< e.toNat) &&& 4095 else v >>> (-e).toNat

theorem lsb_4095 (x : Nat) : (4095 : Row).getLsbD x = decide (x < 12) := by
  by_cases h : x < 16
  · have : ∀ k : Fin 16, (4095 : Row).getLsbD k = decide (k.val < 12) := by decide
    exact this ⟨x, h⟩
  · rw [BitVec.getLsbD_of_ge _ _ (by omega)]
    have : ¬ x < 12 := by omega
    simp [this]

theorem lsb_shiftRow {v : Row} (hv : v.toNat ≤ 4095) (e : Int) (x : Nat) (hx : x < 12) :
    (shiftRow v e).getLsbD x = (decide (0 ≤ (x : Int) - e ∧ (x : Int) - e < 12) && v.getLsbD ((x : Int) - e).toNat) := by
  unfold shiftRow
  split
  · rename_i h
    rw [BitVec.getLsbD_and, BitVec.getLsbD_shiftLeft, lsb_4095, decide_eq_true (show x < 16 by omega), decide_eq_true hx]
    by_cases l : x < e.toNat
    · rw [decide_eq_true l, decide_eq_false (show ¬ (0 ≤ (x : Int) - e ∧ (x : Int) - e < 12) by omega)]; rfl
    · have h1 : ((x : Int) - e).toNat = x - e.toNat := by omega
      rw [decide_eq_false l, decide_eq_true (show 0 ≤ (x : Int) - e ∧ (x : Int) - e < 12 by omega), h1]
      simp
  · rename_i h
    rw [BitVec.getLsbD_ushiftRight]
    have h1 : ((x : Int) - e).toNat = (-e).toNat + x := by omega
    rw [h1]
    by_cases l : (x : Int) - e < 12
    · rw [decide_eq_true (show 0 ≤ (x : Int) - e ∧ (x : Int) - e < 12 by omega)]; rfl
    · rw [lsb_high hv (by omega)]
      simp

theorem shiftRow_le {v : Row} (hv : v.toNat ≤ 4095) (e : Int) : (shiftRow v e).toNat ≤ 4095 := by
  apply le_of_high
  intro x hx
  unfold shiftRow
  split
  · rw [BitVec.getLsbD_and, lsb_4095]
    have : ¬ x < 12 := by omega
    simp [this]
  · rw [BitVec.getLsbD_ushiftRight]; exact lsb_high hv (by omega)

/-- The frame that is moved: what leaves is lost. -/
def mv (f : Fr) (e s : Int) : Fr := ofHas fun x y => f.has (x - e) (y - s)

theorem has_mv (f : Fr) (e s x y : Int) : (f.mv e s).has x y = (decide (0 ≤ x ∧ x < 12 ∧ 0 ≤ y ∧ y < 12) && f.has (x - e) (y - s)) := has_ofHas _ _ _
theorem ok_mv (f : Fr) (e s : Int) : (f.mv e s).ok = true := ok_ofHas _

/-- Row by row. -/
def slid (f : Fr) (e s : Int) : Fr := gen fun y => if 0 ≤ (y : Int) - s ∧ (y : Int) - s < 12 then shiftRow (f.row ((y : Int) - s).toNat) e else 0

theorem ok_slid {f : Fr} (h : f.ok = true) (e s : Int) : (f.slid e s).ok = true := ok_of_row fun y hy => by
  unfold slid
  rw [row_gen_lt _ hy]
  split
  · exact shiftRow_le (ok_row h _) e
  · simp

theorem slid_eq {f : Fr} (h : f.ok = true) (e s : Int) : f.slid e s = f.mv e s := by
  apply ext_ok (ok_slid h e s) (ok_mv f e s)
  intro x y hx hy
  have h1 : (f.mv e s).dot x y = (f.mv e s).has x y := by rw [has_nat]; simp [hx, hy]
  rw [h1, has_mv]
  unfold slid
  have hin : (0 ≤ (x : Int) ∧ (x : Int) < 12 ∧ 0 ≤ (y : Int) ∧ (y : Int) < 12) := by omega
  simp only [hin, and_self, decide_true, Bool.true_and]
  unfold dot
  rw [row_gen_lt _ hy]
  by_cases hs : 0 ≤ (y : Int) - s ∧ (y : Int) - s < 12
  · rw [if_pos hs, lsb_shiftRow (ok_row h _) _ _ hx]
    unfold has dot
    congr 1
    rw [decide_eq_decide]
    omega
  · rw [if_neg hs, has_out]
    · simp
    · omega

theorem mv_far (f : Fr) {e s : Int} (h : e < -12 ∨ 12 < e) : f.mv e s = zero := by
  apply ext_has (ok_mv _ _ _) ok_zero
  intro x y h1 h2 h3 h4
  rw [has_mv, has_zero, has_out f (by omega)]
  simp

/-- The dots put where they come to. -/
theorem foldl_mv (f : Fr) (e s : Int) : f.dots.foldl (fun h p => h.putI ((p.1 : Int) + e) ((p.2 : Int) + s)) zero = f.mv e s := by
  apply foldl_dots_eq f (fun p => ((p.1 : Int) + e, (p.2 : Int) + s))
  intro u v h1 h2 h3 h4
  constructor
  · intro h
    unfold has at h
    simp only [Bool.and_eq_true, decide_eq_true_eq] at h
    refine ⟨(u - e).toNat, (v - s).toNat, by omega, by omega, h.2, ?_, ?_⟩ <;> simp only <;> omega
  · rintro ⟨x, y, hx, hy, hd, rfl, rfl⟩
    unfold has
    have e1 : ((x : Int) + e - e).toNat = x := by omega
    have e2 : ((y : Int) + s - s).toNat = y := by omega
    simp only [e1, e2, hd, Bool.and_true, decide_eq_true_eq]
    omega

theorem mv_zero {f : Fr} (h : f.ok = true) : f.mv 0 0 = f := by
  apply ext_has (ok_mv _ _ _) h
  intro x y h1 h2 h3 h4
  rw [has_mv]
  simp [h1, h2, h3, h4]

/-! ### Two frames, row by row -/
def map2 (g : Row → Row → Row) (a b : Fr) : Fr := gen fun y => g (a.row y) (b.row y)
theorem row_map2 (g : Row → Row → Row) (a b : Fr) {y : Nat} (h : y < 12) : (map2 g a b).row y = g (a.row y) (b.row y) := row_gen_lt _ h

def join (a b : Fr) : Fr := map2 (fun u v => u ||| v) a b
def meet (a b : Fr) : Fr := map2 (fun u v => u &&& v) a b
def less (a b : Fr) : Fr := map2 (fun u v => u &&& ~~~v) a b
def differ (a b : Fr) : Fr := map2 (fun u v => u ^^^ v) a b

theorem dot_map2 (g : Row → Row → Row) (a b : Fr) (x y : Nat) : (map2 g a b).dot x y = if y < 12 then (g (a.row y) (b.row y)).getLsbD x else false := by
  unfold dot map2
  rw [row_gen]
  split <;> simp

theorem dot_join (a b : Fr) (x y : Nat) : (a.join b).dot x y = (a.dot x y || b.dot x y) := by
  unfold join; rw [dot_map2]
  split
  · rw [BitVec.getLsbD_or]; rfl
  · rw [dot_ge a (by omega), dot_ge b (by omega)]; rfl
theorem dot_meet (a b : Fr) (x y : Nat) : (a.meet b).dot x y = (a.dot x y && b.dot x y) := by
  unfold meet; rw [dot_map2]
  split
  · rw [BitVec.getLsbD_and]; rfl
  · rw [dot_ge a (by omega)]; rfl
theorem dot_less (a b : Fr) (x y : Nat) : (a.less b).dot x y = (a.dot x y && !b.dot x y) := by
  unfold less; rw [dot_map2]
  split
  · rw [BitVec.getLsbD_and, BitVec.getLsbD_not]
    unfold dot
    by_cases h : x < 16
    · simp [h]
    · rw [BitVec.getLsbD_of_ge _ _ (by omega)]; simp
  · rw [dot_ge a (by omega)]; rfl
theorem dot_differ (a b : Fr) (x y : Nat) : (a.differ b).dot x y = (a.dot x y ^^ b.dot x y) := by
  unfold differ; rw [dot_map2]
  split
  · rw [BitVec.getLsbD_xor]; rfl
  · rw [dot_ge a (by omega), dot_ge b (by omega)]; rfl

theorem has_join (a b : Fr) (x y : Int) : (a.join b).has x y = (a.has x y || b.has x y) := by unfold has; rw [dot_join]; cases decide (0 ≤ x ∧ x < 12 ∧ 0 ≤ y ∧ y < 12) <;> simp
theorem has_meet (a b : Fr) (x y : Int) : (a.meet b).has x y = (a.has x y && b.has x y) := by unfold has; rw [dot_meet]; cases decide (0 ≤ x ∧ x < 12 ∧ 0 ≤ y ∧ y < 12) <;> simp
theorem has_less (a b : Fr) (x y : Int) : (a.less b).has x y = (a.has x y && !b.has x y) := by unfold has; rw [dot_less]; cases decide (0 ≤ x ∧ x < 12 ∧ 0 ≤ y ∧ y < 12) <;> simp
theorem has_differ (a b : Fr) (x y : Int) : (a.differ b).has x y = (a.has x y ^^ b.has x y) := by unfold has; rw [dot_differ]; cases decide (0 ≤ x ∧ x < 12 ∧ 0 ≤ y ∧ y < 12) <;> simp

theorem ok_join {a b : Fr} (ha : a.ok = true) (hb : b.ok = true) : (a.join b).ok = true := ok_of_dot fun x y hx _ => by rw [dot_join, ok_dot ha hx, ok_dot hb hx]; rfl
theorem ok_meet {a b : Fr} (ha : a.ok = true) : (a.meet b).ok = true := ok_of_dot fun x y hx _ => by rw [dot_meet, ok_dot ha hx]; rfl
theorem ok_meet' {a b : Fr} (hb : b.ok = true) : (a.meet b).ok = true := ok_of_dot fun x y hx _ => by rw [dot_meet, ok_dot hb hx]; simp
theorem ok_less {a b : Fr} (ha : a.ok = true) : (a.less b).ok = true := ok_of_dot fun x y hx _ => by rw [dot_less, ok_dot ha hx]; rfl
theorem ok_differ {a b : Fr} (ha : a.ok = true) (hb : b.ok = true) : (a.differ b).ok = true := ok_of_dot fun x y hx _ => by rw [dot_differ, ok_dot ha hx, ok_dot hb hx]; rfl

/-! ### The other makes -/
def flip (f : Fr) : Fr := gen fun y => f.row (11 - y)
def invert (f : Fr) : Fr := gen fun y => 4095 &&& ~~~(f.row y)
def turn (f : Fr) : Fr := ofHas fun x y => f.has y (11 - x)
def mirror (f : Fr) : Fr := ofHas fun x y => f.has (11 - x) y
def roll (f : Fr) (e s : Int) : Fr := ofHas fun x y => f.has ((x - e + 24) % 12) ((y - s + 24) % 12)
/-- All dots, and all places beside one. -/
def grow (f : Fr) : Fr := ofHas fun x y => f.has x y || f.has (x - 1) y || f.has (x + 1) y || f.has x (y - 1) || f.has x (y + 1)
def shrink (f : Fr) : Fr := ofHas fun x y => f.has x y && (decide (x + 1 = 12) || f.has (x + 1) y) && (decide (x = 0) || f.has (x - 1) y) && (decide (y + 1 = 12) || f.has x (y + 1)) && (decide (y = 0) || f.has x (y - 1))

theorem ok_flip {f : Fr} (h : f.ok = true) : f.flip.ok = true := ok_of_row fun y hy => by unfold flip; rw [row_gen_lt _ hy]; exact ok_row h _
theorem has_flip (f : Fr) (x y : Int) : f.flip.has x y = f.has x (11 - y) := by
  by_cases h : 0 ≤ x ∧ x < 12 ∧ 0 ≤ y ∧ y < 12
  · unfold has dot flip
    rw [row_gen_lt _ (by omega)]
    have e : (11 - y).toNat = 11 - y.toNat := by omega
    have : 0 ≤ x ∧ x < 12 ∧ 0 ≤ 11 - y ∧ 11 - y < 12 := by omega
    rw [e, decide_eq_true h, decide_eq_true this]
  · rw [has_out _ h, has_out _ (by omega)]
theorem dot_invert (f : Fr) (x y : Nat) : f.invert.dot x y = (decide (x < 12) && decide (y < 12) && !f.dot x y) := by
  unfold dot invert
  rw [row_gen]
  split
  · rename_i h
    rw [BitVec.getLsbD_and, BitVec.getLsbD_not, lsb_4095]
    by_cases hx : x < 12
    · have : x < 16 := by omega
      simp [hx, this, h]
    · simp [hx]
  · rename_i h; simp [h]
theorem ok_invert (f : Fr) : f.invert.ok = true := ok_of_dot fun x y hx _ => by
  rw [dot_invert]
  have : ¬ x < 12 := by omega
  simp [this]
theorem has_invert (f : Fr) (x y : Int) : f.invert.has x y = (decide (0 ≤ x ∧ x < 12 ∧ 0 ≤ y ∧ y < 12) && !f.has x y) := by
  unfold has
  rw [dot_invert]
  by_cases h : 0 ≤ x ∧ x < 12 ∧ 0 ≤ y ∧ y < 12
  · have h1 : x.toNat < 12 := by omega
    have h2 : y.toNat < 12 := by omega
    simp [h, h1, h2]
  · simp [h]

theorem grow_eq {f : Fr} (h : f.ok = true) : ((((f.join (f.mv 1 0)).join (f.mv (-1) 0)).join (f.mv 0 1)).join (f.mv 0 (-1))) = f.grow := by
  refine ext_has (ok_join (ok_join (ok_join (ok_join h (ok_mv _ _ _)) (ok_mv _ _ _)) (ok_mv _ _ _)) (ok_mv _ _ _)) (ok_ofHas _) ?_
  intro x y h1 h2 h3 h4
  unfold grow
  simp only [has_join, has_mv, has_ofHas, h1, h2, h3, h4, and_self, decide_true, Bool.true_and, Int.sub_zero, Int.sub_neg]

theorem turn4 {f : Fr} (h : f.ok = true) : f.turn.turn.turn.turn = f := by
  refine ext_has (ok_ofHas _) h ?_
  intro x y h1 h2 h3 h4
  unfold turn
  simp only [has_ofHas]
  have e1 : (11 : Int) - (11 - x) = x := by omega
  have e2 : (11 : Int) - (11 - y) = y := by omega
  simp only [e1, e2]
  rw [Bool.eq_iff_iff]
  simp only [Bool.and_eq_true, decide_eq_true_eq]
  constructor
  · rintro ⟨_, _, _, _, h⟩; exact h
  · intro h; refine ⟨?_, ?_, ?_, ?_, h⟩ <;> omega

theorem mirror2 {f : Fr} (h : f.ok = true) : f.mirror.mirror = f := by
  refine ext_has (ok_ofHas _) h ?_
  intro x y h1 h2 h3 h4
  unfold mirror
  simp only [has_ofHas]
  have e1 : (11 : Int) - (11 - x) = x := by omega
  simp only [e1]
  rw [Bool.eq_iff_iff]
  simp only [Bool.and_eq_true, decide_eq_true_eq]
  constructor
  · rintro ⟨_, _, h⟩; exact h
  · intro h; refine ⟨?_, ?_, h⟩ <;> omega

theorem flip2 (f : Fr) : f.flip.flip = f := ext_row fun y hy => by
  unfold flip
  rw [row_gen_lt _ hy, row_gen_lt _ (by omega)]
  congr 1
  omega

theorem invert2 {f : Fr} (h : f.ok = true) : f.invert.invert = f := by
  refine ext_ok (ok_invert _) h ?_
  intro x y hx hy
  rw [dot_invert, dot_invert]
  simp [hx, hy]

theorem roll2 {f : Fr} (h : f.ok = true) (e s : Int) : (f.roll e s).roll (-e) (-s) = f := by
  refine ext_has (ok_ofHas _) h ?_
  intro x y h1 h2 h3 h4
  unfold roll
  simp only [has_ofHas]
  have e1 : ((x - -e + 24) % 12 - e + 24) % 12 = x := by omega
  have e2 : ((y - -s + 24) % 12 - s + 24) % 12 = y := by omega
  rw [e1, e2]
  rw [Bool.eq_iff_iff]
  simp only [Bool.and_eq_true, decide_eq_true_eq]
  constructor
  · rintro ⟨_, _, h⟩; exact h
  · intro h; refine ⟨?_, ?_, h⟩ <;> omega

end Fr
end Fb
