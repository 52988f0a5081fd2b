/- Frames: all blobs: each one of them, all of them together, none beside another one; boxes. -/
import Derived.Test.YthhimlicaiifdaaFrE
namespace Fb
namespace Fr

/-- What a blob is good for. -/
structure Good (f left B : Fr) : Prop where
  ok : B.ok = true
  ne : B ≠ zero
  closed : closed f B
  sub : subH B left
  src : ∃ x y, x < 12 ∧ y < 12 ∧ f.dot x y = true ∧ B = blobAt f x y
theorem Good.mono {f a b B : Fr} (h : Good f a B) (hs : subH a b) : Good f b B := ⟨h.ok, h.ne, h.closed, subH_trans h.sub hs, h.src⟩
def Apart (a b : Fr) : Prop := ∀ x y : Int, a.has x y = true → b.has x y = false
theorem subH_less (a b : Fr) : subH (a.less b) a := fun x y h => by rw [has_less, Bool.and_eq_true] at h; exact h.1

theorem blobs_spec (f : Fr) : ∀ (n : Nat) (left : Fr), left.ok = true → closed f left → left.cnt ≤ n →
    (∀ B, B ∈ blobs f left → Good f left B) ∧ (blobs f left).Pairwise Apart ∧ (∀ x y : Int, left.has x y = true → ∃ B, B ∈ blobs f left ∧ B.has x y = true) := by
  intro n
  induction n with
  | zero =>
    intro left hl hc hn
    have : left = zero := (cnt_zero_iff hl).1 (by omega)
    subst this
    rw [blobs_zero]
    exact ⟨fun B h => by simp at h, List.Pairwise.nil, fun x y h => by rw [has_zero] at h; cases h⟩
  | succ n ih =>
    intro left hl hc hn
    by_cases hz : left = zero
    · subst hz
      rw [blobs_zero]
      exact ⟨fun B h => by simp at h, List.Pairwise.nil, fun x y h => by rw [has_zero] at h; cases h⟩
    · rw [blobs_cons hl hc hz]
      have hlt := less_lt hl hc hz
      obtain ⟨h1, h2, h3⟩ := ih _ (ok_less hl) (closed_next hl hc hz) (by omega)
      obtain ⟨x, y, hx, hy, hf, hh, he, hsame, _⟩ := firstBlob_spec hl hc hz
      have hG : Good f left (firstBlob f left) := by
        rw [he]
        refine ⟨ok_blob (ok_one hx hy), fun e => ?_, closed_blob (ok_one hx hy) (subH_one hx hy hf), ?_, x, y, hx, hy, hf, rfl⟩
        · have := blobAt_has hx hy hf
          rw [e, has_zero] at this
          cases this
        · have := blob_le (subH_one hx hy hh)
          rw [show blob left (one x y) = blobAt f x y from hsame] at this
          exact this
      refine ⟨fun B hB => ?_, ?_, fun u v hd => ?_⟩
      · rcases List.mem_cons.1 hB with rfl | hB
        · exact hG
        · exact (h1 B hB).mono (subH_less _ _)
      · refine List.Pairwise.cons (fun B hB u v hd => ?_) h2
        cases hq : B.has u v with
        | false => rfl
        | true =>
          have := (h1 B hB).sub u v hq
          rw [has_less, hd] at this
          simp at this
      · cases hq : (firstBlob f left).has u v with
        | true => exact ⟨_, List.mem_cons_self, hq⟩
        | false =>
          obtain ⟨B, hB, hb⟩ := h3 u v (by rw [has_less, hd, hq]; rfl)
          exact ⟨B, List.mem_cons_of_mem _ hB, hb⟩

/-- The blobs before k, in one frame. -/
def joinTo (l : List Fr) (k : Nat) : Fr := (l.take k).foldl join zero
theorem joinTo_zero (l : List Fr) : joinTo l 0 = zero := rfl
theorem joinTo_succ (l : List Fr) (k : Nat) (B : Fr) (h : l[k]? = some B) : (joinTo l k).join B = joinTo l (k + 1) := by
  unfold joinTo; rw [List.take_add_one, h, List.foldl_append]; rfl
theorem has_foldl_join : ∀ (l : List Fr) (s : Fr) (x y : Int), (l.foldl join s).has x y = true ↔ s.has x y = true ∨ ∃ B, B ∈ l ∧ B.has x y = true
  | [], _, x, y => by simp
  | B :: l, s, x, y => by
    rw [List.foldl_cons, has_foldl_join l, has_join]
    simp only [Bool.or_eq_true, List.mem_cons, exists_eq_or_imp]
    constructor
    · rintro ((h | h) | h)
      · exact .inl h
      · exact .inr (.inl h)
      · exact .inr (.inr h)
    · rintro (h | h | h)
      · exact .inl (.inl h)
      · exact .inl (.inr h)
      · exact .inr h
theorem ok_foldl_join : ∀ (l : List Fr) (s : Fr), s.ok = true → (∀ B, B ∈ l → B.ok = true) → (l.foldl join s).ok = true
  | [], _, h, _ => h
  | B :: l, s, h, hl => ok_foldl_join l _ (ok_join h (hl B List.mem_cons_self)) fun B' hB => hl B' (List.mem_cons_of_mem _ hB)
theorem ok_joinTo {l : List Fr} (hl : ∀ B, B ∈ l → B.ok = true) (k : Nat) : (joinTo l k).ok = true := ok_foldl_join _ _ ok_zero fun B hB => hl B (List.mem_of_mem_take hB)

section
variable {f : Fr} (hf : f.ok = true)
include hf
theorem blobs_good {B : Fr} (h : B ∈ blobs f f) : Good f f B := (blobs_spec f 144 f hf (closed_self f) (cnt_le f)).1 B h
theorem blobs_ok (B : Fr) (h : B ∈ blobs f f) : B.ok = true := (blobs_good hf h).ok
theorem blobs_len : (blobs f f).length ≤ 144 := blobs_length f 144 f hf (closed_self f) (cnt_le f)
/-- The blobs before one have nothing in common with it. -/
theorem joinTo_apart {k : Nat} {B : Fr} (h : (blobs f f)[k]? = some B) : (joinTo (blobs f f) k).meet B = zero := by
  apply ext_has (ok_meet (ok_joinTo (blobs_ok hf) k)) ok_zero
  intro x y _ _ _ _
  rw [has_meet, has_zero]
  cases hq : B.has x y with
  | false => simp
  | true =>
    rw [Bool.and_true]
    cases hj : (joinTo (blobs f f) k).has x y with
    | false => rfl
    | true =>
      unfold joinTo at hj
      rw [has_foldl_join] at hj
      rcases hj with hj | ⟨C, hC, hc⟩
      · rw [has_zero] at hj; cases hj
      · obtain ⟨i, hi, he⟩ := List.mem_iff_getElem.1 hC
        have hP := (blobs_spec f 144 f hf (closed_self f) (cnt_le f)).2.1
        rw [List.pairwise_iff_getElem] at hP
        rw [List.length_take] at hi
        obtain ⟨hk, hB⟩ := List.getElem?_eq_some_iff.1 h
        have := hP i k (by omega) hk (by omega) x y
        rw [List.getElem_take] at he
        rw [he, hB, hq] at this
        exact absurd (this hc) (by simp)
theorem joinTo_all : joinTo (blobs f f) (blobs f f).length = f := by
  unfold joinTo
  rw [List.take_length]
  apply ext_has (ok_foldl_join _ _ ok_zero (blobs_ok hf)) hf
  intro x y _ _ _ _
  rw [Bool.eq_iff_iff, has_foldl_join]
  constructor
  · rintro (h | ⟨B, hB, h⟩)
    · rw [has_zero] at h; cases h
    · exact (blobs_good hf hB).sub x y h
  · intro h
    obtain ⟨B, hB, hb⟩ := (blobs_spec f 144 f hf (closed_self f) (cnt_le f)).2.2 x y h
    exact .inr ⟨B, hB, hb⟩
/-- Nothing of the frame is beside a blob but its own dots. -/
theorem blob_beside {B : Fr} (h : B ∈ blobs f f) : B.grow.meet f = B := by
  have hG := blobs_good hf h
  apply eq_of_subH (ok_meet (ok_grow B)) hG.ok
  · exact closed_step hG.closed
  · exact step_ge hG.sub
theorem blob_of_dot {B : Fr} (h : B ∈ blobs f f) {u v : Nat} (hu : u < 12) (hv : v < 12) (hd : B.dot u v = true) : blobAt f u v = B ∧ f.dot u v = true := by
  have hG := blobs_good hf h
  obtain ⟨x, y, hx, hy, hxy, rfl⟩ := hG.src
  refine ⟨blobAt_same hx hy hxy hu hv hd, ?_⟩
  have := hG.sub u v (by rw [has_nat]; simp [hu, hv, hd])
  rw [has_nat] at this
  simpa [hu, hv] using this
theorem blob_dots_ne {B : Fr} (h : B ∈ blobs f f) : B.dots ≠ [] := by
  have hG := blobs_good hf h
  intro e
  exact hG.ne ((cnt_zero_iff hG.ok).1 (by unfold cnt; rw [e]; rfl))
theorem blobs_nil : blobs f f = [] ↔ f = zero := by
  constructor
  · intro e
    by_cases hz : f = zero
    · exact hz
    · rw [blobs_cons hf (closed_self f) hz] at e
      cases e
  · rintro rfl; exact blobs_zero _
end

/-! ### Grown, and shrunk again -/
theorem ok_shrink (f : Fr) : f.shrink.ok = true := ok_ofHas _
theorem grow_shrink {f : Fr} (hf : f.ok = true) : f.less (f.grow.shrink) = zero := by
  apply ext_has (ok_less hf) ok_zero
  intro x y h1 h2 h3 h4
  rw [has_less, has_zero]
  cases hq : f.has x y with
  | false => rfl
  | true =>
    have hp := place_of_has hq
    unfold place at hp
    have g : ∀ u v : Int, near u v x y → place u v → f.grow.has u v = true := fun u v hn hpl => (has_grow f u v).2 ⟨hpl, x, y, hn, hq⟩
    have : f.grow.shrink.has x y = true := by
      unfold shrink
      rw [has_ofHas]
      have e1 : (x + 1 = 12) ∨ f.grow.has (x + 1) y = true := by
        by_cases h : x + 1 = 12
        · exact .inl h
        · exact .inr (g _ _ (by unfold near; omega) (by unfold place; omega))
      have e2 : (x = 0) ∨ f.grow.has (x - 1) y = true := by
        by_cases h : x = 0
        · exact .inl h
        · exact .inr (g _ _ (by unfold near; omega) (by unfold place; omega))
      have e3 : (y + 1 = 12) ∨ f.grow.has x (y + 1) = true := by
        by_cases h : y + 1 = 12
        · exact .inl h
        · exact .inr (g _ _ (by unfold near; omega) (by unfold place; omega))
      have e4 : (y = 0) ∨ f.grow.has x (y - 1) = true := by
        by_cases h : y = 0
        · exact .inl h
        · exact .inr (g _ _ (by unfold near; omega) (by unfold place; omega))
      have e0 := g x y (near_refl x y) hp
      simp only [Bool.and_eq_true, Bool.or_eq_true, decide_eq_true_eq]
      exact ⟨by omega, ⟨⟨⟨e0, e1⟩, e2⟩, e3⟩, e4⟩
    rw [this]; rfl
end Fr
end Fb
