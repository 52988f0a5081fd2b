/- Frames: blobs. -/
import Derived.Test.YthhimlicaiifdaaFrC
namespace Fb
namespace Fr

/-- One step to the blob: all places beside, within f. -/
def step (f out : Fr) : Fr := out.grow.meet f
def iter (f : Fr) : Nat → Fr → Fr
  | 0, s => s
  | n + 1, s => iter f n (step f s)

theorem iter_add (f : Fr) (a b : Nat) (s : Fr) : iter f (a + b) s = iter f b (iter f a s) := by
  induction a generalizing s with
  | zero => simp [iter]
  | succ a ih => rw [show a + 1 + b = (a + b) + 1 by omega]; simp only [iter]; exact ih _
theorem iter_succ' (f : Fr) (n : Nat) (s : Fr) : iter f (n + 1) s = step f (iter f n s) := by rw [iter_add]; rfl
theorem iter_fixed (f : Fr) {s : Fr} (h : step f s = s) (n : Nat) : iter f n s = s := by
  induction n with
  | zero => rfl
  | succ n ih => simp only [iter]; rw [h]; exact ih

theorem ok_grow (f : Fr) : f.grow.ok = true := ok_ofHas _
theorem ok_step {f out : Fr} : (step f out).ok = true := ok_meet (ok_grow out)
theorem ok_iter {f s : Fr} (hs : s.ok = true) (n : Nat) : (iter f n s).ok = true := by
  cases n with
  | zero => exact hs
  | succ n => rw [iter_succ']; exact ok_step

/-- Beside each other, or the same. -/
def near (x y u v : Int) : Prop := (u = x ∧ v = y) ∨ (u = x - 1 ∧ v = y) ∨ (u = x + 1 ∧ v = y) ∨ (u = x ∧ v = y - 1) ∨ (u = x ∧ v = y + 1)
theorem near_symm {x y u v : Int} (h : near x y u v) : near u v x y := by unfold near at *; omega
theorem near_refl (x y : Int) : near x y x y := .inl ⟨rfl, rfl⟩

def place (x y : Int) : Prop := 0 ≤ x ∧ x < 12 ∧ 0 ≤ y ∧ y < 12
theorem place_of_has {f : Fr} {x y : Int} (h : f.has x y = true) : place x y := by
  apply Classical.byContradiction
  intro hn
  rw [has_out f hn] at h
  cases h

theorem has_grow (f : Fr) (x y : Int) : f.grow.has x y = true ↔ place x y ∧ ∃ u v, near x y u v ∧ f.has u v = true := by
  unfold grow
  rw [has_ofHas]
  simp only [Bool.and_eq_true, decide_eq_true_eq, Bool.or_eq_true]
  constructor
  · rintro ⟨hp, h⟩
    refine ⟨hp, ?_⟩
    rcases h with (((h | h) | h) | h) | h
    · exact ⟨x, y, by unfold near; omega, h⟩
    · exact ⟨x - 1, y, by unfold near; omega, h⟩
    · exact ⟨x + 1, y, by unfold near; omega, h⟩
    · exact ⟨x, y - 1, by unfold near; omega, h⟩
    · exact ⟨x, y + 1, by unfold near; omega, h⟩
  · rintro ⟨hp, u, v, hn, h⟩
    refine ⟨hp, ?_⟩
    unfold near at hn
    rcases hn with ⟨rfl, rfl⟩ | ⟨rfl, rfl⟩ | ⟨rfl, rfl⟩ | ⟨rfl, rfl⟩ | ⟨rfl, rfl⟩ <;> simp [h]

theorem has_step (f out : Fr) (x y : Int) : (step f out).has x y = true ↔ f.has x y = true ∧ ∃ u v, near x y u v ∧ out.has u v = true := by
  unfold step
  rw [has_meet, Bool.and_eq_true, has_grow]
  constructor
  · rintro ⟨⟨_, h⟩, hf⟩; exact ⟨hf, h⟩
  · rintro ⟨hf, h⟩; exact ⟨⟨place_of_has hf, h⟩, hf⟩

/-- Inclusion, place by place. -/
def subH (a b : Fr) : Prop := ∀ x y : Int, a.has x y = true → b.has x y = true
theorem subH_refl (a : Fr) : subH a a := fun _ _ h => h
theorem subH_trans {a b c : Fr} (h : subH a b) (k : subH b c) : subH a c := fun x y d => k x y (h x y d)
theorem eq_of_subH {a b : Fr} (ha : a.ok = true) (hb : b.ok = true) (h : subH a b) (k : subH b a) : a = b := ext_has ha hb fun x y _ _ _ _ => by
  rw [Bool.eq_iff_iff]; exact ⟨h x y, k x y⟩
theorem sub_of_subH {a b : Fr} (ha : a.ok = true) (h : subH a b) : sub a b := by
  intro x y hd
  have hx : x < 12 := by
    apply Classical.byContradiction
    intro hx
    rw [ok_dot ha (by omega)] at hd; cases hd
  have hy : y < 12 := by
    apply Classical.byContradiction
    intro hy
    rw [dot_ge a (by omega)] at hd; cases hd
  have h1 : a.has x y = true := by rw [has_nat]; simp [hx, hy, hd]
  have := h _ _ h1
  rw [has_nat] at this
  simp only [Bool.and_eq_true] at this
  exact this.2

theorem step_mono (f : Fr) {a b : Fr} (h : subH a b) : subH (step f a) (step f b) := by
  intro x y hs
  rw [has_step] at hs ⊢
  obtain ⟨hf, u, v, hn, hh⟩ := hs
  exact ⟨hf, u, v, hn, h u v hh⟩
theorem step_ge {f s : Fr} (h : subH s f) : subH s (step f s) := by
  intro x y hs
  rw [has_step]
  exact ⟨h x y hs, x, y, near_refl x y, hs⟩
theorem step_le (f s : Fr) : subH (step f s) f := by
  intro x y hs
  rw [has_step] at hs
  exact hs.1
theorem iter_le {f s : Fr} (h : subH s f) (n : Nat) : subH (iter f n s) f := by
  cases n with
  | zero => exact h
  | succ n => rw [iter_succ']; exact step_le f _
theorem iter_ge {f s : Fr} (h : subH s f) (n : Nat) : subH s (iter f n s) := by
  induction n with
  | zero => exact subH_refl s
  | succ n ih => rw [iter_succ']; exact subH_trans ih (step_ge (iter_le h n))
theorem iter_grows {f s : Fr} (hs : s.ok = true) (h : subH s f) (n : Nat) : step f (iter f n s) = iter f n s ∨ s.cnt + n ≤ (iter f n s).cnt := by
  induction n with
  | zero => right; simp [iter]
  | succ n ih =>
    rcases ih with ih | ih
    · left; rw [iter_succ', ih, ih]
    · by_cases e : step f (iter f n s) = iter f n s
      · left; rw [iter_succ', e, e]
      · right
        have hlt : (iter f n s).cnt < (step f (iter f n s)).cnt :=
          cnt_lt ok_step (sub_of_subH (ok_iter hs n) (step_ge (iter_le h n))) (fun k => e k.symm)
        rw [iter_succ']
        omega

/-- The blob in f of what s has. -/
def blob (f s : Fr) : Fr := iter f 145 s
theorem blob_fixed {f s : Fr} (hs : s.ok = true) (h : subH s f) : step f (blob f s) = blob f s := by
  rcases iter_grows hs h 145 with e | e
  · exact e
  · have := cnt_le (iter f 145 s); omega
theorem ok_blob {f s : Fr} (hs : s.ok = true) : (blob f s).ok = true := ok_iter hs _
theorem blob_le {f s : Fr} (h : subH s f) : subH (blob f s) f := iter_le h _
theorem blob_ge {f s : Fr} (h : subH s f) : subH s (blob f s) := iter_ge h _
/-- What comes to stand still is the blob. -/
theorem blob_of_fixed {f s : Fr} (hs : s.ok = true) (h : subH s f) {n : Nat} (he : step f (iter f n s) = iter f n s) : iter f n s = blob f s := by
  have h1 : iter f (n + 145) s = iter f n s := by rw [iter_add]; exact iter_fixed f he 145
  have h2 : iter f (145 + n) s = blob f s := by rw [iter_add]; exact iter_fixed f (blob_fixed hs h) n
  rw [← h1, ← h2, Nat.add_comm]
theorem blob_least {f s c : Fr} (h : subH s c) (hc : subH (step f c) c) : subH (blob f s) c := by
  unfold blob
  suffices ∀ n, subH (iter f n s) c from this _
  intro n
  induction n with
  | zero => exact h
  | succ n ih => rw [iter_succ']; exact subH_trans (step_mono f ih) hc

/-- Closed in f: no dot of f beside one of c lies outside c. -/
def closed (f c : Fr) : Prop := subH c f ∧ ∀ x y u v : Int, c.has x y = true → near x y u v → f.has u v = true → c.has u v = true
theorem closed_step {f c : Fr} (h : closed f c) : subH (step f c) c := by
  intro x y hs
  rw [has_step] at hs
  obtain ⟨hf, u, v, hn, hh⟩ := hs
  exact h.2 u v x y hh (near_symm hn) hf
theorem closed_blob {f s : Fr} (hs : s.ok = true) (h : subH s f) : closed f (blob f s) := by
  refine ⟨blob_le h, fun x y u v hb hn hf => ?_⟩
  rw [← blob_fixed hs h, has_step]
  exact ⟨hf, x, y, near_symm hn, hb⟩
theorem closed_self (f : Fr) : closed f f := ⟨subH_refl f, fun _ _ _ _ _ _ h => h⟩
theorem closed_less {f a c : Fr} (ha : closed f a) (hc : closed f c) : closed f (a.less c) := by
  constructor
  · intro x y h
    rw [has_less, Bool.and_eq_true] at h
    exact ha.1 x y h.1
  · intro x y u v h hn hf
    rw [has_less, Bool.and_eq_true] at h ⊢
    refine ⟨ha.2 x y u v h.1 hn hf, ?_⟩
    cases hcu : c.has u v with
    | false => rfl
    | true =>
      have := hc.2 u v x y hcu (near_symm hn) (ha.1 x y h.1)
      rw [this] at h
      exact absurd h.2 (by simp)
/-- In a closed part the blob is the same. -/
theorem step_closed {f c s : Fr} (h : closed f c) (hs : subH s c) : step c s = step f s := by
  apply eq_of_subH ok_step ok_step
  · intro x y hh
    rw [has_step] at hh ⊢
    exact ⟨h.1 x y hh.1, hh.2⟩
  · intro x y hh
    rw [has_step] at hh ⊢
    obtain ⟨hf, u, v, hn, hu⟩ := hh
    exact ⟨h.2 u v x y (hs u v hu) (near_symm hn) hf, u, v, hn, hu⟩
theorem iter_closed {f c s : Fr} (h : closed f c) (hs : subH s c) (n : Nat) : iter c n s = iter f n s := by
  induction n with
  | zero => rfl
  | succ n ih =>
    rw [iter_succ', iter_succ', ih]
    exact step_closed h (by rw [← ih]; exact iter_le hs n)
theorem blob_closed {f c s : Fr} (h : closed f c) (hs : subH s c) : blob c s = blob f s := iter_closed h hs _

/-- A single dot. -/
def one (x y : Nat) : Fr := zero.put x y
theorem ok_one {x y : Nat} (hx : x < 12) (hy : y < 12) : (one x y).ok = true := ok_put ok_zero hx hy
theorem has_one {x y : Nat} (hx : x < 12) (hy : y < 12) (u v : Int) : (one x y).has u v = true ↔ u = x ∧ v = y := by
  have : one x y = zero.putI x y := by unfold one putI; rw [if_pos (by omega)]; rfl
  rw [this, has_putI, has_zero, Bool.false_or, Bool.and_eq_true, decide_eq_true_eq, decide_eq_true_eq]
  constructor
  · rintro ⟨h, _⟩; exact h
  · intro h; exact ⟨h, by omega⟩
theorem subH_one {f : Fr} {x y : Nat} (hx : x < 12) (hy : y < 12) (h : f.dot x y = true) : subH (one x y) f := by
  intro u v hh
  obtain ⟨rfl, rfl⟩ := (has_one hx hy u v).1 hh
  rw [has_nat]; simp [hx, hy, h]

def blobAt (f : Fr) (x y : Nat) : Fr := blob f (one x y)
theorem blobAt_has {f : Fr} {x y : Nat} (hx : x < 12) (hy : y < 12) (h : f.dot x y = true) : (blobAt f x y).has x y = true :=
  blob_ge (subH_one hx hy h) _ _ ((has_one hx hy _ _).2 ⟨rfl, rfl⟩)
/-- Each dot of a blob has this blob. -/
theorem blobAt_same {f : Fr} {x y u v : Nat} (hx : x < 12) (hy : y < 12) (h : f.dot x y = true) (hu : u < 12) (hv : v < 12) (hb : (blobAt f x y).dot u v = true) : blobAt f u v = blobAt f x y := by
  have hb' : (blobAt f x y).has u v = true := by rw [has_nat]; simp [hu, hv, hb]
  have hfu : f.dot u v = true := by
    have := blob_le (subH_one hx hy h) _ _ hb'
    rw [has_nat] at this
    simpa [hu, hv] using this
  have c1 := closed_blob (ok_one hx hy) (subH_one hx hy h)
  have c2 := closed_blob (ok_one hu hv) (subH_one hu hv hfu)
  have hs : (blobAt f u v).has x y = true := by
    cases hq : (blobAt f u v).has x y with
    | true => rfl
    | false =>
      exfalso
      have c3 := closed_less (closed_self f) c2
      have h1 : subH (one x y) (f.less (blob f (one u v))) := by
        intro a b hh
        obtain ⟨rfl, rfl⟩ := (has_one hx hy a b).1 hh
        rw [has_less, has_nat]
        have : (blob f (one u v)).has (x : Int) (y : Int) = false := hq
        rw [this]
        simp [hx, hy, h]
      have h2 := blob_least h1 (closed_step c3) _ _ hb'
      rw [has_less] at h2
      have h3 : (blob f (one u v)).has (u : Int) (v : Int) = true := blobAt_has hu hv hfu
      rw [h3] at h2
      simp at h2
  apply eq_of_subH (ok_blob (ok_one hu hv)) (ok_blob (ok_one hx hy))
  · refine blob_least ?_ (closed_step c1)
    intro a b hh
    obtain ⟨rfl, rfl⟩ := (has_one hu hv a b).1 hh
    exact hb'
  · refine blob_least ?_ (closed_step c2)
    intro a b hh
    obtain ⟨rfl, rfl⟩ := (has_one hx hy a b).1 hh
    exact hs

/-! ### All blobs -/
/-- The blob of the first dot that is left. -/
def firstBlob (f left : Fr) : Fr := match left.dots with | [] => zero | (x, y) :: _ => blobAt f x y
def blobsN (f : Fr) : Nat → Fr → List Fr
  | 0, _ => []
  | n + 1, left => if left = zero then [] else firstBlob f left :: blobsN f n (left.less (firstBlob f left))
def blobs (f left : Fr) : List Fr := blobsN f left.cnt left

theorem blobs_zero (f : Fr) : blobs f zero = [] := by
  have : zero.cnt = 0 := (cnt_zero_iff ok_zero).2 rfl
  unfold blobs; rw [this]; rfl

theorem firstBlob_spec {f left : Fr} (hl : left.ok = true) (hc : closed f left) (hne : left ≠ zero) :
    ∃ x y, x < 12 ∧ y < 12 ∧ f.dot x y = true ∧ left.dot x y = true ∧ firstBlob f left = blobAt f x y ∧ blobAt left x y = blobAt f x y ∧ ∃ rest, left.dots = (x, y) :: rest := by
  obtain ⟨x, y, rest, hd, hx, hy, hh⟩ := dots_head hl hne
  have hf : f.dot x y = true := by
    have := hc.1 x y (by rw [has_nat]; simp [hx, hy, hh])
    rw [has_nat] at this
    simpa [hx, hy] using this
  exact ⟨x, y, hx, hy, hf, hh, by unfold firstBlob; rw [hd], blob_closed hc (subH_one hx hy hh), rest, hd⟩

theorem less_lt {f left : Fr} (hl : left.ok = true) (hc : closed f left) (hne : left ≠ zero) : (left.less (firstBlob f left)).cnt < left.cnt := by
  obtain ⟨x, y, hx, hy, hf, hh, he, _, _⟩ := firstBlob_spec hl hc hne
  apply cnt_lt hl
  · intro a b hd
    rw [dot_less, Bool.and_eq_true] at hd
    exact hd.1
  · intro e
    have : (left.less (firstBlob f left)).has x y = left.has x y := by rw [e]
    rw [has_less, he, blobAt_has hx hy hf, has_nat] at this
    simp [hx, hy, hh] at this

theorem blobsN_more {f : Fr} : ∀ (n m : Nat) (left : Fr), left.ok = true → closed f left → left.cnt ≤ n → left.cnt ≤ m → blobsN f n left = blobsN f m left := by
  intro n
  induction n with
  | zero =>
    intro m left hl hc hn hm
    have : left = zero := (cnt_zero_iff hl).1 (by omega)
    subst this
    cases m <;> simp [blobsN]
  | succ n ih =>
    intro m left hl hc hn hm
    by_cases hz : left = zero
    · subst hz
      cases m <;> simp [blobsN]
    · have hlt := less_lt hl hc hz
      cases m with
      | zero => omega
      | succ m =>
        simp only [blobsN]
        rw [if_neg hz, if_neg hz]
        obtain ⟨x, y, hx, hy, hf, hh, he, _, _⟩ := firstBlob_spec hl hc hz
        have hcl : closed f (left.less (firstBlob f left)) := by rw [he]; exact closed_less hc (closed_blob (ok_one hx hy) (subH_one hx hy hf))
        rw [ih m _ (ok_less hl) hcl (by omega) (by omega)]

theorem closed_next {f left : Fr} (hl : left.ok = true) (hc : closed f left) (hne : left ≠ zero) : closed f (left.less (firstBlob f left)) := by
  obtain ⟨x, y, hx, hy, hf, hh, he, _, _⟩ := firstBlob_spec hl hc hne
  rw [he]; exact closed_less hc (closed_blob (ok_one hx hy) (subH_one hx hy hf))

theorem blobs_cons {f left : Fr} (hl : left.ok = true) (hc : closed f left) (hne : left ≠ zero) :
    blobs f left = firstBlob f left :: blobs f (left.less (firstBlob f left)) := by
  have hlt := less_lt hl hc hne
  unfold blobs
  obtain ⟨n, hn⟩ : ∃ n, left.cnt = n + 1 := ⟨left.cnt - 1, by omega⟩
  rw [hn]
  simp only [blobsN]
  rw [if_neg hne]
  congr 1
  exact blobsN_more _ _ _ (ok_less hl) (closed_next hl hc hne) (by omega) (Nat.le_refl _)

theorem blobs_length (f : Fr) : ∀ (n : Nat) (left : Fr), left.ok = true → closed f left → left.cnt ≤ n → (blobs f left).length ≤ n := by
  intro n
  induction n with
  | zero =>
    intro left hl hc hn
    have : left = zero := (cnt_zero_iff hl).1 (by omega)
    subst this; rw [blobs_zero]; simp
  | succ n ih =>
    intro left hl hc hn
    by_cases hz : left = zero
    · subst hz; rw [blobs_zero]; simp
    · rw [blobs_cons hl hc hz, List.length_cons]
      have := ih _ (ok_less hl) (closed_next hl hc hz) (by have := less_lt hl hc hz; omega)
      omega

end Fr
end Fb
