/- What a function owns, block by block, by the blocks' numbers. -/
import Derived.Test.YthhimlicaiifdaaY13
import Derived.Test.YthhimlicaiifdaaE1
set_option maxRecDepth 100000
set_option linter.unusedSimpArgs false
set_option linter.unusedVariables false
namespace Go.Proofs.Ythhimlicaiifdaa
open Go.RowKit Fb

/-- The blocks of the list, all of the call's own, hold what it says; what was there is as it was. -/
structure BagB (w0 : World) (L : List (Nat × Array Value × TypeId)) (w : World) : Prop where
  below : Below w0.heap.size w0 w
  own : ∀ (i b : Nat) (c : Array Value) (t : TypeId), L[i]? = some (b, c, t) → w0.heap.size ≤ b ∧ Blk w b c t
  ord : ∀ (i j b b' : Nat) (c c' : Array Value) (t t' : TypeId), L[i]? = some (b, c, t) → L[j]? = some (b', c', t') → i < j → b < b'
theorem BagB.start (w : World) : BagB w [] w := ⟨Below.refl _ _, fun i b c t h => by simp at h, fun i j b b' c c' t t' h => by simp at h⟩
theorem BagB.call {w0 w w1 : World} {L : List (Nat × Array Value × TypeId)} (h : BagB w0 L w) (hb : Below w.heap.size w w1) : BagB w0 L w1 :=
  ⟨h.1.trans (hb.mono h.1.size), fun i b c t hi => ⟨(h.2 i b c t hi).1, (h.2 i b c t hi).2.below hb⟩, h.3⟩
theorem BagB.push {w0 w : World} {L : List (Nat × Array Value × TypeId)} (h : BagB w0 L w) (b : Nat) (c : Array Value) (t : TypeId) (hb : b = w.heap.size) : BagB w0 (L ++ [(b, c, t)]) (w.alloc (.cells c t)) := by
  subst hb
  have key : ∀ (i b : Nat) (c' : Array Value) (t' : TypeId), (L ++ [(w.heap.size, c, t)])[i]? = some (b, c', t') → (L[i]? = some (b, c', t')) ∨ (i = L.length ∧ b = w.heap.size ∧ c' = c ∧ t' = t) := by
    intro i b c' t' hi
    by_cases hl : i < L.length
    · rw [List.getElem?_append_left hl] at hi
      exact .inl hi
    · have hl2 := (List.getElem?_eq_some_iff.1 hi).1
      simp at hl2
      have : i = L.length := by omega
      subst this
      simp at hi
      obtain ⟨rfl, rfl, rfl⟩ := hi
      exact .inr ⟨rfl, rfl, rfl, rfl⟩
  refine ⟨h.1.alloc h.1.size _, fun i b c' t' hi => ?_, fun i j b b' c1 c2 t1 t2 hi hj hij => ?_⟩
  · rcases key i b c' t' hi with hi | ⟨_, rfl, rfl, rfl⟩
    · exact ⟨(h.2 i b c' t' hi).1, (h.2 i b c' t' hi).2.alloc _⟩
    · exact ⟨h.1.size, Blk.alloc_new w _ _⟩
  · rcases key j b' c2 t2 hj with kj | ⟨e1, e2, e3, e4⟩
    · rcases key i b c1 t1 hi with ki | ⟨e1, e2, e3, e4⟩
      · exact h.3 i j b b' c1 c2 t1 t2 ki kj hij
      · have := (List.getElem?_eq_some_iff.1 kj).1
        omega
    · rcases key i b c1 t1 hi with ki | ⟨e5, e6, e7, e8⟩
      · have := (h.2 i b c1 t1 ki).2.lt; omega
      · omega
theorem BagB.drew {w0 w : World} {L : List (Nat × Array Value × TypeId)} (h : BagB w0 L w) : BagB w0 L w.drew := h.call ⟨rfl, rfl, rfl, Nat.le_refl _, fun _ _ => rfl⟩
theorem BagB.drewN {w0 w : World} {L : List (Nat × Array Value × TypeId)} (h : BagB w0 L w) (n : Nat) : BagB w0 L (w.drewN n) := h.call (below_drewN (Below.refl _ _) n)
theorem BagB.at {w0 w : World} {L : List (Nat × Array Value × TypeId)} (h : BagB w0 L w) (i : Nat) {b : Nat} {c : Array Value} {t : TypeId} (hi : L[i]? = some (b, c, t)) : Blk w b c t := (h.2 i b c t hi).2
theorem BagB.lt {w0 w : World} {L : List (Nat × Array Value × TypeId)} (h : BagB w0 L w) (i : Nat) {b : Nat} {c : Array Value} {t : TypeId} (hi : L[i]? = some (b, c, t)) : b < w.heap.size := (h.at i hi).lt
/-- The frame in a block. -/
theorem BagB.ld {w0 w : World} {L : List (Nat × Array Value × TypeId)} (h : BagB w0 L w) (i : Nat) {b : Nat} {f : Fr} {t : TypeId} (hi : L[i]? = some (b, frC f, t)) : row? w b 0 12 = some (frC f) := by
  rw [(h.at i hi).row, rowIn_fr]
theorem BagB.set {w0 w : World} {L : List (Nat × Array Value × TypeId)} (h : BagB w0 L w) (i : Nat) {b : Nat} {c : Array Value} {t : TypeId} (hi : L[i]? = some (b, c, t)) (c' : Array Value) {L' : List (Nat × Array Value × TypeId)} (hL : L' = L.set i (b, c', t)) : BagB w0 L' (w.setRow b c') := by
  subst hL
  have hb := (h.2 i b c t hi).1
  have key : ∀ (j b1 : Nat) (c1 : Array Value) (t1 : TypeId), (L.set i (b, c', t))[j]? = some (b1, c1, t1) → (j = i ∧ b1 = b ∧ c1 = c' ∧ t1 = t) ∨ (j ≠ i ∧ L[j]? = some (b1, c1, t1)) := by
    intro j b1 c1 t1 hj
    rw [List.getElem?_set] at hj
    by_cases e : i = j
    · subst e
      rw [if_pos rfl] at hj
      split at hj
      · cases hj
        exact .inl ⟨rfl, rfl, rfl, rfl⟩
      · cases hj
    · rw [if_neg e] at hj
      exact .inr ⟨fun k => e k.symm, hj⟩
  refine ⟨⟨h.1.os, h.1.tape, h.1.output, by rw [setRow_size]; exact h.1.size, fun k hk => (setRow_other w b k c' (by omega)).trans (h.1.block k hk)⟩, fun j b1 c1 t1 hj => ?_, fun i1 j1 b1 b2 c1 c2 t1 t2 h1 h2 h12 => ?_⟩
  · rcases key j b1 c1 t1 hj with ⟨rfl, rfl, rfl, rfl⟩ | ⟨hne, hj⟩
    · exact ⟨hb, (h.at j hi).setRow _⟩
    · refine ⟨(h.2 j b1 c1 t1 hj).1, (h.at j hj).other _ _ ?_⟩
      rcases Nat.lt_or_gt_of_ne hne with hlt | hlt
      · have := h.3 j i _ _ _ _ _ _ hj hi hlt; omega
      · have := h.3 i j _ _ _ _ _ _ hi hj hlt; omega
  · rcases key i1 b1 c1 t1 h1 with ⟨e1, e2, e3, e4⟩ | ⟨hne, k1⟩
    · rcases key j1 b2 c2 t2 h2 with ⟨e5, e6, e7, e8⟩ | ⟨hne, k2⟩
      · omega
      · rw [e2]; rw [e1] at h12; exact h.3 _ _ _ _ _ _ _ _ hi k2 h12
    · rcases key j1 b2 c2 t2 h2 with ⟨e5, e6, e7, e8⟩ | ⟨hne, k2⟩
      · rw [e6]; rw [e5] at h12; exact h.3 _ _ _ _ _ _ _ _ k1 hi h12
      · exact h.3 _ _ _ _ _ _ _ _ k1 k2 h12
/-- Fewer blocks. -/
theorem BagB.take {w0 w : World} {L L' : List (Nat × Array Value × TypeId)} (h : BagB w0 (L ++ L') w) : BagB w0 L w := by
  have key : ∀ (i : Nat) (x : Nat × Array Value × TypeId), L[i]? = some x → (L ++ L')[i]? = some x := fun i x hi => by
    rw [List.getElem?_append_left (List.getElem?_eq_some_iff.1 hi).1]; exact hi
  exact ⟨h.1, fun i b c t hi => h.2 i b c t (key _ _ hi), fun i j b b' c c' t t' hi hj => h.3 i j b b' c c' t t' (key _ _ hi) (key _ _ hj)⟩
end Go.Proofs.Ythhimlicaiifdaa
