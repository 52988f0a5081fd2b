/- What a function owns: the blocks that it has laid, by their places behind the world in which it began. No program in sight. -/
import Derived.Test.YthhimlicaiifdaaK0
set_option maxRecDepth 100000
namespace Fb
open Go Go.RowKit

/-- The first blocks behind w0 hold what the list says, and what was there is as it was. -/
def Own (w0 : World) (bs : List (Array Value × TypeId)) (w : World) : Prop :=
  Below w0.heap.size w0 w ∧ ∀ i c t, bs[i]? = some (c, t) → Blk w (w0.heap.size + i) c t

theorem Own.below {w0 w : World} {bs : List (Array Value × TypeId)} (h : Own w0 bs w) : Below w0.heap.size w0 w := h.1
theorem Own.start (w : World) : Own w [] w := ⟨Below.refl _ _, fun i c t h => by simp at h⟩
theorem Own.push {w0 w : World} {bs : List (Array Value × TypeId)} (h : Own w0 bs w) (hs : w.heap.size = w0.heap.size + bs.length) (c : Array Value) (t : TypeId) : Own w0 (bs ++ [(c, t)]) (w.alloc (.cells c t)) := by
  refine ⟨h.1.alloc (by omega) _, fun i c' t' hi => ?_⟩
  by_cases hl : i < bs.length
  · rw [List.getElem?_append_left hl] at hi
    exact (h.2 i c' t' hi).alloc _
  · have hl2 := (List.getElem?_eq_some_iff.1 hi).1
    simp at hl2
    have : i = bs.length := by omega
    subst this
    simp at hi
    obtain ⟨rfl, rfl⟩ := hi
    rw [← hs]
    exact Blk.alloc_new w c t
theorem Own.alloc {w0 w : World} {bs : List (Array Value × TypeId)} (h : Own w0 bs w) (o : Obj) : Own w0 bs (w.alloc o) :=
  ⟨h.1.alloc h.1.size _, fun i c t hi => (h.2 i c t hi).alloc _⟩
theorem Own.drew {w0 w : World} {bs : List (Array Value × TypeId)} (h : Own w0 bs w) : Own w0 bs w.drew := ⟨h.1.drew, fun i c t hi => (h.2 i c t hi).drew⟩
theorem Own.drewN {w0 w : World} {bs : List (Array Value × TypeId)} (h : Own w0 bs w) (n : Nat) : Own w0 bs (w.drewN n) :=
  ⟨⟨h.1.os, h.1.tape, h.1.output, h.1.size, h.1.block⟩, fun i c t hi => h.2 i c t hi⟩
theorem Own.call {w0 w w1 : World} {bs : List (Array Value × TypeId)} (h : Own w0 bs w) (hb : Below w.heap.size w w1) : Own w0 bs w1 :=
  ⟨h.1.trans (hb.mono h.1.size), fun i c t hi => (h.2 i c t hi).below hb⟩
theorem Own.at {w0 w : World} {bs : List (Array Value × TypeId)} (h : Own w0 bs w) (i : Nat) {c : Array Value} {t : TypeId} (hi : bs[i]? = some (c, t)) : Blk w (w0.heap.size + i) c t := h.2 i c t hi
theorem Own.set {w0 w : World} {bs : List (Array Value × TypeId)} (h : Own w0 bs w) (i : Nat) {c : Array Value} {t : TypeId} (hi : bs[i]? = some (c, t)) (c' : Array Value) : Own w0 (bs.set i (c', t)) (w.setRow (w0.heap.size + i) c') := by
  refine ⟨h.1.trans ⟨rfl, rfl, rfl, by simp, fun k hk => setRow_other w _ k c' (by omega)⟩, fun j c'' t'' hj => ?_⟩
  rw [List.getElem?_set] at hj
  by_cases e : i = j
  · subst e
    rw [if_pos rfl] at hj
    split at hj
    · cases hj
      exact (h.2 i c t hi).setRow _
    · cases hj
  · rw [if_neg e] at hj
    exact (h.2 j c'' t'' hj).other _ _ (by omega)
/-- A store into what the function owns, whatever else lies there. -/
theorem Own.set' {w0 w : World} {bs : List (Array Value × TypeId)} (h : Own w0 bs w) (i : Nat) {c : Array Value} {t : TypeId} (hi : bs[i]? = some (c, t)) {b : Nat} (hb : b = w0.heap.size + i) (c' : Array Value) {bs' : List (Array Value × TypeId)} (hbs : bs' = bs.set i (c', t)) : Own w0 bs' (w.setRow b c') := by
  subst hb; subst hbs; exact h.set i hi c'
/-- A store into a block behind those. -/
theorem Own.setOther {w0 w : World} {bs : List (Array Value × TypeId)} (h : Own w0 bs w) (b : Nat) (hb : w0.heap.size + bs.length ≤ b) (c' : Array Value) : Own w0 bs (w.setRow b c') := by
  refine ⟨h.1.trans ⟨rfl, rfl, rfl, by simp, fun k hk => setRow_other w _ k c' (by omega)⟩, fun j c'' t'' hj => ?_⟩
  have hl := (List.getElem?_eq_some_iff.1 hj).1
  exact (h.2 j c'' t'' hj).other _ _ (by omega)

theorem Blk.facts' {w : World} {b : Nat} {c : Array Value} {t : TypeId} (h : Blk w b c t) {b' : Nat} (hb : b = b') : Blk w b' c t := by subst hb; exact h

/-- What the walk is told of a block. -/
theorem Blk.facts {w : World} {b : Nat} {c : Array Value} {t : TypeId} (h : Blk w b c t) {b' : Nat} (hb : b = b') :
    (∀ o, w.cell? ⟨b', o, none⟩ = c[o]?) ∧ (∀ o, w.frozen? ⟨b', o, none⟩ = false) ∧ (∀ o n, row? w b' o n = rowIn c o n) ∧ (∀ o n, Fb.fits w b' o n = decide (o + n ≤ c.size)) ∧
    (∀ o v, w.setCell ⟨b', o, none⟩ v = w.setRow b' (c.setIfInBounds o v)) ∧ (∀ o cs, putRow w b' o cs = w.setRow b' (splice c o cs)) ∧ b' < w.heap.size := by
  subst hb
  exact ⟨h.cell, h.frozen, h.row, h.fits, h.setCell, h.put, h.lt⟩

/-- .. and of that block behind a store. -/
theorem Blk.facts2 {w : World} {b : Nat} {c : Array Value} {t : TypeId} (h : Blk w b c t) {b' : Nat} (hb : b = b') :
    (∀ c' o, (w.setRow b' c').cell? ⟨b', o, none⟩ = c'[o]?) ∧ (∀ c' o, (w.setRow b' c').frozen? ⟨b', o, none⟩ = false) ∧ (∀ c' o n, row? (w.setRow b' c') b' o n = rowIn c' o n) ∧ (∀ c' o n, Fb.fits (w.setRow b' c') b' o n = decide (o + n ≤ c'.size)) ∧
    (∀ c' o v, (w.setRow b' c').setCell ⟨b', o, none⟩ v = w.setRow b' (c'.setIfInBounds o v)) ∧ (∀ c' o cs, putRow (w.setRow b' c') b' o cs = w.setRow b' (splice c' o cs)) := by
  subst hb
  refine ⟨fun c' => (h.setRow c').cell, fun c' => (h.setRow c').frozen, fun c' => (h.setRow c').row, fun c' => (h.setRow c').fits, fun c' o v => ?_, fun c' o cs => ?_⟩
  · rw [(h.setRow c').setCell, setRow_setRow]
  · rw [(h.setRow c').put, setRow_setRow]

/-- Block b written, some orders drawn. -/
def Upd (w : World) (b : Nat) (c : Array Value) (w' : World) : Prop := ∃ n, w' = (w.setRow b c).drewN n
theorem Upd.blk {w w' : World} {b : Nat} {c c0 : Array Value} {t : TypeId} (h : Upd w b c w') (hB : Blk w b c0 t) : Blk w' b c t := by
  obtain ⟨n, rfl⟩ := h; exact hB.setRow c
theorem Upd.drew {w w' : World} {b : Nat} {c : Array Value} (h : Upd w b c w') : Upd w b c w'.drew := by
  obtain ⟨n, rfl⟩ := h; exact ⟨n + 1, by rw [World.drew_drewN]⟩
theorem Upd.set {w w' : World} {b : Nat} {c : Array Value} (h : Upd w b c w') (c' : Array Value) : Upd w b c' (w'.setRow b c') := by
  obtain ⟨n, rfl⟩ := h
  refine ⟨n, ?_⟩
  have : ((w.setRow b c).drewN n).setRow b c' = ((w.setRow b c).setRow b c').drewN n := rfl
  rw [this, setRow_setRow]
theorem Upd.start {w : World} {b : Nat} {c : Array Value} {t : TypeId} (hB : Blk w b c t) : Upd w b c w := ⟨0, by rw [setRow_self w b c t _ hB]; rfl⟩

theorem Own.upd {w0 w w1 : World} {bs : List (Array Value × TypeId)} (h : Own w0 bs w) (i : Nat) {c : Array Value} {t : TypeId} (hi : bs[i]? = some (c, t)) {b : Nat} (hb : b = w0.heap.size + i) {c' : Array Value} (hu : Upd w b c' w1) {bs' : List (Array Value × TypeId)} (hbs : bs' = bs.set i (c', t)) : Own w0 bs' w1 := by
  obtain ⟨n, rfl⟩ := hu
  exact (h.set' i hi hb c' hbs).drewN n

@[go_sem] theorem setRow_size' (w : World) (b : Nat) (c : Array Value) : (w.setRow b c).heap.size = w.heap.size := setRow_size w b c

end Fb
