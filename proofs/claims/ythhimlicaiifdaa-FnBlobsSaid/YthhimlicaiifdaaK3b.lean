/- append of one element, with what other blocks hold behind it. No program in sight. -/
import Derived.Test.YthhimlicaiifdaaK3
set_option maxRecDepth 100000
namespace Fb
open Go Go.RowKit
variable {α : Type} {P : Program} {ops : Array Oper} {rest : List Oper} {o : Oper} {a : Act} {Q : Exit → Act → World → Prop}

/-- append(v, x) of one element that lies in the block made last; every block but v's own is as it was. -/
theorem wpList_append1g (hgd : o.guard = none) (s x : Operand) (t e : TypeId) (sz : Nat) (z : Value) (bytes : Nat) (enc : α → List Value)
    (ho : o.op = .call { callee := .builtin .append, args := #[s, x], argTypes := #[t, t] })
    (ht : P.underlying t = some (.slice e)) (hinfo : (P.info? e).map (fun i => (i.zero, i.size, i.bytes)) = some (some z, sz, bytes)) (hz : z.cells.size = sz) (hsz : 0 < sz) (hb0 : 0 < bytes)
    (hel : ∀ y, (enc y).length = sz) (hone : ∀ y u, u ∈ enc y → u.oneCell' = true)
    {W : World} {base : Nat} {v : Value} {xs : List α} (y : α) {news : Array Value} (hnews : news = (enc y).toArray) (hs : a.eval s = v) (hx : a.eval x = .slice (some ⟨W.heap.size, 0, none⟩) 1 1)
    (HO : Owns W base e enc sz v xs) (hbase : base ≤ W.heap.size) (hl : (xs.length + 1) * bytes ≤ 140737488355328)
    (h : ∀ v1 w1, (W.alloc (.cells news e)).grownBy w1 v.ownBlock → Owns w1 base e enc sz v1 (xs ++ [y]) → W.heap.size ≤ w1.heap.size → wpList P ops Q rest (a.put o.dst v1) w1) :
    wpList P ops Q (o :: rest) a (W.alloc (.cells news e)) := by
  subst hnews
  obtain ⟨i0, hi, hzz⟩ := Option.map_eq_some_iff.1 hinfo
  simp only [Prod.mk.injEq] at hzz
  obtain ⟨hz0, hz1, hz2⟩ := hzz
  have hlen : xs.length + 1 ≤ 140737488355328 := Nat.le_trans (Nat.le_mul_of_pos_right _ hb0) hl
  refine wpList_append_own_at (W.alloc (.cells (enc y).toArray e)) hgd s x t ho base e i0 z sz bytes ht hi hz0 hz1 hz2 hz hsz v xs.length (xs.flatMap enc) hs (World.ownsRow.alloc HO _) ⟨W.heap.size, 0, none⟩ 1 1 (enc y) hx (by rw [hel]; omega)
    (World.news_of_block (cs := (enc y).toArray) (t := e) (fr := (0, 0)) (Go.heap_alloc_new W _)) (hone y) (by simp only [maxLen]; omega) hl (by simp; omega) ?_
  intro v1 w1 hown hg _ _
  have hown' : Owns w1 base e enc sz v1 (xs ++ [y]) := by
    unfold Owns
    rw [List.flatMap_append, List.length_append]
    simpa using hown
  exact h v1 w1 hg hown' (by have := hg.size; simp at this; omega)

/-- What v owns lies in no block that came later. -/
theorem Owns.row_lt {w : World} {base : Nat} {e : TypeId} {enc : α → List Value} {sz : Nat} {v : Value} {xs : List α} (h : Owns w base e enc sz v xs) {g : Nat} (hg : v.ownBlock = some g) : base ≤ g ∧ g < w.heap.size := World.ownsRow.lt h g hg
theorem Blk.grown {w w1 : World} {b : Nat} {c : Array Value} {t : TypeId} (h : Blk w b c t) {row : Option Nat} (hg : w.grownBy w1 row) (hne : row ≠ some b) : Blk w1 b c t := (hg.block b h.lt (fun e => hne e.symm)).trans h
end Fb
