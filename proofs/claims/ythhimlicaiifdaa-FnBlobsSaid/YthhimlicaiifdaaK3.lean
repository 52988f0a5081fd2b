/- Slices: what is read, what is the call's own, and what is appended to. No program in sight. -/
import Derived.Test.YthhimlicaiifdaaK2
import Derived.Maps.AppendAt
import Derived.Deep.AppendLies
set_option maxRecDepth 100000
namespace Fb
open Go Go.RowKit
variable {α : Type}

/-- A slice reads as a list: each element's cells, in order. -/
def Reads (w : World) (enc : α → List Value) (sz : Nat) (v : Value) (xs : List α) : Prop :=
  ∃ A c, v = .slice A xs.length c ∧ xs.length ≤ c ∧ c ≤ 9223372036854775807 ∧
    (xs ≠ [] → ∃ b o, A = some ⟨b, o, none⟩ ∧ ∀ i x, xs[i]? = some x → ∀ j u, (enc x)[j]? = some u → w.cell? ⟨b, o + i * sz + j, none⟩ = some u)

theorem Reads.below {w w' : World} {enc : α → List Value} {sz : Nat} {v : Value} {xs : List α} (h : Reads w enc sz v xs) (hb : Below w.heap.size w w') : Reads w' enc sz v xs := by
  obtain ⟨A, c, hv, h1, h2, h3⟩ := h
  refine ⟨A, c, hv, h1, h2, fun hn => ?_⟩
  obtain ⟨b, o, hA, h4⟩ := h3 hn
  refine ⟨b, o, hA, fun i x hx j u hu => ?_⟩
  have := h4 i x hx j u hu
  exact (hb.cell (p := ⟨b, o + i * sz + j, none⟩) (World.block_lt_of_cell? w _ this)).trans this

/-- The slice is the call's own: a block from base on, not frozen, or nil. -/
def Owns (w : World) (base : Nat) (e : TypeId) (enc : α → List Value) (sz : Nat) (v : Value) (xs : List α) : Prop :=
  w.ownsRow base e sz v xs.length (xs.flatMap enc)

theorem flatMap_get {enc : α → List Value} {sz : Nat} (hsz : ∀ x, (enc x).length = sz) : ∀ (xs : List α) (i : Nat) (x : α), xs[i]? = some x → ∀ (j : Nat) (u : Value), (enc x)[j]? = some u → (xs.flatMap enc)[i * sz + j]? = some u := by
  intro xs
  induction xs with
  | nil => intro i x h; simp at h
  | cons y ys ih =>
    intro i x hx j u hu
    have hj : j < sz := by rw [← hsz x]; exact (List.getElem?_eq_some_iff.1 hu).1
    cases i with
    | zero =>
      simp at hx
      subst hx
      rw [List.flatMap_cons, List.getElem?_append_left (by rw [hsz]; omega), Nat.zero_mul, Nat.zero_add]
      exact hu
    | succ i =>
      simp at hx
      rw [List.flatMap_cons, List.getElem?_append_right (by rw [hsz, Nat.succ_mul]; omega), hsz]
      have := ih i x hx j u hu
      rw [show (i + 1) * sz + j - sz = i * sz + j by rw [Nat.succ_mul]; omega]
      exact this
theorem flatMap_len {enc : α → List Value} {sz : Nat} (hsz : ∀ x, (enc x).length = sz) (xs : List α) : (xs.flatMap enc).length = xs.length * sz := by
  induction xs with
  | nil => simp
  | cons y ys ih => rw [List.flatMap_cons, List.length_append, hsz, ih, List.length_cons, Nat.succ_mul, Nat.add_comm]

theorem Owns.reads {w : World} {base : Nat} {e : TypeId} {enc : α → List Value} {sz : Nat} {v : Value} {xs : List α} (h : Owns w base e enc sz v xs) (hsz : ∀ x, (enc x).length = sz) : Reads w enc sz v xs := by
  rcases h.2 with ⟨rfl, hn⟩ | ⟨g, cap, cur, rfl, hb, hg, hnc, hcm, hcs, htake⟩
  · have : xs = [] := List.eq_nil_of_length_eq_zero hn
    subst this
    exact ⟨none, 0, rfl, by simp, by omega, fun hn => absurd rfl hn⟩
  · refine ⟨some ⟨g, 0, none⟩, cap, rfl, hnc, by simpa [maxLen] using hcm, fun _ => ⟨g, 0, rfl, fun i x hx j u hu => ?_⟩⟩
    have h1 := flatMap_get hsz xs i x hx j u hu
    have h2 := h.cells (g := g) rfl (i * sz + j) u h1
    have ha : (⟨g, 0, none⟩ : Addr).add (i * sz + j) = ⟨g, 0 + i * sz + j, none⟩ := by unfold Addr.add; split <;> simp_all [Nat.zero_add]
    rwa [ha] at h2
theorem Owns.below {w w' : World} {base : Nat} {e : TypeId} {enc : α → List Value} {sz : Nat} {v : Value} {xs : List α} (h : Owns w base e enc sz v xs) (hb : Below w.heap.size w w') : Owns w' base e enc sz v xs :=
  h.kept ⟨hb.os, hb.tape, hb.output, hb.size, fun i hi _ => hb.block i hi⟩ (row := none) (by cases v.ownBlock <;> simp)
theorem Owns.alloc {w : World} {base : Nat} {e : TypeId} {enc : α → List Value} {sz : Nat} {v : Value} {xs : List α} (h : Owns w base e enc sz v xs) (o : Obj) : Owns (w.alloc o) base e enc sz v xs := World.ownsRow.alloc h o
theorem Owns.drew {w : World} {base : Nat} {e : TypeId} {enc : α → List Value} {sz : Nat} {v : Value} {xs : List α} (h : Owns w base e enc sz v xs) : Owns w.drew base e enc sz v xs := h
theorem Owns.drewN {w : World} {base : Nat} {e : TypeId} {enc : α → List Value} {sz : Nat} {v : Value} {xs : List α} (h : Owns w base e enc sz v xs) (n : Nat) : Owns (w.drewN n) base e enc sz v xs := h
theorem Owns.mono {w : World} {base base' : Nat} {e : TypeId} {enc : α → List Value} {sz : Nat} {v : Value} {xs : List α} (h : Owns w base e enc sz v xs) (hb : base' ≤ base) : Owns w base' e enc sz v xs := by
  refine ⟨h.1, ?_⟩
  rcases h.2 with h2 | ⟨g, cap, cur, rfl, hb', rest⟩
  · exact .inl h2
  · exact .inr ⟨g, cap, cur, rfl, by omega, rest⟩
/-- Another block is written. -/
theorem Owns.other {w : World} {base : Nat} {e : TypeId} {enc : α → List Value} {sz : Nat} {v : Value} {xs : List α} (h : Owns w base e enc sz v xs) (b : Nat) (c : Array Value) (hb : b < base) : Owns (w.setRow b c) base e enc sz v xs := by
  refine ⟨h.1, ?_⟩
  rcases h.2 with h2 | ⟨g, cap, cur, rfl, hb', hg, rest⟩
  · exact .inl h2
  · exact .inr ⟨g, cap, cur, rfl, hb', (setRow_other w b g c (by omega)).trans hg, rest⟩
theorem Owns.slice {w : World} {base : Nat} {e : TypeId} {enc : α → List Value} {sz : Nat} {v : Value} {xs : List α} (h : Owns w base e enc sz v xs) : ∃ A c, v = .slice A xs.length c := by
  rcases h.2 with ⟨rfl, h0⟩ | ⟨g, cap, cur, rfl, _⟩
  · exact ⟨none, 0, by rw [h0]⟩
  · exact ⟨_, cap, rfl⟩
/-- An empty slice, just made. -/
theorem Owns.empty (w : World) {base : Nat} (e : TypeId) (enc : α → List Value) (sz : Nat) (hb : base ≤ w.heap.size) : Owns (w.alloc (.cells #[] e)) base e enc sz (.slice (some ⟨w.heap.size, 0, none⟩) 0 0) [] := by
  have := World.ownsRow_made (base := base) (e := e) (size := sz) w #[] 0 hb (by simp [maxLen]) (by simp)
  exact this
theorem Owns.empty' (w : World) {base B : Nat} (e : TypeId) (enc : α → List Value) (sz : Nat) (hB : B = w.heap.size) (hb : base ≤ B) : Owns (w.alloc (.cells #[] e)) base e enc sz (.slice (some ⟨B, 0, none⟩) 0 0) [] := by
  subst hB; exact Owns.empty w e enc sz hb
theorem Owns.nil (w : World) (base : Nat) (e : TypeId) (enc : α → List Value) (sz : Nat) : Owns w base e enc sz (.slice none 0 0) [] := World.ownsRow_nil w base e sz

/-- An element of what is owned, where it lies. -/
theorem Owns.at {w : World} {base : Nat} {e : TypeId} {enc : α → List Value} {sz : Nat} {A : Option Addr} {n c : Nat} {xs : List α} (h : Owns w base e enc sz (.slice A n c) xs) (hsz : ∀ x, (enc x).length = sz) {k : Nat} {x : α} (hk : xs[k]? = some x) :
    ∃ b, A = some ⟨b, 0, none⟩ ∧ base ≤ b ∧ b < w.heap.size ∧ ∀ (j : Nat) (u : Value), (enc x)[j]? = some u → w.cell? ⟨b, k * sz + j, none⟩ = some u := by
  have hlt := (List.getElem?_eq_some_iff.1 hk).1
  rcases h.2 with ⟨_, hn⟩ | ⟨g, cap, cur, hv, hb, hg, _, _, hcs, htake⟩
  · omega
  · cases hv
    refine ⟨g, rfl, hb, (Array.getElem?_eq_some_iff.1 hg).1, fun j u hu => ?_⟩
    have h1 := flatMap_get hsz xs k x hk j u hu
    have h2 := h.cells (g := g) rfl (k * sz + j) u h1
    have ha : (⟨g, 0, none⟩ : Addr).add (k * sz + j) = ⟨g, k * sz + j, none⟩ := by unfold Addr.add; split <;> simp_all
    rwa [ha] at h2
theorem Owns.upd {w w1 : World} {base : Nat} {e : TypeId} {enc : α → List Value} {sz : Nat} {v : Value} {xs : List α} (h : Owns w base e enc sz v xs) {b : Nat} {c : Array Value} (hb : b < base) (hu : Upd w b c w1) : Owns w1 base e enc sz v xs := by
  obtain ⟨n, rfl⟩ := hu
  exact (h.other b c hb).drewN n

theorem Own.grown {w0 W w1 : World} {bs : List (Array Value × TypeId)} (h : Own w0 bs W) {row : Option Nat} (hg : W.grownBy w1 row) (hr : ∀ g, row = some g → w0.heap.size + bs.length ≤ g) : Own w0 bs w1 := by
  refine ⟨h.1.grown hg h.1.size (fun k hk => by have := hr k hk; omega), fun i c t hi => ?_⟩
  have hl := (List.getElem?_eq_some_iff.1 hi).1
  have hb := h.2 i c t hi
  exact (hg.block _ hb.lt (fun e => by have := hr _ e.symm; omega)).trans hb

section
variable {P : Program} {ops : Array Oper} {rest : List Oper} {o : Oper} {a : Act} {Q : Exit → Act → World → Prop}

/-- append(v, x) of one element that lies in the block made last. -/
theorem wpList_append1 (hgd : o.guard = none) (s x : Operand) (t e : TypeId) (sz : Nat) (z : Value) (bytes : Nat) (enc : α → List Value)
    (ho : o.op = .call { callee := .builtin .append, args := #[s, x], argTypes := #[t, t] })
    (ht : P.underlying t = some (.slice e)) (hinfo : (P.info? e).map (fun i => (i.zero, i.size, i.bytes)) = some (some z, sz, bytes)) (hz : z.cells.size = sz) (hsz : 0 < sz) (hb0 : 0 < bytes)
    (hel : ∀ y, (enc y).length = sz) (hone : ∀ y u, u ∈ enc y → u.oneCell' = true)
    {w0 W : World} {bs : List (Array Value × TypeId)} {v : Value} {xs : List α} (y : α) {news : Array Value} (hnews : news = (enc y).toArray) (hs : a.eval s = v) (hx : a.eval x = .slice (some ⟨W.heap.size, 0, none⟩) 1 1)
    (HW : Own w0 bs W) (HO : Owns W (w0.heap.size + bs.length) e enc sz v xs) (hbase : w0.heap.size + bs.length ≤ W.heap.size) (hl : (xs.length + 1) * bytes ≤ 140737488355328)
    (h : ∀ v1 w1, Own w0 bs w1 → Owns w1 (w0.heap.size + bs.length) e enc sz v1 (xs ++ [y]) → W.heap.size ≤ w1.heap.size → wpList P ops Q rest (a.put o.dst v1) w1) :
    wpList P ops Q (o :: rest) a (W.alloc (.cells news e)) := by
  subst hnews
  obtain ⟨i0, hi, hzz⟩ := Option.map_eq_some_iff.1 hinfo
  simp only [Prod.mk.injEq] at hzz
  obtain ⟨hz0, hz1, hz2⟩ := hzz
  have hlen : xs.length + 1 ≤ 140737488355328 := Nat.le_trans (Nat.le_mul_of_pos_right _ hb0) hl
  refine wpList_append_own_at (W.alloc (.cells (enc y).toArray e)) hgd s x t ho (w0.heap.size + bs.length) e i0 z sz bytes ht hi hz0 hz1 hz2 hz hsz v xs.length (xs.flatMap enc) hs (World.ownsRow.alloc HO _) ⟨W.heap.size, 0, none⟩ 1 1 (enc y) hx (by rw [hel]; omega)
    (World.news_of_block (cs := (enc y).toArray) (t := e) (fr := (0, 0)) (Go.heap_alloc_new W _)) (hone y) (by simp only [maxLen]; omega) hl (by simp; omega) ?_
  intro v1 w1 hown hg _ _
  have hown' : Owns w1 (w0.heap.size + bs.length) e enc sz v1 (xs ++ [y]) := by
    unfold Owns
    rw [List.flatMap_append, List.length_append]
    simpa using hown
  refine h v1 w1 ((HW.alloc _).grown hg (fun g hk => ?_)) hown' (by have := hg.size; simp at this; omega)
  rcases HO.2 with ⟨rfl, _⟩ | ⟨g', cap, cur, rfl, hb', _⟩
  · simp [Value.ownBlock] at hk
  · have : g' = g := by simpa [Value.ownBlock] using hk
    omega
end

end Fb
