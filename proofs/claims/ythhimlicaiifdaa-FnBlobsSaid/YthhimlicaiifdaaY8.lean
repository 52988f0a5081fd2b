/- What draws: numbers, yes or no, and a source at its start. -/
import Derived.Test.YthhimlicaiifdaaY7
set_option maxRecDepth 100000
set_option linter.unusedSimpArgs false
set_option linter.unusedVariables false
namespace Go.Proofs.Ythhimlicaiifdaa
open Go.RowKit Fb

theorem mod_bd (a b : Int) (hb : 1 ≤ b) : 0 ≤ a % b ∧ a % b < b := ⟨Int.emod_nonneg _ (by omega), Int.emod_lt_of_pos _ (by omega)⟩

theorem pick_any (b n : Nat) (N : Int) (hN : 1 ≤ N) (hN2 : N ≤ 1000000000) (w : World) (h : Src b n w) (hn : n ≤ 4611686018427387000) : Calls Try.prog 176 #[.pointer (some ⟨b, 0, none⟩), .int .i64 N] w (DrawQ b n 2 N w) := by
  by_cases h1 : N ≤ 1
  · go_enter Try.func176, Try.ntmps176
    go_wp2
    go_ret
    exact ⟨0, rfl, Int.le_refl _, hN, But.refl _ _, n, by omega, h⟩
  · by_cases h2 : 200 < N
    · have hH := Lib.hid h
      clear h
      go_enter Try.func176, Try.ntmps176
      go_wp2_with (go_at_call 230; refine (next_any _ _ _ hH.out (by omega)).mono ?_; rintro e w1 ⟨r1, rfl, hr1, hr2, hb1, m1, hm1, hs1⟩; replace hs1 := Lib.hid hs1)
      go_wp2_with (go_at_call 230; refine (next_any _ _ _ hs1.out (by omega)).mono ?_; rintro e w2 ⟨r2, rfl, hr3, hr4, hb2, m2, hm2, hs2⟩; replace hs2 := Lib.hid hs2)
      go_ret
      exact ⟨_, rfl, (mod_bd _ _ hN).1, (mod_bd _ _ hN).2, hb1.trans hb2, m2, by omega, hs2.out⟩
    · have hH := Lib.hid h
      clear h
      go_enter Try.func176, Try.ntmps176
      go_wp2_with (go_at_call 230; refine (next_any _ _ _ hH.out (by omega)).mono ?_; rintro e w1 ⟨r1, rfl, hr1, hr2, hb1, m1, hm1, hs1⟩; replace hs1 := Lib.hid hs1)
      go_ret
      exact ⟨_, rfl, (mod_bd _ _ hN).1, (mod_bd _ _ hN).2, hb1, m1, by omega, hs1.out⟩

/-- Yes or no is drawn. -/
def OneQ (b n k : Nat) (w : World) (e : Ending) (w' : World) : Prop :=
  ∃ p : Bool, e = .returned (.bool p) ∧ But b w w' ∧ ∃ m, m ≤ n + k ∧ Src b m w'
theorem one_any (b n : Nat) (N : Int) (hN : 1 ≤ N) (hN2 : N ≤ 1000000000) (w : World) (h : Src b n w) (hn : n ≤ 4611686018427387000) : Calls Try.prog 202 #[.pointer (some ⟨b, 0, none⟩), .int .i64 N] w (OneQ b n 2 w) := by
  have hH := Lib.hid h
  clear h
  go_enter Try.func202, Try.ntmps202
  go_wp2_with (go_at_call 176; refine (pick_any _ _ _ hN hN2 _ hH.out hn).mono ?_; rintro e w1 ⟨r1, rfl, hr1, hr2, hb1, m1, hm1, hs1⟩; replace hs1 := Lib.hid hs1)
  go_ret
  exact ⟨_, rfl, hb1, m1, hm1, hs1.out⟩

/-- Bytes lie in memory. -/
def CodeAt (w : World) (v : Value) : Prop :=
  ∃ (A : Option Addr) (c : Nat) (bs : List Int), v = .slice A bs.length c ∧ bs.length ≤ 9223372036854775807 ∧ (∀ v, v ∈ bs → 0 ≤ v ∧ v ≤ 255) ∧
    (bs ≠ [] → ∃ g o, A = some ⟨g, o, none⟩ ∧ ∀ (i : Nat) (v : Int), bs[i]? = some v → w.cell? ⟨g, o + i, none⟩ = some (.int .u8 v))
theorem CodeAt.below {w w1 : World} {v : Value} (h : CodeAt w v) (hb : Below w.heap.size w w1) : CodeAt w1 v := by
  obtain ⟨A, c, bs, h1, h2, h3, h4⟩ := h
  refine ⟨A, c, bs, h1, h2, h3, fun hn => ?_⟩
  obtain ⟨g, o, hA, hc⟩ := h4 hn
  refine ⟨g, o, hA, fun i v hi => ?_⟩
  have := hc i v hi
  exact (hb.cell (p := ⟨g, o + i, none⟩) (World.block_lt_of_cell? w _ this)).trans this

/-- A source is laid. -/
def NewSrc (w : World) (e : Ending) (w' : World) : Prop := ∃ b, e = .returned (.pointer (some ⟨b, 0, none⟩)) ∧ Below w.heap.size w w' ∧ w.heap.size ≤ b ∧ Src b 0 w'
theorem from_any (v : Value) (w : World) (h : CodeAt w v) : Calls Try.prog 103 #[v] w (NewSrc w) := by
  obtain ⟨A, c, bs, rfl, h2, h3, h4⟩ := h
  have H3 := Lib.hid h3
  have H4 := Lib.hid h4
  clear h3 h4
  go_enter Try.func103, Try.ntmps103
  go_wp2
  go_ret
  have hb : Below w.heap.size w (w.alloc (.cells #[.slice A bs.length c, .int .i64 0, .int .u64 0] 200)) := (Below.refl _ _).alloc (Nat.le_refl _) _
  refine ⟨w.heap.size, rfl, hb, Nat.le_refl _, A, c, bs, 0, Blk.alloc_new _ _ _, by omega, by omega, h2, H3.out, fun hn => ?_⟩
  obtain ⟨g, o, hA, hc⟩ := H4.out hn
  have hg : g < w.heap.size := by
    cases bs with
    | nil => exact absurd rfl hn
    | cons x bs =>
      have := hc 0 x rfl
      exact World.block_lt_of_cell? w _ this
  refine ⟨g, o, hA, hg, fun i v hi => ?_⟩
  have := hc i v hi
  exact (hb.cell (p := ⟨g, o + i, none⟩) (World.block_lt_of_cell? w _ this)).trans this

theorem Src.of_upd {b b' n : Nat} {w w1 : World} {c : Array Value} (h : Src b n w) (hu : Upd w b' c w1) (hb : b < b') : Src b n w1 := by
  obtain ⟨k, rfl⟩ := hu
  obtain ⟨A, c', bs, seed, hB, h1, h2, h3, h4, h5⟩ := h
  refine ⟨A, c', bs, seed, (hB.other _ _ (by omega)), h1, h2, h3, h4, fun hn => ?_⟩
  obtain ⟨g, o, hA, hg, hc⟩ := h5 hn
  refine ⟨g, o, hA, hg, fun i v hi => ?_⟩
  have e : ((w.setRow b' c).drewN k).cell? ⟨g, o + i, none⟩ = w.cell? ⟨g, o + i, none⟩ := World.cell?_of_block (w := w) (a := ⟨g, o + i, none⟩) (setRow_other w b' g c (by omega))
  exact e.trans (hc i v hi)

/-- As Own, where block s (one that was there) may be written: a source. -/
def OwnS (s : Nat) (w0 : World) (bs : List (Array Value × TypeId)) (w : World) : Prop :=
  But s w0 w ∧ s < w0.heap.size ∧ ∀ i c t, bs[i]? = some (c, t) → Blk w (w0.heap.size + i) c t
theorem OwnS.but {s : Nat} {w0 w : World} {bs : List (Array Value × TypeId)} (h : OwnS s w0 bs w) : But s w0 w := h.1
theorem OwnS.of_own {s : Nat} {w0 w : World} {bs : List (Array Value × TypeId)} (h : Own w0 bs w) (hs : s < w0.heap.size) : OwnS s w0 bs w := ⟨But.of_below h.below, hs, h.2⟩
theorem OwnS.at {s : Nat} {w0 w : World} {bs : List (Array Value × TypeId)} (h : OwnS s w0 bs w) (i : Nat) {c : Array Value} {t : TypeId} (hi : bs[i]? = some (c, t)) : Blk w (w0.heap.size + i) c t := h.2.2 i c t hi
theorem OwnS.call {s : Nat} {w0 w w1 : World} {bs : List (Array Value × TypeId)} (h : OwnS s w0 bs w) (hb : But s w w1) : OwnS s w0 bs w1 :=
  ⟨h.1.trans hb, h.2.1, fun i c t hi => hb.blk (h.2.2 i c t hi) (by have := h.2.1; omega)⟩
theorem OwnS.callB {s : Nat} {w0 w w1 : World} {bs : List (Array Value × TypeId)} (h : OwnS s w0 bs w) (hb : Below w.heap.size w w1) : OwnS s w0 bs w1 := h.call (But.of_below hb)
theorem OwnS.drew {s : Nat} {w0 w : World} {bs : List (Array Value × TypeId)} (h : OwnS s w0 bs w) : OwnS s w0 bs w.drew := ⟨⟨h.1.os, h.1.tape, h.1.output, h.1.size, h.1.block⟩, h.2.1, h.2.2⟩
theorem OwnS.drewN {s : Nat} {w0 w : World} {bs : List (Array Value × TypeId)} (h : OwnS s w0 bs w) (n : Nat) : OwnS s w0 bs (w.drewN n) := ⟨h.1.drewN n, h.2.1, h.2.2⟩
theorem OwnS.alloc {s : Nat} {w0 w : World} {bs : List (Array Value × TypeId)} (h : OwnS s w0 bs w) (o : Obj) : OwnS s w0 bs (w.alloc o) :=
  h.callB ((Below.refl _ _).alloc (Nat.le_refl _) _)
theorem OwnS.set' {s : Nat} {w0 w : World} {bs : List (Array Value × TypeId)} (h : OwnS s w0 bs w) (i : Nat) {c : Array Value} {t : TypeId} (hi : bs[i]? = some (c, t)) {b : Nat} (hb : b = w0.heap.size + i) (c' : Array Value) {bs' : List (Array Value × TypeId)} (hbs : bs' = bs.set i (c', t)) : OwnS s w0 bs' (w.setRow b c') := by
  subst hb; subst hbs
  refine ⟨⟨h.1.os, h.1.tape, h.1.output, by rw [setRow_size]; exact h.1.size, fun k hk hne => (setRow_other w _ k c' (by omega)).trans (h.1.block k hk hne)⟩, h.2.1, fun j c'' t'' hj => ?_⟩
  · rw [List.getElem?_set] at hj
    by_cases e : i = j
    · subst e
      rw [if_pos rfl] at hj
      split at hj
      · cases hj
        exact (h.2.2 i c t hi).setRow _
      · cases hj
    · rw [if_neg e] at hj
      exact (h.2.2 j c'' t'' hj).other _ _ (by omega)
theorem OwnS.upd {s : Nat} {w0 w w1 : World} {bs : List (Array Value × TypeId)} (h : OwnS s w0 bs w) (i : Nat) {c : Array Value} {t : TypeId} (hi : bs[i]? = some (c, t)) {b : Nat} (hb : b = w0.heap.size + i) {c' : Array Value} (hu : Upd w b c' w1) {bs' : List (Array Value × TypeId)} (hbs : bs' = bs.set i (c', t)) : OwnS s w0 bs' w1 := by
  obtain ⟨n, rfl⟩ := hu
  exact (h.set' i hi hb c' hbs).drewN n
end Go.Proofs.Ythhimlicaiifdaa
