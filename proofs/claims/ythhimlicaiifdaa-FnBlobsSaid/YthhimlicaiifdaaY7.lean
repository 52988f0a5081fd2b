/- What draws: bytes are read one by one; frames are drawn. -/
import Derived.Test.YthhimlicaiifdaaY6
set_option maxRecDepth 100000
set_option linter.unusedSimpArgs false
set_option linter.unusedVariables false
namespace Go.Proofs.Ythhimlicaiifdaa
open Go.RowKit Fb

/-- All blocks that were there, but for b, are as they were. -/
structure But (b : Nat) (w w' : World) : Prop where
  os : w'.os = w.os
  tape : w'.tape = w.tape
  output : w'.output = w.output
  size : w.heap.size ≤ w'.heap.size
  block : ∀ k, k < w.heap.size → k ≠ b → w'.heap[k]? = w.heap[k]?
theorem But.refl (b : Nat) (w : World) : But b w w := ⟨rfl, rfl, rfl, Nat.le_refl _, fun _ _ _ => rfl⟩
theorem But.trans {b : Nat} {w w1 w2 : World} (h : But b w w1) (k : But b w1 w2) : But b w w2 :=
  ⟨k.os.trans h.os, k.tape.trans h.tape, k.output.trans h.output, Nat.le_trans h.size k.size, fun i hi hb => (k.block i (Nat.lt_of_lt_of_le hi h.size) hb).trans (h.block i hi hb)⟩
theorem But.of_below {b : Nat} {w w1 : World} (h : Below w.heap.size w w1) : But b w w1 := ⟨h.os, h.tape, h.output, h.size, fun k hk _ => h.block k hk⟩
theorem But.of_upd {b : Nat} {w w1 : World} {c : Array Value} (h : Upd w b c w1) : But b w w1 := by
  obtain ⟨n, rfl⟩ := h
  exact ⟨rfl, rfl, rfl, by show w.heap.size ≤ (w.setRow b c).heap.size; rw [setRow_size]; exact Nat.le_refl _, fun k _ hk => setRow_other w b k c hk⟩
/-- The block is one of the call's own. -/
theorem But.below {b : Nat} {w0 w w1 : World} (h : But b w w1) (hb : Below w0.heap.size w0 w) (hn : w0.heap.size ≤ b) : Below w0.heap.size w0 w1 :=
  hb.trans ⟨h.os, h.tape, h.output, h.size, fun k hk => h.block k (Nat.lt_of_lt_of_le hk hb.size) (by omega)⟩
theorem But.blk {b : Nat} {w w1 : World} (h : But b w w1) {b' : Nat} {c : Array Value} {t : TypeId} (hB : Blk w b' c t) (hne : b' ≠ b) : Blk w1 b' c t := (h.block b' hB.lt hne).trans hB
theorem But.cell {b : Nat} {w w1 : World} (h : But b w w1) {g o : Nat} {v : Value} (hc : w.cell? ⟨g, o, none⟩ = some v) (hne : g ≠ b) : w1.cell? ⟨g, o, none⟩ = some v := by
  have hl := World.block_lt_of_cell? w _ hc
  exact (World.cell?_of_block (w := w) (a := ⟨g, o, none⟩) (h.block g hl hne)).trans hc

/-- A source of bytes in block b; so many have been taken. -/
def Src (b : Nat) (n : Nat) (w : World) : Prop :=
  ∃ (A : Option Addr) (c : Nat) (bs : List Int) (seed : Int), Blk w b #[.slice A bs.length c, .int .i64 n, .int .u64 seed] 200 ∧ 0 ≤ seed ∧ seed < 18446744073709551616 ∧ bs.length ≤ 9223372036854775807 ∧ (∀ v, v ∈ bs → 0 ≤ v ∧ v ≤ 255) ∧
    (bs ≠ [] → ∃ g o, A = some ⟨g, o, none⟩ ∧ g < b ∧ ∀ (i : Nat) (v : Int), bs[i]? = some v → w.cell? ⟨g, o + i, none⟩ = some (.int .u8 v))
theorem Src.but {b n : Nat} {w w1 : World} (h : Src b n w) (hb : Below w.heap.size w w1) : Src b n w1 := by
  obtain ⟨A, c, bs, seed, hB, h1, h2, h3, h4, h5⟩ := h
  refine ⟨A, c, bs, seed, hB.below hb, h1, h2, h3, h4, fun hn => ?_⟩
  obtain ⟨g, o, hA, hg, hc⟩ := h5 hn
  refine ⟨g, o, hA, hg, fun i v hi => ?_⟩
  have := hc i v hi
  exact (hb.cell (p := ⟨g, o + i, none⟩) (World.block_lt_of_cell? w _ this)).trans this

theorem wrap_u64_bd (x : Int) : 0 ≤ IntKind.u64.wrap x ∧ IntKind.u64.wrap x < 18446744073709551616 := by
  have : IntKind.u64.wrap x = x % 18446744073709551616 := by simp [IntKind.wrap, IntKind.bits, IntKind.signed]
  rw [this]; omega
theorem and255_bd (x : Int) : 0 ≤ bits .and .u64 x 255 ∧ bits .and .u64 x 255 ≤ 255 := by
  have h : bits .and .u64 x 255 = IntKind.u64.wrap (((BitVec.ofInt 64 x) &&& (BitVec.ofInt 64 255)).toNat : Int) := rfl
  have h2 : ((BitVec.ofInt 64 x) &&& (BitVec.ofInt 64 255)).toNat ≤ 255 := by
    rw [BitVec.toNat_and, show (BitVec.ofInt 64 255).toNat = 255 from rfl]
    exact Nat.and_le_right
  rw [h]
  have : IntKind.u64.wrap (((BitVec.ofInt 64 x) &&& (BitVec.ofInt 64 255)).toNat : Int) = (((BitVec.ofInt 64 x) &&& (BitVec.ofInt 64 255)).toNat : Int) % 18446744073709551616 := by simp [IntKind.wrap, IntKind.bits, IntKind.signed]
  rw [this]; omega

/-- A number is drawn: from lo to hi; so many bytes are taken at most. -/
def DrawQ (b n k : Nat) (hi : Int) (w : World) (e : Ending) (w' : World) : Prop :=
  ∃ r : Int, e = .returned (.int .i64 r) ∧ 0 ≤ r ∧ r < hi ∧ But b w w' ∧ ∃ m, m ≤ n + k ∧ Src b m w'

@[go_sem] theorem setCell_drewN (w : World) (n : Nat) (a : Addr) (v : Value) : (w.drewN n).setCell a v = (w.setCell a v).drewN n := rfl
@[go_sem] theorem setRow_drewN (w : World) (n b : Nat) (c : Array Value) : (w.drewN n).setRow b c = (w.setRow b c).drewN n := rfl
@[go_sem] theorem row?_drewN (w : World) (k b o n : Nat) : row? (w.drewN k) b o n = row? w b o n := rfl
@[go_sem] theorem fits_drewN (w : World) (k b o n : Nat) : fits (w.drewN k) b o n = fits w b o n := rfl
@[go_sem] theorem putRow_drewN (w : World) (k b o : Nat) (cs : Array Value) : putRow (w.drewN k) b o cs = (putRow w b o cs).drewN k := by
  unfold putRow
  show (match w.heap[b]? with | some (.cells c _ _) => (w.drewN k).setRow b (splice c o cs) | _ => w.drewN k) = _
  cases w.heap[b]? with
  | none => rfl
  | some x => cases x <;> rfl
theorem But.drewN {b : Nat} {w w1 : World} (h : But b w w1) (n : Nat) : But b w (w1.drewN n) := ⟨h.os, h.tape, h.output, h.size, h.block⟩
theorem But.setRow {b : Nat} {w w1 : World} (h : But b w w1) (c : Array Value) : But b w (w1.setRow b c) :=
  ⟨h.os, h.tape, h.output, by rw [setRow_size]; exact h.size, fun k hk hne => (setRow_other w1 b k c hne).trans (h.block k hk hne)⟩

theorem Src.drewN {b n : Nat} {w : World} (h : Src b n w) (k : Nat) : Src b n (w.drewN k) := h
/-- What behind the walk is left of a source. -/
theorem Src.end {b n : Nat} {w : World} {A : Option Addr} {c : Nat} {bs : List Int} {seed0 : Int} (hB : Blk w b #[.slice A bs.length c, .int .i64 n, .int .u64 seed0] 200) (h3 : bs.length ≤ 9223372036854775807) (h4 : ∀ v, v ∈ bs → 0 ≤ v ∧ v ≤ 255)
    (h5 : bs ≠ [] → ∃ g o, A = some ⟨g, o, none⟩ ∧ g < b ∧ ∀ (i : Nat) (v : Int), bs[i]? = some v → w.cell? ⟨g, o + i, none⟩ = some (.int .u8 v)) (m : Nat) (x : Int) (k : Nat) (n' : Int) (hn : n' = (m : Int)) :
    But b w ((w.setRow b #[.slice A bs.length c, .int .i64 n', .int .u64 (IntKind.u64.wrap x)]).drewN k) ∧ Src b m ((w.setRow b #[.slice A bs.length c, .int .i64 n', .int .u64 (IntKind.u64.wrap x)]).drewN k) := by
  subst hn
  have hb : But b w ((w.setRow b #[.slice A bs.length c, .int .i64 m, .int .u64 (IntKind.u64.wrap x)]).drewN k) := ((But.refl b w).setRow _).drewN k
  refine ⟨hb, A, c, bs, _, hB.setRow _, (wrap_u64_bd x).1, (wrap_u64_bd x).2, h3, h4, fun hne => ?_⟩
  obtain ⟨g, o, hA, hg, hc⟩ := h5 hne
  exact ⟨g, o, hA, hg, fun i v hi => hb.cell (hc i v hi) (by omega)⟩
set_option maxHeartbeats 1000000 in
theorem next_any (b n : Nat) (w : World) (h : Src b n w) (hn : n ≤ 4611686018427387904) : Calls Try.prog 230 #[.pointer (some ⟨b, 0, none⟩)] w (DrawQ b n 1 256 w) := by
  obtain ⟨A, c, bs, seed, hB, h1, h2, h3, h4, h5⟩ := h
  obtain ⟨f1, f2, f3, f4, f5, f6, f7⟩ := hB.facts rfl
  obtain ⟨g1, g2, g3, g4, g5, g6⟩ := hB.facts2 rfl
  have c0 := f1 0
  have c1 := f1 1
  have c2 := f1 2
  by_cases hlt : n < bs.length
  · obtain ⟨g, o, rfl, hg, hc⟩ := h5 (by intro e; rw [e] at hlt; simp at hlt)
    obtain ⟨x, hx⟩ : ∃ x, bs[n]? = some x := ⟨_, List.getElem?_eq_getElem hlt⟩
    have hcx := hc n x hx
    have hgb : g ≠ b := by omega
    have hx1 := (h4 x (List.mem_of_getElem? hx)).1
    have hx2 := (h4 x (List.mem_of_getElem? hx)).2
    have H4 := Lib.hid h4
    have HC := Lib.hid hc
    clear hc hx h4 h5
    have d0 : (0 : Int) ≤ (n : Int) := by omega
    have d1 : (n : Int) < (bs.length : Int) := by omega
    go_enter Try.func230, Try.ntmps230
    go_wp2
    go_quiet (fail)
    go_wp2
    go_quiet (fail)
    go_wp2
    go_quiet (fail)
    go_wp2
    have he := Src.end hB h3 H4.out (fun _ => ⟨g, o, rfl, hg, HC.out⟩) (n + 1)
    go_ret
    exact ⟨x, rfl, hx1, Int.lt_of_le_of_lt hx2 (by decide), ((he _ _ _ (by omega)).1).drewN _, n + 1, Nat.le_refl _, ((he _ _ _ (by omega)).2).drewN _⟩
  · have H4 := Lib.hid h4
    have H5 := Lib.hid h5
    clear h4 h5
    have d0 : (0 : Int) ≤ (n : Int) := by omega
    have d1 : (bs.length : Int) ≤ (n : Int) := by omega
    have d2 : (n : Int) ≤ 4611686018427387904 := by omega
    go_enter Try.func230, Try.ntmps230
    go_wp2
    go_quiet (fail)
    go_wp2
    go_quiet (fail)
    go_wp2
    have he := Src.end hB h3 H4.out H5.out (n + 1)
    go_ret
    obtain ⟨r1, r2⟩ := and255_bd (IntKind.u64.wrap (IntKind.u64.wrap (IntKind.u64.wrap (seed * 6364136223846793005)) + 1442695040888963407) / 1099511627776)
    refine ⟨_, rfl, ?_, ?_, (he _ _ _ (by omega)).1, n + 1, Nat.le_refl _, (he _ _ _ (by omega)).2⟩
    · rw [Go.IntWalk.wrap64_in _ (by omega)]; exact r1
    · rw [Go.IntWalk.wrap64_in _ (by omega)]; omega
end Go.Proofs.Ythhimlicaiifdaa
