/- What the walk is told of frames and of blocks: laws on the model alone, no program in sight. -/
import Derived.WalkKit
import Derived.WalkLawsBesides
import Derived.WalkSpells
import Derived.Lib.Hide
import Derived.Deep.MidRow
import Derived.Test.YthhimlicaiifdaaFrE
set_option maxRecDepth 100000
namespace Fb
open Go Go.RowKit

/-- It returns v and the world is as it was. -/
def RetQ (v : Value) (w : World) (e : Ending) (w' : World) : Prop := e = .returned v ∧ w = w'
/-- It returns v; what was there is as it was. -/
def RetB (v : Value) (w : World) (e : Ending) (w' : World) : Prop := e = .returned v ∧ Below w.heap.size w w'
theorem RetQ.mk {v u : Value} {w : World} (h : u = v) : RetQ v w (.returned u) w := ⟨by rw [h], rfl⟩
theorem RetB.mk {v u : Value} {w w' : World} (h : u = v) (hb : Below w.heap.size w w') : RetB v w (.returned u) w' := ⟨by rw [h], hb⟩
theorem RetQ.below {v : Value} {w w' : World} {e : Ending} (h : RetQ v w e w') : RetB v w e w' := by
  obtain ⟨rfl, rfl⟩ := h
  exact ⟨rfl, Below.refl _ _⟩

/-! ### Frames as values -/
/-- A row as a number. -/
def rowI (v : Row) : Int := v.toNat
theorem rowI_lo (v : Row) : 0 ≤ rowI v := by unfold rowI; omega
theorem rowI_hi (v : Row) : rowI v < 65536 := by unfold rowI; have := v.isLt; omega
/-- The cells of a frame. -/
def frC (f : Fr) : Array Value := ((List.range 12).map fun y => Value.int .u16 (rowI (f.row y))).toArray
abbrev frV (f : Fr) : Value := .agg (frC f)
@[go_sem] theorem frC_size (f : Fr) : (frC f).size = 12 := by simp [frC]
@[go_sem] theorem frC_get (f : Fr) (y : Nat) (h : y < (frC f).size) : (frC f)[y] = .int .u16 (rowI (f.row y)) := by simp [frC]
theorem frC_at (f : Fr) {y : Nat} (h : y < 12) : (frC f)[y]? = some (.int .u16 (rowI (f.row y))) := by simp [frC, h]
@[go_sem] theorem frC_set (f : Fr) (y : Nat) (v : Row) : (frC f).setIfInBounds y (.int .u16 (rowI v)) = frC (f.set y v) := by
  apply Array.ext_getElem?
  intro i
  rw [Array.getElem?_setIfInBounds]
  by_cases hi : i < 12
  · rw [frC_at _ hi, frC_at _ hi, frC_size]
    by_cases e : y = i
    · subst e
      rw [if_pos rfl, if_pos hi, Fr.row_set _ _ _ _ hi, if_pos rfl]
    · rw [if_neg e]
      unfold Fr.set
      rw [Fr.row_gen_lt _ hi, if_neg (fun k => e k.symm)]
  · have h1 : (frC f)[i]? = none := by rw [Array.getElem?_eq_none_iff, frC_size]; omega
    have h2 : (frC (f.set y v))[i]? = none := by rw [Array.getElem?_eq_none_iff, frC_size]; omega
    rw [h1, h2, frC_size]
    split
    · rename_i e; subst e; rw [if_neg hi]
    · rfl
@[go_sem] theorem frC_extract (f : Fr) : (frC f).extract 0 12 = frC f := by
  apply Array.ext_getElem?
  intro i
  simp [Array.getElem?_extract, frC_size]
theorem frC_inj {f g : Fr} (h : frC f = frC g) : f = g := by
  apply Fr.ext_row
  intro y hy
  have := congrArg (fun c => c[y]?) h
  simp only [frC_at f hy, frC_at g hy, Option.some.injEq, Value.int.injEq, true_and] at this
  unfold rowI at this
  exact BitVec.eq_of_toNat_eq (by omega)
theorem frC_oneCell (f : Fr) : (frC f).all (·.oneCell') = true := by
  rw [Array.all_eq_true_iff_forall_mem]
  intro v hv
  simp only [frC, List.mem_toArray, List.mem_map] at hv
  obtain ⟨y, _, rfl⟩ := hv
  rfl
theorem frC_zero : frC Fr.zero = #[.int .u16 0, .int .u16 0, .int .u16 0, .int .u16 0, .int .u16 0, .int .u16 0, .int .u16 0, .int .u16 0, .int .u16 0, .int .u16 0, .int .u16 0, .int .u16 0] := by
  have : ∀ y, Fr.zero.row y = 0 := Fr.row_zero
  simp [frC, this, List.range_succ, rowI]
@[go_sem] theorem frC_zero' : #[Value.int .u16 0, .int .u16 0, .int .u16 0, .int .u16 0, .int .u16 0, .int .u16 0, .int .u16 0, .int .u16 0, .int .u16 0, .int .u16 0, .int .u16 0, .int .u16 0] = frC Fr.zero := frC_zero.symm

/-! ### Rows as numbers -/
theorem ofInt_row (a : Row) : BitVec.ofInt 16 (rowI a) = a := by
  apply BitVec.eq_of_toNat_eq
  unfold rowI
  rw [ofInt_u16 _ (by have := a.isLt; omega)]
theorem wrap_row (a : Row) : IntKind.u16.wrap (a.toNat : Int) = rowI a := by
  unfold rowI
  rw [IntKind.wrap_u16]
  have := a.isLt
  omega
@[go_sem] theorem wrap_rowI (a : Row) : IntKind.u16.wrap (rowI a) = rowI a := by
  rw [IntKind.wrap_u16]
  have h1 := rowI_lo a
  have h2 := rowI_hi a
  omega
@[go_sem] theorem bits_and_row (a b : Row) : bits .and .u16 (rowI a) (rowI b) = rowI (a &&& b) := by
  have h : bits .and .u16 (rowI a) (rowI b) = IntKind.u16.wrap (((BitVec.ofInt 16 (rowI a)) &&& (BitVec.ofInt 16 (rowI b))).toNat : Int) := rfl
  rw [h, ofInt_row, ofInt_row, wrap_row]
@[go_sem] theorem bits_or_row (a b : Row) : bits .or .u16 (rowI a) (rowI b) = rowI (a ||| b) := by
  have h : bits .or .u16 (rowI a) (rowI b) = IntKind.u16.wrap (((BitVec.ofInt 16 (rowI a)) ||| (BitVec.ofInt 16 (rowI b))).toNat : Int) := rfl
  rw [h, ofInt_row, ofInt_row, wrap_row]
@[go_sem] theorem bits_xor_row (a b : Row) : bits .xor .u16 (rowI a) (rowI b) = rowI (a ^^^ b) := by
  have h : bits .xor .u16 (rowI a) (rowI b) = IntKind.u16.wrap (((BitVec.ofInt 16 (rowI a)) ^^^ (BitVec.ofInt 16 (rowI b))).toNat : Int) := rfl
  rw [h, ofInt_row, ofInt_row, wrap_row]
@[go_sem] theorem bits_andNot_row (a b : Row) : bits .andNot .u16 (rowI a) (rowI b) = rowI (a &&& ~~~b) := by
  have h : bits .andNot .u16 (rowI a) (rowI b) = IntKind.u16.wrap (((BitVec.ofInt 16 (rowI a)) &&& ~~~(BitVec.ofInt 16 (rowI b))).toNat : Int) := rfl
  rw [h, ofInt_row, ofInt_row, wrap_row]
@[go_sem] theorem bits_and_row_1 (a : Row) : bits .and .u16 (rowI a) 1 = rowI (a &&& 1) := bits_and_row a 1
@[go_sem] theorem bits_and_row_4095 (a : Row) : bits .and .u16 (rowI a) 4095 = rowI (a &&& 4095) := bits_and_row a 4095
@[go_sem] theorem bits_andNot_4095_row (a : Row) : bits .andNot .u16 4095 (rowI a) = rowI ((4095 : Row) &&& ~~~a) := bits_andNot_row 4095 a
@[go_sem ↓] theorem shl_row (a : Row) (yk : IntKind) (y : Nat) : Op.shift .shl .u16 (rowI a) yk (y : Int) = pure (.int .u16 (rowI (a <<< y))) := by
  rw [shift_shl_any .u16 yk _ _ (by omega)]
  congr 2
  unfold rowI
  rw [IntKind.wrap_u16, BitVec.toNat_shiftLeft, Nat.shiftLeft_eq, Int.toNat_natCast]
  by_cases h : y ≤ 16
  · rw [show min y IntKind.u16.bits = y from Nat.min_eq_left h, show ((2 : Int) ^ y) = ((2 ^ y : Nat) : Int) by rw [Int.natCast_pow]; rfl, ← Int.natCast_mul]; omega
  · rw [Nat.min_eq_right (by show 16 ≤ y; omega)]
    have h1 : a.toNat * 2 ^ y = a.toNat * 2 ^ (y - 16) * 65536 := by rw [Nat.mul_assoc, ← Nat.pow_add (a := 2) (m := y - 16) (n := 16)]; congr 2; omega
    have h2 : (2 : Int) ^ IntKind.u16.bits = 65536 := rfl
    rw [h1, h2]
    omega
@[go_sem ↓] theorem shl_one (yk : IntKind) (y : Nat) : Op.shift .shl .u16 1 yk (y : Int) = pure (.int .u16 (rowI ((1 : Row) <<< y))) := shl_row 1 yk y
@[go_sem ↓] theorem shr_row (a : Row) (yk : IntKind) (y : Nat) : Op.shift .shr .u16 (rowI a) yk (y : Int) = pure (.int .u16 (rowI (a >>> y))) := by
  rw [shift_shr_any .u16 yk _ _ (by omega)]
  congr 2
  unfold rowI
  rw [BitVec.toNat_ushiftRight, Nat.shiftRight_eq_div_pow, Int.toNat_natCast]
  by_cases h : y ≤ 16
  · rw [show min y IntKind.u16.bits = y from Nat.min_eq_left h, show ((2 : Int) ^ y) = ((2 ^ y : Nat) : Int) by rw [Int.natCast_pow]; rfl]; rfl
  · rw [Nat.min_eq_right (by show 16 ≤ y; omega)]
    have h1 : a.toNat < 65536 := a.isLt
    have h2 : a.toNat / 2 ^ y = 0 := Nat.div_eq_of_lt (by have : 2 ^ 16 ≤ 2 ^ y := Nat.pow_le_pow_right (by omega) (by omega); omega)
    have h3 : (2 : Int) ^ IntKind.u16.bits = 65536 := rfl
    rw [h2, h3]
    omega
@[go_sem] theorem row_beq (a b : Row) : (rowI a == rowI b) = decide (a = b) := by
  rw [Bool.eq_iff_iff, beq_iff_eq, decide_eq_true_eq]
  unfold rowI
  constructor
  · intro h; exact BitVec.eq_of_toNat_eq (by omega)
  · rintro rfl; rfl
@[go_sem] theorem row_bit_beq (a : Row) (y : Nat) : (rowI ((a >>> y) &&& 1#16) == 1) = a.getLsbD y := by
  have h1 : ∀ v : Row, (rowI (v &&& 1) == 1) = v.getLsbD 0 := by
    intro v
    unfold rowI
    have : (v &&& 1).toNat = v.toNat % 2 := by rw [BitVec.toNat_and]; exact Nat.and_one_is_mod _
    rw [this, Bool.eq_iff_iff, beq_iff_eq]
    unfold BitVec.getLsbD
    rw [Nat.testBit_zero, decide_eq_true_eq]
    omega
  have h2 := h1 (a >>> y)
  rw [BitVec.getLsbD_ushiftRight] at h2
  exact h2

/-! ### Blocks -/
def rowIn (c : Array Value) (o n : Nat) : Option (Array Value) := if o + n ≤ c.size then some (c.extract o (o + n)) else none
/-- n cells of block b from o on. -/
def row? (w : World) (b o n : Nat) : Option (Array Value) :=
  match w.heap[b]? with
  | some (.cells c _ _) => rowIn c o n
  | _ => none
/-- n cells of block b from o on are there, and may be written. -/
def fits (w : World) (b o n : Nat) : Bool :=
  match w.heap[b]? with
  | some (.cells c _ fr) => decide (fr = (0, 0) ∧ o + n ≤ c.size)
  | _ => false
def splice (c : Array Value) (o : Nat) (cs : Array Value) : Array Value := c.extract 0 o ++ cs ++ c.extract (o + cs.size) c.size
def putRow (w : World) (b o : Nat) (cs : Array Value) : World :=
  match w.heap[b]? with
  | some (.cells c _ _) => w.setRow b (splice c o cs)
  | _ => w

/-- Block b of w holds c. -/
def Blk (w : World) (b : Nat) (c : Array Value) (t : TypeId) : Prop := w.heap[b]? = some (.cells c t (0, 0))

theorem Blk.row {w : World} {b : Nat} {c : Array Value} {t : TypeId} (h : Blk w b c t) (o n : Nat) : row? w b o n = rowIn c o n := by unfold row?; rw [h]
theorem Blk.fits {w : World} {b : Nat} {c : Array Value} {t : TypeId} (h : Blk w b c t) (o n : Nat) : fits w b o n = decide (o + n ≤ c.size) := by unfold Fb.fits; rw [h]; simp
theorem Blk.put {w : World} {b : Nat} {c : Array Value} {t : TypeId} (h : Blk w b c t) (o : Nat) (cs : Array Value) : putRow w b o cs = w.setRow b (splice c o cs) := by unfold putRow; rw [h]
theorem Blk.cell {w : World} {b : Nat} {c : Array Value} {t : TypeId} (h : Blk w b c t) (o : Nat) : w.cell? ⟨b, o, none⟩ = c[o]? := cell_of_row w b o c t _ h
theorem Blk.frozen {w : World} {b : Nat} {c : Array Value} {t : TypeId} (h : Blk w b c t) (o : Nat) : w.frozen? ⟨b, o, none⟩ = false := by
  have h' : w.heap[b]? = some (.cells c t (0, 0)) := h
  simp [World.frozen?, h']
theorem Blk.lt {w : World} {b : Nat} {c : Array Value} {t : TypeId} (h : Blk w b c t) : b < w.heap.size := (Array.getElem?_eq_some_iff.1 h).1
theorem Blk.setCell {w : World} {b : Nat} {c : Array Value} {t : TypeId} (h : Blk w b c t) (o : Nat) (v : Value) : w.setCell ⟨b, o, none⟩ v = w.setRow b (c.setIfInBounds o v) := setCell_eq_setRow w b o c t (0, 0) v h
theorem Blk.setRow {w : World} {b : Nat} {c : Array Value} {t : TypeId} (h : Blk w b c t) (c' : Array Value) : Blk (w.setRow b c') b c' t := setRow_heap w b c c' t _ h

theorem Blk.alloc_new (w : World) (c : Array Value) (t : TypeId) : Blk (w.alloc (.cells c t)) w.heap.size c t := Go.heap_alloc_new w _
theorem Blk.alloc {w : World} {b : Nat} {c : Array Value} {t : TypeId} (h : Blk w b c t) (o : Obj) : Blk (w.alloc o) b c t := (Go.heap_alloc_old w o (Blk.lt h)).trans h
theorem Blk.drew {w : World} {b : Nat} {c : Array Value} {t : TypeId} (h : Blk w b c t) : Blk w.drew b c t := h
theorem Blk.other {w : World} {b : Nat} {c : Array Value} {t : TypeId} (h : Blk w b c t) (b' : Nat) (c' : Array Value) (hne : b ≠ b') : Blk (w.setRow b' c') b c t := (setRow_other w b' b c' hne).trans h
theorem Blk.below {w w' : World} {b : Nat} {c : Array Value} {t : TypeId} (h : Blk w b c t) (hb : Below w.heap.size w w') : Blk w' b c t := (hb.block b h.lt).trans h

/-! ### Whole rows: loads and stores -/
def loadBig (t : TypeId) (p : Value) : Sem Value := Instr.loadAt t p
def storeBig (t : TypeId) (p v : Value) : Sem Unit := Instr.storeAt t p v
/-- What a load of a whole row comes to. -/
def loadK (r : Option (Array Value)) (other : Result Value) (w : World) : Result Value :=
  match r with
  | some cs => .ok (.agg cs) w
  | none => other
@[go_sem] theorem loadK_some (cs : Array Value) (other : Result Value) (w : World) : loadK (some cs) other w = .ok (.agg cs) w := rfl

theorem rowIn_get {c cs : Array Value} {o n : Nat} (h : rowIn c o n = some cs) : cs.size = n ∧ ∀ j v, cs.toList[j]? = some v → c[o + j]? = some v := by
  unfold rowIn at h
  split at h
  · rename_i hle
    cases h
    refine ⟨by simp; omega, fun j v hv => ?_⟩
    rw [Array.getElem?_toList, Array.getElem?_extract] at hv
    split at hv
    · exact hv
    · cases hv
  · cases h

theorem run_loadVar_big {P : Program} {t : TypeId} {n : Nat} {d : TypeDesc} (hu : P.underlying t = some d) (hd : d.isRow = true) (hi : (P.info? t).map (·.size) = some n) (b o : Nat) (w : World) :
    (loadVar t ⟨b, o, none⟩).run P w = loadK (row? w b o n) ((Instr.loadAt t (.pointer (some ⟨b, o, none⟩))).run P w) w := by
  cases hr : row? w b o n with
  | none => simp [loadK, Instr.loadAt, Instr.sureAddr]
  | some cs =>
    rw [loadK_some]
    unfold row? at hr
    split at hr
    · rename_i c ty fr hb
      obtain ⟨hs, hg⟩ := rowIn_get hr
      have := run_loadVar_mid (P := P) w b o t cs.toList d (fun j v hv => by rw [cell_of_row w b (o + j) c ty fr hb]; exact hg j v hv) hu hd (by rw [hi, Array.length_toList, hs])
      simpa using this
    · cases hr

theorem run_loadBig {P : Program} {t : TypeId} {n : Nat} {d : TypeDesc} (hu : P.underlying t = some d) (hd : d.isRow = true) (hi : (P.info? t).map (·.size) = some n) (b o : Nat) (w : World) :
    (loadBig t (.pointer (some ⟨b, o, none⟩))).run P w = loadK (row? w b o n) ((Instr.loadAt t (.pointer (some ⟨b, o, none⟩))).run P w) w := by
  rw [← run_loadVar_big hu hd hi]
  simp [loadBig, Instr.loadAt, Instr.sureAddr]

theorem splice_get (c : Array Value) (o : Nat) (cs : Array Value) (h : o + cs.size ≤ c.size) (i : Nat) : (splice c o cs)[i]? = if i < o then c[i]? else if i < o + cs.size then cs[i - o]? else c[i]? := by
  unfold splice
  have e1 : (c.extract 0 o).size = o := by simp; omega
  have e2 : (c.extract 0 o ++ cs).size = o + cs.size := by rw [Array.size_append, e1]
  rw [Array.getElem?_append, e2]
  by_cases h1 : i < o
  · rw [if_pos (by omega), Array.getElem?_append, e1, if_pos h1, if_pos h1, Array.getElem?_extract, if_pos (by omega), Nat.zero_add]
  · rw [if_neg h1]
    by_cases h2 : i < o + cs.size
    · rw [if_pos h2, if_pos h2, Array.getElem?_append, e1, if_neg h1]
    · rw [if_neg h2, if_neg h2, Array.getElem?_extract]
      by_cases h3 : i < c.size
      · rw [if_pos (by omega)]; congr 1; omega
      · rw [if_neg (by omega)]; exact (Array.getElem?_eq_none (by omega)).symm
theorem splice_size (c : Array Value) (o : Nat) (cs : Array Value) (h : o + cs.size ≤ c.size) : (splice c o cs).size = c.size := by
  unfold splice; simp; omega

theorem setCells_eq_put (b : Nat) : ∀ (vs : List Value) (o : Nat) (w : World) (c : Array Value) (t : TypeId) (_ : Blk w b c t) (_ : o + vs.length ≤ c.size), w.setCells b o vs = putRow w b o vs.toArray := by
  intro vs
  induction vs with
  | nil =>
    intro o w c t h hl
    rw [h.put]
    have : splice c o #[] = c := by
      apply Array.ext_getElem?
      intro i
      rw [splice_get _ _ _ (by simpa using hl)]
      have : ¬ (i < o + (#[] : Array Value).size ∧ ¬ i < o) := by simp
      split
      · rfl
      · rw [if_neg (by simp; omega)]
    rw [this]
    exact (setRow_self w b c t _ h).symm
  | cons v vs ih =>
    intro o w c t h hl
    simp only [List.length_cons] at hl
    have h1 : w.setCells b o (v :: vs) = (w.setCell ⟨b, o, none⟩ v).setCells b (o + 1) vs := rfl
    have hB := h.setRow (c.setIfInBounds o v)
    rw [h1, h.setCell, ih (o + 1) _ _ t hB (by simp; omega), hB.put, h.put, setRow_setRow]
    congr 1
    apply Array.ext_getElem?
    intro i
    rw [splice_get _ _ _ (by simp; omega), splice_get _ _ _ (by simp; omega), Array.getElem?_setIfInBounds]
    simp only [List.size_toArray, List.length_cons, List.getElem?_toArray]
    by_cases h2 : i < o
    · rw [if_pos (by omega), if_neg (by omega), if_pos h2]
    · by_cases h3 : i = o
      · subst h3
        rw [if_pos (by omega), if_pos rfl, if_pos (by omega), if_neg (by omega), if_pos (by omega), Nat.sub_self]
        rfl
      · rw [if_neg (by omega), if_neg h2]
        by_cases h4 : i < o + 1 + vs.length
        · rw [if_pos h4, if_pos (by omega), show i - o = (i - (o + 1)) + 1 by omega, List.getElem?_cons_succ]
        · rw [if_neg h4, if_neg (by omega), if_neg (by omega)]

/-- Each is one cell. -/
def oneAll (cs : Array Value) : Bool := cs.all (·.oneCell')

/-- What a store of a whole row comes to. -/
def storeK (ok : Bool) (w' : World) (other : Result Unit) : Result Unit := if ok then .ok () w' else other
@[go_sem] theorem storeK_true (w' : World) (other : Result Unit) : storeK true w' other = .ok () w' := rfl

theorem run_storeBig {P : Program} {t : TypeId} {n : Nat} (hi : (P.info? t).map (·.size) = some n) (b o : Nat) (cs : Array Value) (w : World) :
    (storeBig t (.pointer (some ⟨b, o, none⟩)) (.agg cs)).run P w = storeK (fits w b o n && decide (cs.size = n) && oneAll cs) (putRow w b o cs) ((Instr.storeAt t (.pointer (some ⟨b, o, none⟩)) (.agg cs)).run P w) := by
  unfold storeBig
  cases hk : (fits w b o n && decide (cs.size = n) && oneAll cs) with
  | false => rfl
  | true =>
    rw [storeK_true]
    simp only [Bool.and_eq_true, decide_eq_true_eq] at hk
    obtain ⟨⟨hf, hs⟩, h1⟩ := hk
    unfold fits at hf
    split at hf
    · rename_i c ty fr hb
      simp only [decide_eq_true_eq] at hf
      obtain ⟨rfl, hle⟩ := hf
      have hB : Blk w b c ty := hb
      rw [run_storeAt_mid w b o t cs ?_ (by rw [hi, hs]) h1]
      · rw [setCells_eq_put b cs.toList o w c ty hB (by rw [Array.length_toList]; omega)]
      · intro j hj
        rw [hB.cell, hB.frozen]
        refine ⟨?_, rfl⟩
        rw [Array.getElem?_eq_getElem (by omega)]; rfl
    · cases hf

/-! ### The rules of the walk -/
@[go_sem] theorem rowIn_fr (f : Fr) : rowIn (frC f) 0 12 = some (frC f) := by unfold rowIn; rw [frC_size, if_pos (by omega), Nat.zero_add, frC_extract]
@[go_sem] theorem splice_fr (f g : Fr) : splice (frC f) 0 (frC g) = frC g := by
  unfold splice
  rw [frC_size, frC_size]
  apply Array.ext_getElem?
  intro i
  simp [Array.getElem?_append, frC_size]
@[go_sem] theorem oneAll_fr (f : Fr) : oneAll (frC f) = true := frC_oneCell f
@[go_sem] theorem row?_alloc_at (w : World) (c : Array Value) (t : TypeId) (b o n : Nat) (h : b = w.heap.size) : row? (w.alloc (.cells c t)) b o n = rowIn c o n := by
  subst h; exact (Blk.alloc_new w c t).row o n
@[go_sem] theorem row?_alloc_past (w : World) (x : Obj) (b o n : Nat) (h : b < w.heap.size) : row? (w.alloc x) b o n = row? w b o n := by
  unfold row?; rw [Go.heap_alloc_old w x h]
@[go_sem] theorem row?_drew (w : World) (b o n : Nat) : row? w.drew b o n = row? w b o n := rfl
@[go_sem] theorem fits_alloc_at (w : World) (c : Array Value) (t : TypeId) (b o n : Nat) (h : b = w.heap.size) : fits (w.alloc (.cells c t)) b o n = decide (o + n ≤ c.size) := by
  subst h; exact (Blk.alloc_new w c t).fits o n
@[go_sem] theorem fits_alloc_past (w : World) (x : Obj) (b o n : Nat) (h : b < w.heap.size) : fits (w.alloc x) b o n = fits w b o n := by
  unfold fits; rw [Go.heap_alloc_old w x h]
@[go_sem] theorem fits_drew (w : World) (b o n : Nat) : fits w.drew b o n = fits w b o n := rfl
@[go_sem] theorem putRow_alloc_at (w : World) (c : Array Value) (t : TypeId) (b o : Nat) (cs : Array Value) (h : b = w.heap.size) : putRow (w.alloc (.cells c t)) b o cs = w.alloc (.cells (splice c o cs) t) := by
  subst h
  rw [(Blk.alloc_new w c t).put]
  simp only [World.setRow, World.alloc]
  congr 1
  apply Array.ext_getElem?
  intro i
  rw [Array.getElem?_modify]
  by_cases h : w.heap.size = i
  · subst h; simp
  · have h' : ¬ i = w.heap.size := fun e => h e.symm
    simp [h, h', Array.getElem?_push]
theorem setRow_alloc_past (w : World) (x : Obj) (b : Nat) (c : Array Value) (h : b < w.heap.size) : (w.alloc x).setRow b c = (w.setRow b c).alloc x := by
  simp only [World.setRow, World.alloc]
  congr 1
  apply Array.ext_getElem?
  intro i
  simp only [Array.getElem?_modify, Array.getElem?_push, Array.size_modify]
  by_cases hi : i = w.heap.size
  · subst hi; simp [Nat.ne_of_lt h]
  · simp [hi]
@[go_sem] theorem putRow_alloc_past (w : World) (x : Obj) (b o : Nat) (cs : Array Value) (h : b < w.heap.size) : putRow (w.alloc x) b o cs = (putRow w b o cs).alloc x := by
  unfold putRow
  rw [Go.heap_alloc_old w x h]
  split
  · exact setRow_alloc_past w x b _ h
  · rfl
@[go_sem] theorem putRow_drew (w : World) (b o : Nat) (cs : Array Value) : putRow w.drew b o cs = (putRow w b o cs).drew := by
  unfold putRow
  show (match w.heap[b]? with | some (.cells c _ _) => w.drew.setRow b (splice c o cs) | _ => w.drew) = _
  split <;> rfl

end Fb
