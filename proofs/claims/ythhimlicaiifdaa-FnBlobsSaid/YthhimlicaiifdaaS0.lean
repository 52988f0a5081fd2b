/- Walking by what is known of slots and of own blocks alone: a rule for each kind of operation. No program in sight. -/
import Derived.Test.YthhimlicaiifdaaK3b
import Derived.Deep.QuietTactic
import Derived.BigCall
set_option maxRecDepth 100000
namespace Fb
open Go Go.RowKit

/-- What a list says of a number: the first entry counts. -/
def lk {α : Type} : List (Nat × α) → Nat → Option α
  | [], _ => none
  | (t, v) :: L, s => bif Nat.beq t s then some v else lk L s
theorem lk_hit {α : Type} (p : Nat × α) (L : List (Nat × α)) {s : Nat} (h : p.1 = s) : lk (p :: L) s = some p.2 := by
  obtain ⟨t, v⟩ := p
  subst h
  simp [lk]
theorem lk_miss {α : Type} (p : Nat × α) (L : List (Nat × α)) {s : Nat} (h : p.1 ≠ s) : lk (p :: L) s = lk L s := by
  obtain ⟨t, v⟩ := p
  have : Nat.beq t s = false := by
    cases hb : Nat.beq t s with
    | false => rfl
    | true => exact absurd (Nat.eq_of_beq_eq_true hb) h
  simp [lk, this]
/-- All entries of one list are told by another one. -/
def AllIn {α : Type} : List (Nat × α) → List (Nat × α) → Prop
  | [], _ => True
  | p :: L', L => lk L p.1 = some p.2 ∧ AllIn L' L
theorem AllIn.lk {α : Type} : ∀ {L' L : List (Nat × α)}, AllIn L' L → ∀ t v, lk L' t = some v → lk L t = some v
  | [], _, _, _, _, h => by cases h
  | p :: L', L, hA, t, v, h => by
    by_cases e : p.1 = t
    · rw [lk_hit p L' e] at h
      cases h
      rw [← e]; exact hA.1
    · rw [lk_miss p L' e] at h
      exact AllIn.lk hA.2 t v h
theorem lt_of_blt {d n : Nat} (h : Nat.blt d n = true) : d < n := Nat.le_of_ble_eq_true h

/-! ### Slots -/
abbrev Slots := List (Nat × Value)
/-- What is known of the slots. -/
structure Sl (n : Nat) (L : Slots) (a : Act) : Prop where
  size : a.tmps.size = n
  dfs : a.defers = []
  has : ∀ t v, lk L t = some v → a.tmps.getD t undef = v
def evL (L : Slots) : Operand → Option Value
  | .tmp t => lk L t
  | .const v => some v
  | .global g => some (.pointer (some ⟨g, 0, none⟩))
  | .func f => some (.func (.func f) #[] #[])
def evA (L : Slots) : List Operand → Option (List Value)
  | [] => some []
  | x :: xs => match evL L x, evA L xs with
    | some v, some vs => some (v :: vs)
    | _, _ => none
theorem Sl.eval {n : Nat} {L : Slots} {a : Act} (h : Sl n L a) {x : Operand} {v : Value} (hx : evL L x = some v) : a.eval x = v := by
  cases x with
  | tmp t => exact h.has t v hx
  | const c => exact Option.some.inj hx
  | global g => exact Option.some.inj hx
  | func f => exact Option.some.inj hx
theorem Sl.evals {n : Nat} {L : Slots} {a : Act} (h : Sl n L a) : ∀ {xs : List Operand} {vs : List Value}, evA L xs = some vs → xs.map a.eval = vs
  | [], vs, hx => by cases hx; rfl
  | x :: xs, vs, hx => by
    simp only [evA] at hx
    split at hx
    · rename_i v vs' h1 h2
      cases hx
      rw [List.map_cons, h.eval h1, h.evals h2]
    · cases hx
theorem Sl.put {n : Nat} {L : Slots} {a : Act} (h : Sl n L a) {d : Nat} (hd : Nat.blt d n = true) (v : Value) : Sl n ((d, v) :: L) (a.put (some d) v) := by
  have hd' := lt_of_blt hd
  refine ⟨?_, ?_, ?_⟩
  · show (a.tmps.setIfInBounds d v).size = n
    rw [Array.size_setIfInBounds, h.size]
  · exact h.dfs
  · intro t u ht
    show (a.tmps.setIfInBounds d v).getD t undef = u
    by_cases e : d = t
    · subst e
      rw [lk_hit _ _ rfl] at ht
      cases ht
      simp [h.size, hd']
    · rw [lk_miss _ _ e] at ht
      have := h.has t u ht
      rw [← this]
      simp [e]
theorem Sl.putN {n : Nat} {L : Slots} {a : Act} (h : Sl n L a) (v : Value) : Sl n L (a.put none v) := h
theorem Sl.to {n : Nat} {L L' : Slots} {a : Act} (h : Sl n L a) (hA : AllIn L' L) : Sl n L' a := ⟨h.size, h.dfs, fun t v ht => h.has t v (hA.lk t v ht)⟩

/-! ### What the call owns -/
/-- A thing that is kept: the block in which it lies (none: in no block), and what is said of it. -/
structure Cl where
  b : Option Nat
  P : World → Prop
  loc : ∀ w w' : World, (∀ k, b = some k → w'.heap[k]? = w.heap[k]?) → P w → P w'
  lt : ∀ (w : World) (k : Nat), b = some k → P w → k < w.heap.size
/-- A block, and its cells. -/
def blk (b : Nat) (c : Array Value) (t : TypeId) : Cl := ⟨some b, fun w => Blk w b c t, fun _ _ h hB => (h b rfl).trans hB, fun _ _ hk hB => by cases hk; exact Blk.lt hB⟩
theorem Owns.loc {α : Type} {w w' : World} {base : Nat} {e : TypeId} {enc : α → List Value} {sz : Nat} {v : Value} {xs : List α} (h : Owns w base e enc sz v xs) (hs : ∀ k, v.ownBlock = some k → w'.heap[k]? = w.heap[k]?) : Owns w' base e enc sz v xs := by
  refine ⟨h.1, ?_⟩
  rcases h.2 with h2 | ⟨g, cap, cur, rfl, hb, hg, rest⟩
  · exact .inl h2
  · exact .inr ⟨g, cap, cur, rfl, hb, (hs g rfl).trans hg, rest⟩
/-- A slice that is appended to, and its elements. -/
def row {α : Type} (base : Nat) (e : TypeId) (enc : α → List Value) (sz : Nat) (v : Value) (xs : List α) : Cl :=
  ⟨v.ownBlock, fun w => Owns w base e enc sz v xs, fun _ _ h hO => Owns.loc hO h, fun _ _ hk hO => (Owns.row_lt hO hk).2⟩
abbrev Mem := List (Nat × Cl)
/-- What is named, all of it the call's own, is as is said; what was there is as it was. -/
structure Bag (w0 : World) (M : Mem) (w : World) : Prop where
  below : Below w0.heap.size w0 w
  own : ∀ i e, lk M i = some e → (∀ k, e.b = some k → w0.heap.size ≤ k) ∧ e.P w
  dis : ∀ i j e e' k, lk M i = some e → lk M j = some e' → i ≠ j → e.b = some k → e'.b ≠ some k
theorem Bag.start (w : World) : Bag w [] w := ⟨Below.refl _ _, fun i e h => by simp [lk] at h, fun i j e e' k h => by simp [lk] at h⟩
theorem Bag.call {w0 w w1 : World} {M : Mem} (h : Bag w0 M w) (hb : Below w.heap.size w w1) : Bag w0 M w1 :=
  ⟨h.1.trans (hb.mono h.1.size), fun i e hi => ⟨(h.2 i e hi).1, e.loc w w1 (fun k hk => hb.block k (e.lt w k hk (h.2 i e hi).2)) (h.2 i e hi).2⟩, h.3⟩
theorem Bag.drew {w0 w : World} {M : Mem} (h : Bag w0 M w) : Bag w0 M w.drew := h.call ⟨rfl, rfl, rfl, Nat.le_refl _, fun _ _ => rfl⟩
theorem Bag.drewN {w0 w : World} {M : Mem} (h : Bag w0 M w) (n : Nat) : Bag w0 M (w.drewN n) := h.call ⟨rfl, rfl, rfl, Nat.le_refl _, fun _ _ => rfl⟩
theorem Bag.to {w0 w : World} {M M' : Mem} (h : Bag w0 M w) (hA : AllIn M' M) : Bag w0 M' w :=
  ⟨h.1, fun i e hi => h.2 i e (hA.lk i e hi), fun i j e e' k hi hj hne => h.3 i j e e' k (hA.lk i e hi) (hA.lk j e' hj) hne⟩
theorem Bag.tell {w0 w : World} {M M' : Mem} (h : Bag w0 M w) (hA : ∀ i e, lk M' i = some e → lk M i = some e) : Bag w0 M' w :=
  ⟨h.1, fun i e hi => h.2 i e (hA i e hi), fun i j e e' k hi hj hne => h.3 i j e e' k (hA i e hi) (hA j e' hj) hne⟩
theorem Bag.again {w0 w : World} {M : Mem} (h : Bag w0 M w) {i : Nat} {e : Cl} (hi : lk M i = some e) : Bag w0 ((i, e) :: M) w := h.tell fun j e' hj => by
  by_cases hne : i = j
  · subst hne; rw [lk_hit _ _ rfl] at hj; cases hj; exact hi
  · rwa [lk_miss _ _ hne] at hj
theorem Bag.at {w0 w : World} {M : Mem} (h : Bag w0 M w) (i : Nat) {b : Nat} {c : Array Value} {t : TypeId} (hi : lk M i = some (blk b c t)) : Blk w b c t := (h.2 i _ hi).2
theorem Bag.own? {α : Type} {w0 w : World} {M : Mem} (h : Bag w0 M w) (i : Nat) {base : Nat} {e : TypeId} {enc : α → List Value} {sz : Nat} {v : Value} {xs : List α} (hi : lk M i = some (row base e enc sz v xs)) : Owns w base e enc sz v xs := (h.2 i _ hi).2
theorem Bag.change {w0 w w1 : World} {M : Mem} (h : Bag w0 M w) (i : Nat) (r : Option Nat) (hr : ∀ j e k, lk M j = some e → j ≠ i → e.b = some k → some k ≠ r) (hb : Below w0.heap.size w0 w1) (hs : ∀ k, k < w.heap.size → some k ≠ r → w1.heap[k]? = w.heap[k]?)
    (e1 : Cl) (hP : e1.P w1) (hk : ∀ k, e1.b = some k → w0.heap.size ≤ k ∧ (some k = r ∨ w.heap.size ≤ k)) : Bag w0 ((i, e1) :: M) w1 := by
  have key : ∀ j e, lk ((i, e1) :: M) j = some e → (j = i ∧ e = e1) ∨ (j ≠ i ∧ lk M j = some e) := by
    intro j e hj
    by_cases hne : i = j
    · rw [lk_hit _ _ hne] at hj
      cases hj
      exact .inl ⟨hne.symm, rfl⟩
    · rw [lk_miss _ _ hne] at hj
      exact .inr ⟨fun k => hne k.symm, hj⟩
  have old : ∀ j e, lk M j = some e → j ≠ i → ∀ k, e.b = some k → e1.b ≠ some k := by
    intro j e hj hne k hek he1
    rcases (hk k he1).2 with h1 | h1
    · exact hr j e k hj hne hek h1
    · have := e.lt w k hek (h.2 j e hj).2; omega
  refine ⟨hb, fun j e hj => ?_, fun j k e e' n hj hk' hne hn => ?_⟩
  · rcases key j e hj with ⟨_, rfl⟩ | ⟨hne, hj⟩
    · exact ⟨fun k hk' => (hk k hk').1, hP⟩
    · exact ⟨(h.2 j e hj).1, e.loc w w1 (fun k hk' => hs k (e.lt w k hk' (h.2 j e hj).2) (hr j e k hj hne hk')) (h.2 j e hj).2⟩
  · rcases key j e hj with ⟨h1, h2⟩ | ⟨h1, h2⟩
    · rcases key k e' hk' with ⟨h3, h4⟩ | ⟨h3, h4⟩
      · omega
      · rw [h2] at hn
        intro hn'
        exact old k e' h4 h3 n hn' hn
    · rcases key k e' hk' with ⟨h3, h4⟩ | ⟨h3, h4⟩
      · rw [h4]; exact old j e h2 h1 n hn
      · exact h.3 j k e e' n h2 h4 hne hn
/-- A callee hands back a slice of its own. -/
theorem Bag.callRow {α : Type} {w0 w w1 : World} {M : Mem} (h : Bag w0 M w) (i : Nat) (hb : Below w.heap.size w w1) {e : TypeId} {enc : α → List Value} {sz : Nat} {v : Value} {xs : List α} (hv : Owns w1 w.heap.size e enc sz v xs) : Bag w0 ((i, row w0.heap.size e enc sz v xs) :: M) w1 :=
  h.change i none (fun _ _ _ _ _ _ h => by cases h) (h.call hb).below (fun k hk _ => hb.block k hk) (row w0.heap.size e enc sz v xs) (hv.mono h.below.size) (fun k hk => ⟨Nat.le_trans h.below.size (hv.row_lt hk).1, .inr (hv.row_lt hk).1⟩)
theorem Bag.push {w0 w : World} {M : Mem} (h : Bag w0 M w) (i : Nat) (c : Array Value) (t : TypeId) : Bag w0 ((i, blk w.heap.size c t) :: M) (w.alloc (.cells c t)) :=
  h.change i none (fun _ _ _ _ _ _ h => by cases h) (h.1.alloc h.1.size _) (fun k hk _ => Go.heap_alloc_old w _ hk) (blk w.heap.size c t) (Blk.alloc_new w c t) (fun k hk => by cases hk; exact ⟨h.1.size, .inr (Nat.le_refl _)⟩)
theorem Bag.far {w0 w : World} {M : Mem} (h : Bag w0 M w) (i : Nat) {e : Cl} (hi : lk M i = some e) : ∀ j e' k, lk M j = some e' → j ≠ i → e'.b = some k → some k ≠ e.b := by
  intro j e' k hj hne hk he
  exact h.3 j i e' e k hj hi hne hk he.symm
theorem Bag.set {w0 w : World} {M : Mem} (h : Bag w0 M w) (i : Nat) {b : Nat} {c : Array Value} {t : TypeId} (hi : lk M i = some (blk b c t)) (c' : Array Value) : Bag w0 ((i, blk b c' t) :: M) (w.setRow b c') := by
  have hb : w0.heap.size ≤ b := (h.2 i _ hi).1 b rfl
  refine h.change (w1 := w.setRow b c') i (some b) (h.far i hi) ⟨h.1.os, h.1.tape, h.1.output, by rw [setRow_size]; exact h.1.size, fun k hk => (setRow_other w b k c' (by omega)).trans (h.1.block k hk)⟩ (fun k _ hne => setRow_other w b k c' (fun e => hne (by rw [e]))) (blk b c' t) ((h.at i hi).setRow c') (fun k hk => by cases hk; exact ⟨hb, .inl rfl⟩)
/-- A block of the call's own is written by a callee. -/
theorem Bag.upd {w0 w w1 : World} {M : Mem} (h : Bag w0 M w) (i : Nat) {b : Nat} {c : Array Value} {t : TypeId} (hi : lk M i = some (blk b c t)) {c' : Array Value} (hu : Upd w b c' w1) : Bag w0 ((i, blk b c' t) :: M) w1 := by
  obtain ⟨n, rfl⟩ := hu
  exact (h.set i hi c').drewN n

/-! ### Both -/
structure St (w0 : World) (n : Nat) (L : Slots) (M : Mem) (a : Act) (w : World) : Prop where
  sl : Sl n L a
  bag : Bag w0 M w
theorem St.to {w0 : World} {n : Nat} {L L' : Slots} {M M' : Mem} {a : Act} {w : World} (S : St w0 n L M a w) (hL : AllIn L' L) (hM : AllIn M' M) : St w0 n L' M' a w := ⟨S.sl.to hL, S.bag.to hM⟩

def enL : Nat → List Value → Slots
  | _, [] => []
  | k, v :: vs => (k, v) :: enL (k + 1) vs
theorem lk_enL : ∀ (vs : List Value) (k t : Nat) (v : Value), lk (enL k vs) t = some v → k ≤ t ∧ vs[t - k]? = some v
  | [], k, t, v, h => by simp [enL, lk] at h
  | x :: vs, k, t, v, h => by
    unfold enL at h
    by_cases e : k = t
    · subst e
      rw [lk_hit _ _ rfl] at h
      cases h
      simp
    · rw [lk_miss _ _ e] at h
      have := lk_enL vs (k + 1) t v h
      refine ⟨by omega, ?_⟩
      rw [show t - k = (t - (k + 1)) + 1 by omega, List.getElem?_cons_succ]
      exact this.2

section
variable {P : Program}
/-- Into a function. -/
theorem St.enter {f : FuncId} {fn : Func} {c : Code} {args : Array Value} {w : World} {R : Ending → World → Prop} {n : Nat} {L : Slots}
    (hf : P.funcs[f]? = some fn) (hb : fn.body = some c) (hn : fn.ntmps = n) (hl : Nat.ble args.size n = true) (hL : enL 0 args.toList = L)
    (h : ∀ a, St w n L [] a w → c.wp P (bodyPost P fn R) a w) : Calls P f args w R := by
  have hl' := Nat.le_of_ble_eq_true hl
  refine calls_of_wp hf hb (h _ ⟨⟨?_, rfl, ?_⟩, Bag.start w⟩)
  · simp [hn]; omega
  · intro t v ht
    rw [← hL] at ht
    obtain ⟨_, h2⟩ := lk_enL args.toList 0 t v ht
    have h3 : t < args.size := by have := (List.getElem?_eq_some_iff.1 h2).1; simpa using this
    have h4 : args[t]? = some v := by simpa using h2
    have h5 : args[t] = v := (Array.getElem?_eq_some_iff.1 h4).2
    simp [Array.getElem?_append, h3, h5]

variable {Q : Exit → Act → World → Prop} {a : Act} {w : World}
theorem then_n {next : Act → World → Prop} (h : next a w) : Exit.then next Q .normal a w := h
theorem then_e {next : Act → World → Prop} {i : Nat} (h : Q (.exit i) a w) : Exit.then next Q (.exit i) a w := h
theorem then_r {next : Act → World → Prop} (h : Q .ret a w) : Exit.then next Q .ret a w := h
theorem blk_n {i : Nat} (h : Q .normal a w) : Exit.inBlock i Q .normal a w := h
theorem blk_r {i : Nat} (h : Q .ret a w) : Exit.inBlock i Q .ret a w := h
theorem blk_e {i : Nat} (h : Q .normal a w) : Exit.inBlock i Q (.exit i) a w := by show (if i = i then Q .normal a w else Q (.exit i) a w); rw [if_pos rfl]; exact h
theorem blk_o {i j : Nat} (hne : Nat.beq j i = false) (h : Q (.exit j) a w) : Exit.inBlock i Q (.exit j) a w := by
  show (if j = i then Q .normal a w else Q (.exit j) a w)
  rw [if_neg (by intro e; subst e; simp at hne)]
  exact h

/-! ### Loops -/
theorem exists_least {p : Nat → Prop} (h : ∃ m, p m) : ∃ m, p m ∧ ∀ k, p k → m ≤ k := by
  obtain ⟨m, hm⟩ := h
  induction m using Nat.strongRecOn with
  | _ m ih =>
    by_cases hk : ∃ k, k < m ∧ p k
    · obtain ⟨k, hlt, hp⟩ := hk
      exact ih k hlt hp
    · exact ⟨m, hm, fun k hp => by
        apply Classical.byContradiction
        intro hn
        exact hk ⟨k, by omega, hp⟩⟩
noncomputable def leastOf (p : Nat → Prop) : Nat := Classical.epsilon fun m => p m ∧ ∀ k, p k → m ≤ k
theorem leastOf_spec {p : Nat → Prop} (h : ∃ m, p m) : p (leastOf p) ∧ ∀ k, p k → leastOf p ≤ k := Classical.epsilon_spec (exists_least h)
/-- A loop: what holds at each round's head, with so many rounds left at most. -/
theorem wp_loopN {c : Code} (I : Nat → Act → World → Prop) (m : Nat) (h0 : I m a w)
    (round : ∀ m a w, I m a w → c.wp P (Exit.then (fun a' w' => ∃ m', m' < m ∧ I m' a' w') Q) a w) : (Code.loop c).wp P Q a w := by
  refine wp_loop (fun a w => ∃ m, I m a w) (fun a w => leastOf fun m => I m a w) ⟨m, h0⟩ fun a w hI => ?_
  obtain ⟨h1, h2⟩ := leastOf_spec hI
  refine wp_mono (round _ a w h1) fun e a' w' q => ?_
  cases e with
  | normal =>
    obtain ⟨m', hlt, hI'⟩ := q
    have := (leastOf_spec (p := fun m => I m a' w') ⟨m', hI'⟩).2 m' hI'
    exact ⟨⟨m', hI'⟩, Nat.lt_of_le_of_lt this hlt⟩
  | _ => exact q

/-! ### Returns -/
theorem St.ret {fn : Func} {R : Ending → World → Prop} {w0 : World} {n : Nat} {L : Slots} {M : Mem} (S : St w0 n L M a w) {v : Value}
    (hr : (results fn a.tmps).run P w = .ok v w) (hR : R (.returned v) w) : bodyPost P fn R .ret a w := ⟨S.sl.dfs, v, hr, hR⟩
theorem St.fin {fn : Func} {R : Ending → World → Prop} {w0 : World} {n : Nat} {L : Slots} {M : Mem} (S : St w0 n L M a w) {v : Value}
    (hr : (results fn a.tmps).run P w = .ok v w) (hR : R (.returned v) w) : bodyPost P fn R .normal a w := ⟨S.sl.dfs, v, hr, hR⟩
theorem St.ret1 {fn : Func} {R : Ending → World → Prop} {w0 : World} {n : Nat} {L : Slots} {M : Mem} (S : St w0 n L M a w) {t : Nat} (hf : fn.results = #[.tmp t]) {v : Value} (hv : lk L t = some v)
    (hR : R (.returned v) w) : bodyPost P fn R .ret a w := S.ret (by rw [results_tmp hf, S.sl.has t v hv]) hR
theorem St.fin0 {fn : Func} {R : Ending → World → Prop} {w0 : World} {n : Nat} {L : Slots} {M : Mem} (S : St w0 n L M a w) (hf : fn.results = #[])
    (hR : R (.returned (.tuple #[])) w) : bodyPost P fn R .normal a w := S.fin (by rw [results_none hf]) hR
theorem St.ret2 {fn : Func} {R : Ending → World → Prop} {w0 : World} {n : Nat} {L : Slots} {M : Mem} (S : St w0 n L M a w) {t u : Nat} (hf : fn.results = #[.tmp t, .tmp u]) {v x : Value} (hv : lk L t = some v) (hx : lk L u = some x)
    (hR : R (.returned (.tuple #[v, x])) w) : bodyPost P fn R .ret a w := S.ret (by rw [results_tmp2 hf, S.sl.has t v hv, S.sl.has u x hx]) hR

/-! ### Tests -/
theorem St.yes {w0 : World} {n : Nat} {L : Slots} {M : Mem} (S : St w0 n L M a w) {x : Operand} {c d : Code} (hx : evL L x = some (.bool true)) (h : c.wp P Q a w) : (Code.cond x c d).wp P Q a w := wp_cond_true (S.sl.eval hx) h
theorem St.no {w0 : World} {n : Nat} {L : Slots} {M : Mem} (S : St w0 n L M a w) {x : Operand} {c d : Code} (hx : evL L x = some (.bool false)) (h : d.wp P Q a w) : (Code.cond x c d).wp P Q a w := wp_cond_false (S.sl.eval hx) h
theorem St.either {w0 : World} {n : Nat} {L : Slots} {M : Mem} (S : St w0 n L M a w) {x : Operand} {c d : Code} {b : Bool} (hx : evL L x = some (.bool b)) (h1 : b = true → c.wp P Q a w) (h2 : b = false → d.wp P Q a w) : (Code.cond x c d).wp P Q a w :=
  wp_cond_split (S.sl.eval hx) h1 h2

/-! ### Operations -/
variable {ops : Array Oper} {rest : List Oper} {o : Oper} {w0 : World} {n : Nat} {L : Slots} {M : Mem}
theorem wpList_n (h : Q .normal a w) : wpList P ops Q [] a w := h
theorem St.val (S : St w0 n L M a w) (hw : Region.wanted o (yielded ops a.tmps) = true) {d : Nat} (hd : o.dst = some d) (hlt : Nat.blt d n = true) {v : Value} {w' : World} {M' : Mem} (hr : (execOp a.eval o).run P w = .ok (.value v) w') (hb : Bag w0 M' w')
    (k : ∀ a', St w0 n ((d, v) :: L) M' a' w' → wpList P ops Q rest a' w') : wpList P ops Q (o :: rest) a w :=
  BigFrame.wpList_want hw fun K hK => by
    unfold Oper.wp
    rw [hr, Oper.upon_value, hd]
    exact hK _ _ (k _ ⟨S.sl.put hlt v, hb⟩)
theorem St.valN (S : St w0 n L M a w) (hw : Region.wanted o (yielded ops a.tmps) = true) (hd : o.dst = none) {v : Value} {w' : World} {M' : Mem} (hr : (execOp a.eval o).run P w = .ok (.value v) w') (hb : Bag w0 M' w')
    (k : ∀ a', St w0 n L M' a' w' → wpList P ops Q rest a' w') : wpList P ops Q (o :: rest) a w :=
  BigFrame.wpList_want hw fun K hK => by
    unfold Oper.wp
    rw [hr, Oper.upon_value, hd]
    exact hK _ _ (k _ ⟨S.sl.putN v, hb⟩)
theorem St.skipN (S : St w0 n L M a w) (hw : Region.wanted o (yielded ops a.tmps) = true) (hd : o.dst = none) {w' : World} {M' : Mem} (hr : (execOp a.eval o).run P w = .ok .skip w') (hb : Bag w0 M' w')
    (k : ∀ a', St w0 n L M' a' w' → wpList P ops Q rest a' w') : wpList P ops Q (o :: rest) a w :=
  BigFrame.wpList_want hw fun K hK => by
    unfold Oper.wp
    rw [hr, Oper.upon_skip, hd]
    exact hK _ _ (k _ ⟨S.sl.putN undef, hb⟩)

theorem St.move (S : St w0 n L M a w) (hw : Region.wanted o (yielded ops a.tmps) = true) {d : Nat} (hd : o.dst = some d) (hlt : Nat.blt d n = true) {x : Operand} (ho : o.op = .move x) {v : Value} (hx : evL L x = some v)
    (k : ∀ a', St w0 n ((d, v) :: L) M a' w → wpList P ops Q rest a' w) : wpList P ops Q (o :: rest) a w :=
  S.val hw hd hlt (by unfold execOp; simp only [ho, S.sl.eval hx, Sem.run_pure]) S.bag k
theorem St.asg (S : St w0 n L M a w) (hw : Region.wanted o (yielded ops a.tmps) = true) {d : Nat} (hd : o.dst = some d) (hlt : Nat.blt d n = true) {x : Operand} (ho : o.op = .assign x) {v : Value} (hx : evL L x = some v)
    (k : ∀ a', St w0 n ((d, v) :: L) M a' w → wpList P ops Q rest a' w) : wpList P ops Q (o :: rest) a w :=
  S.val hw hd hlt (by unfold execOp; simp only [ho, S.sl.eval hx, Sem.run_pure]) S.bag k
theorem St.extract (S : St w0 n L M a w) (hw : Region.wanted o (yielded ops a.tmps) = true) {d : Nat} (hd : o.dst = some d) (hlt : Nat.blt d n = true) {x : Operand} {i : Nat} (ho : o.op = .extract x i) {vs : Array Value} (hx : evL L x = some (.tuple vs)) {v : Value} (hv : lk (enL 0 vs.toList) i = some v)
    (k : ∀ a', St w0 n ((d, v) :: L) M a' w → wpList P ops Q rest a' w) : wpList P ops Q (o :: rest) a w :=
  S.val hw hd hlt (by
    have h1 := (lk_enL vs.toList 0 i v hv).2
    rw [Nat.sub_zero, Array.getElem?_toList] at h1
    unfold execOp; simp only [ho, S.sl.eval hx, Instr.extract, h1, Sem.run_bind, Sem.run_pure, Result.andThen_ok]) S.bag k
theorem St.pickT (S : St w0 n L M a w) (hw : Region.wanted o (yielded ops a.tmps) = true) {d : Nat} (hd : o.dst = some d) (hlt : Nat.blt d n = true) {c x y : Operand} (ho : o.op = .pick c x y) (hc : evL L c = some (.bool true)) {v : Value} (hx : evL L x = some v)
    (k : ∀ a', St w0 n ((d, v) :: L) M a' w → wpList P ops Q rest a' w) : wpList P ops Q (o :: rest) a w :=
  S.val hw hd hlt (by unfold execOp; simp only [ho, S.sl.eval hc, S.sl.eval hx, asBool, Sem.run_bind, Sem.run_pure, Result.andThen_ok, if_true]) S.bag k
theorem St.pickF (S : St w0 n L M a w) (hw : Region.wanted o (yielded ops a.tmps) = true) {d : Nat} (hd : o.dst = some d) (hlt : Nat.blt d n = true) {c x y : Operand} (ho : o.op = .pick c x y) (hc : evL L c = some (.bool false)) {v : Value} (hy : evL L y = some v)
    (k : ∀ a', St w0 n ((d, v) :: L) M a' w → wpList P ops Q rest a' w) : wpList P ops Q (o :: rest) a w :=
  S.val hw hd hlt (by unfold execOp; simp only [ho, S.sl.eval hc, S.sl.eval hy, asBool, Sem.run_bind, Sem.run_pure, Result.andThen_ok, Bool.false_eq_true, if_false]) S.bag k
/-- An operation that is passed over. -/
theorem St.pass (S : St w0 n L M a w) (hw : Region.wanted o (yielded ops a.tmps) = false) {d : Nat} (hd : o.dst = some d) (hlt : Nat.blt d n = true)
    (k : ∀ a', St w0 n ((d, undef) :: L) M a' w → wpList P ops Q rest a' w) : wpList P ops Q (o :: rest) a w := by
  unfold wpList
  rw [if_neg (by rw [hw]; exact Bool.false_ne_true), hd]
  exact k _ ⟨S.sl.put hlt undef, S.bag⟩
theorem St.passN (S : St w0 n L M a w) (hw : Region.wanted o (yielded ops a.tmps) = false) (hd : o.dst = none)
    (k : ∀ a', St w0 n L M a' w → wpList P ops Q rest a' w) : wpList P ops Q (o :: rest) a w := by
  unfold wpList
  rw [if_neg (by rw [hw]; exact Bool.false_ne_true), hd]
  exact k _ ⟨S.sl.putN undef, S.bag⟩
theorem St.build (S : St w0 n L M a w) (hw : Region.wanted o (yielded ops a.tmps) = true) {d : Nat} (hd : o.dst = some d) (hlt : Nat.blt d n = true) {T : TypeId} {parts : Array (Nat × Operand)} (ho : o.op = .build T parts) {r : Value}
    (hr : (Instr.build T (parts.map fun (i, x) => (i, a.eval x))).run P w = .ok r w)
    (k : ∀ a', St w0 n ((d, r) :: L) M a' w → wpList P ops Q rest a' w) : wpList P ops Q (o :: rest) a w :=
  S.val hw hd hlt (by unfold execOp; simp only [ho, Sem.run_bind, hr, Sem.run_pure, Result.andThen_ok]) S.bag k
/-- A new block. The tag: the slot's own number. -/
theorem St.boxA (S : St w0 n L M a w) (hw : Region.wanted o (yielded ops a.tmps) = true) {d : Nat} (hd : o.dst = some d) (hlt : Nat.blt d n = true) {x : Operand} {T : TypeId} (ho : o.op = .box T x) {cs : Array Value} (hx : evL L x = some (.agg cs))
    (k : ∀ b a' w', b = w.heap.size → w' = w.alloc (.cells cs T) → St w0 n ((d, .pointer (some ⟨b, 0, none⟩)) :: L) ((d, blk b (cs) T) :: M) a' w' → wpList P ops Q rest a' w') : wpList P ops Q (o :: rest) a w :=
  S.val (w' := w.alloc (.cells cs T)) (M' := (d, blk w.heap.size (cs) T) :: M) hw hd hlt (by unfold execOp; simp only [ho, S.sl.eval hx, Instr.box, newVar, newRow, Value.cells, Sem.run_bind, run_newObj_alloc, Sem.run_pure, Result.andThen_ok]) (S.bag.push d cs T) (fun a' S' => k _ a' _ rfl rfl S')
theorem St.box1 (S : St w0 n L M a w) (hw : Region.wanted o (yielded ops a.tmps) = true) {d : Nat} (hd : o.dst = some d) (hlt : Nat.blt d n = true) {x : Operand} {T : TypeId} (ho : o.op = .box T x) {v : Value} (hx : evL L x = some v) (h1 : v.cells = #[v])
    (k : ∀ b a' w', b = w.heap.size → w' = w.alloc (.cells #[v] T) → St w0 n ((d, .pointer (some ⟨b, 0, none⟩)) :: L) ((d, blk b (#[v]) T) :: M) a' w' → wpList P ops Q rest a' w') : wpList P ops Q (o :: rest) a w :=
  S.val (w' := w.alloc (.cells #[v] T)) (M' := (d, blk w.heap.size (#[v]) T) :: M) hw hd hlt (by unfold execOp; simp only [ho, S.sl.eval hx, Instr.box, newVar, newRow, h1, Sem.run_bind, run_newObj_alloc, Sem.run_pure, Result.andThen_ok]) (S.bag.push d #[v] T) (fun a' S' => k _ a' _ rfl rfl S')
theorem St.allocA (S : St w0 n L M a w) (hw : Region.wanted o (yielded ops a.tmps) = true) {d : Nat} (hd : o.dst = some d) (hlt : Nat.blt d n = true) {T : TypeId} (ho : o.op = .alloc T) {z : Value} (hz : (zeroValue T).run P w = .ok z w) {cs : Array Value} (hc : z.cells = cs)
    (k : ∀ b a' w', b = w.heap.size → w' = w.alloc (.cells cs T) → St w0 n ((d, .pointer (some ⟨b, 0, none⟩)) :: L) ((d, blk b (cs) T) :: M) a' w' → wpList P ops Q rest a' w') : wpList P ops Q (o :: rest) a w :=
  S.val (w' := w.alloc (.cells cs T)) (M' := (d, blk w.heap.size (cs) T) :: M) hw hd hlt (by unfold execOp; simp only [ho, Instr.alloc, newVar, newRow, hz, hc, Sem.run_bind, run_newObj_alloc, Sem.run_pure, Result.andThen_ok]) (S.bag.push d cs T) (fun a' S' => k _ a' _ rfl rfl S')

/-- A whole struct or array, of n cells. -/
structure RowTy (P : Program) (T : TypeId) (n : Nat) : Prop where
  under : ∃ d, P.underlying T = some d ∧ d.isRow = true
  size : (P.info? T).map (·.size) = some n
theorem RowTy.load {T : TypeId} {m : Nat} (hT : RowTy P T m) {w : World} {b o : Nat} {cs : Array Value} (hr : row? w b o m = some cs) : (Instr.loadAt T (.pointer (some ⟨b, o, none⟩))).run P w = .ok (.agg cs) w := by
  obtain ⟨dd, hu, hd⟩ := hT.under
  have h1 := run_loadVar_big hu hd hT.size b o w
  rw [hr, loadK_some] at h1
  unfold Instr.loadAt
  simp only [Instr.sureAddr, Sem.run_bind, Sem.run_pure, Result.andThen_ok, h1]
theorem St.loadR (S : St w0 n L M a w) (hw : Region.wanted o (yielded ops a.tmps) = true) {d : Nat} (hd : o.dst = some d) (hlt : Nat.blt d n = true) {T : TypeId} {x : Operand} (ho : o.op = .load T x) {b : Nat} (hx : evL L x = some (.pointer (some ⟨b, 0, none⟩)))
    {m : Nat} (hT : RowTy P T m) (i : Nat) {cs : Array Value} {t : TypeId} (hi : lk M i = some (blk b cs t)) (hm : cs.size = m)
    (k : ∀ a', St w0 n ((d, .agg cs) :: L) M a' w → wpList P ops Q rest a' w) : wpList P ops Q (o :: rest) a w :=
  S.val hw hd hlt (by
    have h1 : row? w b 0 m = some cs := by
      rw [(S.bag.at i hi).row]
      unfold rowIn
      rw [if_pos (by simp [hm])]
      simp [← hm]
    unfold execOp; simp only [ho, S.sl.eval hx, Sem.run_bind, hT.load h1, Sem.run_pure, Result.andThen_ok]) S.bag k
/-- .. a part of a block. -/
theorem St.loadP (S : St w0 n L M a w) (hw : Region.wanted o (yielded ops a.tmps) = true) {d : Nat} (hd : o.dst = some d) (hlt : Nat.blt d n = true) {T : TypeId} {x : Operand} (ho : o.op = .load T x) {b off : Nat} (hx : evL L x = some (.pointer (some ⟨b, off, none⟩)))
    {m : Nat} (hT : RowTy P T m) {cs : Array Value} (hr : row? w b off m = some cs)
    (k : ∀ a', St w0 n ((d, .agg cs) :: L) M a' w → wpList P ops Q rest a' w) : wpList P ops Q (o :: rest) a w :=
  S.val hw hd hlt (by unfold execOp; simp only [ho, S.sl.eval hx, Sem.run_bind, hT.load hr, Sem.run_pure, Result.andThen_ok]) S.bag k
theorem St.storeR (S : St w0 n L M a w) (hw : Region.wanted o (yielded ops a.tmps) = true) (hd : o.dst = none) {T : TypeId} {x y : Operand} (ho : o.op = .store T x y) {b : Nat} (hx : evL L x = some (.pointer (some ⟨b, 0, none⟩))) {cs : Array Value} (hy : evL L y = some (.agg cs))
    {m : Nat} (hT : RowTy P T m) (i : Nat) {old : Array Value} {t : TypeId} (hi : lk M i = some (blk b old t)) (hm : old.size = m) (hm' : cs.size = m) (h1 : oneAll cs = true)
    (k : ∀ a' w', St w0 n L ((i, blk b cs t) :: M) a' w' → wpList P ops Q rest a' w') : wpList P ops Q (o :: rest) a w := by
  have hB := S.bag.at i hi
  have hp : putRow w b 0 cs = w.setRow b cs := by
    rw [hB.put]
    congr 1
    apply Array.ext_getElem?
    intro j
    rw [splice_get _ _ _ (by simp; omega)]
    simp only [Nat.not_lt_zero, if_false, Nat.zero_add, Nat.sub_zero]
    split
    · rfl
    · rw [Array.getElem?_eq_none (by omega), Array.getElem?_eq_none (by omega)]
  have hr := run_storeBig (P := P) hT.size b 0 cs w
  rw [hB.fits, hp] at hr
  have hk : (decide (0 + m ≤ old.size) && decide (cs.size = m) && oneAll cs) = true := by simp [hm, hm', h1]
  rw [hk, storeK_true] at hr
  refine S.skipN hw hd (w' := w.setRow b cs) ?_ (S.bag.set i hi cs) (fun a' S' => k a' _ S')
  unfold execOp
  have hr' : (Instr.storeAt T (.pointer (some ⟨b, 0, none⟩)) (.agg cs)).run P w = .ok () (w.setRow b cs) := hr
  simp only [ho, S.sl.eval hx, S.sl.eval hy, Sem.run_bind, hr', Sem.run_pure, Result.andThen_ok]

/-- A variable of one cell. -/
structure OneTy (P : Program) (T : TypeId) : Prop where
  agg : ∀ w, (Go.isAgg T).run P w = .ok false w
  size : ∀ w, (Go.sizeOf T).run P w = .ok 1 w
theorem OneTy.load {T : TypeId} (hT : OneTy P T) {w : World} {b o : Nat} {v : Value} (hc : w.cell? ⟨b, o, none⟩ = some v) : (Instr.loadAt T (.pointer (some ⟨b, o, none⟩))).run P w = .ok v w := by
  unfold Instr.loadAt loadVar
  simp only [Instr.sureAddr, Sem.run_bind, Sem.run_pure, Result.andThen_ok, hT.agg, Bool.false_eq_true, if_false, run_load, hc]
theorem St.load1 (S : St w0 n L M a w) (hw : Region.wanted o (yielded ops a.tmps) = true) {d : Nat} (hd : o.dst = some d) (hlt : Nat.blt d n = true) {T : TypeId} {x : Operand} (ho : o.op = .load T x) {b off : Nat} (hx : evL L x = some (.pointer (some ⟨b, off, none⟩)))
    (hT : OneTy P T) (i : Nat) {cs : Array Value} {t : TypeId} (hi : lk M i = some (blk b cs t)) {v : Value} (hv : cs[off]? = some v)
    (k : ∀ a', St w0 n ((d, v) :: L) M a' w → wpList P ops Q rest a' w) : wpList P ops Q (o :: rest) a w :=
  S.val hw hd hlt (by
    have h1 : w.cell? ⟨b, off, none⟩ = some v := by rw [(S.bag.at i hi).cell]; exact hv
    unfold execOp; simp only [ho, S.sl.eval hx, Sem.run_bind, hT.load h1, Sem.run_pure, Result.andThen_ok]) S.bag k
theorem St.loadC (S : St w0 n L M a w) (hw : Region.wanted o (yielded ops a.tmps) = true) {d : Nat} (hd : o.dst = some d) (hlt : Nat.blt d n = true) {T : TypeId} {x : Operand} (ho : o.op = .load T x) {b off : Nat} (hx : evL L x = some (.pointer (some ⟨b, off, none⟩)))
    (hT : OneTy P T) {v : Value} (hv : w.cell? ⟨b, off, none⟩ = some v)
    (k : ∀ a', St w0 n ((d, v) :: L) M a' w → wpList P ops Q rest a' w) : wpList P ops Q (o :: rest) a w :=
  S.val hw hd hlt (by unfold execOp; simp only [ho, S.sl.eval hx, Sem.run_bind, hT.load hv, Sem.run_pure, Result.andThen_ok]) S.bag k
theorem OneTy.store {T : TypeId} (hT : OneTy P T) {w : World} {b o : Nat} {v x : Value} (hc : w.cell? ⟨b, o, none⟩ = some x) (hf : w.frozen? ⟨b, o, none⟩ = false) (h1 : v.oneCell' = true) (h2 : v.cells = #[v]) :
    (Instr.storeAt T (.pointer (some ⟨b, o, none⟩)) v).run P w = .ok () (w.setCell ⟨b, o, none⟩ v) := by
  unfold Instr.storeAt storeVar
  have ha : (⟨b, o, none⟩ : Addr).add 0 = ⟨b, o, none⟩ := Addr.add_mid b o 0
  simp [Instr.sureAddr, Sem.run_bind, hT.size, h2, storeCells, run_store P w _ v _ h1, ha, hc, hf]
theorem St.store1 (S : St w0 n L M a w) (hw : Region.wanted o (yielded ops a.tmps) = true) (hd : o.dst = none) {T : TypeId} {x y : Operand} (ho : o.op = .store T x y) {b off : Nat} (hx : evL L x = some (.pointer (some ⟨b, off, none⟩))) {v : Value} (hy : evL L y = some v)
    (hT : OneTy P T) (i : Nat) {old : Array Value} {t : TypeId} (hi : lk M i = some (blk b old t)) (ho' : Nat.blt off old.size = true) (h1 : v.oneCell' = true) (h2 : v.cells = #[v]) {cs : Array Value} (hcs : old.setIfInBounds off v = cs)
    (k : ∀ a' w', St w0 n L ((i, blk b cs t) :: M) a' w' → wpList P ops Q rest a' w') : wpList P ops Q (o :: rest) a w := by
  subst hcs
  have hB := S.bag.at i hi
  have hc : w.cell? ⟨b, off, none⟩ = some (old[off]'(lt_of_blt ho')) := by rw [hB.cell]; exact Array.getElem?_eq_getElem _
  have hr := hT.store hc (hB.frozen off) h1 h2
  rw [hB.setCell] at hr
  refine S.skipN hw hd (w' := w.setRow b (old.setIfInBounds off v)) ?_ (S.bag.set i hi _) (fun a' S' => k a' _ S')
  unfold execOp
  simp only [ho, S.sl.eval hx, S.sl.eval hy, Sem.run_bind, hr, Sem.run_pure, Result.andThen_ok]

/-- Whatever else: its run is laid. -/
theorem St.bin (S : St w0 n L M a w) (hw : Region.wanted o (yielded ops a.tmps) = true) {d : Nat} (hd : o.dst = some d) (hlt : Nat.blt d n = true) {b : BinOp} {T T' : TypeId} {x y : Operand} (ho : o.op = .binOp b T x y T') {u v r : Value} (hx : evL L x = some u) (hy : evL L y = some v)
    (hr : (do eqGuard b T x y u v; binOp b T u v : Sem Value).run P w = .ok r w) (k : ∀ a', St w0 n ((d, r) :: L) M a' w → wpList P ops Q rest a' w) : wpList P ops Q (o :: rest) a w :=
  S.val hw hd hlt (by
    unfold execOp
    simp only [ho, S.sl.eval hx, S.sl.eval hy]
    rw [Sem.run_bind, hr]
    rfl) S.bag k
theorem St.un (S : St w0 n L M a w) (hw : Region.wanted o (yielded ops a.tmps) = true) {d : Nat} (hd : o.dst = some d) (hlt : Nat.blt d n = true) {b : UnOp} {T : TypeId} {x : Operand} (ho : o.op = .unOp b T x) {u r : Value} (hx : evL L x = some u)
    (hr : (Op.unary b u).run P w = .ok r w) (k : ∀ a', St w0 n ((d, r) :: L) M a' w → wpList P ops Q rest a' w) : wpList P ops Q (o :: rest) a w :=
  S.val hw hd hlt (by unfold execOp; simp only [ho, S.sl.eval hx, Sem.run_bind, hr, Sem.run_pure, Result.andThen_ok]) S.bag k
theorem St.conv (S : St w0 n L M a w) (hw : Region.wanted o (yielded ops a.tmps) = true) {d : Nat} (hd : o.dst = some d) (hlt : Nat.blt d n = true) {T T' : TypeId} {x : Operand} (ho : o.op = .convert T T' x) {u r : Value} (hx : evL L x = some u)
    (hr : (convert T T' u).run P w = .ok r w) (k : ∀ a', St w0 n ((d, r) :: L) M a' w → wpList P ops Q rest a' w) : wpList P ops Q (o :: rest) a w :=
  S.val hw hd hlt (by unfold execOp; simp only [ho, S.sl.eval hx, Sem.run_bind, hr, Sem.run_pure, Result.andThen_ok]) S.bag k
theorem St.index (S : St w0 n L M a w) (hw : Region.wanted o (yielded ops a.tmps) = true) {d : Nat} (hd : o.dst = some d) (hlt : Nat.blt d n = true) {T : TypeId} {x y : Operand} (ho : o.op = .index T x y) {u v r : Value} (hx : evL L x = some u) (hy : evL L y = some v)
    (hr : (Instr.index T u v).run P w = .ok r w) (k : ∀ a', St w0 n ((d, r) :: L) M a' w → wpList P ops Q rest a' w) : wpList P ops Q (o :: rest) a w :=
  S.val hw hd hlt (by unfold execOp; simp only [ho, S.sl.eval hx, S.sl.eval hy, Sem.run_bind, hr, Sem.run_pure, Result.andThen_ok]) S.bag k
theorem St.indexA (S : St w0 n L M a w) (hw : Region.wanted o (yielded ops a.tmps) = true) {d : Nat} (hd : o.dst = some d) (hlt : Nat.blt d n = true) {T : TypeId} {x y : Operand} (ho : o.op = .indexAddr T x y) {u v r : Value} (hx : evL L x = some u) (hy : evL L y = some v)
    (hr : (Instr.indexAt T u v).run P w = .ok r w) (k : ∀ a', St w0 n ((d, r) :: L) M a' w → wpList P ops Q rest a' w) : wpList P ops Q (o :: rest) a w :=
  S.val hw hd hlt (by unfold execOp; simp only [ho, S.sl.eval hx, S.sl.eval hy, Sem.run_bind, hr, Sem.run_pure, Result.andThen_ok]) S.bag k
theorem St.fieldA (S : St w0 n L M a w) (hw : Region.wanted o (yielded ops a.tmps) = true) {d : Nat} (hd : o.dst = some d) (hlt : Nat.blt d n = true) {T : TypeId} {x : Operand} {i : Nat} (ho : o.op = .fieldAddr T x i) {u r : Value} (hx : evL L x = some u)
    (hr : (Instr.fieldAt T u i).run P w = .ok r w) (k : ∀ a', St w0 n ((d, r) :: L) M a' w → wpList P ops Q rest a' w) : wpList P ops Q (o :: rest) a w :=
  S.val hw hd hlt (by unfold execOp; simp only [ho, S.sl.eval hx, Sem.run_bind, hr, Sem.run_pure, Result.andThen_ok]) S.bag k
theorem St.field (S : St w0 n L M a w) (hw : Region.wanted o (yielded ops a.tmps) = true) {d : Nat} (hd : o.dst = some d) (hlt : Nat.blt d n = true) {T : TypeId} {x : Operand} {i : Nat} (ho : o.op = .field T x i) {u r : Value} (hx : evL L x = some u)
    (hr : (Instr.field T u i).run P w = .ok r w) (k : ∀ a', St w0 n ((d, r) :: L) M a' w → wpList P ops Q rest a' w) : wpList P ops Q (o :: rest) a w :=
  S.val hw hd hlt (by unfold execOp; simp only [ho, S.sl.eval hx, Sem.run_bind, hr, Sem.run_pure, Result.andThen_ok]) S.bag k
theorem St.builtin (S : St w0 n L M a w) (hw : Region.wanted o (yielded ops a.tmps) = true) {d : Nat} (hd : o.dst = some d) (hlt : Nat.blt d n = true) {bi : Builtin} {xs : Array Operand} {ats : Array TypeId} (ho : o.op = .call { callee := .builtin bi, args := xs, argTypes := ats }) {vs : List Value} (hx : evA L xs.toList = some vs) {r : Value}
    (hr : (Go.builtin bi ats o.type (xs.map fun | .const _ => true | _ => false) vs.toArray).run P w = .ok (.value r) w) (k : ∀ a', St w0 n ((d, r) :: L) M a' w → wpList P ops Q rest a' w) : wpList P ops Q (o :: rest) a w := by
  have hv : xs.map a.eval = vs.toArray := by
    rw [← S.sl.evals hx, ← Array.toList_map, Array.toArray_toList]
  obtain ⟨dst, op, type, pos, after, guard⟩ := o
  have ho' : op = _ := ho
  subst ho'
  refine S.val hw hd hlt ?_ S.bag k
  rw [BigFrame.execOp_builtin, hv]
  exact hr

/-! ### Slices -/
theorem St.bslice (S : St w0 n L M a w) (hw : Region.wanted o (yielded ops a.tmps) = true) {d : Nat} (hd : o.dst = some d) (hlt : Nat.blt d n = true) {t : TypeId} {len : Nat} {x : Operand} (ho : o.op = .buildSlice t len #[(0, x)]) {v : Value} (hx : evL L x = some v) {cs : Array Value} {e : TypeId}
    (hr : ∀ w, (Instr.buildSlice t len #[(0, v)]).run P w = .ok (.slice (some ⟨w.heap.size, 0, none⟩) len len) (w.alloc (.cells cs e)))
    (k : ∀ b a' w', b = w.heap.size → w' = w.alloc (.cells cs e) → St w0 n ((d, .slice (some ⟨b, 0, none⟩) len len) :: L) ((d, blk b cs e) :: M) a' w' → wpList P ops Q rest a' w') : wpList P ops Q (o :: rest) a w :=
  S.val (w' := w.alloc (.cells cs e)) (M' := (d, blk w.heap.size cs e) :: M) hw hd hlt (by
    unfold execOp
    simp only [ho, List.map_toArray, List.map_cons, List.map_nil, S.sl.eval hx, Sem.run_bind, hr, Sem.run_pure, Result.andThen_ok]) (S.bag.push d cs e) (fun a' S' => k _ a' _ rfl rfl S')
/-- An empty slice of the call's own. -/
theorem St.bslice0 {α : Type} (S : St w0 n L M a w) (hw : Region.wanted o (yielded ops a.tmps) = true) {d : Nat} (hd : o.dst = some d) (hlt : Nat.blt d n = true) {t : TypeId} (ho : o.op = .buildSlice t 0 #[]) {e : TypeId}
    (hr : ∀ w, (Instr.buildSlice t 0 #[]).run P w = .ok (.slice (some ⟨w.heap.size, 0, none⟩) 0 0) (w.alloc (.cells #[] e))) (enc : α → List Value) (sz : Nat)
    (k : ∀ v a' w', St w0 n ((d, v) :: L) ((d, row w0.heap.size e enc sz v []) :: M) a' w' → wpList P ops Q rest a' w') : wpList P ops Q (o :: rest) a w := by
  refine S.val (w' := w.alloc (.cells #[] e)) (M' := (d, row w0.heap.size e enc sz (.slice (some ⟨w.heap.size, 0, none⟩) 0 0) []) :: M) hw hd hlt ?_ ?_ (fun a' S' => k _ a' _ S')
  · unfold execOp
    simp only [ho, List.map_toArray, List.map_nil, Sem.run_bind, hr, Sem.run_pure, Result.andThen_ok]
  · exact S.bag.change d none (fun _ _ _ _ _ _ h => by cases h) (S.bag.below.alloc S.bag.below.size _) (fun k hk _ => Go.heap_alloc_old w _ hk) _ (Owns.empty w e enc sz S.bag.below.size) (fun k hk => by cases hk; exact ⟨S.bag.below.size, .inr (Nat.le_refl _)⟩)
theorem Reads.of_blk {α : Type} {w : World} {enc : α → List Value} {sz b : Nat} {t : TypeId} {x : α} {cs : Array Value} (h : Blk w b cs t) (hc : cs = (enc x).toArray) : Reads w enc sz (.slice (some ⟨b, 0, none⟩) 1 1) [x] := by
  subst hc
  refine ⟨some ⟨b, 0, none⟩, 1, rfl, by simp, by omega, fun _ => ⟨b, 0, rfl, fun i y hi j u hu => ?_⟩⟩
  cases i with
  | zero =>
    simp at hi
    subst hi
    rw [h.cell]
    simpa using hu
  | succ i => simp at hi
/-- append(v, y...): of what is read, to a slice of the call's own. -/
theorem St.append {α : Type} (S : St w0 n L M a w) (hw : Region.wanted o (yielded ops a.tmps) = true) {d : Nat} (hd : o.dst = some d) (hlt : Nat.blt d n = true) {s x : Operand} {t e : TypeId} (ho : o.op = .call { callee := .builtin .append, args := #[s, x], argTypes := #[t, t] })
    {v y : Value} (hs : evL L s = some v) (hx : evL L x = some y) (ht : P.underlying t = some (.slice e)) {sz bytes : Nat} {z : Value} {enc : α → List Value} (hinfo : (P.info? e).map (fun i => (i.zero, i.size, i.bytes)) = some (some z, sz, bytes)) (hz : z.cells.size = sz) (hsz : 0 < sz) (hb0 : 0 < bytes)
    (hel : ∀ y, (enc y).length = sz) (hone : ∀ y u, u ∈ enc y → u.oneCell' = true)
    (i : Nat) {base : Nat} {xs : List α} (hi : lk M i = some (row base e enc sz v xs)) (hbase : base ≤ w.heap.size) {ys : List α} (hy : Reads w enc sz y ys) (hl : (xs.length + ys.length) * bytes ≤ 140737488355328)
    (k : ∀ v1 a' w1, w.heap.size ≤ w1.heap.size → St w0 n ((d, v1) :: L) ((i, row base e enc sz v1 (xs ++ ys)) :: M) a' w1 → wpList P ops Q rest a' w1) : wpList P ops Q (o :: rest) a w := by
  obtain ⟨i0, hi0, hzz⟩ := Option.map_eq_some_iff.1 hinfo
  simp only [Prod.mk.injEq] at hzz
  obtain ⟨hz0, hz1, hz2⟩ := hzz
  obtain ⟨A, c, rfl, h1, h2, h3⟩ := hy
  have HO := S.bag.own? i hi
  by_cases hne : ys = []
  · subst hne
    have HC := fun v1 w1 (hsz : w.heap.size ≤ w1.heap.size) => fun a' => k v1 a' w1 hsz
    simp only [List.append_nil, List.length_nil, Nat.add_zero] at HC hl ⊢
    have hrun : ∃ v1 w1, (Builtin.append_ #[t, t] o.type #[v, .slice A 0 c]).run P w = .ok v1 w1 ∧ w.heap.size ≤ w1.heap.size ∧ Bag w0 ((i, row base e enc sz v1 xs) :: M) w1 := by
      cases A with
      | none =>
        refine ⟨v, w, ?_, Nat.le_refl _, S.bag.again hi⟩
        rcases HO.2 with ⟨rfl, hn⟩ | ⟨g, cap, cur, rfl, _, _, hnc, _⟩
        · simp [Builtin.append_, run_underlying ht, Go.sizeOf, typeInfo, hi0, Builtin.lenOf, Builtin.firstCells]
        · simp [Builtin.append_, run_underlying ht, Go.sizeOf, typeInfo, hi0, Builtin.lenOf, Builtin.firstCells, hnc, storeCells]
      | some ad =>
        obtain ⟨v1, w1, hr, hown, hg, _, hat⟩ := run_append_own_at (P := P) w base t o.type e i0 z sz bytes ht hi0 hz0 hz1 hz2 hz hsz v xs.length (xs.flatMap enc) HO ad 0 c [] (by simp) (fun j u hj => by simp at hj)
          (fun u hu => by simp at hu) (by simp only [maxLen]; have := Nat.le_mul_of_pos_right xs.length hb0; omega) (by simpa using hl) hbase
        have hold := (S.bag.own i _ hi).1
        have hb : Below w0.heap.size w0 w1 := S.bag.below.grown hg S.bag.below.size (fun k hk => hold k hk)
        refine ⟨v1, w1, hr, hg.size, S.bag.change i v.ownBlock (S.bag.far i hi) hb (fun k hk hne => hg.block k hk hne) _ (by simpa [Owns, row] using hown) (fun k hk => ?_)⟩
        have hk' : v1.ownBlock = some k := hk
        rcases hat with h | h
        · rw [hk'] at h
          exact ⟨hold k h.symm, .inl h⟩
        · rw [hk'] at h
          cases h
          exact ⟨S.bag.below.size, .inr (Nat.le_refl _)⟩
    obtain ⟨v1, w1, hr, hsz1, hbag⟩ := hrun
    refine S.val (v := v1) (w' := w1) (M' := (i, row base e enc sz v1 xs) :: M) hw hd hlt ?_ hbag (fun a' S' => HC v1 w1 hsz1 a' S')
    unfold execOp
    simp only [ho, resolve, invoke, Go.builtin, Sem.run_bind, Sem.run_pure, Result.andThen_ok, List.map_toArray, List.map_cons, List.map_nil, S.sl.eval hs, S.sl.eval hx, List.length_nil, hr]
  obtain ⟨b, off, rfl, h4⟩ := h3 hne
  have hlen : xs.length + ys.length ≤ 140737488355328 := Nat.le_trans (Nat.le_mul_of_pos_right _ hb0) hl
  have hnews : ∀ j u, (ys.flatMap enc)[j]? = some u → w.cell? ((⟨b, off, none⟩ : Addr).add j) = some u := by
    intro j u hj
    have hjl := (List.getElem?_eq_some_iff.1 hj).1
    rw [flatMap_len hel] at hjl
    have hq : j / sz < ys.length := by rw [Nat.div_lt_iff_lt_mul hsz]; exact hjl
    have e1 : j = j / sz * sz + j % sz := by rw [Nat.mul_comm]; exact (Nat.div_add_mod j sz).symm
    have hr := Nat.mod_lt j hsz
    obtain ⟨q, hq1⟩ : ∃ q, ys[j / sz]? = some q := ⟨_, List.getElem?_eq_getElem hq⟩
    obtain ⟨u', hu'⟩ : ∃ u', (enc q)[j % sz]? = some u' := ⟨_, List.getElem?_eq_getElem (by rw [hel]; exact hr)⟩
    have h5 := flatMap_get hel ys (j / sz) q hq1 (j % sz) u' hu'
    rw [← e1, hj] at h5
    cases h5
    have h6 := h4 (j / sz) q hq1 (j % sz) u hu'
    rw [Nat.add_assoc, ← e1] at h6
    rw [Addr.add_mid]
    exact h6
  obtain ⟨v1, w1, hr, hown, hg, _, hat⟩ := run_append_own_at (P := P) w base t o.type e i0 z sz bytes ht hi0 hz0 hz1 hz2 hz hsz v xs.length (xs.flatMap enc) HO ⟨b, off, none⟩ ys.length c (ys.flatMap enc) (flatMap_len hel ys) hnews
    (fun u hu => by obtain ⟨y, _, hy⟩ := List.mem_flatMap.1 hu; exact hone y u hy) (by simp only [maxLen]; omega) hl hbase
  have hown' : Owns w1 base e enc sz v1 (xs ++ ys) := by
    unfold Owns
    rw [List.flatMap_append, List.length_append]
    exact hown
  have hold := (S.bag.own i _ hi).1
  have hb : Below w0.heap.size w0 w1 := S.bag.below.grown hg S.bag.below.size (fun k hk => hold k hk)
  refine S.val (v := v1) (w' := w1) (M' := (i, row base e enc sz v1 (xs ++ ys)) :: M) hw hd hlt ?_ (S.bag.change i v.ownBlock (S.bag.far i hi) hb (fun k hk hne => hg.block k hk hne) _ hown' (fun k hk => ?_)) (fun a' S' => k v1 a' w1 hg.size S')
  · unfold execOp
    simp only [ho, resolve, invoke, Go.builtin, Sem.run_bind, Sem.run_pure, Result.andThen_ok, List.map_toArray, List.map_cons, List.map_nil, S.sl.eval hs, S.sl.eval hx, hr]
  · have hk' : v1.ownBlock = some k := hk
    rcases hat with h | h
    · rw [hk'] at h
      exact ⟨hold k h.symm, .inl h⟩
    · rw [hk'] at h
      cases h
      exact ⟨S.bag.below.size, .inr (Nat.le_refl _)⟩

/-! ### Calls -/
theorem St.call (S : St w0 n L M a w) (hw : Region.wanted o (yielded ops a.tmps) = true) {d : Nat} (hd : o.dst = some d) (hlt : Nat.blt d n = true) {f : FuncId} {xs : Array Operand} {ats : Array TypeId} (ho : o.op = .call { callee := .value (.func f), args := xs, argTypes := ats })
    {vs : List Value} (hx : evA L xs.toList = some vs) (he : ∀ args W, (callFunc f args).run P W = .ok (.enter f args) W) {R : Ending → World → Prop} (hc : Calls P f vs.toArray w R)
    (k : ∀ e w', R e w' → ∃ v, e = .returned v ∧ ∀ a', Sl n ((d, v) :: L) a' → wpList P ops Q rest a' w') : wpList P ops Q (o :: rest) a w := by
  have hv : xs.map a.eval = vs.toArray := by
    rw [← S.sl.evals hx, ← Array.toList_map, Array.toArray_toList]
  obtain ⟨dst, op, type, pos, after, guard⟩ := o
  have ho' : op = _ := ho
  have hd' : dst = _ := hd
  subst ho'
  refine BigFrame.wpList_want hw fun K hK => ?_
  unfold Oper.wp
  rw [execOp_call_go, he, Oper.upon_enter, hv]
  have e1 : #[] ++ vs.toArray ++ #[] = vs.toArray := by simp
  rw [e1]
  refine hc.mono fun e w' hR => ?_
  obtain ⟨v, rfl, h⟩ := k e w' hR
  subst hd'
  exact hK _ _ (h _ (S.sl.put hlt v))
/-- It returns v; what was there is as it was. -/
theorem St.callB (S : St w0 n L M a w) (hw : Region.wanted o (yielded ops a.tmps) = true) {d : Nat} (hd : o.dst = some d) (hlt : Nat.blt d n = true) {f : FuncId} {xs : Array Operand} {ats : Array TypeId} (ho : o.op = .call { callee := .value (.func f), args := xs, argTypes := ats })
    {vs : List Value} (hx : evA L xs.toList = some vs) (he : ∀ args W, (callFunc f args).run P W = .ok (.enter f args) W) {v : Value} (hc : Calls P f vs.toArray w (RetB v w))
    (k : ∀ a' w', Below w.heap.size w w' → St w0 n ((d, v) :: L) M a' w' → wpList P ops Q rest a' w') : wpList P ops Q (o :: rest) a w :=
  S.call hw hd hlt ho hx he hc fun _ w' hR => ⟨v, hR.1, fun a' S' => k a' w' hR.2 ⟨S', S.bag.call hR.2⟩⟩
/-- It returns v; the world is as it was. -/
theorem St.callQ (S : St w0 n L M a w) (hw : Region.wanted o (yielded ops a.tmps) = true) {d : Nat} (hd : o.dst = some d) (hlt : Nat.blt d n = true) {f : FuncId} {xs : Array Operand} {ats : Array TypeId} (ho : o.op = .call { callee := .value (.func f), args := xs, argTypes := ats })
    {vs : List Value} (hx : evA L xs.toList = some vs) (he : ∀ args W, (callFunc f args).run P W = .ok (.enter f args) W) {v : Value} (hc : Calls P f vs.toArray w (RetQ v w))
    (k : ∀ a', St w0 n ((d, v) :: L) M a' w → wpList P ops Q rest a' w) : wpList P ops Q (o :: rest) a w :=
  S.call hw hd hlt ho hx he hc fun e w' hR => by
    obtain ⟨rfl, rfl⟩ := hR
    exact ⟨v, rfl, fun a' S' => k a' ⟨S', S.bag⟩⟩
/-- Whatever it returns, of which something is known. -/
theorem St.callX (S : St w0 n L M a w) (hw : Region.wanted o (yielded ops a.tmps) = true) {d : Nat} (hd : o.dst = some d) (hlt : Nat.blt d n = true) {f : FuncId} {xs : Array Operand} {ats : Array TypeId} (ho : o.op = .call { callee := .value (.func f), args := xs, argTypes := ats })
    {vs : List Value} (hx : evA L xs.toList = some vs) (he : ∀ args W, (callFunc f args).run P W = .ok (.enter f args) W) {R : Ending → World → Prop} (hc : Calls P f vs.toArray w R) (H : Value → World → Prop) (hH : ∀ e w', R e w' → ∃ v, e = .returned v ∧ H v w' ∧ Below w.heap.size w w')
    (k : ∀ v a' w', H v w' → Below w.heap.size w w' → St w0 n ((d, v) :: L) M a' w' → wpList P ops Q rest a' w') : wpList P ops Q (o :: rest) a w :=
  S.call hw hd hlt ho hx he hc fun e w' hR => by
    obtain ⟨v, rfl, h1, h2⟩ := hH e w' hR
    exact ⟨v, rfl, fun a' S' => k v a' w' h1 h2 ⟨S', S.bag.call h2⟩⟩

/-! ### Regions that draw their order, and only read and call what makes memory -/
theorem St.quiet {id : Nat} {l : List Oper} (S : St w0 n L M a w) (hm : P.follows .mixedOrders = true) (hB : Region.lexB .any l.toArray = true)
    (h : ∀ a, Sl n L a → wpQuiet P l.toArray (Bag w0 M) (fun a' => ∀ w', Bag w0 M w' → Q .normal a' w') l a) : (Code.region id l.toArray true).wp P Q a w :=
  wp_region_quiet (C := Bag w0 M) hm hB S.bag.drew (h a S.sl)
variable {C : World → Prop} {K : Act → Prop}
theorem Sl.qend (S : Sl n L a) (h : Sl n L a → K a) : wpQuiet P ops C K [] a := h S
theorem Sl.qval (S : Sl n L a) (hw : Region.wanted o (yielded ops a.tmps) = true) {d : Nat} (hd : o.dst = some d) (hlt : Nat.blt d n = true) {v : Value} (hr : ∀ w, C w → (execOp a.eval o).run P w = .ok (.value v) w)
    (k : ∀ a', Sl n ((d, v) :: L) a' → wpQuiet P ops C K rest a') : wpQuiet P ops C K (o :: rest) a := by
  refine wpQuiet_step fun K' hK => ?_
  rw [if_pos hw]
  refine ⟨v, fun w hC => ?_, ?_⟩
  · unfold Oper.quietAt
    rw [hr w hC]
    exact ⟨rfl, rfl⟩
  · rw [hd]
    exact hK _ (k _ (S.put hlt v))
theorem Sl.qskip (S : Sl n L a) (hw : Region.wanted o (yielded ops a.tmps) = false) {d : Nat} (hd : o.dst = some d) (hlt : Nat.blt d n = true)
    (k : ∀ a', Sl n ((d, undef) :: L) a' → wpQuiet P ops C K rest a') : wpQuiet P ops C K (o :: rest) a := by
  refine wpQuiet_step fun K' hK => ?_
  rw [if_neg (by rw [hw]; exact Bool.false_ne_true), hd]
  exact hK _ (k _ (S.put hlt undef))
theorem want_none (HG : o.guard = none) : Region.wanted o (yielded ops a.tmps) = true := by simp [Region.wanted, HG]
def nthO : List Oper → Nat → Option Oper
  | [], _ => none
  | o :: _, 0 => some o
  | _ :: l, j + 1 => nthO l j
theorem nthO_eq : ∀ (l : List Oper) (j : Nat), nthO l j = l[j]?
  | [], _ => by simp [nthO]
  | o :: l, 0 => by simp [nthO]
  | o :: l, j + 1 => by simp [nthO, nthO_eq l j]
theorem Sl.want (S : Sl n L a) {l : List Oper} {j : Nat} {b : Bool} (hg : o.guard = some (j, b)) {oj : Oper} (hj : nthO l j = some oj) {d : Nat} (hd : oj.dst = some d) (hlt : Nat.blt d n = true) (hv : lk L d = some (.bool b)) : Region.wanted o (yielded l.toArray a.tmps) = true := by
  rw [nthO_eq] at hj
  have h1 := S.has d _ hv
  have h2 : a.tmps[d]? = some (.bool b) := by
    have : d < a.tmps.size := by rw [S.size]; exact lt_of_blt hlt
    rw [Array.getD_eq_getD_getElem?] at h1
    rw [Array.getElem?_eq_getElem this] at h1 ⊢
    exact congrArg some h1
  simp [Region.wanted, hg, yielded, hj, hd, h2]
theorem Sl.unwant (S : Sl n L a) {l : List Oper} {j : Nat} {b : Bool} (hg : o.guard = some (j, b)) {oj : Oper} (hj : nthO l j = some oj) {d : Nat} (hd : oj.dst = some d) (hlt : Nat.blt d n = true) {u : Value} (hv : lk L d = some u) (hu : u = .bool (!b) ∨ u = undef) : Region.wanted o (yielded l.toArray a.tmps) = false := by
  rw [nthO_eq] at hj
  have h1 := S.has d _ hv
  have h2 : a.tmps[d]? = some u := by
    have : d < a.tmps.size := by rw [S.size]; exact lt_of_blt hlt
    rw [Array.getD_eq_getD_getElem?] at h1
    rw [Array.getElem?_eq_getElem this] at h1 ⊢
    exact congrArg some h1
  rcases hu with rfl | rfl
  · cases b <;> simp [Region.wanted, hg, yielded, hj, hd, h2]
  · simp [Region.wanted, hg, yielded, hj, hd, h2, undef]
theorem Sl.qmove (S : Sl n L a) (hw : Region.wanted o (yielded ops a.tmps) = true) {d : Nat} (hd : o.dst = some d) (hlt : Nat.blt d n = true) {x : Operand} (ho : o.op = .move x) {v : Value} (hx : evL L x = some v)
    (k : ∀ a', Sl n ((d, v) :: L) a' → wpQuiet P ops C K rest a') : wpQuiet P ops C K (o :: rest) a :=
  S.qval hw hd hlt (fun w _ => by unfold execOp; simp only [ho, S.eval hx, Sem.run_pure]) k
theorem Sl.qasg (S : Sl n L a) (hw : Region.wanted o (yielded ops a.tmps) = true) {d : Nat} (hd : o.dst = some d) (hlt : Nat.blt d n = true) {x : Operand} (ho : o.op = .assign x) {v : Value} (hx : evL L x = some v)
    (k : ∀ a', Sl n ((d, v) :: L) a' → wpQuiet P ops C K rest a') : wpQuiet P ops C K (o :: rest) a :=
  S.qval hw hd hlt (fun w _ => by unfold execOp; simp only [ho, S.eval hx, Sem.run_pure]) k
theorem Sl.qpickT (S : Sl n L a) (hw : Region.wanted o (yielded ops a.tmps) = true) {d : Nat} (hd : o.dst = some d) (hlt : Nat.blt d n = true) {c x y : Operand} (ho : o.op = .pick c x y) (hc : evL L c = some (.bool true)) {v : Value} (hx : evL L x = some v)
    (k : ∀ a', Sl n ((d, v) :: L) a' → wpQuiet P ops C K rest a') : wpQuiet P ops C K (o :: rest) a :=
  S.qval hw hd hlt (fun w _ => by unfold execOp; simp only [ho, S.eval hc, S.eval hx, asBool, Sem.run_bind, Sem.run_pure, Result.andThen_ok, if_true]) k
theorem Sl.qpickF (S : Sl n L a) (hw : Region.wanted o (yielded ops a.tmps) = true) {d : Nat} (hd : o.dst = some d) (hlt : Nat.blt d n = true) {c x y : Operand} (ho : o.op = .pick c x y) (hc : evL L c = some (.bool false)) {v : Value} (hy : evL L y = some v)
    (k : ∀ a', Sl n ((d, v) :: L) a' → wpQuiet P ops C K rest a') : wpQuiet P ops C K (o :: rest) a :=
  S.qval hw hd hlt (fun w _ => by unfold execOp; simp only [ho, S.eval hc, S.eval hy, asBool, Sem.run_bind, Sem.run_pure, Result.andThen_ok, Bool.false_eq_true, if_false]) k
theorem Sl.qextract (S : Sl n L a) (hw : Region.wanted o (yielded ops a.tmps) = true) {d : Nat} (hd : o.dst = some d) (hlt : Nat.blt d n = true) {x : Operand} {i : Nat} (ho : o.op = .extract x i) {vs : Array Value} (hx : evL L x = some (.tuple vs)) {v : Value} (hv : lk (enL 0 vs.toList) i = some v)
    (k : ∀ a', Sl n ((d, v) :: L) a' → wpQuiet P ops C K rest a') : wpQuiet P ops C K (o :: rest) a :=
  S.qval hw hd hlt (fun w _ => by
    have h1 := (lk_enL vs.toList 0 i v hv).2
    rw [Nat.sub_zero, Array.getElem?_toList] at h1
    unfold execOp; simp only [ho, S.eval hx, Instr.extract, h1, Sem.run_bind, Sem.run_pure, Result.andThen_ok]) k
theorem Sl.qload (S : Sl n L a) (hw : Region.wanted o (yielded ops a.tmps) = true) {d : Nat} (hd : o.dst = some d) (hlt : Nat.blt d n = true) {T : TypeId} {x : Operand} (ho : o.op = .load T x) {p v : Value} (hx : evL L x = some p)
    (hr : ∀ w, C w → (Instr.loadAt T p).run P w = .ok v w)
    (k : ∀ a', Sl n ((d, v) :: L) a' → wpQuiet P ops C K rest a') : wpQuiet P ops C K (o :: rest) a :=
  S.qval hw hd hlt (fun w hC => by unfold execOp; simp only [ho, S.eval hx, Sem.run_bind, hr w hC, Sem.run_pure, Result.andThen_ok]) k
theorem Bag.loadR {w0 w : World} {M : Mem} (h : Bag w0 M w) {T : TypeId} {m : Nat} (hT : RowTy P T m) (i : Nat) {b : Nat} {cs : Array Value} {t : TypeId} (hi : lk M i = some (blk b cs t)) (hm : cs.size = m) : (Instr.loadAt T (.pointer (some ⟨b, 0, none⟩))).run P w = .ok (.agg cs) w :=
  hT.load (by
    rw [(h.at i hi).row]
    unfold rowIn
    rw [if_pos (by simp [hm])]
    simp [← hm])
theorem Bag.load1 {w0 w : World} {M : Mem} (h : Bag w0 M w) {T : TypeId} (hT : OneTy P T) (i : Nat) {b off : Nat} {cs : Array Value} {t : TypeId} (hi : lk M i = some (blk b cs t)) {v : Value} (hv : cs[off]? = some v) : (Instr.loadAt T (.pointer (some ⟨b, off, none⟩))).run P w = .ok v w :=
  hT.load (by rw [(h.at i hi).cell]; exact hv)
theorem Sl.qbin (S : Sl n L a) (hw : Region.wanted o (yielded ops a.tmps) = true) {d : Nat} (hd : o.dst = some d) (hlt : Nat.blt d n = true) {b : BinOp} {T T' : TypeId} {x y : Operand} (ho : o.op = .binOp b T x y T') {u v r : Value} (hx : evL L x = some u) (hy : evL L y = some v)
    (hr : ∀ w, C w → (do eqGuard b T x y u v; binOp b T u v : Sem Value).run P w = .ok r w)
    (k : ∀ a', Sl n ((d, r) :: L) a' → wpQuiet P ops C K rest a') : wpQuiet P ops C K (o :: rest) a :=
  S.qval hw hd hlt (fun w hC => by
    unfold execOp
    simp only [ho, S.eval hx, S.eval hy]
    rw [Sem.run_bind, hr w hC]
    rfl) k
theorem Sl.qconv (S : Sl n L a) (hw : Region.wanted o (yielded ops a.tmps) = true) {d : Nat} (hd : o.dst = some d) (hlt : Nat.blt d n = true) {T T' : TypeId} {x : Operand} (ho : o.op = .convert T T' x) {u r : Value} (hx : evL L x = some u)
    (hr : ∀ w, C w → (convert T T' u).run P w = .ok r w)
    (k : ∀ a', Sl n ((d, r) :: L) a' → wpQuiet P ops C K rest a') : wpQuiet P ops C K (o :: rest) a :=
  S.qval hw hd hlt (fun w hC => by unfold execOp; simp only [ho, S.eval hx, Sem.run_bind, hr w hC, Sem.run_pure, Result.andThen_ok]) k
theorem Sl.qindex (S : Sl n L a) (hw : Region.wanted o (yielded ops a.tmps) = true) {d : Nat} (hd : o.dst = some d) (hlt : Nat.blt d n = true) {T : TypeId} {x y : Operand} (ho : o.op = .index T x y) {u v r : Value} (hx : evL L x = some u) (hy : evL L y = some v)
    (hr : ∀ w, C w → (Instr.index T u v).run P w = .ok r w)
    (k : ∀ a', Sl n ((d, r) :: L) a' → wpQuiet P ops C K rest a') : wpQuiet P ops C K (o :: rest) a :=
  S.qval hw hd hlt (fun w hC => by unfold execOp; simp only [ho, S.eval hx, S.eval hy, Sem.run_bind, hr w hC, Sem.run_pure, Result.andThen_ok]) k
theorem Sl.qindexA (S : Sl n L a) (hw : Region.wanted o (yielded ops a.tmps) = true) {d : Nat} (hd : o.dst = some d) (hlt : Nat.blt d n = true) {T : TypeId} {x y : Operand} (ho : o.op = .indexAddr T x y) {u v r : Value} (hx : evL L x = some u) (hy : evL L y = some v)
    (hr : ∀ w, C w → (Instr.indexAt T u v).run P w = .ok r w)
    (k : ∀ a', Sl n ((d, r) :: L) a' → wpQuiet P ops C K rest a') : wpQuiet P ops C K (o :: rest) a :=
  S.qval hw hd hlt (fun w hC => by unfold execOp; simp only [ho, S.eval hx, S.eval hy, Sem.run_bind, hr w hC, Sem.run_pure, Result.andThen_ok]) k
theorem Sl.qfieldA (S : Sl n L a) (hw : Region.wanted o (yielded ops a.tmps) = true) {d : Nat} (hd : o.dst = some d) (hlt : Nat.blt d n = true) {T : TypeId} {x : Operand} {i : Nat} (ho : o.op = .fieldAddr T x i) {u r : Value} (hx : evL L x = some u)
    (hr : ∀ w, C w → (Instr.fieldAt T u i).run P w = .ok r w)
    (k : ∀ a', Sl n ((d, r) :: L) a' → wpQuiet P ops C K rest a') : wpQuiet P ops C K (o :: rest) a :=
  S.qval hw hd hlt (fun w hC => by unfold execOp; simp only [ho, S.eval hx, Sem.run_bind, hr w hC, Sem.run_pure, Result.andThen_ok]) k
theorem Sl.qcall (S : Sl n L a) (hw : Region.wanted o (yielded ops a.tmps) = true) {d : Nat} (hd : o.dst = some d) (hlt : Nat.blt d n = true) {f : FuncId} {xs : Array Operand} {ats : Array TypeId} (ho : o.op = .call { callee := .value (.func f), args := xs, argTypes := ats })
    {vs : List Value} (hx : evA L xs.toList = some vs) (he : ∀ args W, (callFunc f args).run P W = .ok (.enter f args) W) {v : Value} (hc : ∀ w, C w → Calls P f vs.toArray w (fun e w' => e = .returned v ∧ C w'))
    (k : ∀ a', Sl n ((d, v) :: L) a' → wpQuiet P ops C K rest a') : wpQuiet P ops C K (o :: rest) a := by
  have hv : xs.map a.eval = vs.toArray := by
    rw [← S.evals hx, ← Array.toList_map, Array.toArray_toList]
  obtain ⟨dst, op, type, pos, after, guard⟩ := o
  have ho' : op = _ := ho
  have hd' : dst = _ := hd
  subst ho' hd'
  refine wpQuiet_step fun K' hK => ?_
  rw [if_pos hw]
  refine ⟨v, fun w hC => ?_, hK _ (k _ (S.put hlt v))⟩
  unfold Oper.quietAt
  rw [execOp_call_go, he, hv]
  have e1 : #[] ++ vs.toArray ++ #[] = vs.toArray := by simp
  rw [e1]
  exact ⟨rfl, hc w hC⟩
theorem Bag.calls {w0 : World} {M : Mem} {f : FuncId} {args : Array Value} {v : Value} (h : ∀ w, Bag w0 M w → Calls P f args w (RetB v w)) : ∀ w, Bag w0 M w → Calls P f args w (fun e w' => e = .returned v ∧ Bag w0 M w') :=
  fun w hw => (h w hw).mono fun _ _ ⟨he, hb⟩ => ⟨he, hw.call hb⟩
theorem Bag.callsQ {w0 : World} {M : Mem} {f : FuncId} {args : Array Value} {v : Value} (h : ∀ w, Bag w0 M w → Calls P f args w (RetQ v w)) : ∀ w, Bag w0 M w → Calls P f args w (fun e w' => e = .returned v ∧ Bag w0 M w') :=
  fun w hw => (h w hw).mono fun _ _ ⟨he, hb⟩ => ⟨he, hb ▸ hw⟩
end
end Fb
