/- Walking by slots: what functions that hand back frames end in; slices of dots, element by element; structs. -/
import Derived.Test.YthhimlicaiifdaaS3
import Derived.Test.YthhimlicaiifdaaY6
set_option maxRecDepth 100000
set_option linter.unusedSimpArgs false
set_option linter.unusedVariables false
namespace Fb
open Go Go.RowKit
section
variable {P : Program}
theorem addr0 (b o : Nat) : (⟨b, o, none⟩ : Addr).add 0 = ⟨b, o, none⟩ := Addr.add_mid b o 0
/-- The address of an element of a slice. -/
theorem idxS {t e sz : Nat} (ht : P.underlying t = some (.slice e)) (hs : ∀ w, (Go.sizeOf e).run P w = .ok sz w) (b o n c : Nat) (ik : IntKind) {k : Nat} (hk : k < n) {w : World} :
    (Instr.indexAt t (.slice (some ⟨b, o, none⟩) n c) (.int ik (k : Int))).run P w = .ok (.pointer (some ⟨b, o + k * sz, none⟩)) w := by
  have h1 : (0 : Int) ≤ k ∧ (k : Int) < n := by omega
  have ha : (⟨b, o, none⟩ : Addr).add (k * sz) = ⟨b, o + k * sz, none⟩ := Addr.add_mid b o (k * sz)
  unfold Instr.indexAt
  simp [asIntOf, Sem.run_bind, run_underlying ht, h1, hs, ha]
  intro h
  exact absurd h (by omega)
theorem idxS0 {t e sz : Nat} (ht : P.underlying t = some (.slice e)) (hs : ∀ w, (Go.sizeOf e).run P w = .ok sz w) (b n c : Nat) (ik : IntKind) {k : Nat} (hk : k < n) {w : World} :
    (Instr.indexAt t (.slice (some ⟨b, 0, none⟩) n c) (.int ik (k : Int))).run P w = .ok (.pointer (some ⟨b, k * sz, none⟩)) w := by
  have := idxS ht hs b 0 n c ik hk (w := w)
  rwa [Nat.zero_add] at this
theorem idxS00 {t e sz : Nat} (ht : P.underlying t = some (.slice e)) (hs : ∀ w, (Go.sizeOf e).run P w = .ok sz w) (b n c : Nat) (ik : IntKind) (hk : 0 < n) {w : World} :
    (Instr.indexAt t (.slice (some ⟨b, 0, none⟩) n c) (.int ik 0)).run P w = .ok (.pointer (some ⟨b, 0, none⟩)) w := by
  have := idxS0 ht hs b n c ik hk (w := w)
  rwa [Nat.zero_mul] at this
theorem Owns.cell {α : Type} {w : World} {base : Nat} {e : TypeId} {enc : α → List Value} {sz : Nat} {b n c : Nat} {xs : List α} (h : Owns w base e enc sz (.slice (some ⟨b, 0, none⟩) n c) xs) (hsz : ∀ x, (enc x).length = sz) {k : Nat} {x : α} (hk : xs[k]? = some x) {j : Nat} {u : Value} (hj : (enc x)[j]? = some u) : w.cell? ⟨b, k * sz + j, none⟩ = some u := by
  obtain ⟨b', hb', _, _, hc⟩ := h.at hsz hk
  cases hb'
  exact hc j u hj
theorem Owns.cell0 {α : Type} {w : World} {base : Nat} {e : TypeId} {enc : α → List Value} {sz : Nat} {b n c : Nat} {xs : List α} (h : Owns w base e enc sz (.slice (some ⟨b, 0, none⟩) n c) xs) (hsz : ∀ x, (enc x).length = sz) {k : Nat} {x : α} (hk : xs[k]? = some x) {u : Value} (hj : (enc x)[0]? = some u) : w.cell? ⟨b, k * sz, none⟩ = some u := h.cell hsz hk hj
theorem Owns.some {α : Type} {w : World} {base : Nat} {e : TypeId} {enc : α → List Value} {sz : Nat} {A : Option Addr} {n c : Nat} {xs : List α} (h : Owns w base e enc sz (.slice A n c) xs) (hsz : ∀ x, (enc x).length = sz) {k : Nat} {x : α} (hk : xs[k]? = some x) : ∃ b, A = Option.some ⟨b, 0, none⟩ := by
  obtain ⟨b, hb, _⟩ := h.at hsz hk
  exact ⟨b, hb⟩
end
end Fb
namespace Go.Proofs.Ythhimlicaiifdaa
open Go.RowKit Fb
theorem size52 (w : World) : (Go.sizeOf 52).run Try.prog w = .ok 2 w := by kernel_rfl
theorem size26 (w : World) : (Go.sizeOf 26).run Try.prog w = .ok 12 w := by kernel_rfl
theorem row52 : RowTy Try.prog 52 2 := ⟨⟨_, Try.underlying52, rfl⟩, by kernel_rfl⟩
theorem fld52_0 (b o : Nat) (w : World) : (Instr.fieldAt 52 (.pointer (some ⟨b, o, none⟩)) 0).run Try.prog w = .ok (.pointer (some ⟨b, o, none⟩)) w := by kernel_rfl
theorem fld52_1 (b o : Nat) (w : World) : (Instr.fieldAt 52 (.pointer (some ⟨b, o, none⟩)) 1).run Try.prog w = .ok (.pointer (some ⟨b, o + 1, none⟩)) w := by kernel_rfl
theorem retF2 {fn : Func} {R : Ending → World → Prop} {a : Act} {w w0 : World} {n : Nat} {L : Slots} {M : Mem} (S : St w0 n L M a w) {p q : Tmp} (hf : fn.results = #[.cell p 26, .tmp q]) (i : Nat) {b : Nat} {f : Fr} {t : TypeId} {v : Value}
    (hp : lk L p = some (.pointer (some ⟨b, 0, none⟩))) (hq : lk L q = some v) (hi : lk M i = some (blk b (frC f) t)) (hR : R (.returned (.tuple #[frV f, v])) w) : bodyPost Try.prog fn R .ret a w :=
  S.ret (results26_two hf (S.sl.has _ _ hp) (S.sl.has _ _ hq) (S.bag.at i hi)) hR
theorem retF1 {fn : Func} {R : Ending → World → Prop} {a : Act} {w w0 : World} {n : Nat} {L : Slots} {M : Mem} (S : St w0 n L M a w) {p : Tmp} (hf : fn.results = #[.cell p 26]) (i : Nat) {b : Nat} {f : Fr} {t : TypeId}
    (hp : lk L p = some (.pointer (some ⟨b, 0, none⟩))) (hi : lk M i = some (blk b (frC f) t)) (hR : R (.returned (frV f)) w) : bodyPost Try.prog fn R .ret a w :=
  S.ret (results26_blk hf (S.sl.has _ _ hp) (S.bag.at i hi)) hR
theorem sOk_ok (f : Fr) (b o : Nat) (w : World) (hF : FrAt w b o f) (hf : f.ok = true) : Calls Try.prog 109 #[.pointer (some ⟨b, o, none⟩)] w (RetQ (.bool true) w) := by
  have := sOk_any f b o w hF
  rwa [hf] at this
theorem _root_.Fb.Bag.frAt {w0 w : World} {M : Mem} (h : Bag w0 M w) (i : Nat) {b : Nat} {f : Fr} {t : TypeId} (hi : lk M i = some (blk b (frC f) t)) : FrAt w b 0 f := FrAt.of_blk (h.at i hi)

/-- The rows of a frame before k, the others empty. -/
def rowsTo (h : Fr) (k : Nat) : Fr := Fr.gen fun y => if y < k then h.row y else 0
theorem rowsTo_zero (h : Fr) : rowsTo h 0 = Fr.zero := Fr.ext_row fun y hy => by unfold rowsTo; rw [Fr.row_gen_lt _ hy, Fr.row_zero]; rfl
theorem rowsTo_all (h : Fr) : rowsTo h 12 = h := Fr.ext_row fun y hy => by unfold rowsTo; rw [Fr.row_gen_lt _ hy, if_pos hy]
theorem rowsTo_succ (h : Fr) {k : Nat} (hk : k < 12) : (rowsTo h k).set k (h.row k) = rowsTo h (k + 1) := Fr.ext_row fun y hy => by
  rw [Fr.row_set _ _ _ _ hk]
  unfold rowsTo
  rw [Fr.row_gen_lt _ hy, Fr.row_gen_lt _ hy]
  by_cases h1 : y = k
  · subst h1; rw [if_pos rfl, if_pos (by omega)]
  · rw [if_neg h1]
    by_cases h2 : y < k
    · rw [if_pos h2, if_pos (by omega)]
    · rw [if_neg h2, if_neg (by omega)]
theorem row_join {f g : Fr} {k : Nat} (hk : k < 12) : (f.join g).row k = f.row k ||| g.row k := Fr.row_map2 _ f g hk
theorem row_less {f g : Fr} {k : Nat} (hk : k < 12) : (f.less g).row k = f.row k &&& ~~~(g.row k) := Fr.row_map2 _ f g hk
theorem row_meet {f g : Fr} {k : Nat} (hk : k < 12) : (f.meet g).row k = f.row k &&& g.row k := Fr.row_map2 _ f g hk
end Go.Proofs.Ythhimlicaiifdaa
