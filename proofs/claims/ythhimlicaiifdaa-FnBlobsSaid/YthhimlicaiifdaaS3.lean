/- Walking by slots: frames that lie elsewhere; regions that end in a store; least and greatest; lists of dots. -/
import Derived.Test.YthhimlicaiifdaaS1
import Derived.Test.YthhimlicaiifdaaY2
import Derived.StillTail
set_option maxRecDepth 100000
set_option linter.unusedSimpArgs false
set_option linter.unusedVariables false
namespace Fb
open Go Go.RowKit
section
variable {P : Program} {Q : Exit → Act → World → Prop} {a : Act} {w : World} {ops : Array Oper} {rest : List Oper} {o : Oper} {w0 : World} {n : Nat} {L : Slots} {M : Mem} {C : World → Prop} {K : Act → Prop}
theorem St.nilc (S : St w0 n L M a w) (hw : Region.wanted o (yielded ops a.tmps) = true) {d : Nat} (hd : o.dst = some d) (hlt : Nat.blt d n = true) {x : Operand} (ho : o.op = .nilCheck x) {p : Addr} (hx : evL L x = some (.pointer (some p)))
    (k : ∀ a', St w0 n ((d, .pointer (some p)) :: L) M a' w → wpList P ops Q rest a' w) : wpList P ops Q (o :: rest) a w :=
  S.val hw hd hlt (by unfold execOp; simp only [ho, S.sl.eval hx, Sem.run_pure]) S.bag k
theorem Sl.qnilc (S : Sl n L a) (hw : Region.wanted o (yielded ops a.tmps) = true) {d : Nat} (hd : o.dst = some d) (hlt : Nat.blt d n = true) {x : Operand} (ho : o.op = .nilCheck x) {p : Addr} (hx : evL L x = some (.pointer (some p)))
    (k : ∀ a', Sl n ((d, .pointer (some p)) :: L) a' → wpQuiet P ops C K rest a') : wpQuiet P ops C K (o :: rest) a :=
  S.qval hw hd hlt (fun w _ => by unfold execOp; simp only [ho, S.eval hx, Sem.run_pure]) k
theorem Sl.qbuiltin (S : Sl n L a) (hw : Region.wanted o (yielded ops a.tmps) = true) {d : Nat} (hd : o.dst = some d) (hlt : Nat.blt d n = true) {bi : Builtin} {xs : Array Operand} {ats : Array TypeId} (ho : o.op = .call { callee := .builtin bi, args := xs, argTypes := ats }) {vs : List Value} (hx : evA L xs.toList = some vs) {r : Value}
    (hr : ∀ w, C w → (Go.builtin bi ats o.type (xs.map fun | .const _ => true | _ => false) vs.toArray).run P w = .ok (.value r) w)
    (k : ∀ a', Sl n ((d, r) :: L) a' → wpQuiet P ops C K rest a') : wpQuiet P ops C K (o :: rest) a := by
  have hv : xs.map a.eval = vs.toArray := by
    rw [← S.evals hx, ← Array.toList_map, Array.toArray_toList]
  obtain ⟨dst, op, type, pos, after, guard⟩ := o
  have ho' : op = _ := ho
  subst ho'
  refine S.qval hw hd hlt (fun w hC => ?_) k
  rw [BigFrame.execOp_builtin, hv]
  exact hr w hC
theorem Sl.qun (S : Sl n L a) (hw : Region.wanted o (yielded ops a.tmps) = true) {d : Nat} (hd : o.dst = some d) (hlt : Nat.blt d n = true) {b : UnOp} {T : TypeId} {x : Operand} (ho : o.op = .unOp b T x) {u r : Value} (hx : evL L x = some u)
    (hr : ∀ w, C w → (Op.unary b u).run P w = .ok r w) (k : ∀ a', Sl n ((d, r) :: L) a' → wpQuiet P ops C K rest a') : wpQuiet P ops C K (o :: rest) a :=
  S.qval hw hd hlt (fun w hC => by unfold execOp; simp only [ho, S.eval hx, Sem.run_bind, hr w hC, Sem.run_pure, Result.andThen_ok]) k
theorem Sl.qfield (S : Sl n L a) (hw : Region.wanted o (yielded ops a.tmps) = true) {d : Nat} (hd : o.dst = some d) (hlt : Nat.blt d n = true) {T : TypeId} {x : Operand} {i : Nat} (ho : o.op = .field T x i) {u r : Value} (hx : evL L x = some u)
    (hr : ∀ w, C w → (Instr.field T u i).run P w = .ok r w) (k : ∀ a', Sl n ((d, r) :: L) a' → wpQuiet P ops C K rest a') : wpQuiet P ops C K (o :: rest) a :=
  S.qval hw hd hlt (fun w hC => by unfold execOp; simp only [ho, S.eval hx, Sem.run_bind, hr w hC, Sem.run_pure, Result.andThen_ok]) k
theorem Sl.qbuild (S : Sl n L a) (hw : Region.wanted o (yielded ops a.tmps) = true) {d : Nat} (hd : o.dst = some d) (hlt : Nat.blt d n = true) {T : TypeId} {parts : Array (Nat × Operand)} (ho : o.op = .build T parts) {r : Value}
    (hr : ∀ w, C w → (Instr.build T (parts.map fun (i, x) => (i, a.eval x))).run P w = .ok r w)
    (k : ∀ a', Sl n ((d, r) :: L) a' → wpQuiet P ops C K rest a') : wpQuiet P ops C K (o :: rest) a :=
  S.qval hw hd hlt (fun w hC => by unfold execOp; simp only [ho, Sem.run_bind, hr w hC, Sem.run_pure, Result.andThen_ok]) k

def EvsP (L : Slots) : List (Nat × Operand) → List (Nat × Value) → Prop
  | [], [] => True
  | (i, x) :: xs, (j, v) :: vs => i = j ∧ evL L x = some v ∧ EvsP L xs vs
  | _, _ => False
theorem Sl.evalP (h : Sl n L a) : ∀ {xs : List (Nat × Operand)} {vs : List (Nat × Value)}, EvsP L xs vs → xs.map (fun p => (p.1, a.eval p.2)) = vs
  | [], [], _ => rfl
  | (i, x) :: xs, (j, v) :: vs, hx => by
    obtain ⟨rfl, h1, h2⟩ := hx
    rw [List.map_cons, h.eval h1, h.evalP h2]
  | [], _ :: _, hx => False.elim hx
  | _ :: _, [], hx => False.elim hx
theorem Sl.evalsP (h : Sl n L a) {xs : Array (Nat × Operand)} {vs : List (Nat × Value)} (hx : EvsP L xs.toList vs) : (xs.map fun (i, x) => (i, a.eval x)) = vs.toArray := by
  rw [← h.evalP hx, ← Array.toList_map, Array.toArray_toList]
theorem St.buildP (S : St w0 n L M a w) (hw : Region.wanted o (yielded ops a.tmps) = true) {d : Nat} (hd : o.dst = some d) (hlt : Nat.blt d n = true) {T : TypeId} {parts : Array (Nat × Operand)} (ho : o.op = .build T parts) (ps : List (Nat × Value)) (hx : EvsP L parts.toList ps) {r : Value}
    (hr : (Instr.build T ps.toArray).run P w = .ok r w)
    (k : ∀ a', St w0 n ((d, r) :: L) M a' w → wpList P ops Q rest a' w) : wpList P ops Q (o :: rest) a w :=
  S.build hw hd hlt ho (by rw [S.sl.evalsP hx]; exact hr) k
theorem Sl.qbuildP (S : Sl n L a) (hw : Region.wanted o (yielded ops a.tmps) = true) {d : Nat} (hd : o.dst = some d) (hlt : Nat.blt d n = true) {T : TypeId} {parts : Array (Nat × Operand)} (ho : o.op = .build T parts) (ps : List (Nat × Value)) (hx : EvsP L parts.toList ps) {r : Value}
    (hr : ∀ w, C w → (Instr.build T ps.toArray).run P w = .ok r w)
    (k : ∀ a', Sl n ((d, r) :: L) a' → wpQuiet P ops C K rest a') : wpQuiet P ops C K (o :: rest) a :=
  S.qbuild hw hd hlt ho (fun w hC => by rw [S.evalsP hx]; exact hr w hC) k
/-- The address of an element of an array. -/
theorem idxArr {t e m sz : Nat} (ht : P.underlying t = some (.array m e)) (hm : 2 ≤ m) (hs : ∀ w, (Go.sizeOf e).run P w = .ok sz w) (b o : Nat) (ik : IntKind) {k : Nat} (hk : k < m) {w : World} :
    (Instr.indexAt t (.pointer (some ⟨b, o, none⟩)) (.int ik (k : Int))).run P w = .ok (.pointer (some ⟨b, o + k * sz, none⟩)) w := by
  have h1 : (0 : Int) ≤ k ∧ (k : Int) < m := by omega
  have ha : (⟨b, o, none⟩ : Addr).add (k * sz) = ⟨b, o + k * sz, none⟩ := Addr.add_mid b o (k * sz)
  unfold Instr.indexAt
  simp [asIntOf, Sem.run_bind, run_underlying ht, Instr.sureAddr, h1, hs, ha]
  intro h
  exact absurd h (by omega)

/-! ### A region that draws its order and ends in what writes -/
theorem wpStill_of_quiet {W : World} (hC : ∀ w, C w → w = W) (hW : C W) {Q' : Act → Prop} : ∀ (l : List Oper) (a : Act), wpQuiet P ops C Q' l a → wpStill P ops W Q' l a
  | [], _, h => h
  | o :: l, a, h => by
    unfold wpQuiet at h
    unfold wpStill
    split
    · rename_i hw
      rw [if_pos hw] at h
      obtain ⟨v, h1, h2⟩ := h
      have h3 := h1 W hW
      unfold Oper.still Oper.stillUpon
      unfold Oper.quietAt Oper.quietUpon at h3
      have h4 := wpStill_of_quiet hC hW l _ h2
      cases hr : (execOp a.eval o).run P W with
      | ok nx w' =>
        rw [hr] at h3
        cases nx <;> simp only at h3 ⊢
        case value u => obtain ⟨h5, rfl⟩ := h3; exact ⟨h5, h4⟩
        case skip => obtain ⟨h5, rfl⟩ := h3; exact ⟨h5, h4⟩
        case enter f args => exact ⟨h3.1, v, h3.2.mono fun e w'' ⟨he, hc⟩ => ⟨he, hC _ hc⟩, h4⟩
      | halt x w' => rw [hr] at h3; exact h3
    · rename_i hw
      rw [if_neg hw] at h
      exact wpStill_of_quiet hC hW l _ h
theorem St.tail {id : Nat} {l : List Oper} (S : St w0 n L M a w) (N : Nat) (hm : P.follows .mixedOrders = true) (hB : Region.lexTailB .any l.toArray N = true)
    (h : ∀ a W, Bag w0 M W → Sl n L a → wpQuiet P l.toArray (fun w' => Bag w0 M w' ∧ w' = W) (fun a' => wpList P l.toArray Q (l.drop N) a' W) (l.take N) a) : (Code.region id l.toArray true).wp P Q a w :=
  wp_region_still_tail N hm hB (wpStill_of_quiet (fun w' hw' => hw'.2) ⟨S.bag.drew, rfl⟩ _ _ (h a _ S.bag.drew S.sl))

theorem minI {T : TypeId} {k : IntKind} (hT : P.underlying T = some (.int k)) (ty : TypeId) (cs : Array Bool) (a b : Int) {w : World} : (Go.builtin .min #[T, T] ty cs #[.int k a, .int k b]).run P w = .ok (.value (.int k (min a b))) w := by
  have : min a b = if a ≤ b then a else b := by omega
  by_cases h : a ≤ b
  · rw [this, if_pos h]
    by_cases h2 : b < a
    · omega
    · simp [go_sem, hT, h, h2]
  · rw [this, if_neg h]
    have h2 : b < a := by omega
    simp [go_sem, hT, h, h2]
theorem maxI {T : TypeId} {k : IntKind} (hT : P.underlying T = some (.int k)) (ty : TypeId) (cs : Array Bool) (a b : Int) {w : World} : (Go.builtin .max #[T, T] ty cs #[.int k a, .int k b]).run P w = .ok (.value (.int k (max a b))) w := by
  have : max a b = if a ≤ b then b else a := by omega
  by_cases h : a ≤ b
  · rw [this, if_pos h]
    by_cases h2 : a < b
    · simp [go_sem, hT, h, h2]
    · have : a = b := by omega
      subst this
      simp [go_sem, hT]
  · rw [this, if_neg h]
    have h2 : ¬ a < b := by omega
    simp [go_sem, hT, h, h2]
end
end Fb
