/- Walking by slots: regions that draw their order and write: what reads is taken first, the rest comes up in every order. -/
import Derived.Test.YthhimlicaiifdaaS4
import Derived.Deep.RegionHeld
set_option maxRecDepth 100000
set_option linter.unusedSimpArgs false
set_option linter.unusedVariables false
namespace Fb
open Go Go.RowKit
def EachOf (p : Nat → Prop) : List Nat → Prop
  | [] => True
  | i :: is => p i ∧ EachOf p is
theorem EachOf.all {p : Nat → Prop} : ∀ {is : List Nat}, EachOf p is → ∀ i, i ∈ is → p i
  | _ :: _, h, i, hi => by
    rcases List.mem_cons.1 hi with rfl | hi
    · exact h.1
    · exact EachOf.all h.2 i hi
def FreshIn (M : Mem) : Mem → Prop
  | [] => True
  | p :: N => lk M p.1 = none ∧ FreshIn M N
theorem FreshIn.lk {M : Mem} : ∀ {N : Mem}, FreshIn M N → ∀ i e, lk M i = some e → lk (N ++ M) i = some e
  | [], _, _, _, h => h
  | p :: N, hF, i, e, h => by
    have hne : p.1 ≠ i := fun k => by
      have := hF.1
      rw [k, h] at this
      cases this
    rw [List.cons_append, lk_miss _ _ hne]
    exact FreshIn.lk hF.2 i e h
/-- What was known ahead of what has come since. -/
theorem Bag.base {w0 w : World} {M : Mem} (N : Mem) (h : Bag w0 (N ++ M) w) (hF : FreshIn M N) : Bag w0 M w := h.tell (hF.lk)
def nrm (K : Act → World → Prop) : Exit → Act → World → Prop
  | .normal, a, w => K a w
  | _, _, _ => False
section
variable {P : Program} {Q : Exit → Act → World → Prop} {a : Act} {w : World} {ops : Array Oper} {rest : List Oper} {o : Oper} {w0 : World} {n : Nat} {L : Slots} {M : Mem} {C : World → Prop} {Post : Act → World → Prop} {l : List Oper} {fuel : Nat} {listed : Array Bool}
theorem St.held {id : Nat} (S : St w0 n L M a w) (hm : P.follows .mixedOrders = true) (Post : Act → World → Prop) (hpost : ∀ a w, Post a w → Q .normal a w)
    (h : ∀ a w, Sl n L a → Bag w0 M w → wpAnyH P .any l.toArray (nrm Post) (Bag w0 M) l.toArray.size (Array.replicate l.toArray.size false) a w) : (Code.region id l.toArray true).wp P Q a w := by
  refine wp_mono (wp_region_held hm (h a _ S.sl S.bag.drew)) (fun e a w q => ?_)
  cases e <;> first | exact hpost _ _ q | exact False.elim q
/-- What may come up now and yields its value whatever else has come up is taken first. -/
theorem Sl.hval (S : Sl n L a) (i : Nat) (hi : nthO l i = some o) (hs : Region.noSelect l.toArray = true) (hf : Region.free .any l.toArray listed i = true) (hr : (Region.ready .any l.toArray listed).contains i = true) (hC : C w)
    (hw : Region.wanted o (yielded l.toArray a.tmps) = true) {d : Nat} (hd : o.dst = some d) (hlt : Nat.blt d n = true) {v : Value} (hv : ∀ w, C w → (execOp a.eval o).run P w = .ok (.value v) w)
    (k : ∀ a', Sl n ((d, v) :: L) a' → wpAnyH P .any l.toArray (nrm Post) C fuel (listed.setIfInBounds i true) a' w) : wpAnyH P .any l.toArray (nrm Post) C (fuel + 1) listed a w := by
  rw [nthO_eq] at hi
  refine wpAnyH_take (i := i) (oi := o) (v := v) (by simpa using hi) hs hf hr (fun _ _ _ h => h) (.inl ⟨hw, hv⟩) hC ?_
  rw [hd]
  exact k _ (S.put hlt v)
/-- Whatever comes up next: each of those that may. -/
theorem Sl.hany (rs : List Nat) (hr : Region.ready .any l.toArray listed = rs) (hne : rs ≠ []) (h : EachOf (fun i => ∃ o, nthO l i = some o ∧ wpList P l.toArray (nrm fun a' w' => C w' ∧ wpAnyH P .any l.toArray (nrm Post) C fuel (listed.setIfInBounds i true) a' w') [o] a w) rs) :
    wpAnyH P .any l.toArray (nrm Post) C (fuel + 1) listed a w := by
  refine wpAnyH_all hr hne fun i hi => ?_
  obtain ⟨o, ho, h1⟩ := h.all i hi
  rw [nthO_eq] at ho
  have ho' : l.toArray[i]? = some o := by simpa using ho
  unfold wpOp
  rw [ho']
  simp only
  unfold wpList at h1
  split
  · rename_i hw
    rw [if_pos hw] at h1
    rcases h1 with h1 | ⟨_, _, _, hx⟩
    · refine .inl ?_
      unfold Oper.wp at h1 ⊢
      cases hrun : (execOp a.eval o).run P w with
      | ok nx w' =>
        rw [hrun] at h1
        cases nx <;> simp only [Oper.upon] at h1 ⊢
        case value v => exact h1
        case skip => exact h1
        case defer d => exact h1
        case enter f args =>
          refine h1.mono fun e w'' he => ?_
          cases e with
          | returned v => exact he
          | panicked c => exact False.elim he
          | outgrown => exact False.elim (by obtain ⟨_, _, hx⟩ := he; exact hx)
        case row r args => exact h1.mono fun v w'' he => he
      | halt x w' =>
        rw [hrun] at h1
        cases x <;> simp only [Oper.upon] at h1 ⊢
        case panic v => exact False.elim h1
    · exact False.elim hx
  · rename_i hw
    rw [if_neg hw] at h1
    exact h1
theorem nrm_mk {K : Act → World → Prop} (h : K a w) : nrm K .normal a w := h
theorem hend (hr : Region.ready .any l.toArray listed = []) (h : Post a w) : wpAnyH P .any l.toArray (nrm Post) C fuel listed a w := wpAnyH_done hr h fuel
theorem Sl.hmove (S : Sl n L a) (i : Nat) (hi : nthO l i = some o) (hs : Region.noSelect l.toArray = true) (hf : Region.free .any l.toArray listed i = true) (hr : (Region.ready .any l.toArray listed).contains i = true) (hC : C w) (hw : Region.wanted o (yielded l.toArray a.tmps) = true) {d : Nat} (hd : o.dst = some d) (hlt : Nat.blt d n = true) {x : Operand} (ho : o.op = .move x) {v : Value} (hx : evL L x = some v)
    (k : ∀ a', Sl n ((d, v) :: L) a' → wpAnyH P .any l.toArray (nrm Post) C fuel (listed.setIfInBounds i true) a' w) : wpAnyH P .any l.toArray (nrm Post) C (fuel + 1) listed a w :=
  S.hval i hi hs hf hr hC hw hd hlt (fun w _ => by unfold execOp; simp only [ho, S.eval hx, Sem.run_pure]) k
theorem Sl.hasg (S : Sl n L a) (i : Nat) (hi : nthO l i = some o) (hs : Region.noSelect l.toArray = true) (hf : Region.free .any l.toArray listed i = true) (hr : (Region.ready .any l.toArray listed).contains i = true) (hC : C w) (hw : Region.wanted o (yielded l.toArray a.tmps) = true) {d : Nat} (hd : o.dst = some d) (hlt : Nat.blt d n = true) {x : Operand} (ho : o.op = .assign x) {v : Value} (hx : evL L x = some v)
    (k : ∀ a', Sl n ((d, v) :: L) a' → wpAnyH P .any l.toArray (nrm Post) C fuel (listed.setIfInBounds i true) a' w) : wpAnyH P .any l.toArray (nrm Post) C (fuel + 1) listed a w :=
  S.hval i hi hs hf hr hC hw hd hlt (fun w _ => by unfold execOp; simp only [ho, S.eval hx, Sem.run_pure]) k
theorem Sl.hpickT (S : Sl n L a) (i : Nat) (hi : nthO l i = some o) (hs : Region.noSelect l.toArray = true) (hf : Region.free .any l.toArray listed i = true) (hr : (Region.ready .any l.toArray listed).contains i = true) (hC : C w) (hw : Region.wanted o (yielded l.toArray a.tmps) = true) {d : Nat} (hd : o.dst = some d) (hlt : Nat.blt d n = true) {c x y : Operand} (ho : o.op = .pick c x y) (hc : evL L c = some (.bool true)) {v : Value} (hx : evL L x = some v)
    (k : ∀ a', Sl n ((d, v) :: L) a' → wpAnyH P .any l.toArray (nrm Post) C fuel (listed.setIfInBounds i true) a' w) : wpAnyH P .any l.toArray (nrm Post) C (fuel + 1) listed a w :=
  S.hval i hi hs hf hr hC hw hd hlt (fun w _ => by unfold execOp; simp only [ho, S.eval hc, S.eval hx, asBool, Sem.run_bind, Sem.run_pure, Result.andThen_ok, if_true]) k
theorem Sl.hpickF (S : Sl n L a) (i : Nat) (hi : nthO l i = some o) (hs : Region.noSelect l.toArray = true) (hf : Region.free .any l.toArray listed i = true) (hr : (Region.ready .any l.toArray listed).contains i = true) (hC : C w) (hw : Region.wanted o (yielded l.toArray a.tmps) = true) {d : Nat} (hd : o.dst = some d) (hlt : Nat.blt d n = true) {c x y : Operand} (ho : o.op = .pick c x y) (hc : evL L c = some (.bool false)) {v : Value} (hy : evL L y = some v)
    (k : ∀ a', Sl n ((d, v) :: L) a' → wpAnyH P .any l.toArray (nrm Post) C fuel (listed.setIfInBounds i true) a' w) : wpAnyH P .any l.toArray (nrm Post) C (fuel + 1) listed a w :=
  S.hval i hi hs hf hr hC hw hd hlt (fun w _ => by unfold execOp; simp only [ho, S.eval hc, S.eval hy, asBool, Sem.run_bind, Sem.run_pure, Result.andThen_ok, Bool.false_eq_true, if_false]) k
theorem Sl.hextract (S : Sl n L a) (i : Nat) (hi : nthO l i = some o) (hs : Region.noSelect l.toArray = true) (hf : Region.free .any l.toArray listed i = true) (hr : (Region.ready .any l.toArray listed).contains i = true) (hC : C w) (hw : Region.wanted o (yielded l.toArray a.tmps) = true) {d : Nat} (hd : o.dst = some d) (hlt : Nat.blt d n = true) {x : Operand} {j : Nat} (ho : o.op = .extract x j) {vs : Array Value} (hx : evL L x = some (.tuple vs)) {v : Value} (hv : lk (enL 0 vs.toList) j = some v)
    (k : ∀ a', Sl n ((d, v) :: L) a' → wpAnyH P .any l.toArray (nrm Post) C fuel (listed.setIfInBounds i true) a' w) : wpAnyH P .any l.toArray (nrm Post) C (fuel + 1) listed a w :=
  S.hval i hi hs hf hr hC hw hd hlt (fun w _ => by
    have h1 := (lk_enL vs.toList 0 j v hv).2
    rw [Nat.sub_zero, Array.getElem?_toList] at h1
    unfold execOp; simp only [ho, S.eval hx, Instr.extract, h1, Sem.run_bind, Sem.run_pure, Result.andThen_ok]) k
theorem Sl.hload (S : Sl n L a) (i : Nat) (hi : nthO l i = some o) (hs : Region.noSelect l.toArray = true) (hf : Region.free .any l.toArray listed i = true) (hr : (Region.ready .any l.toArray listed).contains i = true) (hC : C w) (hw : Region.wanted o (yielded l.toArray a.tmps) = true) {d : Nat} (hd : o.dst = some d) (hlt : Nat.blt d n = true) {T : TypeId} {x : Operand} (ho : o.op = .load T x) {p v : Value} (hx : evL L x = some p)
    (hrun : ∀ w, C w → (Instr.loadAt T p).run P w = .ok v w)
    (k : ∀ a', Sl n ((d, v) :: L) a' → wpAnyH P .any l.toArray (nrm Post) C fuel (listed.setIfInBounds i true) a' w) : wpAnyH P .any l.toArray (nrm Post) C (fuel + 1) listed a w :=
  S.hval i hi hs hf hr hC hw hd hlt (fun w hC => by unfold execOp; simp only [ho, S.eval hx, Sem.run_bind, hrun w hC, Sem.run_pure, Result.andThen_ok]) k
theorem Sl.hbin (S : Sl n L a) (i : Nat) (hi : nthO l i = some o) (hs : Region.noSelect l.toArray = true) (hf : Region.free .any l.toArray listed i = true) (hr : (Region.ready .any l.toArray listed).contains i = true) (hC : C w) (hw : Region.wanted o (yielded l.toArray a.tmps) = true) {d : Nat} (hd : o.dst = some d) (hlt : Nat.blt d n = true) {b : BinOp} {T T' : TypeId} {x y : Operand} (ho : o.op = .binOp b T x y T') {u v r : Value} (hx : evL L x = some u) (hy : evL L y = some v)
    (hrun : ∀ w, C w → (do eqGuard b T x y u v; binOp b T u v : Sem Value).run P w = .ok r w)
    (k : ∀ a', Sl n ((d, r) :: L) a' → wpAnyH P .any l.toArray (nrm Post) C fuel (listed.setIfInBounds i true) a' w) : wpAnyH P .any l.toArray (nrm Post) C (fuel + 1) listed a w :=
  S.hval i hi hs hf hr hC hw hd hlt (fun w hC => by
    unfold execOp
    simp only [ho, S.eval hx, S.eval hy]
    rw [Sem.run_bind, hrun w hC]
    rfl) k
theorem Sl.hconv (S : Sl n L a) (i : Nat) (hi : nthO l i = some o) (hs : Region.noSelect l.toArray = true) (hf : Region.free .any l.toArray listed i = true) (hr : (Region.ready .any l.toArray listed).contains i = true) (hC : C w) (hw : Region.wanted o (yielded l.toArray a.tmps) = true) {d : Nat} (hd : o.dst = some d) (hlt : Nat.blt d n = true) {T T' : TypeId} {x : Operand} (ho : o.op = .convert T T' x) {u r : Value} (hx : evL L x = some u)
    (hrun : ∀ w, C w → (convert T T' u).run P w = .ok r w)
    (k : ∀ a', Sl n ((d, r) :: L) a' → wpAnyH P .any l.toArray (nrm Post) C fuel (listed.setIfInBounds i true) a' w) : wpAnyH P .any l.toArray (nrm Post) C (fuel + 1) listed a w :=
  S.hval i hi hs hf hr hC hw hd hlt (fun w hC => by unfold execOp; simp only [ho, S.eval hx, Sem.run_bind, hrun w hC, Sem.run_pure, Result.andThen_ok]) k
theorem Sl.hindex (S : Sl n L a) (i : Nat) (hi : nthO l i = some o) (hs : Region.noSelect l.toArray = true) (hf : Region.free .any l.toArray listed i = true) (hr : (Region.ready .any l.toArray listed).contains i = true) (hC : C w) (hw : Region.wanted o (yielded l.toArray a.tmps) = true) {d : Nat} (hd : o.dst = some d) (hlt : Nat.blt d n = true) {T : TypeId} {x y : Operand} (ho : o.op = .index T x y) {u v r : Value} (hx : evL L x = some u) (hy : evL L y = some v)
    (hrun : ∀ w, C w → (Instr.index T u v).run P w = .ok r w)
    (k : ∀ a', Sl n ((d, r) :: L) a' → wpAnyH P .any l.toArray (nrm Post) C fuel (listed.setIfInBounds i true) a' w) : wpAnyH P .any l.toArray (nrm Post) C (fuel + 1) listed a w :=
  S.hval i hi hs hf hr hC hw hd hlt (fun w hC => by unfold execOp; simp only [ho, S.eval hx, S.eval hy, Sem.run_bind, hrun w hC, Sem.run_pure, Result.andThen_ok]) k
theorem Sl.hindexA (S : Sl n L a) (i : Nat) (hi : nthO l i = some o) (hs : Region.noSelect l.toArray = true) (hf : Region.free .any l.toArray listed i = true) (hr : (Region.ready .any l.toArray listed).contains i = true) (hC : C w) (hw : Region.wanted o (yielded l.toArray a.tmps) = true) {d : Nat} (hd : o.dst = some d) (hlt : Nat.blt d n = true) {T : TypeId} {x y : Operand} (ho : o.op = .indexAddr T x y) {u v r : Value} (hx : evL L x = some u) (hy : evL L y = some v)
    (hrun : ∀ w, C w → (Instr.indexAt T u v).run P w = .ok r w)
    (k : ∀ a', Sl n ((d, r) :: L) a' → wpAnyH P .any l.toArray (nrm Post) C fuel (listed.setIfInBounds i true) a' w) : wpAnyH P .any l.toArray (nrm Post) C (fuel + 1) listed a w :=
  S.hval i hi hs hf hr hC hw hd hlt (fun w hC => by unfold execOp; simp only [ho, S.eval hx, S.eval hy, Sem.run_bind, hrun w hC, Sem.run_pure, Result.andThen_ok]) k
theorem Sl.hfieldA (S : Sl n L a) (i : Nat) (hi : nthO l i = some o) (hs : Region.noSelect l.toArray = true) (hf : Region.free .any l.toArray listed i = true) (hr : (Region.ready .any l.toArray listed).contains i = true) (hC : C w) (hw : Region.wanted o (yielded l.toArray a.tmps) = true) {d : Nat} (hd : o.dst = some d) (hlt : Nat.blt d n = true) {T : TypeId} {x : Operand} {j : Nat} (ho : o.op = .fieldAddr T x j) {u r : Value} (hx : evL L x = some u)
    (hrun : ∀ w, C w → (Instr.fieldAt T u j).run P w = .ok r w)
    (k : ∀ a', Sl n ((d, r) :: L) a' → wpAnyH P .any l.toArray (nrm Post) C fuel (listed.setIfInBounds i true) a' w) : wpAnyH P .any l.toArray (nrm Post) C (fuel + 1) listed a w :=
  S.hval i hi hs hf hr hC hw hd hlt (fun w hC => by unfold execOp; simp only [ho, S.eval hx, Sem.run_bind, hrun w hC, Sem.run_pure, Result.andThen_ok]) k
theorem Sl.hnilc (S : Sl n L a) (i : Nat) (hi : nthO l i = some o) (hs : Region.noSelect l.toArray = true) (hf : Region.free .any l.toArray listed i = true) (hr : (Region.ready .any l.toArray listed).contains i = true) (hC : C w) (hw : Region.wanted o (yielded l.toArray a.tmps) = true) {d : Nat} (hd : o.dst = some d) (hlt : Nat.blt d n = true) {x : Operand} (ho : o.op = .nilCheck x) {p : Addr} (hx : evL L x = some (.pointer (some p)))
    (k : ∀ a', Sl n ((d, .pointer (some p)) :: L) a' → wpAnyH P .any l.toArray (nrm Post) C fuel (listed.setIfInBounds i true) a' w) : wpAnyH P .any l.toArray (nrm Post) C (fuel + 1) listed a w :=
  S.hval i hi hs hf hr hC hw hd hlt (fun w _ => by unfold execOp; simp only [ho, S.eval hx, Sem.run_pure]) k
theorem Sl.hbuiltin (S : Sl n L a) (i : Nat) (hi : nthO l i = some o) (hs : Region.noSelect l.toArray = true) (hf : Region.free .any l.toArray listed i = true) (hr : (Region.ready .any l.toArray listed).contains i = true) (hC : C w) (hw : Region.wanted o (yielded l.toArray a.tmps) = true) {d : Nat} (hd : o.dst = some d) (hlt : Nat.blt d n = true) {bi : Builtin} {xs : Array Operand} {ats : Array TypeId} (ho : o.op = .call { callee := .builtin bi, args := xs, argTypes := ats }) {vs : List Value} (hx : evA L xs.toList = some vs) {r : Value}
    (hrun : ∀ w, C w → (Go.builtin bi ats o.type (xs.map fun | .const _ => true | _ => false) vs.toArray).run P w = .ok (.value r) w)
    (k : ∀ a', Sl n ((d, r) :: L) a' → wpAnyH P .any l.toArray (nrm Post) C fuel (listed.setIfInBounds i true) a' w) : wpAnyH P .any l.toArray (nrm Post) C (fuel + 1) listed a w := by
  have hv : xs.map a.eval = vs.toArray := by
    rw [← S.evals hx, ← Array.toList_map, Array.toArray_toList]
  obtain ⟨dst, op, type, pos, after, guard⟩ := o
  have ho' : op = _ := ho
  subst ho'
  refine S.hval i hi hs hf hr hC hw hd hlt (fun w hC => ?_) k
  rw [BigFrame.execOp_builtin, hv]
  exact hrun w hC
theorem Sl.hun (S : Sl n L a) (i : Nat) (hi : nthO l i = some o) (hs : Region.noSelect l.toArray = true) (hf : Region.free .any l.toArray listed i = true) (hr : (Region.ready .any l.toArray listed).contains i = true) (hC : C w) (hw : Region.wanted o (yielded l.toArray a.tmps) = true) {d : Nat} (hd : o.dst = some d) (hlt : Nat.blt d n = true) {b : UnOp} {T : TypeId} {x : Operand} (ho : o.op = .unOp b T x) {u r : Value} (hx : evL L x = some u)
    (hrun : ∀ w, C w → (Op.unary b u).run P w = .ok r w) (k : ∀ a', Sl n ((d, r) :: L) a' → wpAnyH P .any l.toArray (nrm Post) C fuel (listed.setIfInBounds i true) a' w) : wpAnyH P .any l.toArray (nrm Post) C (fuel + 1) listed a w :=
  S.hval i hi hs hf hr hC hw hd hlt (fun w hC => by unfold execOp; simp only [ho, S.eval hx, Sem.run_bind, hrun w hC, Sem.run_pure, Result.andThen_ok]) k
theorem Sl.hfield (S : Sl n L a) (i : Nat) (hi : nthO l i = some o) (hs : Region.noSelect l.toArray = true) (hf : Region.free .any l.toArray listed i = true) (hr : (Region.ready .any l.toArray listed).contains i = true) (hC : C w) (hw : Region.wanted o (yielded l.toArray a.tmps) = true) {d : Nat} (hd : o.dst = some d) (hlt : Nat.blt d n = true) {T : TypeId} {x : Operand} {j : Nat} (ho : o.op = .field T x j) {u r : Value} (hx : evL L x = some u)
    (hrun : ∀ w, C w → (Instr.field T u j).run P w = .ok r w) (k : ∀ a', Sl n ((d, r) :: L) a' → wpAnyH P .any l.toArray (nrm Post) C fuel (listed.setIfInBounds i true) a' w) : wpAnyH P .any l.toArray (nrm Post) C (fuel + 1) listed a w :=
  S.hval i hi hs hf hr hC hw hd hlt (fun w hC => by unfold execOp; simp only [ho, S.eval hx, Sem.run_bind, hrun w hC, Sem.run_pure, Result.andThen_ok]) k
theorem Sl.hbuild (S : Sl n L a) (i : Nat) (hi : nthO l i = some o) (hs : Region.noSelect l.toArray = true) (hf : Region.free .any l.toArray listed i = true) (hr : (Region.ready .any l.toArray listed).contains i = true) (hC : C w) (hw : Region.wanted o (yielded l.toArray a.tmps) = true) {d : Nat} (hd : o.dst = some d) (hlt : Nat.blt d n = true) {T : TypeId} {parts : Array (Nat × Operand)} (ho : o.op = .build T parts) {r : Value}
    (hrun : ∀ w, C w → (Instr.build T (parts.map fun (i, x) => (i, a.eval x))).run P w = .ok r w)
    (k : ∀ a', Sl n ((d, r) :: L) a' → wpAnyH P .any l.toArray (nrm Post) C fuel (listed.setIfInBounds i true) a' w) : wpAnyH P .any l.toArray (nrm Post) C (fuel + 1) listed a w :=
  S.hval i hi hs hf hr hC hw hd hlt (fun w hC => by unfold execOp; simp only [ho, Sem.run_bind, hrun w hC, Sem.run_pure, Result.andThen_ok]) k
theorem Sl.hbuildP (S : Sl n L a) (i : Nat) (hi : nthO l i = some o) (hs : Region.noSelect l.toArray = true) (hf : Region.free .any l.toArray listed i = true) (hr : (Region.ready .any l.toArray listed).contains i = true) (hC : C w) (hw : Region.wanted o (yielded l.toArray a.tmps) = true) {d : Nat} (hd : o.dst = some d) (hlt : Nat.blt d n = true) {T : TypeId} {parts : Array (Nat × Operand)} (ho : o.op = .build T parts) (ps : List (Nat × Value)) (hx : EvsP L parts.toList ps) {r : Value}
    (hrun : ∀ w, C w → (Instr.build T ps.toArray).run P w = .ok r w)
    (k : ∀ a', Sl n ((d, r) :: L) a' → wpAnyH P .any l.toArray (nrm Post) C fuel (listed.setIfInBounds i true) a' w) : wpAnyH P .any l.toArray (nrm Post) C (fuel + 1) listed a w :=
  S.hbuild i hi hs hf hr hC hw hd hlt ho (fun w hC => by rw [S.evalsP hx]; exact hrun w hC) k
end
end Fb
