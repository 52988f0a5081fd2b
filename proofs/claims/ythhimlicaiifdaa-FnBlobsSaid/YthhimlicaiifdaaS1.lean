/- Walking by slots: what the program's types are; frames; numbers compared. -/
import Derived.Test.YthhimlicaiifdaaS0
import Derived.Test.YthhimlicaiifdaaE1
import Derived.IntWalk
set_option maxRecDepth 100000
set_option linter.unusedSimpArgs false
set_option linter.unusedVariables false
namespace Fb
open Go Go.RowKit
section
variable {P : Program} {Q : Exit → Act → World → Prop} {a : Act} {w : World} {ops : Array Oper} {rest : List Oper} {o : Oper} {w0 : World} {n : Nat} {L : Slots} {M : Mem}
theorem St.yesB (S : St w0 n L M a w) {x : Operand} {c d : Code} {b : Bool} (hx : evL L x = some (.bool b)) (hb : b = true) (h : c.wp P Q a w) : (Code.cond x c d).wp P Q a w := by subst hb; exact S.yes hx h
theorem St.noB (S : St w0 n L M a w) {x : Operand} {c d : Code} {b : Bool} (hx : evL L x = some (.bool b)) (hb : b = false) (h : d.wp P Q a w) : (Code.cond x c d).wp P Q a w := by subst hb; exact S.no hx h
theorem St.loadF (S : St w0 n L M a w) (hw : Region.wanted o (yielded ops a.tmps) = true) {d : Nat} (hd : o.dst = some d) (hlt : Nat.blt d n = true) {T : TypeId} {x : Operand} (ho : o.op = .load T x) {b : Nat} (hx : evL L x = some (.pointer (some ⟨b, 0, none⟩)))
    (hT : RowTy P T 12) (i : Nat) {f : Fr} {t : TypeId} (hi : lk M i = some (blk b (frC f) t))
    (k : ∀ a', St w0 n ((d, frV f) :: L) M a' w → wpList P ops Q rest a' w) : wpList P ops Q (o :: rest) a w := S.loadR hw hd hlt ho hx hT i hi (frC_size f) k
theorem St.storeF (S : St w0 n L M a w) (hw : Region.wanted o (yielded ops a.tmps) = true) (hd : o.dst = none) {T : TypeId} {x y : Operand} (ho : o.op = .store T x y) {b : Nat} (hx : evL L x = some (.pointer (some ⟨b, 0, none⟩))) {f : Fr} (hy : evL L y = some (frV f))
    (hT : RowTy P T 12) (i : Nat) {g : Fr} {t : TypeId} (hi : lk M i = some (blk b (frC g) t))
    (k : ∀ a' w', St w0 n L ((i, blk b (frC f) t) :: M) a' w' → wpList P ops Q rest a' w') : wpList P ops Q (o :: rest) a w := S.storeR hw hd ho hx hy hT i hi (frC_size g) (frC_size f) (oneAll_fr f) k

theorem eqlI {T : TypeId} {k : IntKind} (hT : P.underlying T = some (.int k)) (x y : Operand) (a b : Int) {w : World} : (do eqGuard .eql T x y (.int k a) (.int k b); Go.binOp .eql T (.int k a) (.int k b) : Sem Value).run P w = .ok (.bool (a == b)) w := by
  simp [go_sem, hT]
theorem neqI {T : TypeId} {k : IntKind} (hT : P.underlying T = some (.int k)) (x y : Operand) (a b : Int) {w : World} : (do eqGuard .neq T x y (.int k a) (.int k b); Go.binOp .neq T (.int k a) (.int k b) : Sem Value).run P w = .ok (.bool (!(a == b))) w := by
  simp [go_sem, hT]
  rfl
theorem lssI {T : TypeId} {k : IntKind} (hT : P.underlying T = some (.int k)) (x y : Operand) (a b : Int) {w : World} : (do eqGuard .lss T x y (.int k a) (.int k b); Go.binOp .lss T (.int k a) (.int k b) : Sem Value).run P w = .ok (.bool (decide (a < b))) w := by
  simp [go_sem, hT]
theorem leqI {T : TypeId} {k : IntKind} (hT : P.underlying T = some (.int k)) (x y : Operand) (a b : Int) {w : World} : (do eqGuard .leq T x y (.int k a) (.int k b); Go.binOp .leq T (.int k a) (.int k b) : Sem Value).run P w = .ok (.bool (decide (a ≤ b))) w := by
  simp [go_sem, hT]
theorem gtrI {T : TypeId} {k : IntKind} (hT : P.underlying T = some (.int k)) (x y : Operand) (a b : Int) {w : World} : (do eqGuard .gtr T x y (.int k a) (.int k b); Go.binOp .gtr T (.int k a) (.int k b) : Sem Value).run P w = .ok (.bool (decide (b < a))) w := by
  simp [go_sem, hT]
theorem geqI {T : TypeId} {k : IntKind} (hT : P.underlying T = some (.int k)) (x y : Operand) (a b : Int) {w : World} : (do eqGuard .geq T x y (.int k a) (.int k b); Go.binOp .geq T (.int k a) (.int k b) : Sem Value).run P w = .ok (.bool (decide (b ≤ a))) w := by
  simp [go_sem, hT]
theorem addI {T : TypeId} {k : IntKind} (hT : P.underlying T = some (.int k)) (x y : Operand) (a b : Int) {c : Int} (hc : k.wrap (a + b) = c) {w : World} : (do eqGuard .add T x y (.int k a) (.int k b); Go.binOp .add T (.int k a) (.int k b) : Sem Value).run P w = .ok (.int k c) w := by
  subst hc; simp [go_sem, hT]
theorem subI {T : TypeId} {k : IntKind} (hT : P.underlying T = some (.int k)) (x y : Operand) (a b : Int) {c : Int} (hc : k.wrap (a - b) = c) {w : World} : (do eqGuard .sub T x y (.int k a) (.int k b); Go.binOp .sub T (.int k a) (.int k b) : Sem Value).run P w = .ok (.int k c) w := by
  subst hc; simp [go_sem, hT]
theorem mulI {T : TypeId} {k : IntKind} (hT : P.underlying T = some (.int k)) (x y : Operand) (a b : Int) {c : Int} (hc : k.wrap (a * b) = c) {w : World} : (do eqGuard .mul T x y (.int k a) (.int k b); Go.binOp .mul T (.int k a) (.int k b) : Sem Value).run P w = .ok (.int k c) w := by
  subst hc; simp [go_sem, hT]
theorem eqlT {T : TypeId} {k : IntKind} (hT : P.underlying T = some (.int k)) (x y : Operand) (a b : Int) (h : a = b) {w : World} : (do eqGuard .eql T x y (.int k a) (.int k b); Go.binOp .eql T (.int k a) (.int k b) : Sem Value).run P w = .ok (.bool true) w := by
  rw [eqlI hT]; simp [h]
theorem eqlF {T : TypeId} {k : IntKind} (hT : P.underlying T = some (.int k)) (x y : Operand) (a b : Int) (h : a ≠ b) {w : World} : (do eqGuard .eql T x y (.int k a) (.int k b); Go.binOp .eql T (.int k a) (.int k b) : Sem Value).run P w = .ok (.bool false) w := by
  rw [eqlI hT]; simp [h]
theorem neqT {T : TypeId} {k : IntKind} (hT : P.underlying T = some (.int k)) (x y : Operand) (a b : Int) (h : a ≠ b) {w : World} : (do eqGuard .neq T x y (.int k a) (.int k b); Go.binOp .neq T (.int k a) (.int k b) : Sem Value).run P w = .ok (.bool true) w := by
  rw [neqI hT]; simp [h]
theorem neqF {T : TypeId} {k : IntKind} (hT : P.underlying T = some (.int k)) (x y : Operand) (a b : Int) (h : a = b) {w : World} : (do eqGuard .neq T x y (.int k a) (.int k b); Go.binOp .neq T (.int k a) (.int k b) : Sem Value).run P w = .ok (.bool false) w := by
  rw [neqI hT]; simp [h]
theorem lssT {T : TypeId} {k : IntKind} (hT : P.underlying T = some (.int k)) (x y : Operand) (a b : Int) (h : a < b) {w : World} : (do eqGuard .lss T x y (.int k a) (.int k b); Go.binOp .lss T (.int k a) (.int k b) : Sem Value).run P w = .ok (.bool true) w := by
  rw [lssI hT]; simp [h]
theorem lssF {T : TypeId} {k : IntKind} (hT : P.underlying T = some (.int k)) (x y : Operand) (a b : Int) (h : ¬ (a < b)) {w : World} : (do eqGuard .lss T x y (.int k a) (.int k b); Go.binOp .lss T (.int k a) (.int k b) : Sem Value).run P w = .ok (.bool false) w := by
  rw [lssI hT]; simp [h]
theorem leqT {T : TypeId} {k : IntKind} (hT : P.underlying T = some (.int k)) (x y : Operand) (a b : Int) (h : a ≤ b) {w : World} : (do eqGuard .leq T x y (.int k a) (.int k b); Go.binOp .leq T (.int k a) (.int k b) : Sem Value).run P w = .ok (.bool true) w := by
  rw [leqI hT]; simp [h]
theorem leqF {T : TypeId} {k : IntKind} (hT : P.underlying T = some (.int k)) (x y : Operand) (a b : Int) (h : ¬ (a ≤ b)) {w : World} : (do eqGuard .leq T x y (.int k a) (.int k b); Go.binOp .leq T (.int k a) (.int k b) : Sem Value).run P w = .ok (.bool false) w := by
  rw [leqI hT]; simp [h]
theorem gtrT {T : TypeId} {k : IntKind} (hT : P.underlying T = some (.int k)) (x y : Operand) (a b : Int) (h : b < a) {w : World} : (do eqGuard .gtr T x y (.int k a) (.int k b); Go.binOp .gtr T (.int k a) (.int k b) : Sem Value).run P w = .ok (.bool true) w := by
  rw [gtrI hT]; simp [h]
theorem gtrF {T : TypeId} {k : IntKind} (hT : P.underlying T = some (.int k)) (x y : Operand) (a b : Int) (h : ¬ (b < a)) {w : World} : (do eqGuard .gtr T x y (.int k a) (.int k b); Go.binOp .gtr T (.int k a) (.int k b) : Sem Value).run P w = .ok (.bool false) w := by
  rw [gtrI hT]; simp [h]
theorem geqT {T : TypeId} {k : IntKind} (hT : P.underlying T = some (.int k)) (x y : Operand) (a b : Int) (h : b ≤ a) {w : World} : (do eqGuard .geq T x y (.int k a) (.int k b); Go.binOp .geq T (.int k a) (.int k b) : Sem Value).run P w = .ok (.bool true) w := by
  rw [geqI hT]; simp [h]
theorem geqF {T : TypeId} {k : IntKind} (hT : P.underlying T = some (.int k)) (x y : Operand) (a b : Int) (h : ¬ (b ≤ a)) {w : World} : (do eqGuard .geq T x y (.int k a) (.int k b); Go.binOp .geq T (.int k a) (.int k b) : Sem Value).run P w = .ok (.bool false) w := by
  rw [geqI hT]; simp [h]
theorem notB (b : Bool) {w : World} : (Op.unary .not (.bool b)).run P w = .ok (.bool (!b)) w := rfl
theorem negI {k : IntKind} (a : Int) {c : Int} (hc : k.wrap (-a) = c) {w : World} : (Op.unary .neg (.int k a)).run P w = .ok (.int k c) w := by
  subst hc; simp [go_sem]
theorem eqlB {T : TypeId} (hT : P.underlying T = some .bool) (x y : Operand) (a b : Bool) {w : World} : (do eqGuard .eql T x y (.bool a) (.bool b); Go.binOp .eql T (.bool a) (.bool b) : Sem Value).run P w = .ok (.bool (a == b)) w := by
  simp [go_sem, hT]
theorem neqB {T : TypeId} (hT : P.underlying T = some .bool) (x y : Operand) (a b : Bool) {w : World} : (do eqGuard .neq T x y (.bool a) (.bool b); Go.binOp .neq T (.bool a) (.bool b) : Sem Value).run P w = .ok (.bool (!(a == b))) w := by
  simp [go_sem, hT]
theorem convI {T T' : TypeId} {k k' : IntKind} (hs : P.underlying T = some (.int k)) (hd : P.underlying T' = some (.int k')) (a : Int) {c : Int} (hc : k'.wrap a = c) {w : World} : (convert T T' (.int k a)).run P w = .ok (.int k' c) w := by
  subst hc
  simp [go_sem, hs, hd]
theorem lenS {t e : TypeId} (ht : P.underlying t = some (.slice e)) (ty : TypeId) (cs : Array Bool) (A : Option Addr) (n c : Nat) {w : World} : (Go.builtin .len #[t] ty cs #[.slice A n c]).run P w = .ok (.value (.int .i64 n)) w := by
  simp [go_sem, ht]
end
end Fb
namespace Go.Proofs.Ythhimlicaiifdaa
open Go.RowKit Fb
theorem row26 : RowTy Try.prog 26 12 := ⟨⟨_, under26, rfl⟩, info26⟩
theorem one2 : OneTy Try.prog 2 := ⟨fun _ => by kernel_rfl, fun _ => by kernel_rfl⟩
theorem one3 : OneTy Try.prog 3 := ⟨fun _ => by kernel_rfl, fun _ => by kernel_rfl⟩
theorem one4 : OneTy Try.prog 4 := ⟨fun _ => by kernel_rfl, fun _ => by kernel_rfl⟩
theorem one24 : OneTy Try.prog 24 := ⟨fun _ => by kernel_rfl, fun _ => by kernel_rfl⟩
theorem one50 : OneTy Try.prog 50 := ⟨fun _ => by kernel_rfl, fun _ => by kernel_rfl⟩
theorem cellsZ26 : (Value.agg #[Value.int .u16 0, .int .u16 0, .int .u16 0, .int .u16 0, .int .u16 0, .int .u16 0, .int .u16 0, .int .u16 0, .int .u16 0, .int .u16 0, .int .u16 0, .int .u16 0]).cells = frC Fr.zero := frC_zero.symm
theorem eqlFr (x y : Operand) (f g : Fr) {w : World} : (do eqGuard .eql 26 x y (frV f) (frV g); Go.binOp .eql 26 (frV f) (frV g) : Sem Value).run Try.prog w = .ok (.bool (decide (f = g))) w := by
  simp [go_sem]
theorem neqFr (x y : Operand) (f g : Fr) {w : World} : (do eqGuard .neq 26 x y (frV f) (frV g); Go.binOp .neq 26 (frV f) (frV g) : Sem Value).run Try.prog w = .ok (.bool (!decide (f = g))) w := by
  simp [go_sem]
theorem zeroFr (w : World) : (Instr.build 26 #[]).run Try.prog w = .ok (frV Fr.zero) w := by
  rw [show frV Fr.zero = .agg (frC Fr.zero) from rfl, frC_zero]
  kernel_rfl
theorem idxFr (b : Nat) (ik : IntKind) {k : Nat} (hk : k < 12) {w : World} : (Instr.indexAt 26 (.pointer (some ⟨b, 0, none⟩)) (.int ik (k : Int))).run Try.prog w = .ok (.pointer (some ⟨b, k, none⟩)) w := by
  have h1 : (0 : Int) ≤ k ∧ (k : Int) < 12 := by omega
  have ha : (⟨b, 0, none⟩ : Addr).add k = ⟨b, k, none⟩ := by rw [Addr.add_mid, Nat.zero_add]
  unfold Instr.indexAt
  simp [asIntOf, Sem.run_bind, run_underlying under26, Instr.sureAddr, h1, size24, ha]
  intro h
  exact absurd h (by omega)
theorem idxFrA (b o : Nat) (ik : IntKind) {k : Nat} (hk : k < 12) {w : World} : (Instr.indexAt 26 (.pointer (some ⟨b, o, none⟩)) (.int ik (k : Int))).run Try.prog w = .ok (.pointer (some ⟨b, o + k, none⟩)) w := by
  have h1 : (0 : Int) ≤ k ∧ (k : Int) < 12 := by omega
  have ha : (⟨b, o, none⟩ : Addr).add k = ⟨b, o + k, none⟩ := Addr.add_mid b o k
  unfold Instr.indexAt
  simp [asIntOf, Sem.run_bind, run_underlying under26, Instr.sureAddr, h1, size24, ha]
  intro h
  exact absurd h (by omega)
theorem orR (x y : Operand) (a b : Row) {w : World} : (do eqGuard .or 24 x y (.int .u16 (rowI a)) (.int .u16 (rowI b)); Go.binOp .or 24 (.int .u16 (rowI a)) (.int .u16 (rowI b)) : Sem Value).run Try.prog w = .ok (.int .u16 (rowI (a ||| b))) w := by
  simp [go_sem]
theorem andR (x y : Operand) (a b : Row) {w : World} : (do eqGuard .and 24 x y (.int .u16 (rowI a)) (.int .u16 (rowI b)); Go.binOp .and 24 (.int .u16 (rowI a)) (.int .u16 (rowI b)) : Sem Value).run Try.prog w = .ok (.int .u16 (rowI (a &&& b))) w := by
  simp [go_sem]
theorem xorR (x y : Operand) (a b : Row) {w : World} : (do eqGuard .xor 24 x y (.int .u16 (rowI a)) (.int .u16 (rowI b)); Go.binOp .xor 24 (.int .u16 (rowI a)) (.int .u16 (rowI b)) : Sem Value).run Try.prog w = .ok (.int .u16 (rowI (a ^^^ b))) w := by
  simp [go_sem]
theorem andNotR (x y : Operand) (a b : Row) {w : World} : (do eqGuard .andNot 24 x y (.int .u16 (rowI a)) (.int .u16 (rowI b)); Go.binOp .andNot 24 (.int .u16 (rowI a)) (.int .u16 (rowI b)) : Sem Value).run Try.prog w = .ok (.int .u16 (rowI (a &&& ~~~b))) w := by
  simp [go_sem]
theorem and1R (x y : Operand) (a : Row) {w : World} : (do eqGuard .and 24 x y (.int .u16 (rowI a)) (.int .u16 1); Go.binOp .and 24 (.int .u16 (rowI a)) (.int .u16 1) : Sem Value).run Try.prog w = .ok (.int .u16 (rowI (a &&& 1#16))) w := by
  simp [go_sem]
theorem shrR (x y : Operand) (a : Row) (yk : IntKind) (n : Nat) {w : World} : (do eqGuard .shr 24 x y (.int .u16 (rowI a)) (.int yk (n : Int)); Go.binOp .shr 24 (.int .u16 (rowI a)) (.int yk (n : Int)) : Sem Value).run Try.prog w = .ok (.int .u16 (rowI (a >>> n))) w := by
  simp [go_sem]
theorem bitR (x y : Operand) (a : Row) (n : Nat) {w : World} : (do eqGuard .eql 24 x y (.int .u16 (rowI ((a >>> n) &&& 1#16))) (.int .u16 1); Go.binOp .eql 24 (.int .u16 (rowI ((a >>> n) &&& 1#16))) (.int .u16 1) : Sem Value).run Try.prog w = .ok (.bool (a.getLsbD n)) w := by
  rw [eqlI Try.underlying24, row_bit_beq]
theorem eqlFrT (x y : Operand) {f g : Fr} (h : f = g) {w : World} : (do eqGuard .eql 26 x y (frV f) (frV g); Go.binOp .eql 26 (frV f) (frV g) : Sem Value).run Try.prog w = .ok (.bool true) w := by
  rw [eqlFr]; simp [h]
theorem neqFrF (x y : Operand) {f g : Fr} (h : f = g) {w : World} : (do eqGuard .neq 26 x y (frV f) (frV g); Go.binOp .neq 26 (frV f) (frV g) : Sem Value).run Try.prog w = .ok (.bool false) w := by
  rw [neqFr]; simp [h]
end Go.Proofs.Ythhimlicaiifdaa
