/- Boxes of frames, on both sides; what a box cuts out. -/
import Derived.Test.YthhimlicaiifdaaS5
import Derived.Test.YthhimlicaiifdaaFrG
import Derived.Test.YthhimlicaiifdaaY3
set_option maxRecDepth 100000
set_option linter.unusedSimpArgs false
set_option linter.unusedVariables false
namespace Fb
open Go Go.RowKit
section
variable {P : Program}
theorem row_of_cells {w : World} {b : Nat} {cur : Array Value} {t : TypeId} {o n : Nat} {cs : List Value} (hg : w.heap[b]? = some (.cells cur t)) (hl : cs.length = n) (hn : 0 < n) (h : ∀ j u, cs[j]? = some u → w.cell? ⟨b, o + j, none⟩ = some u) : row? w b o n = some cs.toArray := by
  have hB : Blk w b cur t := hg
  have h' : ∀ j u, cs[j]? = some u → cur[o + j]? = some u := fun j u hu => by rw [← hB.cell]; exact h j u hu
  have hsz : o + n ≤ cur.size := by
    have h1 := h' (n - 1) cs[n - 1] (List.getElem?_eq_getElem (by omega))
    have := (Array.getElem?_eq_some_iff.1 h1).1
    omega
  rw [hB.row]
  unfold rowIn
  rw [if_pos hsz]
  congr 1
  apply Array.ext
  · simp; omega
  · intro i h1 h2
    have hi : i < cs.length := by simpa using h2
    have h3 := h' i cs[i] (List.getElem?_eq_getElem hi)
    have h4 := (Array.getElem?_eq_some_iff.1 h3).2
    simp [h4]
theorem Owns.row {α : Type} {w : World} {base : Nat} {e : TypeId} {enc : α → List Value} {sz : Nat} {b n c : Nat} {xs : List α} (h : Owns w base e enc sz (.slice (Option.some ⟨b, 0, none⟩) n c) xs) (hsz : ∀ x, (enc x).length = sz) {k : Nat} {x : α} (hk : xs[k]? = Option.some x) (h0 : 0 < sz) : row? w b (k * sz) sz = Option.some (enc x).toArray := by
  have hc := fun j u hj => h.cell hsz hk (j := j) (u := u) hj
  rcases h.2 with ⟨hv, _⟩ | ⟨g, cap, cur, hv, hb, hg, rest⟩
  · cases hv
  · cases hv
    exact row_of_cells hg (hsz x) h0 hc
theorem results_two {fn : Func} {T : TypeId} {m : Nat} {p q : Tmp} (hT : RowTy P T m) (h : fn.results = #[.cell p T, .tmp q]) {tmps : Array Value} {w : World} {b : Nat} {cs : Array Value} {v : Value}
    (hp : tmps.getD p undef = .pointer (some ⟨b, 0, none⟩)) (hq : tmps.getD q undef = v) (hr : row? w b 0 m = some cs) : (results fn tmps).run P w = .ok (.tuple #[.agg cs, v]) w := by
  have hp' : tmps[p]?.getD undef = .pointer (some ⟨b, 0, none⟩) := by simpa using hp
  have hq' : tmps[q]?.getD undef = v := by simpa using hq
  obtain ⟨dd, hu, hd⟩ := hT.under
  have h1 := run_loadVar_big hu hd hT.size b 0 w
  rw [hr, loadK_some] at h1
  simp [results, h, hp', hq', asAddr, h1]
theorem retR2 {fn : Func} {R : Ending → World → Prop} {a : Act} {w w0 : World} {n : Nat} {L : Slots} {M : Mem} {T : TypeId} {m : Nat} (hT : RowTy P T m) (S : St w0 n L M a w) {p q : Tmp} (hf : fn.results = #[.cell p T, .tmp q]) (i : Nat) {b : Nat} {cs : Array Value} {t : TypeId} {v : Value}
    (hp : lk L p = some (.pointer (some ⟨b, 0, none⟩))) (hq : lk L q = some v) (hi : lk M i = some (blk b cs t)) (hm : cs.size = m) (hR : R (.returned (.tuple #[.agg cs, v])) w) : bodyPost P fn R .ret a w :=
  S.ret (results_two hT hf (S.sl.has _ _ hp) (S.sl.has _ _ hq) (by rw [(S.bag.at i hi).row]; unfold rowIn; subst hm; simp)) hR
theorem St.mkFunc {Q : Exit → Act → World → Prop} {a : Act} {w : World} {ops : Array Oper} {rest : List Oper} {o : Oper} {w0 : World} {n : Nat} {L : Slots} {M : Mem} (S : St w0 n L M a w) (hw : Region.wanted o (yielded ops a.tmps) = true) {d : Nat} (hd : o.dst = some d) (hlt : Nat.blt d n = true) {g : FuncId} {caps : Array Operand} (ho : o.op = .makeFunc (.func g) #[] caps) {vs : List Value} (hx : evA L caps.toList = some vs)
    (k : ∀ a', St w0 n ((d, .func (.func g) #[] vs.toArray) :: L) M a' w → wpList P ops Q rest a' w) : wpList P ops Q (o :: rest) a w :=
  S.val hw hd hlt (by
    have h1 : caps.map a.eval = vs.toArray := by rw [← S.sl.evals hx, ← Array.toList_map, Array.toArray_toList]
    unfold execOp; simp only [ho, h1, Array.map_empty, Sem.run_bind]
    rw [show (Instr.makeFunc (Fn.func g) #[] vs.toArray).run P w = .ok (.func (.func g) #[] vs.toArray) w from rfl]
    simp only [Sem.run_pure, Result.andThen_ok]) S.bag k
end
end Fb
namespace Go.Proofs.Ythhimlicaiifdaa
open Go.RowKit Fb
theorem frE_arr' (f : Fr) : (frE f).toArray = frC f := by simp [frE]
theorem frE_len' (f : Fr) : (frE f).length = 12 := by simp [frE, frC_size]
theorem _root_.Fb.Owns.rowFr {w : World} {base : Nat} {e : TypeId} {b n c : Nat} {xs : List Fr} (h : Owns w base e frE 12 (.slice (Option.some ⟨b, 0, none⟩) n c) xs) {k : Nat} {x : Fr} (hk : xs[k]? = Option.some x) : row? w b (k * 12) 12 = Option.some (frC x) := by
  have := h.row frE_len' hk (by decide)
  rwa [frE_arr'] at this
theorem size54 (w : World) : (Go.sizeOf 54).run Try.prog w = .ok 4 w := by kernel_rfl
theorem row54 : RowTy Try.prog 54 4 := ⟨⟨_, Try.underlying54, rfl⟩, by kernel_rfl⟩
theorem fld54_0 (b o : Nat) (w : World) : (Instr.fieldAt 54 (.pointer (some ⟨b, o, none⟩)) 0).run Try.prog w = .ok (.pointer (some ⟨b, o, none⟩)) w := by kernel_rfl
theorem fld54_1 (b o : Nat) (w : World) : (Instr.fieldAt 54 (.pointer (some ⟨b, o, none⟩)) 1).run Try.prog w = .ok (.pointer (some ⟨b, o + 1, none⟩)) w := by kernel_rfl
theorem fld54_2 (b o : Nat) (w : World) : (Instr.fieldAt 54 (.pointer (some ⟨b, o, none⟩)) 2).run Try.prog w = .ok (.pointer (some ⟨b, o + 2, none⟩)) w := by kernel_rfl
theorem fld54_3 (b o : Nat) (w : World) : (Instr.fieldAt 54 (.pointer (some ⟨b, o, none⟩)) 3).run Try.prog w = .ok (.pointer (some ⟨b, o + 3, none⟩)) w := by kernel_rfl
def boxA (a b c d : Int) : Array Value := #[.int .i8 a, .int .i8 b, .int .i8 c, .int .i8 d]
def Frbox (f : Fr) : Array Value := boxA f.west f.north ((f.east : Int) - f.west + 1) ((f.south : Int) - f.north + 1)
theorem build54_4 (a b c d : Int) (w : World) : (Instr.build 54 #[(0, .int .i8 a), (1, .int .i8 b), (2, .int .i8 c), (3, .int .i8 d)]).run Try.prog w = .ok (.agg (boxA a b c d)) w := by kernel_rfl
theorem zeroBox (w : World) : (Instr.build 54 #[]).run Try.prog w = .ok (.agg (boxA 0 0 0 0)) w := by kernel_rfl

theorem sMin_any (x y : Nat) (w0 : World) : Calls Try.prog 215 #[.int .i64 x, .int .i64 y] w0 (RetB (.int .i64 ((min x y : Nat) : Int)) w0) := by
  refine St.enter Try.func215 rfl (show _ = 10 from rfl) rfl (L := [(0, _), (1, _)]) rfl (fun a S0 => ?_)
  refine wp_seq ?_
  refine wp_region_lit ?_
  refine S0.asg (want_none rfl) rfl rfl rfl rfl (fun a S1 => ?_); clear S0
  refine wpList_n ?_
  refine then_n ?_
  refine wp_seq ?_
  refine wp_seq ?_
  refine wp_region_lit ?_
  refine S1.move (want_none rfl) rfl rfl rfl rfl (fun a S2 => ?_); clear S1
  refine S2.move (want_none rfl) rfl rfl rfl rfl (fun a S3 => ?_); clear S2
  refine S3.bin (want_none rfl) rfl rfl rfl rfl rfl (by first | exact lssF Try.underlying2 _ _ _ _ (by omega) | exact lssT Try.underlying2 _ _ _ _ (by omega) | exact lssI Try.underlying2 _ _ _ _) (fun a S4 => ?_); clear S3
  refine wpList_n ?_
  refine then_n ?_
  refine S4.either rfl (fun h => ?_) (fun h => ?_)
  · skip
    refine wp_seq ?_
    have h := of_decide_eq_true h
    refine wp_region_lit ?_
    refine S4.move (want_none rfl) rfl rfl rfl rfl (fun a S5 => ?_); clear S4
    refine S5.asg (want_none rfl) rfl rfl rfl rfl (fun a S6 => ?_); clear S5
    refine wpList_n ?_
    refine then_n ?_
    refine wp_ret ?_
    refine then_r ?_
    exact S6.ret1 rfl rfl ⟨by rw [Nat.min_eq_left (by omega)], S6.bag.below⟩
  · skip
    refine wp_skip ?_
    refine then_n ?_
    refine wp_seq ?_
    have h := of_decide_eq_false h
    refine wp_region_lit ?_
    refine S4.move (want_none rfl) rfl rfl rfl rfl (fun a S5 => ?_); clear S4
    refine S5.asg (want_none rfl) rfl rfl rfl rfl (fun a S6 => ?_); clear S5
    refine wpList_n ?_
    refine then_n ?_
    refine wp_ret ?_
    exact S6.ret1 rfl rfl ⟨by rw [Nat.min_eq_right (by omega)], S6.bag.below⟩
theorem sMax_any (x y : Nat) (w0 : World) : Calls Try.prog 216 #[.int .i64 x, .int .i64 y] w0 (RetB (.int .i64 ((max x y : Nat) : Int)) w0) := by
  refine St.enter Try.func216 rfl (show _ = 10 from rfl) rfl (L := [(0, _), (1, _)]) rfl (fun a S0 => ?_)
  refine wp_seq ?_
  refine wp_region_lit ?_
  refine S0.asg (want_none rfl) rfl rfl rfl rfl (fun a S1 => ?_); clear S0
  refine wpList_n ?_
  refine then_n ?_
  refine wp_seq ?_
  refine wp_seq ?_
  refine wp_region_lit ?_
  refine S1.move (want_none rfl) rfl rfl rfl rfl (fun a S2 => ?_); clear S1
  refine S2.move (want_none rfl) rfl rfl rfl rfl (fun a S3 => ?_); clear S2
  refine S3.bin (want_none rfl) rfl rfl rfl rfl rfl (by first | exact gtrF Try.underlying2 _ _ _ _ (by omega) | exact gtrT Try.underlying2 _ _ _ _ (by omega) | exact gtrI Try.underlying2 _ _ _ _) (fun a S4 => ?_); clear S3
  refine wpList_n ?_
  refine then_n ?_
  refine S4.either rfl (fun h => ?_) (fun h => ?_)
  · skip
    refine wp_seq ?_
    have h := of_decide_eq_true h
    refine wp_region_lit ?_
    refine S4.move (want_none rfl) rfl rfl rfl rfl (fun a S5 => ?_); clear S4
    refine S5.asg (want_none rfl) rfl rfl rfl rfl (fun a S6 => ?_); clear S5
    refine wpList_n ?_
    refine then_n ?_
    refine wp_ret ?_
    refine then_r ?_
    exact S6.ret1 rfl rfl ⟨by rw [Nat.max_eq_left (by omega)], S6.bag.below⟩
  · skip
    refine wp_skip ?_
    refine then_n ?_
    refine wp_seq ?_
    have h := of_decide_eq_false h
    refine wp_region_lit ?_
    refine S4.move (want_none rfl) rfl rfl rfl rfl (fun a S5 => ?_); clear S4
    refine S5.asg (want_none rfl) rfl rfl rfl rfl (fun a S6 => ?_); clear S5
    refine wpList_n ?_
    refine then_n ?_
    refine wp_ret ?_
    exact S6.ret1 rfl rfl ⟨by rw [Nat.max_eq_right (by omega)], S6.bag.below⟩

theorem sBox_none (f : Fr) (b0 o0 : Nat) (w0 : World) (hF : FrAt w0 b0 o0 f) (hz : f.dots = []) : Calls Try.prog 143 #[.pointer (some ⟨b0, o0, none⟩)] w0 (RetB (.tuple #[.agg (boxA 0 0 0 0), .bool false]) w0) := by
  refine St.enter Try.func143 rfl (show _ = 66 from rfl) rfl (L := [(0, _)]) rfl (fun a S0 => ?_)
  refine wp_seq ?_
  refine wp_region_lit ?_
  refine S0.allocA (want_none rfl) rfl rfl rfl (Try.zeroValue54 _) rfl (fun b2 a w hq3 hq4 S1 => ?_); clear S0 hq3 hq4
  refine S1.asg (want_none rfl) rfl rfl rfl rfl (fun a S2 => ?_); clear S1
  refine wpList_n ?_
  refine then_n ?_
  refine wp_seq ?_
  refine wp_region_lit ?_
  refine S2.move (want_none rfl) rfl rfl rfl rfl (fun a S3 => ?_); clear S2
  refine S3.call (want_none rfl) rfl rfl rfl rfl Try.call110 (sDots_any f _ _ _ (hF.below S3.bag.below)) (fun e w hR => ?_)
  obtain ⟨v, rfl, hv, hb⟩ := hR
  refine ⟨_, rfl, fun a A => ?_⟩
  have S4 : St _ _ _ _ _ _ := ⟨A, S3.bag.callRow 4 hb hv⟩; clear A S3
  obtain ⟨Av, cv, rfl⟩ := (S4.bag.own? 4 rfl).slice
  refine S4.asg (want_none rfl) rfl rfl rfl rfl (fun a S5 => ?_); clear S4
  refine wpList_n ?_
  refine then_n ?_
  refine wp_seq ?_
  refine wp_seq ?_
  refine wp_region_lit ?_
  refine S5.move (want_none rfl) rfl rfl rfl rfl (fun a S6 => ?_); clear S5
  refine S6.builtin (want_none rfl) rfl rfl rfl rfl (lenS Try.underlying42 _ _ _ _ _) (fun a S7 => ?_); clear S6
  refine S7.bin (want_none rfl) rfl rfl rfl rfl rfl (by first | exact eqlF Try.underlying3 _ _ _ _ (by omega) | exact eqlT Try.underlying3 _ _ _ _ (by omega) | exact eqlI Try.underlying3 _ _ _ _) (fun a S8 => ?_); clear S7
  refine wpList_n ?_
  refine then_n ?_
  refine S8.yesB rfl (by rw [hz]; rfl) ?_
  refine wp_seq ?_
  refine wp_region_lit ?_
  refine S8.build (want_none rfl) rfl rfl rfl (by rw [Array.map_empty]; exact zeroBox _) (fun a S9 => ?_)
  clear S8
  refine S9.storeR (want_none rfl) rfl rfl rfl rfl row54 2 rfl rfl rfl (by first | rfl | kernel_rfl) (fun a w S10 => ?_); clear S9
  refine S10.asg (want_none rfl) rfl rfl rfl rfl (fun a S11 => ?_); clear S10
  refine wpList_n ?_
  refine then_n ?_
  refine wp_ret ?_
  refine then_r ?_
  exact retR2 row54 S11 rfl 2 rfl rfl rfl rfl ⟨rfl, S11.bag.below⟩

theorem west_succ {f : Fr} {k : Nat} {p : Nat × Nat} (m : Nat) (hp : f.dots[k]? = some p) : Fr.westOf (f.dots.take (k + 1)) m = min (Fr.westOf (f.dots.take k) m) p.1 := by
  rw [List.take_add_one, hp]; exact Fr.westOf_snoc _ _ _
theorem east_succ {f : Fr} {k : Nat} {p : Nat × Nat} (m : Nat) (hp : f.dots[k]? = some p) : Fr.eastOf (f.dots.take (k + 1)) m = max (Fr.eastOf (f.dots.take k) m) p.1 := by
  rw [List.take_add_one, hp]; exact Fr.eastOf_snoc _ _ _
theorem north_at {f : Fr} {p : Nat × Nat} (hp : f.dots[0]? = some p) : f.north = p.2 := by
  unfold Fr.north
  cases h : f.dots with
  | nil => rw [h] at hp; simp at hp
  | cons q l => rw [h] at hp; simp at hp; rw [hp]
theorem south_at {f : Fr} {p : Nat × Nat} (hp : f.dots[f.dots.length - 1]? = some p) : f.south = p.2 := by
  unfold Fr.south
  rw [List.getLast?_eq_getElem?, hp]

set_option maxHeartbeats 1000000 in
theorem sBox_some (f : Fr) (b0 o0 : Nat) (w0 : World) (hF : FrAt w0 b0 o0 f) (hne : f.dots ≠ []) : Calls Try.prog 143 #[.pointer (some ⟨b0, o0, none⟩)] w0 (RetB (.tuple #[.agg (Frbox f), .bool true]) w0) := by
  have hl := dots_len f
  have hpos : 0 < f.dots.length := List.length_pos_iff.2 hne
  obtain ⟨p0, hp0⟩ : ∃ p, f.dots[0]? = some p := ⟨_, List.getElem?_eq_getElem hpos⟩
  obtain ⟨pS, hpS⟩ : ∃ p, f.dots[f.dots.length - 1]? = some p := ⟨_, List.getElem?_eq_getElem (by omega)⟩
  have hS : f.dots.length - 1 < f.dots.length := by omega
  have hin0 := dots_in hp0
  have hinS := dots_in hpS
  have hno := north_at hp0
  have hso := south_at hpS
  have hbd := Fr.box_bd hne
  obtain ⟨x0, y0⟩ := p0
  obtain ⟨xS, yS⟩ := pS
  have h01 : x0 < 12 := hin0.1
  have h02 : y0 < 12 := hin0.2
  have hS1 : xS < 12 := hinS.1
  have hS2 : yS < 12 := hinS.2
  dsimp only at hno hso
  refine St.enter Try.func143 rfl (show _ = 66 from rfl) rfl (L := [(0, _)]) rfl (fun a S0 => ?_)
  refine wp_seq ?_
  refine wp_region_lit ?_
  refine S0.allocA (want_none rfl) rfl rfl rfl (Try.zeroValue54 _) rfl (fun b2 a w hq3 hq4 S1 => ?_); clear S0 hq3 hq4
  refine S1.asg (want_none rfl) rfl rfl rfl rfl (fun a S2 => ?_); clear S1
  refine wpList_n ?_
  refine then_n ?_
  refine wp_seq ?_
  refine wp_region_lit ?_
  refine S2.move (want_none rfl) rfl rfl rfl rfl (fun a S3 => ?_); clear S2
  refine S3.call (want_none rfl) rfl rfl rfl rfl Try.call110 (sDots_any f _ _ _ (hF.below S3.bag.below)) (fun e w hR => ?_)
  obtain ⟨v, rfl, hv, hb⟩ := hR
  refine ⟨_, rfl, fun a A => ?_⟩
  have S4 : St _ _ _ _ _ _ := ⟨A, S3.bag.callRow 4 hb hv⟩; clear A S3
  obtain ⟨Av, cv, rfl⟩ := (S4.bag.own? 4 rfl).slice
  refine S4.asg (want_none rfl) rfl rfl rfl rfl (fun a S5 => ?_); clear S4
  refine wpList_n ?_
  refine then_n ?_
  refine wp_seq ?_
  refine wp_seq ?_
  refine wp_region_lit ?_
  refine S5.move (want_none rfl) rfl rfl rfl rfl (fun a S6 => ?_); clear S5
  refine S6.builtin (want_none rfl) rfl rfl rfl rfl (lenS Try.underlying42 _ _ _ _ _) (fun a S7 => ?_); clear S6
  refine S7.bin (want_none rfl) rfl rfl rfl rfl rfl (by first | exact eqlF Try.underlying3 _ _ _ _ (by omega) | exact eqlT Try.underlying3 _ _ _ _ (by omega) | exact eqlI Try.underlying3 _ _ _ _) (fun a S8 => ?_); clear S7
  refine wpList_n ?_
  refine then_n ?_
  refine S8.noB rfl (by simp [hne]) ?_
  refine wp_skip ?_
  refine then_n ?_
  refine wp_seq ?_
  refine wp_region_lit ?_
  refine S8.asg (want_none rfl) rfl rfl rfl rfl (fun a S9 => ?_); clear S8
  refine wpList_n ?_
  refine then_n ?_
  refine wp_seq ?_
  refine wp_region_lit ?_
  refine S9.asg (want_none rfl) rfl rfl rfl rfl (fun a S10 => ?_); clear S9
  refine wpList_n ?_
  refine then_n ?_
  refine wp_seq ?_
  refine wp_seq ?_
  refine wp_region_lit ?_
  refine S10.asg (want_none rfl) rfl rfl rfl rfl (fun a S11 => ?_); clear S10
  refine wpList_n ?_
  refine then_n ?_
  refine wp_block ?_
  refine wp_loopN (fun m a w => ∃ k : Nat, k ≤ f.dots.length ∧ m = f.dots.length - k ∧ St w0 66 [(2, .pointer (some ⟨b2, 0, none⟩)), (3, .bool false), (4, .slice Av f.dots.length cv), (5, .int .i64 (Fr.westOf (f.dots.take k) 12 : Nat)), (6, .int .i64 (Fr.eastOf (f.dots.take k) 0 : Nat)), (7, .int .i64 (k : Nat))] [(2, blk b2 (boxA 0 0 0 0) 54), (4, row w0.heap.size 52 dotE 2 (.slice Av f.dots.length cv) f.dots)] a w) (f.dots.length) (⟨0, by omega, rfl, S11.to ⟨rfl, rfl, rfl, rfl, rfl, rfl, trivial⟩ ⟨rfl, rfl, trivial⟩⟩) (fun m a w hI => ?_)
  obtain ⟨k, hk, rfl, S12⟩ := hI
  refine wp_seq ?_
  refine wp_seq ?_
  refine wp_region_lit ?_
  refine S12.move (want_none rfl) rfl rfl rfl rfl (fun a S13 => ?_); clear S12
  refine S13.move (want_none rfl) rfl rfl rfl rfl (fun a S14 => ?_); clear S13
  refine S14.builtin (want_none rfl) rfl rfl rfl rfl (lenS Try.underlying42 _ _ _ _ _) (fun a S15 => ?_); clear S14
  refine S15.bin (want_none rfl) rfl rfl rfl rfl rfl (lssI Try.underlying3 _ _ _ _) (fun a S16 => ?_); clear S15
  refine wpList_n ?_
  refine then_n ?_
  refine S16.either rfl (fun hlt => ?_) (fun hlt => ?_)
  · skip
    refine wp_skip ?_
    refine then_n ?_
    refine wp_seq ?_
    refine wp_block ?_
    refine wp_seq ?_
    have hlt : k < f.dots.length := by have := of_decide_eq_true hlt; omega
    obtain ⟨p, hp⟩ : ∃ p, f.dots[k]? = some p := ⟨_, List.getElem?_eq_getElem hlt⟩
    obtain ⟨b, rfl⟩ := (S16.bag.own? 4 rfl).some dotE_len hp
    have hin := dots_in hp
    have hW := west_succ 12 hp
    have hE := east_succ 0 hp
    obtain ⟨px, py⟩ := p
    have hq1 : px < 12 := hin.1
    have hq2 : py < 12 := hin.2
    refine wp_region_lit ?_
    refine S16.move (want_none rfl) rfl rfl rfl rfl (fun a S17 => ?_); clear S16
    refine S17.move (want_none rfl) rfl rfl rfl rfl (fun a S18 => ?_); clear S17
    refine S18.move (want_none rfl) rfl rfl rfl rfl (fun a S19 => ?_); clear S18
    refine S19.indexA (want_none rfl) rfl rfl rfl rfl rfl (idxS0 Try.underlying42 size52 _ _ _ _ hlt) (fun a S20 => ?_); clear S19
    refine S20.fieldA (want_none rfl) rfl rfl rfl rfl (fld52_0 _ _ _) (fun a S21 => ?_); clear S20
    refine S21.loadC (want_none rfl) rfl rfl rfl rfl one50 ((S21.bag.own? 4 rfl).cell0 dotE_len hp rfl) (fun a S22 => ?_); clear S21
    refine S22.conv (want_none rfl) rfl rfl rfl rfl (convI Try.underlying50 Try.underlying2 _ (IntWalk.i64_in _ (by omega))) (fun a S23 => ?_); clear S22
    refine S23.callB (want_none rfl) rfl rfl rfl rfl Try.call215 (sMin_any _ _ _) (fun a w hq2 S24 => ?_); clear S23 hq2
    refine S24.asg (want_none rfl) rfl rfl rfl rfl (fun a S25 => ?_); clear S24
    refine wpList_n ?_
    refine then_n ?_
    refine wp_region_lit ?_
    refine S25.move (want_none rfl) rfl rfl rfl rfl (fun a S26 => ?_); clear S25
    refine S26.move (want_none rfl) rfl rfl rfl rfl (fun a S27 => ?_); clear S26
    refine S27.move (want_none rfl) rfl rfl rfl rfl (fun a S28 => ?_); clear S27
    refine S28.indexA (want_none rfl) rfl rfl rfl rfl rfl (idxS0 Try.underlying42 size52 _ _ _ _ hlt) (fun a S29 => ?_); clear S28
    refine S29.fieldA (want_none rfl) rfl rfl rfl rfl (fld52_0 _ _ _) (fun a S30 => ?_); clear S29
    refine S30.loadC (want_none rfl) rfl rfl rfl rfl one50 ((S30.bag.own? 4 rfl).cell0 dotE_len hp rfl) (fun a S31 => ?_); clear S30
    refine S31.conv (want_none rfl) rfl rfl rfl rfl (convI Try.underlying50 Try.underlying2 _ (IntWalk.i64_in _ (by omega))) (fun a S32 => ?_); clear S31
    refine S32.callB (want_none rfl) rfl rfl rfl rfl Try.call216 (sMax_any _ _ _) (fun a w hq2 S33 => ?_); clear S32 hq2
    refine S33.asg (want_none rfl) rfl rfl rfl rfl (fun a S34 => ?_); clear S33
    refine wpList_n ?_
    refine blk_n ?_
    refine then_n ?_
    refine wp_region_lit ?_
    refine S34.move (want_none rfl) rfl rfl rfl rfl (fun a S35 => ?_); clear S34
    refine S35.bin (want_none rfl) rfl rfl rfl rfl rfl (addI Try.underlying3 _ _ _ _ (IntWalk.i64_in _ (by omega))) (fun a S36 => ?_); clear S35
    refine S36.asg (want_none rfl) rfl rfl rfl rfl (fun a S37 => ?_); clear S36
    refine wpList_n ?_
    refine then_n ?_
    exact ⟨f.dots.length - (k + 1), by omega, k + 1, by omega, rfl, S37.to ⟨rfl, rfl, rfl, by rw [hW]; rfl, by rw [hE]; rfl, rfl, trivial⟩ ⟨rfl, rfl, trivial⟩⟩
  · skip
    refine wp_exit ?_
    refine then_e ?_
    refine then_e ?_
    refine blk_e ?_
    refine then_n ?_
    refine wp_seq ?_
    obtain rfl : k = f.dots.length := by have := of_decide_eq_false hlt; omega
    rw [List.take_length, show Fr.westOf f.dots 12 = f.west from rfl, show Fr.eastOf f.dots 0 = f.east from rfl] at S16
    obtain ⟨b, rfl⟩ := (S16.bag.own? 4 rfl).some dotE_len hp0
    refine wp_region_lit ?_
    refine S16.move (want_none rfl) rfl rfl rfl rfl (fun a S17 => ?_); clear S16
    refine S17.indexA (want_none rfl) rfl rfl rfl rfl rfl (idxS00 Try.underlying42 size52 _ _ _ _ hpos) (fun a S18 => ?_); clear S17
    refine S18.fieldA (want_none rfl) rfl rfl rfl rfl (fld52_1 _ _ _) (fun a S19 => ?_); clear S18
    refine S19.loadC (want_none rfl) rfl rfl rfl rfl one50 ((S19.bag.own? 4 rfl).cell dotE_len hp0 rfl) (fun a S20 => ?_); clear S19
    refine S20.conv (want_none rfl) rfl rfl rfl rfl (convI Try.underlying50 Try.underlying2 _ (IntWalk.i64_in _ (by omega))) (fun a S21 => ?_); clear S20
    refine S21.asg (want_none rfl) rfl rfl rfl rfl (fun a S22 => ?_); clear S21
    refine wpList_n ?_
    refine then_n ?_
    refine wp_seq ?_
    refine wp_region_lit ?_
    refine S22.move (want_none rfl) rfl rfl rfl rfl (fun a S23 => ?_); clear S22
    refine S23.move (want_none rfl) rfl rfl rfl rfl (fun a S24 => ?_); clear S23
    refine S24.builtin (want_none rfl) rfl rfl rfl rfl (lenS Try.underlying42 _ _ _ _ _) (fun a S25 => ?_); clear S24
    refine S25.bin (want_none rfl) rfl rfl rfl rfl rfl (subI Try.underlying3 _ _ _ _ (c := ((f.dots.length - 1 : Nat) : Int)) (by rw [show ((f.dots.length : Int) - 1) = ((f.dots.length - 1 : Nat) : Int) from by omega]; exact IntWalk.i64_in _ (by omega))) (fun a S26 => ?_); clear S25
    refine S26.indexA (want_none rfl) rfl rfl rfl rfl rfl (idxS0 Try.underlying42 size52 _ _ _ _ hS) (fun a S27 => ?_); clear S26
    refine S27.fieldA (want_none rfl) rfl rfl rfl rfl (fld52_1 _ _ _) (fun a S28 => ?_); clear S27
    refine S28.loadC (want_none rfl) rfl rfl rfl rfl one50 ((S28.bag.own? 4 rfl).cell dotE_len hpS rfl) (fun a S29 => ?_); clear S28
    refine S29.conv (want_none rfl) rfl rfl rfl rfl (convI Try.underlying50 Try.underlying2 _ (IntWalk.i64_in _ (by omega))) (fun a S30 => ?_); clear S29
    refine S30.asg (want_none rfl) rfl rfl rfl rfl (fun a S31 => ?_); clear S30
    refine wpList_n ?_
    refine then_n ?_
    refine wp_seq ?_
    refine wp_region_lit ?_
    refine S31.move (want_none rfl) rfl rfl rfl rfl (fun a S32 => ?_); clear S31
    refine S32.conv (want_none rfl) rfl rfl rfl rfl (convI Try.underlying2 Try.underlying50 _ (IntWalk.i8_in _ (by omega))) (fun a S33 => ?_); clear S32
    refine S33.move (want_none rfl) rfl rfl rfl rfl (fun a S34 => ?_); clear S33
    refine S34.conv (want_none rfl) rfl rfl rfl rfl (convI Try.underlying2 Try.underlying50 _ (IntWalk.i8_in _ (by omega))) (fun a S35 => ?_); clear S34
    refine S35.move (want_none rfl) rfl rfl rfl rfl (fun a S36 => ?_); clear S35
    refine S36.move (want_none rfl) rfl rfl rfl rfl (fun a S37 => ?_); clear S36
    refine S37.bin (want_none rfl) rfl rfl rfl rfl rfl (subI Try.underlying2 _ _ _ _ (IntWalk.i64_in _ (by omega))) (fun a S38 => ?_); clear S37
    refine S38.bin (want_none rfl) rfl rfl rfl rfl rfl (addI Try.underlying2 _ _ _ _ (IntWalk.i64_in _ (by omega))) (fun a S39 => ?_); clear S38
    refine S39.conv (want_none rfl) rfl rfl rfl rfl (convI Try.underlying2 Try.underlying50 _ (IntWalk.i8_in _ (by omega))) (fun a S40 => ?_); clear S39
    refine S40.move (want_none rfl) rfl rfl rfl rfl (fun a S41 => ?_); clear S40
    refine S41.move (want_none rfl) rfl rfl rfl rfl (fun a S42 => ?_); clear S41
    refine S42.bin (want_none rfl) rfl rfl rfl rfl rfl (subI Try.underlying2 _ _ _ _ (IntWalk.i64_in _ (by omega))) (fun a S43 => ?_); clear S42
    refine S43.bin (want_none rfl) rfl rfl rfl rfl rfl (addI Try.underlying2 _ _ _ _ (IntWalk.i64_in _ (by omega))) (fun a S44 => ?_); clear S43
    refine S44.conv (want_none rfl) rfl rfl rfl rfl (convI Try.underlying2 Try.underlying50 _ (IntWalk.i8_in _ (by omega))) (fun a S45 => ?_); clear S44
    refine S45.buildP (want_none rfl) rfl rfl rfl [(0, _), (1, _), (2, _), (3, _)] ⟨rfl, rfl, rfl, rfl, rfl, rfl, rfl, rfl, trivial⟩ (build54_4 _ _ _ _ _ ) (fun a S46 => ?_); clear S45
    refine S46.storeR (want_none rfl) rfl rfl rfl rfl row54 2 rfl rfl rfl (by first | rfl | kernel_rfl) (fun a w S47 => ?_); clear S46
    refine S47.asg (want_none rfl) rfl rfl rfl rfl (fun a S48 => ?_); clear S47
    refine wpList_n ?_
    refine then_n ?_
    refine wp_ret ?_
    exact retR2 row54 S48 rfl 2 rfl rfl rfl rfl ⟨by unfold Frbox; rw [hno, hso], S48.bag.below⟩
end Go.Proofs.Ythhimlicaiifdaa
