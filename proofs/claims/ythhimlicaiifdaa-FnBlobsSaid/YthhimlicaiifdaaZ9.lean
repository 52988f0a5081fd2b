/- Frames in the reference: shrunk. -/
import Derived.Test.YthhimlicaiifdaaZ8
set_option maxRecDepth 100000
set_option linter.unusedSimpArgs false
set_option linter.unusedVariables false
namespace Go.Proofs.Ythhimlicaiifdaa
open Go.RowKit Fb

theorem row148 : RowTy Try.prog 148 8 := ⟨⟨_, Try.underlying148, rfl⟩, by kernel_rfl⟩
theorem size147 (w : World) : (Go.sizeOf 147).run Try.prog w = .ok 2 w := by kernel_rfl
theorem build147_2 (a b : Int) (w : World) : (Instr.build 147 #[(0, .int .i64 a), (1, .int .i64 b)]).run Try.prog w = .ok (.agg #[.int .i64 a, .int .i64 b]) w := by kernel_rfl
def sides (x y : Int) : Array Value := #[.int .i64 (x - 1), .int .i64 y, .int .i64 (x + 1), .int .i64 y, .int .i64 x, .int .i64 (y - 1), .int .i64 x, .int .i64 (y + 1)]
theorem build148_4 (a b c d : Array Value) (w : World) {x y : Int} (ha : a = #[.int .i64 (x - 1), .int .i64 y]) (hb : b = #[.int .i64 (x + 1), .int .i64 y]) (hc : c = #[.int .i64 x, .int .i64 (y - 1)]) (hd : d = #[.int .i64 x, .int .i64 (y + 1)]) :
    (Instr.build 148 #[(0, .agg a), (1, .agg b), (2, .agg c), (3, .agg d)]).run Try.prog w = .ok (.agg (sides x y)) w := by
  subst ha hb hc hd
  kernel_rfl
theorem sides_x (x y : Int) {k : Nat} (hk : k < 4) : (sides x y)[k * 2]? = some (.int .i64 (Fr.sideX x k)) := by
  match k, hk with
  | 0, _ => rfl
  | 1, _ => rfl
  | 2, _ => rfl
  | 3, _ => rfl
theorem sides_y (x y : Int) {k : Nat} (hk : k < 4) : (sides x y)[k * 2 + 1]? = some (.int .i64 (Fr.sideY y k)) := by
  match k, hk with
  | 0, _ => rfl
  | 1, _ => rfl
  | 2, _ => rfl
  | 3, _ => rfl
theorem idx148 (b : Nat) (ik : IntKind) {k : Nat} (hk : k < 4) {w : World} : (Instr.indexAt 148 (.pointer (some ⟨b, 0, none⟩)) (.int ik (k : Int))).run Try.prog w = .ok (.pointer (some ⟨b, k * 2, none⟩)) w := by
  have := idxArr (P := Try.prog) Try.underlying148 (by omega) size147 b 0 ik hk (w := w)
  rwa [Nat.zero_add] at this
theorem idx147_0 (b o : Nat) {w : World} : (Instr.indexAt 147 (.pointer (some ⟨b, o, none⟩)) (.int .i64 0)).run Try.prog w = .ok (.pointer (some ⟨b, o, none⟩)) w := by kernel_rfl
theorem idx147_1 (b o : Nat) {w : World} : (Instr.indexAt 147 (.pointer (some ⟨b, o, none⟩)) (.int .i64 1)).run Try.prog w = .ok (.pointer (some ⟨b, o + 1, none⟩)) w := by kernel_rfl
theorem full_out {f : Fr} {x y : Int} {j : Nat} (h : isP (Fr.sideX x j) (Fr.sideY y j) = false) : Fr.fullTo f x y (j + 1) = Fr.fullTo f x y j := by
  have h' : Fr.plc (Fr.sideX x j) (Fr.sideY y j) = false := h
  simp [Fr.fullTo, h']
theorem full_no {f : Fr} {x y : Int} {j : Nat} (h : isP (Fr.sideX x j) (Fr.sideY y j) = true) (hh : (!f.has (Fr.sideX x j) (Fr.sideY y j)) = true) : Fr.fullTo f x y (j + 1) = false := by
  have h' : Fr.plc (Fr.sideX x j) (Fr.sideY y j) = true := h
  have h2 : f.has (Fr.sideX x j) (Fr.sideY y j) = false := by simpa using hh
  simp [Fr.fullTo, h', h2]
theorem full_yes {f : Fr} {x y : Int} {j : Nat} (hh : (!f.has (Fr.sideX x j) (Fr.sideY y j)) = false) : Fr.fullTo f x y (j + 1) = Fr.fullTo f x y j := by
  have h2 : f.has (Fr.sideX x j) (Fr.sideY y j) = true := by simpa using hh
  simp [Fr.fullTo, h2]

set_option maxHeartbeats 1000000 in
theorem sShrinkFrame_ok (f : Fr) (w0 : World) (hf : f.ok = true) : Calls Try.prog 41 #[frV f] w0 (RetF2 f.shrink 0 w0) := by
  have hl := dots_len f
  refine St.enter Try.func41 rfl (show _ = 82 from rfl) rfl (L := [(0, _)]) rfl (fun a S0 => ?_)
  refine wp_seq ?_
  refine wp_region_lit ?_
  refine S0.boxA (want_none rfl) rfl rfl rfl rfl (fun b1 a w hq3 hq4 S1 => ?_); clear S0 hq3 hq4
  refine S1.allocA (want_none rfl) rfl rfl rfl (Try.zeroValue26 _) cellsZ26 (fun b2 a w hq3 hq4 S2 => ?_); clear S1 hq3 hq4
  refine S2.asg (want_none rfl) rfl rfl rfl rfl (fun a S3 => ?_); clear S2
  refine wpList_n ?_
  refine then_n ?_
  refine wp_seq ?_
  refine wp_seq ?_
  refine wp_region_lit ?_
  refine S3.callQ (want_none rfl) rfl rfl rfl rfl Try.call109 (sOk_ok f _ _ _ (S3.bag.frAt 1 rfl) hf) (fun a S4 => ?_); clear S3
  refine S4.un (want_none rfl) rfl rfl rfl rfl (notB _) (fun a S5 => ?_); clear S4
  refine wpList_n ?_
  refine then_n ?_
  refine S5.noB rfl (rfl) ?_
  refine wp_skip ?_
  refine then_n ?_
  refine wp_seq ?_
  refine wp_region_lit ?_
  refine S5.build (want_none rfl) rfl rfl rfl (by rw [Array.map_empty]; exact zeroFr _) (fun a S6 => ?_); clear S5
  refine S6.allocA (want_none rfl) rfl rfl rfl (Try.zeroValue26 _) cellsZ26 (fun b4 a w hq3 hq4 S7 => ?_); clear S6 hq3 hq4
  refine S7.storeF (want_none rfl) rfl rfl rfl rfl row26 4 rfl (fun a w S8 => ?_); clear S7
  refine wpList_n ?_
  refine then_n ?_
  refine wp_seq ?_
  refine wp_region_lit ?_
  refine S8.call (want_none rfl) rfl rfl rfl rfl Try.call110 (sDots_any f _ _ _ (S8.bag.frAt 1 rfl)) (fun e w hR => ?_)
  obtain ⟨v, rfl, hv, hb⟩ := hR
  refine ⟨_, rfl, fun a A => ?_⟩
  have S9 : St _ _ _ _ _ _ := ⟨A, S8.bag.callRow 5 hb hv⟩; clear A S8
  obtain ⟨Av, cv, rfl⟩ := (S9.bag.own? 5 rfl).slice
  refine S9.asg (want_none rfl) rfl rfl rfl rfl (fun a S10 => ?_); clear S9
  refine wpList_n ?_
  refine then_n ?_
  refine wp_seq ?_
  refine wp_seq ?_
  refine wp_region_lit ?_
  refine S10.asg (want_none rfl) rfl rfl rfl rfl (fun a S11 => ?_); clear S10
  refine wpList_n ?_
  refine then_n ?_
  refine wp_block ?_
  refine wp_loopN (fun m a w => ∃ k : Nat, k ≤ f.dots.length ∧ m = f.dots.length - k ∧ St w0 82 [(1, .pointer (some ⟨b1, 0, none⟩)), (2, .pointer (some ⟨b2, 0, none⟩)), (4, .pointer (some ⟨b4, 0, none⟩)), (5, .slice Av f.dots.length cv), (6, .int .i64 (k : Nat))] [(1, blk b1 (frC f) 26), (2, blk b2 (frC Fr.zero) 26), (4, blk b4 (frC (Fr.shrTo f f.dots k)) 26), (5, row w0.heap.size 52 dotE 2 (.slice Av f.dots.length cv) f.dots)] a w) (f.dots.length) (⟨0, by omega, rfl, S11.to ⟨rfl, rfl, rfl, rfl, rfl, trivial⟩ ⟨rfl, rfl, rfl, rfl, trivial⟩⟩) (fun m a w hI => ?_)
  obtain ⟨k, hk, rfl, S12⟩ := hI
  refine wp_seq ?_
  refine wp_seq ?_
  refine wp_region_lit ?_
  refine S12.move (want_none rfl) rfl rfl rfl rfl (fun a S13 => ?_); clear S12
  refine S13.move (want_none rfl) rfl rfl rfl rfl (fun a S14 => ?_); clear S13
  refine S14.builtin (want_none rfl) rfl rfl rfl rfl (lenS Try.underlying42 _ _ _ _ _) (fun a S15 => ?_); clear S14
  refine S15.bin (want_none rfl) rfl rfl rfl rfl rfl (lssI Try.underlying3 _ _ _ _) (fun a S16 => ?_); clear S15
  refine wpList_n ?_
  refine then_n ?_
  refine S16.either rfl (fun hlt => ?_) (fun hlt => ?_)
  · skip
    refine wp_skip ?_
    refine then_n ?_
    refine wp_seq ?_
    refine wp_block ?_
    refine wp_seq ?_
    have hlt : k < f.dots.length := by have := of_decide_eq_true hlt; omega
    obtain ⟨p, hp⟩ : ∃ p, f.dots[k]? = some p := ⟨_, List.getElem?_eq_getElem hlt⟩
    obtain ⟨b, rfl⟩ := (S16.bag.own? 5 rfl).some dotE_len hp
    have hin := dots_in hp
    obtain ⟨px, py⟩ := p
    have hq1 : px < 12 := hin.1
    have hq2 : py < 12 := hin.2
    refine wp_region_lit ?_
    refine S16.move (want_none rfl) rfl rfl rfl rfl (fun a S17 => ?_); clear S16
    refine S17.move (want_none rfl) rfl rfl rfl rfl (fun a S18 => ?_); clear S17
    refine S18.indexA (want_none rfl) rfl rfl rfl rfl rfl (idxS0 Try.underlying42 size52 _ _ _ _ hlt) (fun a S19 => ?_); clear S18
    refine S19.fieldA (want_none rfl) rfl rfl rfl rfl (fld52_0 _ _ _) (fun a S20 => ?_); clear S19
    refine S20.loadC (want_none rfl) rfl rfl rfl rfl one50 ((S20.bag.own? 5 rfl).cell0 dotE_len hp rfl) (fun a S21 => ?_); clear S20
    refine S21.conv (want_none rfl) rfl rfl rfl rfl (convI Try.underlying50 Try.underlying2 _ (IntWalk.i64_in _ (by omega))) (fun a S22 => ?_); clear S21
    refine S22.asg (want_none rfl) rfl rfl rfl rfl (fun a S23 => ?_); clear S22
    refine wpList_n ?_
    refine then_n ?_
    refine wp_seq ?_
    refine wp_region_lit ?_
    refine S23.move (want_none rfl) rfl rfl rfl rfl (fun a S24 => ?_); clear S23
    refine S24.move (want_none rfl) rfl rfl rfl rfl (fun a S25 => ?_); clear S24
    refine S25.indexA (want_none rfl) rfl rfl rfl rfl rfl (idxS0 Try.underlying42 size52 _ _ _ _ hlt) (fun a S26 => ?_); clear S25
    refine S26.fieldA (want_none rfl) rfl rfl rfl rfl (fld52_1 _ _ _) (fun a S27 => ?_); clear S26
    refine S27.loadC (want_none rfl) rfl rfl rfl rfl one50 ((S27.bag.own? 5 rfl).cell dotE_len hp rfl) (fun a S28 => ?_); clear S27
    refine S28.conv (want_none rfl) rfl rfl rfl rfl (convI Try.underlying50 Try.underlying2 _ (IntWalk.i64_in _ (by omega))) (fun a S29 => ?_); clear S28
    refine S29.asg (want_none rfl) rfl rfl rfl rfl (fun a S30 => ?_); clear S29
    refine wpList_n ?_
    refine then_n ?_
    refine wp_seq ?_
    refine wp_region_lit ?_
    refine S30.asg (want_none rfl) rfl rfl rfl rfl (fun a S31 => ?_); clear S30
    refine wpList_n ?_
    refine then_n ?_
    refine wp_seq ?_
    refine wp_region_lit ?_
    refine S31.move (want_none rfl) rfl rfl rfl rfl (fun a S32 => ?_); clear S31
    refine S32.bin (want_none rfl) rfl rfl rfl rfl rfl (subI Try.underlying2 _ _ _ _ (IntWalk.i64_in _ (by omega))) (fun a S33 => ?_); clear S32
    refine S33.move (want_none rfl) rfl rfl rfl rfl (fun a S34 => ?_); clear S33
    refine S34.buildP (want_none rfl) rfl rfl rfl [(0, _), (1, _)] ⟨rfl, rfl, rfl, rfl, trivial⟩ (build147_2 _ _ _ ) (fun a S35 => ?_); clear S34
    refine S35.move (want_none rfl) rfl rfl rfl rfl (fun a S36 => ?_); clear S35
    refine S36.bin (want_none rfl) rfl rfl rfl rfl rfl (addI Try.underlying2 _ _ _ _ (IntWalk.i64_in _ (by omega))) (fun a S37 => ?_); clear S36
    refine S37.move (want_none rfl) rfl rfl rfl rfl (fun a S38 => ?_); clear S37
    refine S38.buildP (want_none rfl) rfl rfl rfl [(0, _), (1, _)] ⟨rfl, rfl, rfl, rfl, trivial⟩ (build147_2 _ _ _ ) (fun a S39 => ?_); clear S38
    refine S39.move (want_none rfl) rfl rfl rfl rfl (fun a S40 => ?_); clear S39
    refine S40.move (want_none rfl) rfl rfl rfl rfl (fun a S41 => ?_); clear S40
    refine S41.bin (want_none rfl) rfl rfl rfl rfl rfl (subI Try.underlying2 _ _ _ _ (IntWalk.i64_in _ (by omega))) (fun a S42 => ?_); clear S41
    refine S42.buildP (want_none rfl) rfl rfl rfl [(0, _), (1, _)] ⟨rfl, rfl, rfl, rfl, trivial⟩ (build147_2 _ _ _ ) (fun a S43 => ?_); clear S42
    refine S43.move (want_none rfl) rfl rfl rfl rfl (fun a S44 => ?_); clear S43
    refine S44.move (want_none rfl) rfl rfl rfl rfl (fun a S45 => ?_); clear S44
    refine S45.bin (want_none rfl) rfl rfl rfl rfl rfl (addI Try.underlying2 _ _ _ _ (IntWalk.i64_in _ (by omega))) (fun a S46 => ?_); clear S45
    refine S46.buildP (want_none rfl) rfl rfl rfl [(0, _), (1, _)] ⟨rfl, rfl, rfl, rfl, trivial⟩ (build147_2 _ _ _ ) (fun a S47 => ?_); clear S46
    refine S47.buildP (want_none rfl) rfl rfl rfl [(0, _), (1, _), (2, _), (3, _)] ⟨rfl, rfl, rfl, rfl, rfl, rfl, rfl, rfl, trivial⟩ (by exact build148_4 _ _ _ _ _ (x := px) (y := py) rfl rfl rfl rfl) (fun a S48 => ?_)
    clear S47
    refine S48.allocA (want_none rfl) rfl rfl rfl (Try.zeroValue148 _) rfl (fun b10 a w hq3 hq4 S49 => ?_); clear S48 hq3 hq4
    refine S49.storeR (want_none rfl) rfl rfl rfl rfl row148 10 rfl rfl rfl (by first | rfl | kernel_rfl) (fun a w S50 => ?_); clear S49
    refine wpList_n ?_
    refine then_n ?_
    refine wp_seq ?_
    refine wp_seq ?_
    refine wp_region_lit ?_
    refine S50.asg (want_none rfl) rfl rfl rfl rfl (fun a S51 => ?_); clear S50
    refine wpList_n ?_
    refine then_n ?_
    refine wp_block ?_
    refine wp_loopN (fun m a w => ∃ j : Nat, j ≤ 4 ∧ m = 4 - j ∧ St w0 82 [(1, .pointer (some ⟨b1, 0, none⟩)), (2, .pointer (some ⟨b2, 0, none⟩)), (4, .pointer (some ⟨b4, 0, none⟩)), (5, .slice (some ⟨b, 0, none⟩) f.dots.length cv), (6, .int .i64 (k : Nat)), (7, .int .i64 (px : Nat)), (8, .int .i64 (py : Nat)), (9, .bool (Fr.fullTo f px py j)), (10, .pointer (some ⟨b10, 0, none⟩)), (11, .int .i64 (j : Nat))] [(1, blk b1 (frC f) 26), (2, blk b2 (frC Fr.zero) 26), (4, blk b4 (frC (Fr.shrTo f f.dots k)) 26), (5, row w0.heap.size 52 dotE 2 (.slice (some ⟨b, 0, none⟩) f.dots.length cv) f.dots), (10, blk b10 (sides px py) 148)] a w) (4) (⟨0, by omega, rfl, S51.to ⟨rfl, rfl, rfl, rfl, rfl, rfl, rfl, rfl, rfl, rfl, trivial⟩ ⟨rfl, rfl, rfl, rfl, rfl, trivial⟩⟩) (fun m a w hI => ?_)
    obtain ⟨j, hj, rfl, S52⟩ := hI
    refine wp_seq ?_
    refine wp_seq ?_
    refine wp_region_lit ?_
    refine S52.move (want_none rfl) rfl rfl rfl rfl (fun a S53 => ?_); clear S52
    refine S53.bin (want_none rfl) rfl rfl rfl rfl rfl (lssI Try.underlying3 _ _ _ _) (fun a S54 => ?_); clear S53
    refine wpList_n ?_
    refine then_n ?_
    refine S54.either rfl (fun hlj => ?_) (fun hlj => ?_)
    · skip
      refine wp_skip ?_
      refine then_n ?_
      refine wp_seq ?_
      refine wp_block ?_
      refine wp_seq ?_
      have hlj : j < 4 := by have := of_decide_eq_true hlj; omega
      cases hP : isP (Fr.sideX px j) (Fr.sideY py j)
      · skip
        refine S54.quiet (by kernel_rfl) (by kernel_rfl) (fun a S55 => ?_)
        clear S54
        refine S55.qmove (want_none rfl) rfl rfl rfl rfl (fun a S56 => ?_); clear S55
        refine S56.qindexA (want_none rfl) rfl rfl rfl rfl rfl (fun w hC => idx148 _ _ hlj) (fun a S57 => ?_)
        clear S56
        refine S57.qindexA (want_none rfl) rfl rfl rfl rfl rfl (fun w hC => idx147_0 _ _) (fun a S58 => ?_)
        clear S57
        refine S58.qload (want_none rfl) rfl rfl rfl rfl (fun w hC => hC.load1 one2 10 rfl (sides_x _ _ hlj)) (fun a S59 => ?_); clear S58
        refine S59.qmove (want_none rfl) rfl rfl rfl rfl (fun a S60 => ?_); clear S59
        refine S60.qindexA (want_none rfl) rfl rfl rfl rfl rfl (fun w hC => idx148 _ _ hlj) (fun a S61 => ?_)
        clear S60
        refine S61.qindexA (want_none rfl) rfl rfl rfl rfl rfl (fun w hC => idx147_1 _ _) (fun a S62 => ?_)
        clear S61
        refine S62.qload (want_none rfl) rfl rfl rfl rfl (fun w hC => hC.load1 one2 10 rfl (sides_y _ _ hlj)) (fun a S63 => ?_); clear S62
        refine S63.qcall (want_none rfl) rfl rfl rfl rfl Try.call139 (Bag.callsQ fun w hC => (by have := sPlace_any (Fr.sideX px j) (Fr.sideY py j) w; rwa [hP] at this)) (fun a S64 => ?_); clear S63
        refine S64.qmove (want_none rfl) rfl rfl rfl rfl (fun a S65 => ?_); clear S64
        refine S65.qskip (S65.unwant rfl rfl rfl rfl rfl (.inl rfl)) rfl rfl (fun a S66 => ?_); clear S65
        refine S66.qskip (S66.unwant rfl rfl rfl rfl rfl (.inl rfl)) rfl rfl (fun a S67 => ?_); clear S66
        refine S67.qskip (S67.unwant rfl rfl rfl rfl rfl (.inl rfl)) rfl rfl (fun a S68 => ?_); clear S67
        refine S68.qskip (S68.unwant rfl rfl rfl rfl rfl (.inl rfl)) rfl rfl (fun a S69 => ?_); clear S68
        refine S69.qskip (S69.unwant rfl rfl rfl rfl rfl (.inl rfl)) rfl rfl (fun a S70 => ?_); clear S69
        refine S70.qskip (S70.unwant rfl rfl rfl rfl rfl (.inl rfl)) rfl rfl (fun a S71 => ?_); clear S70
        refine S71.qskip (S71.unwant rfl rfl rfl rfl rfl (.inl rfl)) rfl rfl (fun a S72 => ?_); clear S71
        refine S72.qskip (S72.unwant rfl rfl rfl rfl rfl (.inl rfl)) rfl rfl (fun a S73 => ?_); clear S72
        refine S73.qskip (S73.unwant rfl rfl rfl rfl rfl (.inl rfl)) rfl rfl (fun a S74 => ?_); clear S73
        refine S74.qskip (S74.unwant rfl rfl rfl rfl rfl (.inl rfl)) rfl rfl (fun a S75 => ?_); clear S74
        refine S75.qpickF (want_none rfl) rfl rfl rfl rfl rfl (fun a S76 => ?_); clear S75
        refine S76.qend (fun S77 w hB => ?_)
        have S78 : St _ _ _ _ _ _ := ⟨S77, hB⟩
        clear S77
        refine then_n ?_
        refine S78.noB rfl (rfl) ?_
        refine wp_skip ?_
        refine blk_n ?_
        refine then_n ?_
        refine wp_region_lit ?_
        refine S78.move (want_none rfl) rfl rfl rfl rfl (fun a S79 => ?_); clear S78
        refine S79.bin (want_none rfl) rfl rfl rfl rfl rfl (addI Try.underlying3 _ _ _ _ (IntWalk.i64_in _ (by omega))) (fun a S80 => ?_); clear S79
        refine S80.asg (want_none rfl) rfl rfl rfl rfl (fun a S81 => ?_); clear S80
        refine wpList_n ?_
        refine then_n ?_
        exact ⟨4 - (j + 1), by omega, j + 1, by omega, rfl, S81.to ⟨rfl, rfl, rfl, rfl, rfl, rfl, rfl, by rw [full_out hP]; rfl, rfl, rfl, trivial⟩ ⟨rfl, rfl, rfl, rfl, rfl, trivial⟩⟩
      · skip
        refine S54.quiet (by kernel_rfl) (by kernel_rfl) (fun a S55 => ?_)
        clear S54
        refine S55.qmove (want_none rfl) rfl rfl rfl rfl (fun a S56 => ?_); clear S55
        refine S56.qindexA (want_none rfl) rfl rfl rfl rfl rfl (fun w hC => idx148 _ _ hlj) (fun a S57 => ?_)
        clear S56
        refine S57.qindexA (want_none rfl) rfl rfl rfl rfl rfl (fun w hC => idx147_0 _ _) (fun a S58 => ?_)
        clear S57
        refine S58.qload (want_none rfl) rfl rfl rfl rfl (fun w hC => hC.load1 one2 10 rfl (sides_x _ _ hlj)) (fun a S59 => ?_); clear S58
        refine S59.qmove (want_none rfl) rfl rfl rfl rfl (fun a S60 => ?_); clear S59
        refine S60.qindexA (want_none rfl) rfl rfl rfl rfl rfl (fun w hC => idx148 _ _ hlj) (fun a S61 => ?_)
        clear S60
        refine S61.qindexA (want_none rfl) rfl rfl rfl rfl rfl (fun w hC => idx147_1 _ _) (fun a S62 => ?_)
        clear S61
        refine S62.qload (want_none rfl) rfl rfl rfl rfl (fun w hC => hC.load1 one2 10 rfl (sides_y _ _ hlj)) (fun a S63 => ?_); clear S62
        refine S63.qcall (want_none rfl) rfl rfl rfl rfl Try.call139 (Bag.callsQ fun w hC => (by have := sPlace_any (Fr.sideX px j) (Fr.sideY py j) w; rwa [hP] at this)) (fun a S64 => ?_); clear S63
        refine S64.qmove (want_none rfl) rfl rfl rfl rfl (fun a S65 => ?_); clear S64
        refine S65.qmove (S65.want rfl rfl rfl rfl rfl) rfl rfl rfl rfl (fun a S66 => ?_); clear S65
        refine S66.qindexA (S66.want rfl rfl rfl rfl rfl) rfl rfl rfl rfl rfl (fun w hC => idx148 _ _ hlj) (fun a S67 => ?_)
        clear S66
        refine S67.qindexA (S67.want rfl rfl rfl rfl rfl) rfl rfl rfl rfl rfl (fun w hC => idx147_0 _ _) (fun a S68 => ?_)
        clear S67
        refine S68.qload (S68.want rfl rfl rfl rfl rfl) rfl rfl rfl rfl (fun w hC => hC.load1 one2 10 rfl (sides_x _ _ hlj)) (fun a S69 => ?_); clear S68
        refine S69.qmove (S69.want rfl rfl rfl rfl rfl) rfl rfl rfl rfl (fun a S70 => ?_); clear S69
        refine S70.qindexA (S70.want rfl rfl rfl rfl rfl) rfl rfl rfl rfl rfl (fun w hC => idx148 _ _ hlj) (fun a S71 => ?_)
        clear S70
        refine S71.qindexA (S71.want rfl rfl rfl rfl rfl) rfl rfl rfl rfl rfl (fun w hC => idx147_1 _ _) (fun a S72 => ?_)
        clear S71
        refine S72.qload (S72.want rfl rfl rfl rfl rfl) rfl rfl rfl rfl (fun w hC => hC.load1 one2 10 rfl (sides_y _ _ hlj)) (fun a S73 => ?_); clear S72
        refine S73.qcall (S73.want rfl rfl rfl rfl rfl) rfl rfl rfl rfl Try.call140 (Bag.callsQ fun w hC => sHas_any f _ _ _ _ _ (hC.frAt 1 rfl)) (fun a S74 => ?_); clear S73
        refine S74.qun (S74.want rfl rfl rfl rfl rfl) rfl rfl rfl rfl (fun w hC => notB _) (fun a S75 => ?_); clear S74
        refine S75.qpickT (want_none rfl) rfl rfl rfl rfl rfl (fun a S76 => ?_); clear S75
        refine S76.qend (fun S77 w hB => ?_)
        have S78 : St _ _ _ _ _ _ := ⟨S77, hB⟩
        clear S77
        refine then_n ?_
        refine S78.either rfl (fun hne => ?_) (fun hne => ?_)
        · skip
          refine wp_region_lit ?_
          refine S78.asg (want_none rfl) rfl rfl rfl rfl (fun a S79 => ?_); clear S78
          refine wpList_n ?_
          refine blk_n ?_
          refine then_n ?_
          refine wp_region_lit ?_
          refine S79.move (want_none rfl) rfl rfl rfl rfl (fun a S80 => ?_); clear S79
          refine S80.bin (want_none rfl) rfl rfl rfl rfl rfl (addI Try.underlying3 _ _ _ _ (IntWalk.i64_in _ (by omega))) (fun a S81 => ?_); clear S80
          refine S81.asg (want_none rfl) rfl rfl rfl rfl (fun a S82 => ?_); clear S81
          refine wpList_n ?_
          refine then_n ?_
          exact ⟨4 - (j + 1), by omega, j + 1, by omega, rfl, S82.to ⟨rfl, rfl, rfl, rfl, rfl, rfl, rfl, by rw [full_no hP hne]; rfl, rfl, rfl, trivial⟩ ⟨rfl, rfl, rfl, rfl, rfl, trivial⟩⟩
        · skip
          refine wp_skip ?_
          refine blk_n ?_
          refine then_n ?_
          refine wp_region_lit ?_
          refine S78.move (want_none rfl) rfl rfl rfl rfl (fun a S79 => ?_); clear S78
          refine S79.bin (want_none rfl) rfl rfl rfl rfl rfl (addI Try.underlying3 _ _ _ _ (IntWalk.i64_in _ (by omega))) (fun a S80 => ?_); clear S79
          refine S80.asg (want_none rfl) rfl rfl rfl rfl (fun a S81 => ?_); clear S80
          refine wpList_n ?_
          refine then_n ?_
          exact ⟨4 - (j + 1), by omega, j + 1, by omega, rfl, S81.to ⟨rfl, rfl, rfl, rfl, rfl, rfl, rfl, by rw [full_yes hne]; rfl, rfl, rfl, trivial⟩ ⟨rfl, rfl, rfl, rfl, rfl, trivial⟩⟩
    · skip
      refine wp_exit ?_
      refine then_e ?_
      refine then_e ?_
      refine blk_e ?_
      refine then_n ?_
      refine wp_seq ?_
      obtain rfl : j = 4 := by have := of_decide_eq_false hlj; omega
      refine wp_region_lit ?_
      refine S54.move (want_none rfl) rfl rfl rfl rfl (fun a S55 => ?_); clear S54
      refine wpList_n ?_
      refine then_n ?_
      refine S55.either rfl (fun hfull => ?_) (fun hfull => ?_)
      · skip
        refine wp_region_lit ?_
        refine S55.move (want_none rfl) rfl rfl rfl rfl (fun a S56 => ?_); clear S55
        refine S56.move (want_none rfl) rfl rfl rfl rfl (fun a S57 => ?_); clear S56
        refine S57.call (want_none rfl) rfl rfl rfl rfl Try.call111 (sPut_any _ _ 26 _ _ _ (S57.bag.at 4 rfl)) (fun e w hR => ?_)
        obtain ⟨rfl, hu⟩ := hR
        refine ⟨_, rfl, fun a A => ?_⟩
        have S58 : St _ _ _ _ _ _ := ⟨A, S57.bag.upd 4 rfl hu⟩; clear A S57
        refine wpList_n ?_
        refine blk_n ?_
        refine then_n ?_
        refine wp_region_lit ?_
        refine S58.move (want_none rfl) rfl rfl rfl rfl (fun a S59 => ?_); clear S58
        refine S59.bin (want_none rfl) rfl rfl rfl rfl rfl (addI Try.underlying3 _ _ _ _ (IntWalk.i64_in _ (by omega))) (fun a S60 => ?_); clear S59
        refine S60.asg (want_none rfl) rfl rfl rfl rfl (fun a S61 => ?_); clear S60
        refine wpList_n ?_
        refine then_n ?_
        exact ⟨f.dots.length - (k + 1), by omega, k + 1, by omega, rfl, S61.to ⟨rfl, rfl, rfl, rfl, rfl, trivial⟩ ⟨rfl, rfl, by rw [← Fr.shrTo_succ f _ k _ hp]; unfold Fr.shrStep; rw [if_pos hfull]; rfl, rfl, trivial⟩⟩
      · skip
        refine wp_skip ?_
        refine blk_n ?_
        refine then_n ?_
        refine wp_region_lit ?_
        refine S55.move (want_none rfl) rfl rfl rfl rfl (fun a S56 => ?_); clear S55
        refine S56.bin (want_none rfl) rfl rfl rfl rfl rfl (addI Try.underlying3 _ _ _ _ (IntWalk.i64_in _ (by omega))) (fun a S57 => ?_); clear S56
        refine S57.asg (want_none rfl) rfl rfl rfl rfl (fun a S58 => ?_); clear S57
        refine wpList_n ?_
        refine then_n ?_
        exact ⟨f.dots.length - (k + 1), by omega, k + 1, by omega, rfl, S58.to ⟨rfl, rfl, rfl, rfl, rfl, trivial⟩ ⟨rfl, rfl, by rw [← Fr.shrTo_succ f _ k _ hp]; unfold Fr.shrStep; rw [if_neg (by rw [hfull]; simp)]; rfl, rfl, trivial⟩⟩
  · skip
    refine wp_exit ?_
    refine then_e ?_
    refine then_e ?_
    refine blk_e ?_
    refine then_n ?_
    refine wp_seq ?_
    obtain rfl : k = f.dots.length := by have := of_decide_eq_false hlt; omega
    rw [Fr.shrTo_all] at S16
    refine wp_region_lit ?_
    refine S16.loadF (want_none rfl) rfl rfl rfl rfl row26 4 rfl (fun a S17 => ?_); clear S16
    refine S17.storeF (want_none rfl) rfl rfl rfl rfl row26 2 rfl (fun a w S18 => ?_); clear S17
    refine S18.asg (want_none rfl) rfl rfl rfl rfl (fun a S19 => ?_); clear S18
    refine wpList_n ?_
    refine then_n ?_
    refine wp_ret ?_
    exact retF2 S19 rfl 2 rfl rfl rfl ⟨rfl, S19.bag.below⟩
end Go.Proofs.Ythhimlicaiifdaa
