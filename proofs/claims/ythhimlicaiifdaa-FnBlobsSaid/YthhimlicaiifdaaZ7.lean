/- Frames in the reference: two of them, joined, met; grown. -/
import Derived.Test.YthhimlicaiifdaaS4
set_option maxRecDepth 100000
set_option linter.unusedSimpArgs false
set_option linter.unusedVariables false
namespace Go.Proofs.Ythhimlicaiifdaa
open Go.RowKit Fb

theorem sBoth_ok (f g : Fr) (b1 o1 b2 o2 : Nat) (w0 : World) (hF : FrAt w0 b1 o1 f) (hG : FrAt w0 b2 o2 g) (hf : f.ok = true) (hg : g.ok = true) : Calls Try.prog 141 #[.pointer (some ⟨b1, o1, none⟩), .pointer (some ⟨b2, o2, none⟩)] w0 (RetQ (.int .i64 0) w0) := by
  refine St.enter Try.func141 rfl (show _ = 13 from rfl) rfl (L := [(0, _), (1, _)]) rfl (fun a S0 => ?_)
  refine wp_seq ?_
  refine wp_region_lit ?_
  refine S0.asg (want_none rfl) rfl rfl rfl rfl (fun a S1 => ?_); clear S0
  refine wpList_n ?_
  refine then_n ?_
  refine wp_seq ?_
  refine wp_seq ?_
  refine wp_region_lit ?_
  refine S1.move (want_none rfl) rfl rfl rfl rfl (fun a S2 => ?_); clear S1
  refine S2.callQ (want_none rfl) rfl rfl rfl rfl Try.call109 (sOk_ok f _ _ _ hF hf) (fun a S3 => ?_); clear S2
  refine S3.un (want_none rfl) rfl rfl rfl rfl (notB _) (fun a S4 => ?_); clear S3
  refine S4.move (want_none rfl) rfl rfl rfl rfl (fun a S5 => ?_); clear S4
  refine S5.move (S5.sl.want rfl rfl rfl rfl rfl) rfl rfl rfl rfl (fun a S6 => ?_); clear S5
  refine S6.callQ (S6.sl.want rfl rfl rfl rfl rfl) rfl rfl rfl rfl Try.call109 (sOk_ok g _ _ _ hG hg) (fun a S7 => ?_); clear S6
  refine S7.un (S7.sl.want rfl rfl rfl rfl rfl) rfl rfl rfl rfl (notB _) (fun a S8 => ?_); clear S7
  refine S8.pickF (want_none rfl) rfl rfl rfl rfl rfl (fun a S9 => ?_); clear S8
  refine wpList_n ?_
  refine then_n ?_
  refine S9.noB rfl (rfl) ?_
  refine wp_skip ?_
  refine then_n ?_
  refine wp_seq ?_
  refine wp_region_lit ?_
  refine S9.asg (want_none rfl) rfl rfl rfl rfl (fun a S10 => ?_); clear S9
  refine wpList_n ?_
  refine then_n ?_
  refine wp_ret ?_
  exact S10.ret1 rfl rfl ⟨rfl, rfl⟩

theorem sJoin_any (f g : Fr) (b1 o1 b2 o2 : Nat) (w0 : World) (hF : FrAt w0 b1 o1 f) (hG : FrAt w0 b2 o2 g) : Calls Try.prog 142 #[.pointer (some ⟨b1, o1, none⟩), .pointer (some ⟨b2, o2, none⟩)] w0 (RetB (frV (f.join g)) w0) := by
  refine St.enter Try.func142 rfl (show _ = 26 from rfl) rfl (L := [(0, _), (1, _)]) rfl (fun a S0 => ?_)
  refine wp_seq ?_
  refine wp_region_lit ?_
  refine S0.allocA (want_none rfl) rfl rfl rfl (Try.zeroValue26 _) cellsZ26 (fun b4 a w hq3 hq4 S1 => ?_); clear S0 hq3 hq4
  refine wpList_n ?_
  refine then_n ?_
  refine wp_seq ?_
  refine wp_region_lit ?_
  refine S1.build (want_none rfl) rfl rfl rfl (by rw [Array.map_empty]; exact zeroFr _) (fun a S2 => ?_); clear S1
  refine S2.allocA (want_none rfl) rfl rfl rfl (Try.zeroValue26 _) cellsZ26 (fun b5 a w hq3 hq4 S3 => ?_); clear S2 hq3 hq4
  refine S3.storeF (want_none rfl) rfl rfl rfl rfl row26 5 rfl (fun a w S4 => ?_); clear S3
  refine wpList_n ?_
  refine then_n ?_
  refine wp_seq ?_
  refine wp_seq ?_
  refine wp_region_lit ?_
  refine S4.asg (want_none rfl) rfl rfl rfl rfl (fun a S5 => ?_); clear S4
  refine wpList_n ?_
  refine then_n ?_
  refine wp_block ?_
  refine wp_loopN (fun m a w => ∃ k : Nat, k ≤ 12 ∧ m = 12 - k ∧ St w0 26 [(0, .pointer (some ⟨b1, o1, none⟩)), (1, .pointer (some ⟨b2, o2, none⟩)), (4, .pointer (some ⟨b4, 0, none⟩)), (5, .pointer (some ⟨b5, 0, none⟩)), (6, .int .i64 (k : Nat))] [(4, blk b4 (frC Fr.zero) 26), (5, blk b5 (frC (rowsTo (f.join g) k)) 26)] a w) (12) (⟨0, by omega, rfl, S5.to ⟨rfl, rfl, rfl, rfl, rfl, trivial⟩ ⟨rfl, by rw [rowsTo_zero]; rfl, trivial⟩⟩) (fun m a w hI => ?_)
  obtain ⟨k, hk, rfl, S6⟩ := hI
  refine wp_seq ?_
  refine wp_seq ?_
  refine wp_region_lit ?_
  refine S6.move (want_none rfl) rfl rfl rfl rfl (fun a S7 => ?_); clear S6
  refine S7.bin (want_none rfl) rfl rfl rfl rfl rfl (lssI Try.underlying3 _ _ _ _) (fun a S8 => ?_); clear S7
  refine wpList_n ?_
  refine then_n ?_
  refine S8.either rfl (fun hlt => ?_) (fun hlt => ?_)
  · skip
    refine wp_skip ?_
    refine then_n ?_
    refine wp_seq ?_
    refine wp_block ?_
    refine S8.tail 13 (by kernel_rfl) (by kernel_rfl) (fun a w hB S9 => ?_)
    clear S8
    have hlt : k < 12 := by have := of_decide_eq_true hlt; omega
    refine S9.qmove (want_none rfl) rfl rfl rfl rfl (fun a S10 => ?_); clear S9
    refine S10.qmove (want_none rfl) rfl rfl rfl rfl (fun a S11 => ?_); clear S10
    refine S11.qmove (want_none rfl) rfl rfl rfl rfl (fun a S12 => ?_); clear S11
    refine S12.qnilc (want_none rfl) rfl rfl rfl rfl (fun a S13 => ?_); clear S12
    refine S13.qindexA (want_none rfl) rfl rfl rfl rfl rfl (fun w hC => idxFrA _ _ _ hlt) (fun a S14 => ?_); clear S13
    refine S14.qload (want_none rfl) rfl rfl rfl rfl (fun w hC => one24.load ((hF.below hC.1.below) _ hlt)) (fun a S15 => ?_); clear S14
    refine S15.qmove (want_none rfl) rfl rfl rfl rfl (fun a S16 => ?_); clear S15
    refine S16.qmove (want_none rfl) rfl rfl rfl rfl (fun a S17 => ?_); clear S16
    refine S17.qnilc (want_none rfl) rfl rfl rfl rfl (fun a S18 => ?_); clear S17
    refine S18.qindexA (want_none rfl) rfl rfl rfl rfl rfl (fun w hC => idxFrA _ _ _ hlt) (fun a S19 => ?_); clear S18
    refine S19.qload (want_none rfl) rfl rfl rfl rfl (fun w hC => one24.load ((hG.below hC.1.below) _ hlt)) (fun a S20 => ?_); clear S19
    refine S20.qbin (want_none rfl) rfl rfl rfl rfl rfl (fun w hC => orR _ _ _ _) (fun a S21 => ?_); clear S20
    refine S21.qindexA (want_none rfl) rfl rfl rfl rfl rfl (fun w hC => idxFr _ _ hlt) (fun a S22 => ?_); clear S21
    refine S22.qend (fun S23 => ?_)
    have S24 : St _ _ _ _ _ _ := ⟨S23, hB⟩
    clear S23
    refine S24.store1 (want_none rfl) rfl rfl rfl rfl one24 5 rfl (by rw [frC_size]; exact Nat.ble_eq_true_of_le hlt) rfl rfl (frC_set _ _ _) (fun a w S25 => ?_); clear S24
    refine wpList_n ?_
    refine blk_n ?_
    refine then_n ?_
    refine wp_region_lit ?_
    refine S25.move (want_none rfl) rfl rfl rfl rfl (fun a S26 => ?_); clear S25
    refine S26.bin (want_none rfl) rfl rfl rfl rfl rfl (addI Try.underlying3 _ _ _ _ (IntWalk.i64_in _ (by omega))) (fun a S27 => ?_); clear S26
    refine S27.asg (want_none rfl) rfl rfl rfl rfl (fun a S28 => ?_); clear S27
    refine wpList_n ?_
    refine then_n ?_
    exact ⟨12 - (k + 1), by omega, k + 1, by omega, rfl, S28.to ⟨rfl, rfl, rfl, rfl, rfl, trivial⟩ ⟨rfl, by rw [← rowsTo_succ _ hlt, row_join hlt]; rfl, trivial⟩⟩
  · skip
    refine wp_exit ?_
    refine then_e ?_
    refine then_e ?_
    refine blk_e ?_
    refine then_n ?_
    refine wp_seq ?_
    refine wp_region_lit ?_
    obtain rfl : k = 12 := by have := of_decide_eq_false hlt; omega
    rw [rowsTo_all] at S8
    refine S8.loadF (want_none rfl) rfl rfl rfl rfl row26 5 rfl (fun a S9 => ?_); clear S8
    refine S9.storeF (want_none rfl) rfl rfl rfl rfl row26 4 rfl (fun a w S10 => ?_); clear S9
    refine wpList_n ?_
    refine then_n ?_
    refine wp_ret ?_
    exact retF1 S10 rfl 4 rfl rfl ⟨rfl, S10.bag.below⟩

theorem sLess_any (f g : Fr) (b1 o1 b2 o2 : Nat) (w0 : World) (hF : FrAt w0 b1 o1 f) (hG : FrAt w0 b2 o2 g) : Calls Try.prog 214 #[.pointer (some ⟨b1, o1, none⟩), .pointer (some ⟨b2, o2, none⟩)] w0 (RetB (frV (f.less g)) w0) := by
  refine St.enter Try.func214 rfl (show _ = 26 from rfl) rfl (L := [(0, _), (1, _)]) rfl (fun a S0 => ?_)
  refine wp_seq ?_
  refine wp_region_lit ?_
  refine S0.allocA (want_none rfl) rfl rfl rfl (Try.zeroValue26 _) cellsZ26 (fun b4 a w hq3 hq4 S1 => ?_); clear S0 hq3 hq4
  refine wpList_n ?_
  refine then_n ?_
  refine wp_seq ?_
  refine wp_region_lit ?_
  refine S1.build (want_none rfl) rfl rfl rfl (by rw [Array.map_empty]; exact zeroFr _) (fun a S2 => ?_); clear S1
  refine S2.allocA (want_none rfl) rfl rfl rfl (Try.zeroValue26 _) cellsZ26 (fun b5 a w hq3 hq4 S3 => ?_); clear S2 hq3 hq4
  refine S3.storeF (want_none rfl) rfl rfl rfl rfl row26 5 rfl (fun a w S4 => ?_); clear S3
  refine wpList_n ?_
  refine then_n ?_
  refine wp_seq ?_
  refine wp_seq ?_
  refine wp_region_lit ?_
  refine S4.asg (want_none rfl) rfl rfl rfl rfl (fun a S5 => ?_); clear S4
  refine wpList_n ?_
  refine then_n ?_
  refine wp_block ?_
  refine wp_loopN (fun m a w => ∃ k : Nat, k ≤ 12 ∧ m = 12 - k ∧ St w0 26 [(0, .pointer (some ⟨b1, o1, none⟩)), (1, .pointer (some ⟨b2, o2, none⟩)), (4, .pointer (some ⟨b4, 0, none⟩)), (5, .pointer (some ⟨b5, 0, none⟩)), (6, .int .i64 (k : Nat))] [(4, blk b4 (frC Fr.zero) 26), (5, blk b5 (frC (rowsTo (f.less g) k)) 26)] a w) (12) (⟨0, by omega, rfl, S5.to ⟨rfl, rfl, rfl, rfl, rfl, trivial⟩ ⟨rfl, by rw [rowsTo_zero]; rfl, trivial⟩⟩) (fun m a w hI => ?_)
  obtain ⟨k, hk, rfl, S6⟩ := hI
  refine wp_seq ?_
  refine wp_seq ?_
  refine wp_region_lit ?_
  refine S6.move (want_none rfl) rfl rfl rfl rfl (fun a S7 => ?_); clear S6
  refine S7.bin (want_none rfl) rfl rfl rfl rfl rfl (lssI Try.underlying3 _ _ _ _) (fun a S8 => ?_); clear S7
  refine wpList_n ?_
  refine then_n ?_
  refine S8.either rfl (fun hlt => ?_) (fun hlt => ?_)
  · skip
    refine wp_skip ?_
    refine then_n ?_
    refine wp_seq ?_
    refine wp_block ?_
    refine S8.tail 13 (by kernel_rfl) (by kernel_rfl) (fun a w hB S9 => ?_)
    clear S8
    have hlt : k < 12 := by have := of_decide_eq_true hlt; omega
    refine S9.qmove (want_none rfl) rfl rfl rfl rfl (fun a S10 => ?_); clear S9
    refine S10.qmove (want_none rfl) rfl rfl rfl rfl (fun a S11 => ?_); clear S10
    refine S11.qmove (want_none rfl) rfl rfl rfl rfl (fun a S12 => ?_); clear S11
    refine S12.qnilc (want_none rfl) rfl rfl rfl rfl (fun a S13 => ?_); clear S12
    refine S13.qindexA (want_none rfl) rfl rfl rfl rfl rfl (fun w hC => idxFrA _ _ _ hlt) (fun a S14 => ?_); clear S13
    refine S14.qload (want_none rfl) rfl rfl rfl rfl (fun w hC => one24.load ((hF.below hC.1.below) _ hlt)) (fun a S15 => ?_); clear S14
    refine S15.qmove (want_none rfl) rfl rfl rfl rfl (fun a S16 => ?_); clear S15
    refine S16.qmove (want_none rfl) rfl rfl rfl rfl (fun a S17 => ?_); clear S16
    refine S17.qnilc (want_none rfl) rfl rfl rfl rfl (fun a S18 => ?_); clear S17
    refine S18.qindexA (want_none rfl) rfl rfl rfl rfl rfl (fun w hC => idxFrA _ _ _ hlt) (fun a S19 => ?_); clear S18
    refine S19.qload (want_none rfl) rfl rfl rfl rfl (fun w hC => one24.load ((hG.below hC.1.below) _ hlt)) (fun a S20 => ?_); clear S19
    refine S20.qbin (want_none rfl) rfl rfl rfl rfl rfl (fun w hC => andNotR _ _ _ _) (fun a S21 => ?_); clear S20
    refine S21.qindexA (want_none rfl) rfl rfl rfl rfl rfl (fun w hC => idxFr _ _ hlt) (fun a S22 => ?_); clear S21
    refine S22.qend (fun S23 => ?_)
    have S24 : St _ _ _ _ _ _ := ⟨S23, hB⟩
    clear S23
    refine S24.store1 (want_none rfl) rfl rfl rfl rfl one24 5 rfl (by rw [frC_size]; exact Nat.ble_eq_true_of_le hlt) rfl rfl (frC_set _ _ _) (fun a w S25 => ?_); clear S24
    refine wpList_n ?_
    refine blk_n ?_
    refine then_n ?_
    refine wp_region_lit ?_
    refine S25.move (want_none rfl) rfl rfl rfl rfl (fun a S26 => ?_); clear S25
    refine S26.bin (want_none rfl) rfl rfl rfl rfl rfl (addI Try.underlying3 _ _ _ _ (IntWalk.i64_in _ (by omega))) (fun a S27 => ?_); clear S26
    refine S27.asg (want_none rfl) rfl rfl rfl rfl (fun a S28 => ?_); clear S27
    refine wpList_n ?_
    refine then_n ?_
    exact ⟨12 - (k + 1), by omega, k + 1, by omega, rfl, S28.to ⟨rfl, rfl, rfl, rfl, rfl, trivial⟩ ⟨rfl, by rw [← rowsTo_succ _ hlt, row_less hlt]; rfl, trivial⟩⟩
  · skip
    refine wp_exit ?_
    refine then_e ?_
    refine then_e ?_
    refine blk_e ?_
    refine then_n ?_
    refine wp_seq ?_
    refine wp_region_lit ?_
    obtain rfl : k = 12 := by have := of_decide_eq_false hlt; omega
    rw [rowsTo_all] at S8
    refine S8.loadF (want_none rfl) rfl rfl rfl rfl row26 5 rfl (fun a S9 => ?_); clear S8
    refine S9.storeF (want_none rfl) rfl rfl rfl rfl row26 4 rfl (fun a w S10 => ?_); clear S9
    refine wpList_n ?_
    refine then_n ?_
    refine wp_ret ?_
    exact retF1 S10 rfl 4 rfl rfl ⟨rfl, S10.bag.below⟩

theorem sJoinFrames_ok (f g : Fr) (w0 : World) (hf : f.ok = true) (hg : g.ok = true) : Calls Try.prog 44 #[frV f, frV g] w0 (RetF2 (f.join g) 0 w0) := by
  refine St.enter Try.func44 rfl (show _ = 13 from rfl) rfl (L := [(0, _), (1, _)]) rfl (fun a S0 => ?_)
  refine wp_seq ?_
  refine wp_region_lit ?_
  refine S0.boxA (want_none rfl) rfl rfl rfl rfl (fun b2 a w hq3 hq4 S1 => ?_); clear S0 hq3 hq4
  refine S1.boxA (want_none rfl) rfl rfl rfl rfl (fun b3 a w hq3 hq4 S2 => ?_); clear S1 hq3 hq4
  refine S2.allocA (want_none rfl) rfl rfl rfl (Try.zeroValue26 _) cellsZ26 (fun b4 a w hq3 hq4 S3 => ?_); clear S2 hq3 hq4
  refine S3.asg (want_none rfl) rfl rfl rfl rfl (fun a S4 => ?_); clear S3
  refine wpList_n ?_
  refine then_n ?_
  refine wp_seq ?_
  refine wp_seq ?_
  refine wp_region_lit ?_
  refine S4.callQ (want_none rfl) rfl rfl rfl rfl Try.call141 (sBoth_ok f g _ _ _ _ _ (S4.bag.frAt 2 rfl) (S4.bag.frAt 3 rfl) hf hg) (fun a S5 => ?_); clear S4
  refine S5.asg (want_none rfl) rfl rfl rfl rfl (fun a S6 => ?_); clear S5
  refine wpList_n ?_
  refine then_n ?_
  refine wp_seq ?_
  refine wp_region_lit ?_
  refine S6.move (want_none rfl) rfl rfl rfl rfl (fun a S7 => ?_); clear S6
  refine S7.bin (want_none rfl) rfl rfl rfl rfl rfl (by first | exact neqF Try.underlying2 _ _ _ _ (by omega) | exact neqT Try.underlying2 _ _ _ _ (by omega) | exact neqI Try.underlying2 _ _ _ _) (fun a S8 => ?_); clear S7
  refine wpList_n ?_
  refine then_n ?_
  refine S8.noB rfl (rfl) ?_
  refine wp_skip ?_
  refine then_n ?_
  refine wp_seq ?_
  refine wp_region_lit ?_
  refine S8.callB (want_none rfl) rfl rfl rfl rfl Try.call142 (sJoin_any f g _ _ _ _ _ (S8.bag.frAt 2 rfl) (S8.bag.frAt 3 rfl)) (fun a w hq2 S9 => ?_); clear S8 hq2
  refine S9.storeF (want_none rfl) rfl rfl rfl rfl row26 4 rfl (fun a w S10 => ?_); clear S9
  refine S10.asg (want_none rfl) rfl rfl rfl rfl (fun a S11 => ?_); clear S10
  refine wpList_n ?_
  refine then_n ?_
  refine wp_ret ?_
  exact retF2 S11 rfl 4 rfl rfl rfl ⟨rfl, S11.bag.below⟩

theorem sMeetFrames_ok (f g : Fr) (w0 : World) (hf : f.ok = true) (hg : g.ok = true) : Calls Try.prog 42 #[frV f, frV g] w0 (RetF2 (f.meet g) 0 w0) := by
  refine St.enter Try.func42 rfl (show _ = 27 from rfl) rfl (L := [(0, _), (1, _)]) rfl (fun a S0 => ?_)
  refine wp_seq ?_
  refine wp_region_lit ?_
  refine S0.boxA (want_none rfl) rfl rfl rfl rfl (fun b2 a w hq3 hq4 S1 => ?_); clear S0 hq3 hq4
  refine S1.boxA (want_none rfl) rfl rfl rfl rfl (fun b3 a w hq3 hq4 S2 => ?_); clear S1 hq3 hq4
  refine S2.allocA (want_none rfl) rfl rfl rfl (Try.zeroValue26 _) cellsZ26 (fun b4 a w hq3 hq4 S3 => ?_); clear S2 hq3 hq4
  refine S3.asg (want_none rfl) rfl rfl rfl rfl (fun a S4 => ?_); clear S3
  refine wpList_n ?_
  refine then_n ?_
  refine wp_seq ?_
  refine wp_seq ?_
  refine wp_region_lit ?_
  refine S4.callQ (want_none rfl) rfl rfl rfl rfl Try.call141 (sBoth_ok f g _ _ _ _ _ (S4.bag.frAt 2 rfl) (S4.bag.frAt 3 rfl) hf hg) (fun a S5 => ?_); clear S4
  refine S5.asg (want_none rfl) rfl rfl rfl rfl (fun a S6 => ?_); clear S5
  refine wpList_n ?_
  refine then_n ?_
  refine wp_seq ?_
  refine wp_region_lit ?_
  refine S6.move (want_none rfl) rfl rfl rfl rfl (fun a S7 => ?_); clear S6
  refine S7.bin (want_none rfl) rfl rfl rfl rfl rfl (by first | exact neqF Try.underlying2 _ _ _ _ (by omega) | exact neqT Try.underlying2 _ _ _ _ (by omega) | exact neqI Try.underlying2 _ _ _ _) (fun a S8 => ?_); clear S7
  refine wpList_n ?_
  refine then_n ?_
  refine S8.noB rfl (rfl) ?_
  refine wp_skip ?_
  refine then_n ?_
  refine wp_seq ?_
  refine wp_seq ?_
  refine wp_region_lit ?_
  refine S8.asg (want_none rfl) rfl rfl rfl rfl (fun a S9 => ?_); clear S8
  refine wpList_n ?_
  refine then_n ?_
  refine wp_block ?_
  refine wp_loopN (fun m a w => ∃ k : Nat, k ≤ 12 ∧ m = 12 - k ∧ St w0 27 [(2, .pointer (some ⟨b2, 0, none⟩)), (3, .pointer (some ⟨b3, 0, none⟩)), (4, .pointer (some ⟨b4, 0, none⟩)), (7, .int .i64 (k : Nat))] [(2, blk b2 (frC (mixTo (fun u v => u &&& v) f g k)) 26), (3, blk b3 (frC g) 26), (4, blk b4 (frC Fr.zero) 26)] a w) (12) (⟨0, by omega, rfl, S9.to ⟨rfl, rfl, rfl, rfl, trivial⟩ ⟨by rw [mixTo_zero]; rfl, rfl, rfl, trivial⟩⟩) (fun m a w hI => ?_)
  obtain ⟨k, hk, rfl, S10⟩ := hI
  refine wp_seq ?_
  refine wp_seq ?_
  refine wp_region_lit ?_
  refine S10.move (want_none rfl) rfl rfl rfl rfl (fun a S11 => ?_); clear S10
  refine S11.bin (want_none rfl) rfl rfl rfl rfl rfl (lssI Try.underlying3 _ _ _ _) (fun a S12 => ?_); clear S11
  refine wpList_n ?_
  refine then_n ?_
  refine S12.either rfl (fun hlt => ?_) (fun hlt => ?_)
  · skip
    refine wp_skip ?_
    refine then_n ?_
    refine wp_seq ?_
    refine wp_block ?_
    refine S12.tail 9 (by kernel_rfl) (by kernel_rfl) (fun a w hB S13 => ?_)
    clear S12
    have hlt : k < 12 := by have := of_decide_eq_true hlt; omega
    refine S13.qmove (want_none rfl) rfl rfl rfl rfl (fun a S14 => ?_); clear S13
    refine S14.qmove (want_none rfl) rfl rfl rfl rfl (fun a S15 => ?_); clear S14
    refine S15.qindexA (want_none rfl) rfl rfl rfl rfl rfl (fun w hC => idxFr _ _ hlt) (fun a S16 => ?_); clear S15
    refine S16.qload (want_none rfl) rfl rfl rfl rfl (fun w hC => hC.1.load1 one24 2 rfl (frC_at _ hlt)) (fun a S17 => ?_); clear S16
    refine S17.qmove (want_none rfl) rfl rfl rfl rfl (fun a S18 => ?_); clear S17
    refine S18.qindexA (want_none rfl) rfl rfl rfl rfl rfl (fun w hC => idxFr _ _ hlt) (fun a S19 => ?_); clear S18
    refine S19.qload (want_none rfl) rfl rfl rfl rfl (fun w hC => hC.1.load1 one24 3 rfl (frC_at _ hlt)) (fun a S20 => ?_); clear S19
    refine S20.qbin (want_none rfl) rfl rfl rfl rfl rfl (fun w hC => andR _ _ _ _) (fun a S21 => ?_); clear S20
    refine S21.qindexA (want_none rfl) rfl rfl rfl rfl rfl (fun w hC => idxFr _ _ hlt) (fun a S22 => ?_); clear S21
    refine S22.qend (fun S23 => ?_)
    have S24 : St _ _ _ _ _ _ := ⟨S23, hB⟩
    clear S23
    refine S24.store1 (want_none rfl) rfl rfl rfl rfl one24 2 rfl (by rw [frC_size]; exact Nat.ble_eq_true_of_le hlt) rfl rfl (frC_set _ _ _) (fun a w S25 => ?_); clear S24
    refine wpList_n ?_
    refine blk_n ?_
    refine then_n ?_
    refine wp_region_lit ?_
    refine S25.move (want_none rfl) rfl rfl rfl rfl (fun a S26 => ?_); clear S25
    refine S26.bin (want_none rfl) rfl rfl rfl rfl rfl (addI Try.underlying3 _ _ _ _ (IntWalk.i64_in _ (by omega))) (fun a S27 => ?_); clear S26
    refine S27.asg (want_none rfl) rfl rfl rfl rfl (fun a S28 => ?_); clear S27
    refine wpList_n ?_
    refine then_n ?_
    exact ⟨12 - (k + 1), by omega, k + 1, by omega, rfl, S28.to ⟨rfl, rfl, rfl, rfl, trivial⟩ ⟨by rw [← mixTo_succ _ f g k hlt, mixTo_row _ f g k hlt]; rfl, rfl, rfl, trivial⟩⟩
  · skip
    refine wp_exit ?_
    refine then_e ?_
    refine then_e ?_
    refine blk_e ?_
    refine then_n ?_
    refine wp_seq ?_
    refine wp_region_lit ?_
    obtain rfl : k = 12 := by have := of_decide_eq_false hlt; omega
    rw [mixTo_all] at S12
    refine S12.loadF (want_none rfl) rfl rfl rfl rfl row26 2 rfl (fun a S13 => ?_); clear S12
    refine S13.storeF (want_none rfl) rfl rfl rfl rfl row26 4 rfl (fun a w S14 => ?_); clear S13
    refine S14.asg (want_none rfl) rfl rfl rfl rfl (fun a S15 => ?_); clear S14
    refine wpList_n ?_
    refine then_n ?_
    refine wp_ret ?_
    exact retF2 S15 rfl 4 rfl rfl rfl ⟨rfl, S15.bag.below⟩
end Go.Proofs.Ythhimlicaiifdaa
