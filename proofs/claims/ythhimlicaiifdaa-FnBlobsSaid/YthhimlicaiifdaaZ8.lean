/- Frames in the reference: grown, shrunk; blobs. -/
import Derived.Test.YthhimlicaiifdaaZ7
import Derived.Test.YthhimlicaiifdaaFrH
import Derived.Test.YthhimlicaiifdaaY13
set_option maxRecDepth 100000
set_option linter.unusedSimpArgs false
set_option linter.unusedVariables false
namespace Go.Proofs.Ythhimlicaiifdaa
open Go.RowKit Fb

theorem sGrow_any (f : Fr) (b0 o0 : Nat) (w0 : World) (hF : FrAt w0 b0 o0 f) (hf : f.ok = true) : Calls Try.prog 136 #[.pointer (some ⟨b0, o0, none⟩)] w0 (RetB (frV f.grow) w0) := by
  have hl := dots_len f
  refine St.enter Try.func136 rfl (show _ = 48 from rfl) rfl (L := [(0, _)]) rfl (fun a S0 => ?_)
  refine wp_seq ?_
  refine wp_region_lit ?_
  refine S0.allocA (want_none rfl) rfl rfl rfl (Try.zeroValue26 _) cellsZ26 (fun b2 a w hq3 hq4 S1 => ?_); clear S0 hq3 hq4
  refine wpList_n ?_
  refine then_n ?_
  refine wp_seq ?_
  refine wp_region_lit ?_
  refine S1.move (want_none rfl) rfl rfl rfl rfl (fun a S2 => ?_); clear S1
  refine S2.nilc (want_none rfl) rfl rfl rfl rfl (fun a S3 => ?_); clear S2
  refine S3.loadP (want_none rfl) rfl rfl rfl rfl row26 (hF.below S3.bag.below).row? (fun a S4 => ?_); clear S3
  refine S4.allocA (want_none rfl) rfl rfl rfl (Try.zeroValue26 _) cellsZ26 (fun b3 a w hq3 hq4 S5 => ?_); clear S4 hq3 hq4
  refine S5.storeF (want_none rfl) rfl rfl rfl rfl row26 3 rfl (fun a w S6 => ?_); clear S5
  refine wpList_n ?_
  refine then_n ?_
  refine wp_seq ?_
  refine wp_region_lit ?_
  refine S6.move (want_none rfl) rfl rfl rfl rfl (fun a S7 => ?_); clear S6
  refine S7.call (want_none rfl) rfl rfl rfl rfl Try.call110 (sDots_any f _ _ _ (hF.below S7.bag.below)) (fun e w hR => ?_)
  obtain ⟨v, rfl, hv, hb⟩ := hR
  refine ⟨_, rfl, fun a A => ?_⟩
  have S8 : St _ _ _ _ _ _ := ⟨A, S7.bag.callRow 4 hb hv⟩; clear A S7
  obtain ⟨Av, cv, rfl⟩ := (S8.bag.own? 4 rfl).slice
  refine S8.asg (want_none rfl) rfl rfl rfl rfl (fun a S9 => ?_); clear S8
  refine wpList_n ?_
  refine then_n ?_
  refine wp_seq ?_
  refine wp_seq ?_
  refine wp_region_lit ?_
  refine S9.asg (want_none rfl) rfl rfl rfl rfl (fun a S10 => ?_); clear S9
  refine wpList_n ?_
  refine then_n ?_
  refine wp_block ?_
  refine wp_loopN (fun m a w => ∃ k : Nat, k ≤ f.dots.length ∧ m = f.dots.length - k ∧ St w0 48 [(2, .pointer (some ⟨b2, 0, none⟩)), (3, .pointer (some ⟨b3, 0, none⟩)), (4, .slice Av f.dots.length cv), (5, .int .i64 (k : Nat))] [(2, blk b2 (frC Fr.zero) 26), (3, blk b3 (frC (Fr.growTo f f.dots k)) 26), (4, row w0.heap.size 52 dotE 2 (.slice Av f.dots.length cv) f.dots)] a w) (f.dots.length) (⟨0, by omega, rfl, S10.to ⟨rfl, rfl, rfl, rfl, trivial⟩ ⟨rfl, rfl, rfl, trivial⟩⟩) (fun m a w hI => ?_)
  obtain ⟨k, hk, rfl, S11⟩ := hI
  refine wp_seq ?_
  refine wp_seq ?_
  refine wp_region_lit ?_
  refine S11.move (want_none rfl) rfl rfl rfl rfl (fun a S12 => ?_); clear S11
  refine S12.move (want_none rfl) rfl rfl rfl rfl (fun a S13 => ?_); clear S12
  refine S13.builtin (want_none rfl) rfl rfl rfl rfl (lenS Try.underlying42 _ _ _ _ _) (fun a S14 => ?_); clear S13
  refine S14.bin (want_none rfl) rfl rfl rfl rfl rfl (lssI Try.underlying3 _ _ _ _) (fun a S15 => ?_); clear S14
  refine wpList_n ?_
  refine then_n ?_
  refine S15.either rfl (fun hlt => ?_) (fun hlt => ?_)
  · skip
    refine wp_skip ?_
    refine then_n ?_
    refine wp_seq ?_
    refine wp_block ?_
    refine wp_seq ?_
    refine wp_region_lit ?_
    have hlt : k < f.dots.length := by have := of_decide_eq_true hlt; omega
    obtain ⟨p, hp⟩ : ∃ p, f.dots[k]? = some p := ⟨_, List.getElem?_eq_getElem hlt⟩
    obtain ⟨b, rfl⟩ := (S15.bag.own? 4 rfl).some dotE_len hp
    have hin := dots_in hp
    obtain ⟨px, py⟩ := p
    have hq1 : px < 12 := hin.1
    have hq2 : py < 12 := hin.2
    refine S15.move (want_none rfl) rfl rfl rfl rfl (fun a S16 => ?_); clear S15
    refine S16.move (want_none rfl) rfl rfl rfl rfl (fun a S17 => ?_); clear S16
    refine S17.indexA (want_none rfl) rfl rfl rfl rfl rfl (idxS0 Try.underlying42 size52 _ _ _ _ hlt) (fun a S18 => ?_); clear S17
    refine S18.fieldA (want_none rfl) rfl rfl rfl rfl (fld52_0 _ _ _) (fun a S19 => ?_); clear S18
    refine S19.loadC (want_none rfl) rfl rfl rfl rfl one50 ((S19.bag.own? 4 rfl).cell0 dotE_len hp rfl) (fun a S20 => ?_); clear S19
    refine S20.conv (want_none rfl) rfl rfl rfl rfl (convI Try.underlying50 Try.underlying2 _ (IntWalk.i64_in _ (by omega))) (fun a S21 => ?_); clear S20
    refine S21.asg (want_none rfl) rfl rfl rfl rfl (fun a S22 => ?_); clear S21
    refine wpList_n ?_
    refine then_n ?_
    refine wp_seq ?_
    refine wp_region_lit ?_
    refine S22.move (want_none rfl) rfl rfl rfl rfl (fun a S23 => ?_); clear S22
    refine S23.move (want_none rfl) rfl rfl rfl rfl (fun a S24 => ?_); clear S23
    refine S24.indexA (want_none rfl) rfl rfl rfl rfl rfl (idxS0 Try.underlying42 size52 _ _ _ _ hlt) (fun a S25 => ?_); clear S24
    refine S25.fieldA (want_none rfl) rfl rfl rfl rfl (fld52_1 _ _ _) (fun a S26 => ?_); clear S25
    refine S26.loadC (want_none rfl) rfl rfl rfl rfl one50 ((S26.bag.own? 4 rfl).cell dotE_len hp rfl) (fun a S27 => ?_); clear S26
    refine S27.conv (want_none rfl) rfl rfl rfl rfl (convI Try.underlying50 Try.underlying2 _ (IntWalk.i64_in _ (by omega))) (fun a S28 => ?_); clear S27
    refine S28.asg (want_none rfl) rfl rfl rfl rfl (fun a S29 => ?_); clear S28
    refine wpList_n ?_
    refine then_n ?_
    refine wp_seq ?_
    refine wp_region_lit ?_
    refine S29.move (want_none rfl) rfl rfl rfl rfl (fun a S30 => ?_); clear S29
    refine S30.bin (want_none rfl) rfl rfl rfl rfl rfl (subI Try.underlying2 _ _ _ _ (IntWalk.i64_in _ (by omega))) (fun a S31 => ?_); clear S30
    refine S31.move (want_none rfl) rfl rfl rfl rfl (fun a S32 => ?_); clear S31
    refine S32.call (want_none rfl) rfl rfl rfl rfl Try.call111 (sPut_any _ _ 26 _ _ _ (S32.bag.at 3 rfl)) (fun e w hR => ?_)
    obtain ⟨rfl, hu⟩ := hR
    refine ⟨_, rfl, fun a A => ?_⟩
    have S33 : St _ _ _ _ _ _ := ⟨A, S32.bag.upd 3 rfl hu⟩; clear A S32
    refine wpList_n ?_
    refine then_n ?_
    refine wp_seq ?_
    refine wp_region_lit ?_
    refine S33.move (want_none rfl) rfl rfl rfl rfl (fun a S34 => ?_); clear S33
    refine S34.bin (want_none rfl) rfl rfl rfl rfl rfl (addI Try.underlying2 _ _ _ _ (IntWalk.i64_in _ (by omega))) (fun a S35 => ?_); clear S34
    refine S35.move (want_none rfl) rfl rfl rfl rfl (fun a S36 => ?_); clear S35
    refine S36.call (want_none rfl) rfl rfl rfl rfl Try.call111 (sPut_any _ _ 26 _ _ _ (S36.bag.at 3 rfl)) (fun e w hR => ?_)
    obtain ⟨rfl, hu⟩ := hR
    refine ⟨_, rfl, fun a A => ?_⟩
    have S37 : St _ _ _ _ _ _ := ⟨A, S36.bag.upd 3 rfl hu⟩; clear A S36
    refine wpList_n ?_
    refine then_n ?_
    refine wp_seq ?_
    refine wp_region_lit ?_
    refine S37.move (want_none rfl) rfl rfl rfl rfl (fun a S38 => ?_); clear S37
    refine S38.move (want_none rfl) rfl rfl rfl rfl (fun a S39 => ?_); clear S38
    refine S39.bin (want_none rfl) rfl rfl rfl rfl rfl (subI Try.underlying2 _ _ _ _ (IntWalk.i64_in _ (by omega))) (fun a S40 => ?_); clear S39
    refine S40.call (want_none rfl) rfl rfl rfl rfl Try.call111 (sPut_any _ _ 26 _ _ _ (S40.bag.at 3 rfl)) (fun e w hR => ?_)
    obtain ⟨rfl, hu⟩ := hR
    refine ⟨_, rfl, fun a A => ?_⟩
    have S41 : St _ _ _ _ _ _ := ⟨A, S40.bag.upd 3 rfl hu⟩; clear A S40
    refine wpList_n ?_
    refine then_n ?_
    refine wp_region_lit ?_
    refine S41.move (want_none rfl) rfl rfl rfl rfl (fun a S42 => ?_); clear S41
    refine S42.move (want_none rfl) rfl rfl rfl rfl (fun a S43 => ?_); clear S42
    refine S43.bin (want_none rfl) rfl rfl rfl rfl rfl (addI Try.underlying2 _ _ _ _ (IntWalk.i64_in _ (by omega))) (fun a S44 => ?_); clear S43
    refine S44.call (want_none rfl) rfl rfl rfl rfl Try.call111 (sPut_any _ _ 26 _ _ _ (S44.bag.at 3 rfl)) (fun e w hR => ?_)
    obtain ⟨rfl, hu⟩ := hR
    refine ⟨_, rfl, fun a A => ?_⟩
    have S45 : St _ _ _ _ _ _ := ⟨A, S44.bag.upd 3 rfl hu⟩; clear A S44
    refine wpList_n ?_
    refine blk_n ?_
    refine then_n ?_
    refine wp_region_lit ?_
    refine S45.move (want_none rfl) rfl rfl rfl rfl (fun a S46 => ?_); clear S45
    refine S46.bin (want_none rfl) rfl rfl rfl rfl rfl (addI Try.underlying3 _ _ _ _ (IntWalk.i64_in _ (by omega))) (fun a S47 => ?_); clear S46
    refine S47.asg (want_none rfl) rfl rfl rfl rfl (fun a S48 => ?_); clear S47
    refine wpList_n ?_
    refine then_n ?_
    exact ⟨f.dots.length - (k + 1), by omega, k + 1, by omega, rfl, S48.to ⟨rfl, rfl, rfl, rfl, trivial⟩ ⟨rfl, by rw [← Fr.growTo_succ f _ k _ hp]; rfl, rfl, trivial⟩⟩
  · skip
    refine wp_exit ?_
    refine then_e ?_
    refine then_e ?_
    refine blk_e ?_
    refine then_n ?_
    refine wp_seq ?_
    refine wp_region_lit ?_
    obtain rfl : k = f.dots.length := by have := of_decide_eq_false hlt; omega
    rw [Fr.growTo_all hf] at S15
    refine S15.loadF (want_none rfl) rfl rfl rfl rfl row26 3 rfl (fun a S16 => ?_); clear S15
    refine S16.storeF (want_none rfl) rfl rfl rfl rfl row26 2 rfl (fun a w S17 => ?_); clear S16
    refine wpList_n ?_
    refine then_n ?_
    refine wp_ret ?_
    exact retF1 S17 rfl 2 rfl rfl ⟨rfl, S17.bag.below⟩

theorem sGrowFrame_ok (f : Fr) (w0 : World) (hf : f.ok = true) : Calls Try.prog 39 #[frV f] w0 (RetF2 f.grow 0 w0) := by
  refine St.enter Try.func39 rfl (show _ = 8 from rfl) rfl (L := [(0, _)]) rfl (fun a S0 => ?_)
  refine wp_seq ?_
  refine wp_region_lit ?_
  refine S0.boxA (want_none rfl) rfl rfl rfl rfl (fun b1 a w hq3 hq4 S1 => ?_); clear S0 hq3 hq4
  refine S1.allocA (want_none rfl) rfl rfl rfl (Try.zeroValue26 _) cellsZ26 (fun b2 a w hq3 hq4 S2 => ?_); clear S1 hq3 hq4
  refine S2.asg (want_none rfl) rfl rfl rfl rfl (fun a S3 => ?_); clear S2
  refine wpList_n ?_
  refine then_n ?_
  refine wp_seq ?_
  refine wp_seq ?_
  refine wp_region_lit ?_
  refine S3.callQ (want_none rfl) rfl rfl rfl rfl Try.call109 (sOk_ok f _ _ _ (S3.bag.frAt 1 rfl) hf) (fun a S4 => ?_); clear S3
  refine S4.un (want_none rfl) rfl rfl rfl rfl (notB _) (fun a S5 => ?_); clear S4
  refine wpList_n ?_
  refine then_n ?_
  refine S5.noB rfl (rfl) ?_
  refine wp_skip ?_
  refine then_n ?_
  refine wp_seq ?_
  refine wp_region_lit ?_
  refine S5.callB (want_none rfl) rfl rfl rfl rfl Try.call136 (sGrow_any f _ _ _ (S5.bag.frAt 1 rfl) hf) (fun a w hq2 S6 => ?_); clear S5 hq2
  refine S6.storeF (want_none rfl) rfl rfl rfl rfl row26 2 rfl (fun a w S7 => ?_); clear S6
  refine S7.asg (want_none rfl) rfl rfl rfl rfl (fun a S8 => ?_); clear S7
  refine wpList_n ?_
  refine then_n ?_
  refine wp_ret ?_
  exact retF2 S8 rfl 2 rfl rfl rfl ⟨rfl, S8.bag.below⟩
end Go.Proofs.Ythhimlicaiifdaa
