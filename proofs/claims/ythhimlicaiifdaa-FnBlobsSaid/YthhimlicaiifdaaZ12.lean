/- Boxes of frames, on both sides; what a box cuts out. -/
import Derived.Test.YthhimlicaiifdaaZ11
import Derived.Test.YthhimlicaiifdaaY9
set_option maxRecDepth 100000
set_option linter.unusedSimpArgs false
set_option linter.unusedVariables false
namespace Go.Proofs.Ythhimlicaiifdaa
open Go.RowKit Fb

theorem valid_ok' (f : Fr) (w : World) (hf : f.ok = true) : Calls Try.prog 20 #[frV f] w (RetB (.bool true) w) := by
  have := valid_any f w
  rwa [hf] at this
theorem sBoxOf_none (f : Fr) (w0 : World) (hf : f.ok = true) (hz : f.dots = []) : Calls Try.prog 46 #[frV f] w0 (RetB (.tuple #[.agg (boxA 0 0 0 0), .int .i64 6]) w0) := by
  refine St.enter Try.func46 rfl (show _ = 17 from rfl) rfl (L := [(0, _)]) rfl (fun a S0 => ?_)
  refine wp_seq ?_
  refine wp_region_lit ?_
  refine S0.boxA (want_none rfl) rfl rfl rfl rfl (fun b1 a w hq3 hq4 S1 => ?_); clear S0 hq3 hq4
  refine S1.allocA (want_none rfl) rfl rfl rfl (Try.zeroValue54 _) rfl (fun b2 a w hq3 hq4 S2 => ?_); clear S1 hq3 hq4
  refine S2.asg (want_none rfl) rfl rfl rfl rfl (fun a S3 => ?_); clear S2
  refine wpList_n ?_
  refine then_n ?_
  refine wp_seq ?_
  refine wp_seq ?_
  refine wp_region_lit ?_
  refine S3.callQ (want_none rfl) rfl rfl rfl rfl Try.call109 (sOk_ok f _ _ _ (S3.bag.frAt 1 rfl) hf) (fun a S4 => ?_); clear S3
  refine S4.un (want_none rfl) rfl rfl rfl rfl (notB _) (fun a S5 => ?_); clear S4
  refine wpList_n ?_
  refine then_n ?_
  refine S5.noB rfl (rfl) ?_
  refine wp_skip ?_
  refine then_n ?_
  refine wp_seq ?_
  refine wp_region_lit ?_
  refine S5.callB (want_none rfl) rfl rfl rfl rfl Try.call143 (sBox_none f _ _ _ (S5.bag.frAt 1 rfl) hz) (fun a w hq2 S6 => ?_); clear S5 hq2
  refine S6.move (want_none rfl) rfl rfl rfl rfl (fun a S7 => ?_); clear S6
  refine S7.extract (want_none rfl) rfl rfl rfl rfl rfl (fun a S8 => ?_); clear S7
  refine S8.extract (want_none rfl) rfl rfl rfl rfl rfl (fun a S9 => ?_); clear S8
  refine S9.allocA (want_none rfl) rfl rfl rfl (Try.zeroValue54 _) rfl (fun b4 a w hq3 hq4 S10 => ?_); clear S9 hq3 hq4
  refine S10.storeR (want_none rfl) rfl rfl rfl rfl row54 4 rfl rfl rfl (by first | rfl | kernel_rfl) (fun a w S11 => ?_); clear S10
  refine S11.asg (want_none rfl) rfl rfl rfl rfl (fun a S12 => ?_); clear S11
  refine wpList_n ?_
  refine then_n ?_
  refine wp_seq ?_
  refine wp_seq ?_
  refine wp_region_lit ?_
  refine S12.move (want_none rfl) rfl rfl rfl rfl (fun a S13 => ?_); clear S12
  refine S13.un (want_none rfl) rfl rfl rfl rfl (notB _) (fun a S14 => ?_); clear S13
  refine wpList_n ?_
  refine then_n ?_
  refine S14.yesB rfl (rfl) ?_
  refine wp_seq ?_
  refine wp_region_lit ?_
  refine S14.build (want_none rfl) rfl rfl rfl (by rw [Array.map_empty]; exact zeroBox _) (fun a S15 => ?_)
  clear S14
  refine S15.storeR (want_none rfl) rfl rfl rfl rfl row54 2 rfl rfl rfl (by first | rfl | kernel_rfl) (fun a w S16 => ?_); clear S15
  refine S16.asg (want_none rfl) rfl rfl rfl rfl (fun a S17 => ?_); clear S16
  refine wpList_n ?_
  refine then_n ?_
  refine wp_ret ?_
  refine then_r ?_
  exact retR2 row54 S17 rfl 2 rfl rfl rfl rfl ⟨rfl, S17.bag.below⟩
theorem sBoxOf_some (f : Fr) (w0 : World) (hf : f.ok = true) (hne : f.dots ≠ []) : Calls Try.prog 46 #[frV f] w0 (RetB (.tuple #[.agg (Frbox f), .int .i64 0]) w0) := by
  refine St.enter Try.func46 rfl (show _ = 17 from rfl) rfl (L := [(0, _)]) rfl (fun a S0 => ?_)
  refine wp_seq ?_
  refine wp_region_lit ?_
  refine S0.boxA (want_none rfl) rfl rfl rfl rfl (fun b1 a w hq3 hq4 S1 => ?_); clear S0 hq3 hq4
  refine S1.allocA (want_none rfl) rfl rfl rfl (Try.zeroValue54 _) rfl (fun b2 a w hq3 hq4 S2 => ?_); clear S1 hq3 hq4
  refine S2.asg (want_none rfl) rfl rfl rfl rfl (fun a S3 => ?_); clear S2
  refine wpList_n ?_
  refine then_n ?_
  refine wp_seq ?_
  refine wp_seq ?_
  refine wp_region_lit ?_
  refine S3.callQ (want_none rfl) rfl rfl rfl rfl Try.call109 (sOk_ok f _ _ _ (S3.bag.frAt 1 rfl) hf) (fun a S4 => ?_); clear S3
  refine S4.un (want_none rfl) rfl rfl rfl rfl (notB _) (fun a S5 => ?_); clear S4
  refine wpList_n ?_
  refine then_n ?_
  refine S5.noB rfl (rfl) ?_
  refine wp_skip ?_
  refine then_n ?_
  refine wp_seq ?_
  refine wp_region_lit ?_
  refine S5.callB (want_none rfl) rfl rfl rfl rfl Try.call143 (sBox_some f _ _ _ (S5.bag.frAt 1 rfl) hne) (fun a w hq2 S6 => ?_); clear S5 hq2
  refine S6.move (want_none rfl) rfl rfl rfl rfl (fun a S7 => ?_); clear S6
  refine S7.extract (want_none rfl) rfl rfl rfl rfl rfl (fun a S8 => ?_); clear S7
  refine S8.extract (want_none rfl) rfl rfl rfl rfl rfl (fun a S9 => ?_); clear S8
  refine S9.allocA (want_none rfl) rfl rfl rfl (Try.zeroValue54 _) rfl (fun b4 a w hq3 hq4 S10 => ?_); clear S9 hq3 hq4
  refine S10.storeR (want_none rfl) rfl rfl rfl rfl row54 4 rfl rfl rfl (by first | rfl | kernel_rfl) (fun a w S11 => ?_); clear S10
  refine S11.asg (want_none rfl) rfl rfl rfl rfl (fun a S12 => ?_); clear S11
  refine wpList_n ?_
  refine then_n ?_
  refine wp_seq ?_
  refine wp_seq ?_
  refine wp_region_lit ?_
  refine S12.move (want_none rfl) rfl rfl rfl rfl (fun a S13 => ?_); clear S12
  refine S13.un (want_none rfl) rfl rfl rfl rfl (notB _) (fun a S14 => ?_); clear S13
  refine wpList_n ?_
  refine then_n ?_
  refine S14.noB rfl (rfl) ?_
  refine wp_skip ?_
  refine then_n ?_
  refine wp_seq ?_
  refine wp_region_lit ?_
  refine S14.loadR (want_none rfl) rfl rfl rfl rfl row54 4 rfl rfl (fun a S15 => ?_); clear S14
  refine S15.storeR (want_none rfl) rfl rfl rfl rfl row54 2 rfl rfl rfl (by first | rfl | kernel_rfl) (fun a w S16 => ?_); clear S15
  refine S16.asg (want_none rfl) rfl rfl rfl rfl (fun a S17 => ?_); clear S16
  refine wpList_n ?_
  refine then_n ?_
  refine wp_ret ?_
  exact retR2 row54 S17 rfl 2 rfl rfl rfl rfl ⟨rfl, S17.bag.below⟩
theorem BoxOf_none (f : Fr) (w0 : World) (hf : f.ok = true) (hz : f.dots = []) : Calls Try.prog 45 #[frV f] w0 (RetB (.tuple #[.agg (boxA 0 0 0 0), .int .i64 6]) w0) := by
  refine St.enter Try.func45 rfl (show _ = 66 from rfl) rfl (L := [(0, _)]) rfl (fun a S0 => ?_)
  refine wp_seq ?_
  refine wp_region_lit ?_
  refine S0.boxA (want_none rfl) rfl rfl rfl rfl (fun b1 a w hq3 hq4 S1 => ?_); clear S0 hq3 hq4
  refine S1.allocA (want_none rfl) rfl rfl rfl (Try.zeroValue54 _) rfl (fun b2 a w hq3 hq4 S2 => ?_); clear S1 hq3 hq4
  refine S2.asg (want_none rfl) rfl rfl rfl rfl (fun a S3 => ?_); clear S2
  refine wpList_n ?_
  refine then_n ?_
  refine wp_seq ?_
  refine wp_seq ?_
  refine wp_region_lit ?_
  refine S3.loadF (want_none rfl) rfl rfl rfl rfl row26 1 rfl (fun a S4 => ?_); clear S3
  refine S4.callB (want_none rfl) rfl rfl rfl rfl Try.call20 (valid_ok' f _ hf) (fun a w hq2 S5 => ?_); clear S4 hq2
  refine S5.un (want_none rfl) rfl rfl rfl rfl (notB _) (fun a S6 => ?_); clear S5
  refine wpList_n ?_
  refine then_n ?_
  refine S6.noB rfl (rfl) ?_
  refine wp_skip ?_
  refine then_n ?_
  refine wp_seq ?_
  refine wp_region_lit ?_
  refine S6.loadF (want_none rfl) rfl rfl rfl rfl row26 1 rfl (fun a S7 => ?_); clear S6
  refine S7.call (want_none rfl) rfl rfl rfl rfl Try.call130 (dots_any f _) (fun e w hR => ?_)
  obtain ⟨v, rfl, hv, hb⟩ := hR
  refine ⟨_, rfl, fun a A => ?_⟩
  have S8 : St _ _ _ _ _ _ := ⟨A, S7.bag.callRow 4 hb hv⟩; clear A S7
  obtain ⟨Av, cv, rfl⟩ := (S8.bag.own? 4 rfl).slice
  refine S8.asg (want_none rfl) rfl rfl rfl rfl (fun a S9 => ?_); clear S8
  refine wpList_n ?_
  refine then_n ?_
  refine wp_seq ?_
  refine wp_seq ?_
  refine wp_region_lit ?_
  refine S9.move (want_none rfl) rfl rfl rfl rfl (fun a S10 => ?_); clear S9
  refine S10.builtin (want_none rfl) rfl rfl rfl rfl (lenS Try.underlying42 _ _ _ _ _) (fun a S11 => ?_); clear S10
  refine S11.bin (want_none rfl) rfl rfl rfl rfl rfl (by first | exact eqlF Try.underlying3 _ _ _ _ (by omega) | exact eqlT Try.underlying3 _ _ _ _ (by omega) | exact eqlI Try.underlying3 _ _ _ _) (fun a S12 => ?_); clear S11
  refine wpList_n ?_
  refine then_n ?_
  refine S12.yesB rfl (by rw [hz]; rfl) ?_
  refine wp_seq ?_
  refine wp_region_lit ?_
  refine S12.build (want_none rfl) rfl rfl rfl (by rw [Array.map_empty]; exact zeroBox _) (fun a S13 => ?_)
  clear S12
  refine S13.storeR (want_none rfl) rfl rfl rfl rfl row54 2 rfl rfl rfl (by first | rfl | kernel_rfl) (fun a w S14 => ?_); clear S13
  refine S14.asg (want_none rfl) rfl rfl rfl rfl (fun a S15 => ?_); clear S14
  refine wpList_n ?_
  refine then_n ?_
  refine wp_ret ?_
  refine then_r ?_
  exact retR2 row54 S15 rfl 2 rfl rfl rfl rfl ⟨rfl, S15.bag.below⟩
set_option maxHeartbeats 1000000 in
theorem BoxOf_some (f : Fr) (w0 : World) (hf : f.ok = true) (hne : f.dots ≠ []) : Calls Try.prog 45 #[frV f] w0 (RetB (.tuple #[.agg (Frbox f), .int .i64 0]) w0) := by
  have hl := dots_len f
  have hpos : 0 < f.dots.length := List.length_pos_iff.2 hne
  obtain ⟨p0, hp0⟩ : ∃ p, f.dots[0]? = some p := ⟨_, List.getElem?_eq_getElem hpos⟩
  obtain ⟨pS, hpS⟩ : ∃ p, f.dots[f.dots.length - 1]? = some p := ⟨_, List.getElem?_eq_getElem (by omega)⟩
  have hS : f.dots.length - 1 < f.dots.length := by omega
  have hin0 := dots_in hp0
  have hinS := dots_in hpS
  have hno := north_at hp0
  have hso := south_at hpS
  have hbd := Fr.box_bd hne
  obtain ⟨rest, hrest⟩ : ∃ rest, f.dots = p0 :: rest := by
    cases h : f.dots with
    | nil => exact absurd h hne
    | cons q l => rw [h] at hp0; simp at hp0; exact ⟨l, by rw [hp0]⟩
  have hwe := Fr.dots_west f hrest
  clear hrest
  obtain ⟨x0, y0⟩ := p0
  obtain ⟨xS, yS⟩ := pS
  have h01 : x0 < 12 := hin0.1
  have h02 : y0 < 12 := hin0.2
  have hS1 : xS < 12 := hinS.1
  have hS2 : yS < 12 := hinS.2
  dsimp only at hno hso hwe
  have hmn : ∀ a b : Nat, min (a : Int) (b : Int) = ((min a b : Nat) : Int) := fun a b => by omega
  have hmx : ∀ a b : Nat, max (a : Int) (b : Int) = ((max a b : Nat) : Int) := fun a b => by omega
  refine St.enter Try.func45 rfl (show _ = 66 from rfl) rfl (L := [(0, _)]) rfl (fun a S0 => ?_)
  refine wp_seq ?_
  refine wp_region_lit ?_
  refine S0.boxA (want_none rfl) rfl rfl rfl rfl (fun b1 a w hq3 hq4 S1 => ?_); clear S0 hq3 hq4
  refine S1.allocA (want_none rfl) rfl rfl rfl (Try.zeroValue54 _) rfl (fun b2 a w hq3 hq4 S2 => ?_); clear S1 hq3 hq4
  refine S2.asg (want_none rfl) rfl rfl rfl rfl (fun a S3 => ?_); clear S2
  refine wpList_n ?_
  refine then_n ?_
  refine wp_seq ?_
  refine wp_seq ?_
  refine wp_region_lit ?_
  refine S3.loadF (want_none rfl) rfl rfl rfl rfl row26 1 rfl (fun a S4 => ?_); clear S3
  refine S4.callB (want_none rfl) rfl rfl rfl rfl Try.call20 (valid_ok' f _ hf) (fun a w hq2 S5 => ?_); clear S4 hq2
  refine S5.un (want_none rfl) rfl rfl rfl rfl (notB _) (fun a S6 => ?_); clear S5
  refine wpList_n ?_
  refine then_n ?_
  refine S6.noB rfl (rfl) ?_
  refine wp_skip ?_
  refine then_n ?_
  refine wp_seq ?_
  refine wp_region_lit ?_
  refine S6.loadF (want_none rfl) rfl rfl rfl rfl row26 1 rfl (fun a S7 => ?_); clear S6
  refine S7.call (want_none rfl) rfl rfl rfl rfl Try.call130 (dots_any f _) (fun e w hR => ?_)
  obtain ⟨v, rfl, hv, hb⟩ := hR
  refine ⟨_, rfl, fun a A => ?_⟩
  have S8 : St _ _ _ _ _ _ := ⟨A, S7.bag.callRow 4 hb hv⟩; clear A S7
  obtain ⟨Av, cv, rfl⟩ := (S8.bag.own? 4 rfl).slice
  refine S8.asg (want_none rfl) rfl rfl rfl rfl (fun a S9 => ?_); clear S8
  refine wpList_n ?_
  refine then_n ?_
  refine wp_seq ?_
  refine wp_seq ?_
  refine wp_region_lit ?_
  refine S9.move (want_none rfl) rfl rfl rfl rfl (fun a S10 => ?_); clear S9
  refine S10.builtin (want_none rfl) rfl rfl rfl rfl (lenS Try.underlying42 _ _ _ _ _) (fun a S11 => ?_); clear S10
  refine S11.bin (want_none rfl) rfl rfl rfl rfl rfl (by first | exact eqlF Try.underlying3 _ _ _ _ (by omega) | exact eqlT Try.underlying3 _ _ _ _ (by omega) | exact eqlI Try.underlying3 _ _ _ _) (fun a S12 => ?_); clear S11
  refine wpList_n ?_
  refine then_n ?_
  refine S12.noB rfl (by simp [hne]) ?_
  refine wp_skip ?_
  refine then_n ?_
  refine wp_seq ?_
  obtain ⟨b4, rfl⟩ := (S12.bag.own? 4 rfl).some dotE_len hp0
  refine S12.quiet (by kernel_rfl) (by kernel_rfl) (fun a S13 => ?_)
  clear S12
  refine S13.qmove (want_none rfl) rfl rfl rfl rfl (fun a S14 => ?_); clear S13
  refine S14.qindexA (want_none rfl) rfl rfl rfl rfl rfl (fun w hC => idxS00 Try.underlying42 size52 _ _ _ _ hpos) (fun a S15 => ?_); clear S14
  refine S15.qfieldA (want_none rfl) rfl rfl rfl rfl (fun w hC => fld52_0 _ _ _) (fun a S16 => ?_); clear S15
  refine S16.qload (want_none rfl) rfl rfl rfl rfl (fun w hC => one50.load ((hC.own? 4 rfl).cell0 dotE_len hp0 rfl)) (fun a S17 => ?_); clear S16
  refine S17.qmove (want_none rfl) rfl rfl rfl rfl (fun a S18 => ?_); clear S17
  refine S18.qindexA (want_none rfl) rfl rfl rfl rfl rfl (fun w hC => idxS00 Try.underlying42 size52 _ _ _ _ hpos) (fun a S19 => ?_); clear S18
  refine S19.qfieldA (want_none rfl) rfl rfl rfl rfl (fun w hC => fld52_0 _ _ _) (fun a S20 => ?_); clear S19
  refine S20.qload (want_none rfl) rfl rfl rfl rfl (fun w hC => one50.load ((hC.own? 4 rfl).cell0 dotE_len hp0 rfl)) (fun a S21 => ?_); clear S20
  refine S21.qasg (want_none rfl) rfl rfl rfl rfl (fun a S22 => ?_); clear S21
  refine S22.qasg (want_none rfl) rfl rfl rfl rfl (fun a S23 => ?_); clear S22
  refine S23.qend (fun S24 w hB => ?_)
  have S25 : St _ _ _ _ _ _ := ⟨S24, hB⟩
  clear S24
  refine then_n ?_
  refine wp_seq ?_
  refine wp_seq ?_
  refine wp_region_lit ?_
  refine S25.move (want_none rfl) rfl rfl rfl rfl (fun a S26 => ?_); clear S25
  refine S26.builtin (want_none rfl) rfl rfl rfl rfl (lenS Try.underlying42 _ _ _ _ _) (fun a S27 => ?_); clear S26
  refine S27.move (want_none rfl) rfl rfl rfl rfl (fun a S28 => ?_); clear S27
  refine wpList_n ?_
  refine then_n ?_
  refine wp_block ?_
  refine wp_loopN (fun m a w => ∃ k : Nat, k ≤ f.dots.length ∧ m = f.dots.length - k ∧ St w0 66 [(2, .pointer (some ⟨b2, 0, none⟩)), (4, .slice (some ⟨b4, 0, none⟩) f.dots.length cv), (5, .int .i8 (Fr.westOf (f.dots.take k) x0 : Nat)), (6, .int .i8 (Fr.eastOf (f.dots.take k) x0 : Nat)), (29, .slice (some ⟨b4, 0, none⟩) f.dots.length cv), (30, .int .i64 (f.dots.length : Nat)), (31, .int .i64 (k : Nat))] [(2, blk b2 (boxA 0 0 0 0) 54), (4, row w0.heap.size 52 dotE 2 (.slice (some ⟨b4, 0, none⟩) f.dots.length cv) f.dots)] a w) (f.dots.length) (⟨0, by omega, rfl, S28.to ⟨rfl, rfl, rfl, rfl, rfl, rfl, rfl, trivial⟩ ⟨rfl, rfl, trivial⟩⟩) (fun m a w hI => ?_)
  obtain ⟨k, hk, rfl, S29⟩ := hI
  refine wp_seq ?_
  refine wp_region_lit ?_
  refine S29.bin (want_none rfl) rfl rfl rfl rfl rfl (lssI Try.underlying3 _ _ _ _) (fun a S30 => ?_); clear S29
  refine wpList_n ?_
  refine then_n ?_
  refine wp_seq ?_
  refine S30.either rfl (fun hlt => ?_) (fun hlt => ?_)
  · skip
    refine wp_skip ?_
    refine then_n ?_
    refine wp_seq ?_
    refine wp_block ?_
    refine wp_seq ?_
    have hlt : k < f.dots.length := by have := of_decide_eq_true hlt; omega
    obtain ⟨p, hp⟩ : ∃ p, f.dots[k]? = some p := ⟨_, List.getElem?_eq_getElem hlt⟩
    have hin := dots_in hp
    have hW := west_succ x0 hp
    have hE := east_succ x0 hp
    obtain ⟨px, py⟩ := p
    have hq1 : px < 12 := hin.1
    have hq2 : py < 12 := hin.2
    refine wp_region_lit ?_
    refine S30.indexA (want_none rfl) rfl rfl rfl rfl rfl (idxS0 Try.underlying42 size52 _ _ _ _ hlt) (fun a S31 => ?_); clear S30
    refine S31.loadP (want_none rfl) rfl rfl rfl rfl row52 ((S31.bag.own? 4 rfl).row dotE_len hp (by decide)) (fun a S32 => ?_); clear S31
    refine S32.allocA (want_none rfl) rfl rfl rfl (Try.zeroValue52 _) rfl (fun b8 a w hq3 hq4 S33 => ?_); clear S32 hq3 hq4
    refine S33.storeR (want_none rfl) rfl rfl rfl rfl row52 8 rfl rfl rfl (by first | rfl | kernel_rfl) (fun a w S34 => ?_); clear S33
    refine wpList_n ?_
    refine then_n ?_
    refine S34.quiet (by kernel_rfl) (by kernel_rfl) (fun a S35 => ?_)
    clear S34
    refine S35.qmove (want_none rfl) rfl rfl rfl rfl (fun a S36 => ?_); clear S35
    refine S36.qfieldA (want_none rfl) rfl rfl rfl rfl (fun w hC => fld52_0 _ _ _) (fun a S37 => ?_); clear S36
    refine S37.qload (want_none rfl) rfl rfl rfl rfl (fun w hC => hC.load1 one50 8 rfl rfl) (fun a S38 => ?_); clear S37
    refine S38.qbuiltin (want_none rfl) rfl rfl rfl rfl (fun w hC => minI Try.underlying50 _ _ _ _) (fun a S39 => ?_); clear S38
    refine S39.qmove (want_none rfl) rfl rfl rfl rfl (fun a S40 => ?_); clear S39
    refine S40.qfieldA (want_none rfl) rfl rfl rfl rfl (fun w hC => fld52_0 _ _ _) (fun a S41 => ?_); clear S40
    refine S41.qload (want_none rfl) rfl rfl rfl rfl (fun w hC => hC.load1 one50 8 rfl rfl) (fun a S42 => ?_); clear S41
    refine S42.qbuiltin (want_none rfl) rfl rfl rfl rfl (fun w hC => maxI Try.underlying50 _ _ _ _) (fun a S43 => ?_); clear S42
    refine S43.qasg (want_none rfl) rfl rfl rfl rfl (fun a S44 => ?_); clear S43
    refine S44.qasg (want_none rfl) rfl rfl rfl rfl (fun a S45 => ?_); clear S44
    refine S45.qend (fun S46 w hB => ?_)
    have S47 : St _ _ _ _ _ _ := ⟨S46, hB⟩
    clear S46
    refine blk_n ?_
    refine then_n ?_
    refine wp_region_lit ?_
    refine S47.bin (want_none rfl) rfl rfl rfl rfl rfl (addI Try.underlying3 _ _ _ _ (IntWalk.i64_in _ (by omega))) (fun a S48 => ?_); clear S47
    refine S48.move (want_none rfl) rfl rfl rfl rfl (fun a S49 => ?_); clear S48
    refine wpList_n ?_
    refine then_n ?_
    exact ⟨f.dots.length - (k + 1), by omega, k + 1, by omega, rfl, S49.to ⟨rfl, rfl, by rw [hW, ← hmn]; rfl, by rw [hE, ← hmx]; rfl, rfl, rfl, rfl, trivial⟩ ⟨rfl, rfl, trivial⟩⟩
  · skip
    refine wp_exit ?_
    refine then_e ?_
    refine then_e ?_
    refine blk_e ?_
    refine then_n ?_
    refine wp_seq ?_
    obtain rfl : k = f.dots.length := by have := of_decide_eq_false hlt; omega
    rw [List.take_length, hwe.1, hwe.2] at S30
    refine S30.quiet (by kernel_rfl) (by kernel_rfl) (fun a S31 => ?_)
    clear S30
    refine S31.qmove (want_none rfl) rfl rfl rfl rfl (fun a S32 => ?_); clear S31
    refine S32.qindexA (want_none rfl) rfl rfl rfl rfl rfl (fun w hC => idxS00 Try.underlying42 size52 _ _ _ _ hpos) (fun a S33 => ?_); clear S32
    refine S33.qfieldA (want_none rfl) rfl rfl rfl rfl (fun w hC => fld52_1 _ _ _) (fun a S34 => ?_); clear S33
    refine S34.qload (want_none rfl) rfl rfl rfl rfl (fun w hC => one50.load ((hC.own? 4 rfl).cell dotE_len hp0 rfl)) (fun a S35 => ?_); clear S34
    refine S35.qmove (want_none rfl) rfl rfl rfl rfl (fun a S36 => ?_); clear S35
    refine S36.qmove (want_none rfl) rfl rfl rfl rfl (fun a S37 => ?_); clear S36
    refine S37.qbuiltin (want_none rfl) rfl rfl rfl rfl (fun w hC => lenS Try.underlying42 _ _ _ _ _) (fun a S38 => ?_); clear S37
    refine S38.qbin (want_none rfl) rfl rfl rfl rfl rfl (fun w hC => subI Try.underlying3 _ _ _ _ (c := ((f.dots.length - 1 : Nat) : Int)) (by rw [show ((f.dots.length : Int) - 1) = ((f.dots.length - 1 : Nat) : Int) from by omega]; exact IntWalk.i64_in _ (by omega))) (fun a S39 => ?_); clear S38
    refine S39.qindexA (want_none rfl) rfl rfl rfl rfl rfl (fun w hC => idxS0 Try.underlying42 size52 _ _ _ _ hS) (fun a S40 => ?_); clear S39
    refine S40.qfieldA (want_none rfl) rfl rfl rfl rfl (fun w hC => fld52_1 _ _ _) (fun a S41 => ?_); clear S40
    refine S41.qload (want_none rfl) rfl rfl rfl rfl (fun w hC => one50.load ((hC.own? 4 rfl).cell dotE_len hpS rfl)) (fun a S42 => ?_); clear S41
    refine S42.qasg (want_none rfl) rfl rfl rfl rfl (fun a S43 => ?_); clear S42
    refine S43.qasg (want_none rfl) rfl rfl rfl rfl (fun a S44 => ?_); clear S43
    refine S44.qend (fun S45 w hB => ?_)
    have S46 : St _ _ _ _ _ _ := ⟨S45, hB⟩
    clear S45
    refine then_n ?_
    refine wp_seq ?_
    refine wp_region_lit ?_
    refine S46.move (want_none rfl) rfl rfl rfl rfl (fun a S47 => ?_); clear S46
    refine S47.move (want_none rfl) rfl rfl rfl rfl (fun a S48 => ?_); clear S47
    refine S48.move (want_none rfl) rfl rfl rfl rfl (fun a S49 => ?_); clear S48
    refine S49.move (want_none rfl) rfl rfl rfl rfl (fun a S50 => ?_); clear S49
    refine S50.bin (want_none rfl) rfl rfl rfl rfl rfl (subI Try.underlying50 _ _ _ _ (IntWalk.i8_in _ (by omega))) (fun a S51 => ?_); clear S50
    refine S51.bin (want_none rfl) rfl rfl rfl rfl rfl (addI Try.underlying50 _ _ _ _ (IntWalk.i8_in _ (by omega))) (fun a S52 => ?_); clear S51
    refine S52.move (want_none rfl) rfl rfl rfl rfl (fun a S53 => ?_); clear S52
    refine S53.move (want_none rfl) rfl rfl rfl rfl (fun a S54 => ?_); clear S53
    refine S54.bin (want_none rfl) rfl rfl rfl rfl rfl (subI Try.underlying50 _ _ _ _ (IntWalk.i8_in _ (by omega))) (fun a S55 => ?_); clear S54
    refine S55.bin (want_none rfl) rfl rfl rfl rfl rfl (addI Try.underlying50 _ _ _ _ (IntWalk.i8_in _ (by omega))) (fun a S56 => ?_); clear S55
    refine S56.buildP (want_none rfl) rfl rfl rfl [(0, _), (1, _), (2, _), (3, _)] ⟨rfl, rfl, rfl, rfl, rfl, rfl, rfl, rfl, trivial⟩ (build54_4 _ _ _ _ _ ) (fun a S57 => ?_); clear S56
    refine S57.storeR (want_none rfl) rfl rfl rfl rfl row54 2 rfl rfl rfl (by first | rfl | kernel_rfl) (fun a w S58 => ?_); clear S57
    refine S58.asg (want_none rfl) rfl rfl rfl rfl (fun a S59 => ?_); clear S58
    refine wpList_n ?_
    refine then_n ?_
    refine wp_ret ?_
    exact retR2 row54 S59 rfl 2 rfl rfl rfl rfl ⟨by unfold Frbox; rw [hno, hso], S59.bag.below⟩
end Go.Proofs.Ythhimlicaiifdaa
