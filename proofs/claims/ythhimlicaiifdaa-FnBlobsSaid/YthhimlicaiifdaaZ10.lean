/- Frames in the reference: all blobs. -/
import Derived.Test.YthhimlicaiifdaaZ9
import Derived.Test.YthhimlicaiifdaaS5
set_option maxRecDepth 100000
set_option linter.unusedSimpArgs false
set_option linter.unusedVariables false
namespace Go.Proofs.Ythhimlicaiifdaa
open Go.RowKit Fb

theorem one_putI {f : Fr} {x y : Nat} (hx : x < 12) (hy : y < 12) : Fr.zero.putI (x : Int) (y : Int) = Fr.iter f 0 (Fr.one x y) := (put_putI Fr.zero hx hy).symm
theorem blob_more' {f : Fr} {x y n : Nat} (hx : x < 12) (hy : y < 12) (hd : f.dot x y = true) (hne : decide (Fr.step f (Fr.iter f n (Fr.one x y)) = Fr.iter f n (Fr.one x y)) = false) : n < 145 := by
  rcases Fr.iter_grows (Fr.ok_one hx hy) (Fr.subH_one hx hy hd) n with e | e
  · exact absurd e (of_decide_eq_false hne)
  · have := Fr.cnt_le (Fr.iter f n (Fr.one x y)); omega

set_option maxHeartbeats 1000000 in
theorem sBlob_any (f : Fr) (b0 o0 x y : Nat) (w0 : World) (hF : FrAt w0 b0 o0 f) (hf : f.ok = true) (hx : x < 12) (hy : y < 12) (hd : f.dot x y = true) : Calls Try.prog 213 #[.pointer (some ⟨b0, o0, none⟩), .int .i64 x, .int .i64 y] w0 (RetB (frV (Fr.blobAt f x y)) w0) := by
  refine St.enter Try.func213 rfl (show _ = 35 from rfl) rfl (L := [(0, _), (1, _), (2, _)]) rfl (fun a S0 => ?_)
  refine wp_seq ?_
  refine wp_region_lit ?_
  refine S0.allocA (want_none rfl) rfl rfl rfl (Try.zeroValue26 _) cellsZ26 (fun b6 a w hq3 hq4 S1 => ?_); clear S0 hq3 hq4
  refine wpList_n ?_
  refine then_n ?_
  refine wp_seq ?_
  refine wp_region_lit ?_
  refine S1.build (want_none rfl) rfl rfl rfl (by rw [Array.map_empty]; exact zeroFr _) (fun a S2 => ?_); clear S1
  refine S2.allocA (want_none rfl) rfl rfl rfl (Try.zeroValue26 _) cellsZ26 (fun b7 a w hq3 hq4 S3 => ?_); clear S2 hq3 hq4
  refine S3.storeF (want_none rfl) rfl rfl rfl rfl row26 7 rfl (fun a w S4 => ?_); clear S3
  refine wpList_n ?_
  refine then_n ?_
  refine wp_seq ?_
  refine wp_region_lit ?_
  refine S4.move (want_none rfl) rfl rfl rfl rfl (fun a S5 => ?_); clear S4
  refine S5.move (want_none rfl) rfl rfl rfl rfl (fun a S6 => ?_); clear S5
  refine S6.call (want_none rfl) rfl rfl rfl rfl Try.call111 (sPut_any _ _ 26 _ _ _ (S6.bag.at 7 rfl)) (fun e w hR => ?_)
  obtain ⟨rfl, hu⟩ := hR
  refine ⟨_, rfl, fun a A => ?_⟩
  have S7 : St _ _ _ _ _ _ := ⟨A, S6.bag.upd 7 rfl hu⟩; clear A S6
  refine wpList_n ?_
  refine then_n ?_
  refine wp_block ?_
  refine wp_loopN (fun m a w => ∃ k : Nat, k ≤ 145 ∧ m = 145 - k ∧ St w0 35 [(0, .pointer (some ⟨b0, o0, none⟩)), (6, .pointer (some ⟨b6, 0, none⟩)), (7, .pointer (some ⟨b7, 0, none⟩))] [(6, blk b6 (frC Fr.zero) 26), (7, blk b7 (frC (Fr.iter f k (Fr.one x y))) 26)] a w) (145) (⟨0, by omega, rfl, S7.to ⟨rfl, rfl, rfl, trivial⟩ ⟨rfl, by rw [← one_putI (f := f) hx hy]; rfl, trivial⟩⟩) (fun m a w hI => ?_)
  obtain ⟨k, hk, rfl, S8⟩ := hI
  refine wp_block ?_
  refine wp_seq ?_
  have hout : (Fr.iter f k (Fr.one x y)).ok = true := Fr.ok_iter (Fr.ok_one hx hy) k
  have hmore := blob_more' (n := k) hx hy hd
  have hfix := Fr.blob_of_fixed (f := f) (n := k) (Fr.ok_one hx hy) (Fr.subH_one hx hy hd)
  have hsucc := Fr.iter_succ' f k (Fr.one x y)
  generalize hoo : Fr.iter f k (Fr.one x y) = out at *
  refine wp_region_lit ?_
  refine S8.callB (want_none rfl) rfl rfl rfl rfl Try.call136 (sGrow_any out _ _ _ (S8.bag.frAt 7 rfl) hout) (fun a w hq2 S9 => ?_); clear S8 hq2
  refine S9.allocA (want_none rfl) rfl rfl rfl (Try.zeroValue26 _) cellsZ26 (fun b8 a w hq3 hq4 S10 => ?_); clear S9 hq3 hq4
  refine S10.storeF (want_none rfl) rfl rfl rfl rfl row26 8 rfl (fun a w S11 => ?_); clear S10
  refine wpList_n ?_
  refine then_n ?_
  refine wp_seq ?_
  refine wp_seq ?_
  refine wp_region_lit ?_
  refine S11.asg (want_none rfl) rfl rfl rfl rfl (fun a S12 => ?_); clear S11
  refine wpList_n ?_
  refine then_n ?_
  refine wp_block ?_
  refine wp_loopN (fun m a w => ∃ j : Nat, j ≤ 12 ∧ m = 12 - j ∧ St w0 35 [(0, .pointer (some ⟨b0, o0, none⟩)), (6, .pointer (some ⟨b6, 0, none⟩)), (7, .pointer (some ⟨b7, 0, none⟩)), (8, .pointer (some ⟨b8, 0, none⟩)), (9, .int .i64 (j : Nat))] [(6, blk b6 (frC Fr.zero) 26), (7, blk b7 (frC out) 26), (8, blk b8 (frC (mixTo (fun u v => u &&& v) out.grow f j)) 26)] a w) (12) (⟨0, by omega, rfl, S12.to ⟨rfl, rfl, rfl, rfl, rfl, trivial⟩ ⟨rfl, rfl, by rw [mixTo_zero]; rfl, trivial⟩⟩) (fun m a w hI => ?_)
  obtain ⟨j, hj, rfl, S13⟩ := hI
  refine wp_seq ?_
  refine wp_seq ?_
  refine wp_region_lit ?_
  refine S13.move (want_none rfl) rfl rfl rfl rfl (fun a S14 => ?_); clear S13
  refine S14.bin (want_none rfl) rfl rfl rfl rfl rfl (lssI Try.underlying3 _ _ _ _) (fun a S15 => ?_); clear S14
  refine wpList_n ?_
  refine then_n ?_
  refine S15.either rfl (fun hlt => ?_) (fun hlt => ?_)
  · skip
    refine wp_skip ?_
    refine then_n ?_
    refine wp_seq ?_
    refine wp_block ?_
    have hlt : j < 12 := by have := of_decide_eq_true hlt; omega
    refine S15.tail 11 (by kernel_rfl) (by kernel_rfl) (fun a w hB S16 => ?_)
    clear S15
    refine S16.qmove (want_none rfl) rfl rfl rfl rfl (fun a S17 => ?_); clear S16
    refine S17.qmove (want_none rfl) rfl rfl rfl rfl (fun a S18 => ?_); clear S17
    refine S18.qindexA (want_none rfl) rfl rfl rfl rfl rfl (fun w hC => idxFr _ _ hlt) (fun a S19 => ?_); clear S18
    refine S19.qload (want_none rfl) rfl rfl rfl rfl (fun w hC => hC.1.load1 one24 8 rfl (frC_at _ hlt)) (fun a S20 => ?_); clear S19
    refine S20.qmove (want_none rfl) rfl rfl rfl rfl (fun a S21 => ?_); clear S20
    refine S21.qmove (want_none rfl) rfl rfl rfl rfl (fun a S22 => ?_); clear S21
    refine S22.qnilc (want_none rfl) rfl rfl rfl rfl (fun a S23 => ?_); clear S22
    refine S23.qindexA (want_none rfl) rfl rfl rfl rfl rfl (fun w hC => idxFrA _ _ _ hlt) (fun a S24 => ?_); clear S23
    refine S24.qload (want_none rfl) rfl rfl rfl rfl (fun w hC => one24.load ((hF.below hC.1.below) _ hlt)) (fun a S25 => ?_); clear S24
    refine S25.qbin (want_none rfl) rfl rfl rfl rfl rfl (fun w hC => andR _ _ _ _) (fun a S26 => ?_); clear S25
    refine S26.qindexA (want_none rfl) rfl rfl rfl rfl rfl (fun w hC => idxFr _ _ hlt) (fun a S27 => ?_); clear S26
    refine S27.qend (fun S28 => ?_)
    have S29 : St _ _ _ _ _ _ := ⟨S28, hB⟩
    clear S28
    refine S29.store1 (want_none rfl) rfl rfl rfl rfl one24 8 rfl (by rw [frC_size]; exact Nat.ble_eq_true_of_le hlt) rfl rfl (frC_set _ _ _) (fun a w S30 => ?_); clear S29
    refine wpList_n ?_
    refine blk_n ?_
    refine then_n ?_
    refine wp_region_lit ?_
    refine S30.move (want_none rfl) rfl rfl rfl rfl (fun a S31 => ?_); clear S30
    refine S31.bin (want_none rfl) rfl rfl rfl rfl rfl (addI Try.underlying3 _ _ _ _ (IntWalk.i64_in _ (by omega))) (fun a S32 => ?_); clear S31
    refine S32.asg (want_none rfl) rfl rfl rfl rfl (fun a S33 => ?_); clear S32
    refine wpList_n ?_
    refine then_n ?_
    exact ⟨12 - (j + 1), by omega, j + 1, by omega, rfl, S33.to ⟨rfl, rfl, rfl, rfl, rfl, trivial⟩ ⟨rfl, rfl, by rw [← mixTo_succ _ out.grow f j hlt, mixTo_row _ out.grow f j hlt]; rfl, trivial⟩⟩
  · skip
    refine wp_exit ?_
    refine then_e ?_
    refine then_e ?_
    refine blk_e ?_
    refine then_n ?_
    refine wp_seq ?_
    refine wp_seq ?_
    obtain rfl : j = 12 := by have := of_decide_eq_false hlt; omega
    rw [mixTo_all] at S15
    refine wp_region_lit ?_
    refine S15.loadF (want_none rfl) rfl rfl rfl rfl row26 8 rfl (fun a S16 => ?_); clear S15
    refine S16.loadF (want_none rfl) rfl rfl rfl rfl row26 7 rfl (fun a S17 => ?_); clear S16
    refine S17.bin (want_none rfl) rfl rfl rfl rfl rfl (by first | exact eqlFrT _ _ (by with_reducible rfl) | exact eqlFr _ _ _ _) (fun a S18 => ?_); clear S17
    refine wpList_n ?_
    refine then_n ?_
    refine S18.either rfl (fun heq => ?_) (fun heq => ?_)
    · skip
      refine wp_seq ?_
      refine wp_region_lit ?_
      refine S18.loadF (want_none rfl) rfl rfl rfl rfl row26 7 rfl (fun a S19 => ?_); clear S18
      refine S19.storeF (want_none rfl) rfl rfl rfl rfl row26 6 rfl (fun a w S20 => ?_); clear S19
      refine wpList_n ?_
      refine then_n ?_
      refine wp_ret ?_
      refine then_r ?_
      refine blk_r ?_
      refine then_r ?_
      refine blk_r ?_
      exact retF1 S20 rfl 6 rfl rfl ⟨by rw [show Fr.blobAt f x y = out from (hfix (of_decide_eq_true heq)).symm], S20.bag.below⟩
    · skip
      refine wp_skip ?_
      refine then_n ?_
      have hk2 := hmore heq
      refine wp_region_lit ?_
      refine S18.loadF (want_none rfl) rfl rfl rfl rfl row26 8 rfl (fun a S19 => ?_); clear S18
      refine S19.storeF (want_none rfl) rfl rfl rfl rfl row26 7 rfl (fun a w S20 => ?_); clear S19
      refine wpList_n ?_
      refine blk_n ?_
      refine then_n ?_
      exact ⟨145 - (k + 1), by omega, k + 1, by omega, rfl, S20.to ⟨rfl, rfl, rfl, trivial⟩ ⟨rfl, by rw [hsucc]; rfl, trivial⟩⟩

theorem bsFr0 (w : World) : (Instr.buildSlice 47 0 #[]).run Try.prog w = .ok (.slice (some ⟨w.heap.size, 0, none⟩) 0 0) (w.alloc (.cells #[] 26)) := by kernel_rfl
theorem frE_arr (f : Fr) : frC f = (frE f).toArray := by simp [frE]
set_option maxHeartbeats 1000000 in
theorem sBlobs_any (f : Fr) (b0 o0 : Nat) (w0 : World) (hF : FrAt w0 b0 o0 f) (hf : f.ok = true) : Calls Try.prog 134 #[.pointer (some ⟨b0, o0, none⟩)] w0 (RetOwn 26 frE 12 (Fr.blobs f f) w0) := by
  have hblen := Fr.blobs_len hf
  refine St.enter Try.func134 rfl (show _ = 33 from rfl) rfl (L := [(0, _)]) rfl (fun a S0 => ?_)
  refine wp_seq ?_
  refine wp_region_lit ?_
  refine S0.asg (want_none rfl) rfl rfl rfl rfl (fun a S1 => ?_); clear S0
  refine wpList_n ?_
  refine then_n ?_
  refine wp_seq ?_
  refine wp_region_lit ?_
  refine S1.bslice0 (want_none rfl) rfl rfl rfl bsFr0 frE 12 (fun v7 a w S2 => ?_)
  clear S1
  refine S2.asg (want_none rfl) rfl rfl rfl rfl (fun a S3 => ?_); clear S2
  refine wpList_n ?_
  refine then_n ?_
  refine wp_seq ?_
  refine wp_region_lit ?_
  refine S3.move (want_none rfl) rfl rfl rfl rfl (fun a S4 => ?_); clear S3
  refine S4.nilc (want_none rfl) rfl rfl rfl rfl (fun a S5 => ?_); clear S4
  refine S5.loadP (want_none rfl) rfl rfl rfl rfl row26 (hF.below S5.bag.below).row? (fun a S6 => ?_); clear S5
  refine S6.allocA (want_none rfl) rfl rfl rfl (Try.zeroValue26 _) cellsZ26 (fun b4 a w hq3 hq4 S7 => ?_); clear S6 hq3 hq4
  refine S7.storeF (want_none rfl) rfl rfl rfl rfl row26 4 rfl (fun a w S8 => ?_); clear S7
  refine wpList_n ?_
  refine then_n ?_
  refine wp_block ?_
  refine wp_loopN (fun m a w => ∃ (left : Fr) (done : List Fr) (v : Value), left.ok = true ∧ Fr.closed f left ∧ done ++ Fr.blobs f left = Fr.blobs f f ∧ m = left.cnt ∧ St w0 33 [(0, .pointer (some ⟨b0, o0, none⟩)), (3, v), (4, .pointer (some ⟨b4, 0, none⟩))] [(4, blk b4 (frC left) 26), (7, row w0.heap.size 26 frE 12 v done)] a w) (f.cnt) (⟨f, [], v7, hf, Fr.closed_self f, rfl, rfl, S8.to ⟨rfl, rfl, rfl, trivial⟩ ⟨rfl, rfl, trivial⟩⟩) (fun m a w hI => ?_)
  obtain ⟨left, done, v, hl, hcl, hdone, rfl, S9⟩ := hI
  refine wp_block ?_
  refine wp_seq ?_
  have hlen : done.length ≤ 144 := by have h1 := congrArg List.length hdone; rw [List.length_append] at h1; omega
  refine wp_region_lit ?_
  refine S9.call (want_none rfl) rfl rfl rfl rfl Try.call110 (sDots_any left _ _ _ (S9.bag.frAt 4 rfl)) (fun e w hR => ?_)
  obtain ⟨u, rfl, hu, hb⟩ := hR
  refine ⟨_, rfl, fun a A => ?_⟩
  have S10 : St _ _ _ _ _ _ := ⟨A, S9.bag.callRow 5 hb hu⟩; clear A S9
  obtain ⟨Av, cv, rfl⟩ := (S10.bag.own? 5 rfl).slice
  refine S10.asg (want_none rfl) rfl rfl rfl rfl (fun a S11 => ?_); clear S10
  refine wpList_n ?_
  refine then_n ?_
  refine wp_seq ?_
  refine wp_seq ?_
  refine wp_region_lit ?_
  refine S11.move (want_none rfl) rfl rfl rfl rfl (fun a S12 => ?_); clear S11
  refine S12.builtin (want_none rfl) rfl rfl rfl rfl (lenS Try.underlying42 _ _ _ _ _) (fun a S13 => ?_); clear S12
  refine S13.bin (want_none rfl) rfl rfl rfl rfl rfl (eqlI Try.underlying3 _ _ _ _) (fun a S14 => ?_); clear S13
  refine wpList_n ?_
  refine then_n ?_
  refine S14.either rfl (fun hz => ?_) (fun hz => ?_)
  · skip
    refine wp_seq ?_
    have hz0 : left = Fr.zero := (Fr.cnt_zero_iff hl).1 (by have h := eq_of_beq hz; unfold Fr.cnt; omega)
    rw [hz0, Fr.blobs_zero, List.append_nil] at hdone
    rw [hdone] at S14
    refine wp_region_lit ?_
    refine S14.move (want_none rfl) rfl rfl rfl rfl (fun a S15 => ?_); clear S14
    refine S15.asg (want_none rfl) rfl rfl rfl rfl (fun a S16 => ?_); clear S15
    refine wpList_n ?_
    refine then_n ?_
    refine wp_ret ?_
    refine then_r ?_
    refine blk_r ?_
    refine then_r ?_
    refine blk_r ?_
    exact S16.ret1 rfl rfl ⟨_, rfl, S16.bag.own? 7 rfl, S16.bag.below⟩
  · skip
    refine wp_skip ?_
    refine then_n ?_
    refine wp_seq ?_
    have hz0 : left ≠ Fr.zero := fun e => by have h0 := (Fr.cnt_zero_iff hl).2 e; unfold Fr.cnt at h0; rw [h0] at hz; simp at hz
    obtain ⟨px, py, hx, hy, hdf, hdl, hfb, hsame, drest, hdots⟩ := Fr.firstBlob_spec hl hcl hz0
    have hp : left.dots[0]? = some (px, py) := by rw [hdots]; rfl
    have hlt : 0 < left.dots.length := by rw [hdots]; simp
    obtain ⟨b, rfl⟩ := (S14.bag.own? 5 rfl).some dotE_len hp
    refine S14.held (by kernel_rfl) (fun a w => ∃ b6, St w0 33 [(0, .pointer (some ⟨b0, o0, none⟩)), (3, v), (4, .pointer (some ⟨b4, 0, none⟩)), (6, .pointer (some ⟨b6, 0, none⟩))] [(4, blk b4 (frC left) 26), (7, row w0.heap.size 26 frE 12 v done), (6, blk b6 (frC (Fr.blobAt f px py)) 26)] a w) ?_ (fun a w S15 hB => ?_)
    rotate_left
    · have hK := hB
      refine S15.hmove 0 rfl (by kernel_rfl) (by kernel_rfl) (by kernel_rfl) hB (want_none rfl) rfl rfl rfl rfl (fun a S16 => ?_); clear S15
      refine S16.hmove 1 rfl (by kernel_rfl) (by kernel_rfl) (by kernel_rfl) hB (want_none rfl) rfl rfl rfl rfl (fun a S17 => ?_); clear S16
      refine S17.hindexA 2 rfl (by kernel_rfl) (by kernel_rfl) (by kernel_rfl) hB (want_none rfl) rfl rfl rfl rfl rfl (fun w hC => idxS00 Try.underlying42 size52 _ _ _ _ hlt) (fun a S18 => ?_); clear S17
      refine S18.hfieldA 3 rfl (by kernel_rfl) (by kernel_rfl) (by kernel_rfl) hB (want_none rfl) rfl rfl rfl rfl (fun w hC => fld52_0 _ _ _) (fun a S19 => ?_); clear S18
      refine S19.hload 4 rfl (by kernel_rfl) (by kernel_rfl) (by kernel_rfl) hB (want_none rfl) rfl rfl rfl rfl (fun w hC => one50.load ((hC.own? 5 rfl).cell0 dotE_len hp rfl)) (fun a S20 => ?_); clear S19
      refine S20.hconv 5 rfl (by kernel_rfl) (by kernel_rfl) (by kernel_rfl) hB (want_none rfl) rfl rfl rfl rfl (fun w hC => convI Try.underlying50 Try.underlying2 _ (IntWalk.i64_in _ (by omega))) (fun a S21 => ?_); clear S20
      refine S21.hmove 6 rfl (by kernel_rfl) (by kernel_rfl) (by kernel_rfl) hB (want_none rfl) rfl rfl rfl rfl (fun a S22 => ?_); clear S21
      refine S22.hindexA 7 rfl (by kernel_rfl) (by kernel_rfl) (by kernel_rfl) hB (want_none rfl) rfl rfl rfl rfl rfl (fun w hC => idxS00 Try.underlying42 size52 _ _ _ _ hlt) (fun a S23 => ?_); clear S22
      refine S23.hfieldA 8 rfl (by kernel_rfl) (by kernel_rfl) (by kernel_rfl) hB (want_none rfl) rfl rfl rfl rfl (fun w hC => fld52_1 _ _ _) (fun a S24 => ?_); clear S23
      refine S24.hload 9 rfl (by kernel_rfl) (by kernel_rfl) (by kernel_rfl) hB (want_none rfl) rfl rfl rfl rfl (fun w hC => one50.load ((hC.own? 5 rfl).cell dotE_len hp rfl)) (fun a S25 => ?_); clear S24
      refine S25.hconv 10 rfl (by kernel_rfl) (by kernel_rfl) (by kernel_rfl) hB (want_none rfl) rfl rfl rfl rfl (fun w hC => convI Try.underlying50 Try.underlying2 _ (IntWalk.i64_in _ (by omega))) (fun a S26 => ?_); clear S25
      refine Sl.hany [11, 12] (by kernel_rfl) (by simp) ⟨⟨_, rfl, ?_⟩, ⟨_, rfl, ?_⟩, trivial⟩
      · skip
        have S27 : St _ _ _ _ _ _ := ⟨S26, hK⟩
        clear S26
        refine S27.callB (want_none rfl) rfl rfl rfl rfl Try.call213 (sBlob_any f _ _ px py _ (hF.below S27.bag.below) hf hx hy hdf) (fun a w hq2 S28 => ?_); clear S27 hq2
        refine wpList_n ?_
        have hB := S28.bag.base [] trivial
        have hK := S28.bag
        have S29 := S28.sl
        clear S28
        refine nrm_mk ⟨hB, ?_⟩
        refine Sl.hany [12] (by kernel_rfl) (by simp) ⟨⟨_, rfl, ?_⟩, trivial⟩
        have S30 : St _ _ _ _ _ _ := ⟨S29, hK⟩
        clear S29
        refine S30.allocA (want_none rfl) rfl rfl rfl (Try.zeroValue26 _) cellsZ26 (fun b6 a w hq3 hq4 S31 => ?_); clear S30 hq3 hq4
        refine wpList_n ?_
        have hB := S31.bag.base [(6, _)] ⟨rfl, trivial⟩
        have hK := S31.bag
        have S32 := S31.sl
        clear S31
        refine nrm_mk ⟨hB, ?_⟩
        refine Sl.hany [13] (by kernel_rfl) (by simp) ⟨⟨_, rfl, ?_⟩, trivial⟩
        have S33 : St _ _ _ _ _ _ := ⟨S32, hK⟩
        clear S32
        refine S33.storeF (want_none rfl) rfl rfl rfl rfl row26 6 rfl (fun a w S34 => ?_); clear S33
        refine wpList_n ?_
        have hB := S34.bag.base [(6, _), (6, _)] ⟨rfl, rfl, trivial⟩
        have hK := S34.bag
        have S35 := S34.sl
        clear S34
        refine nrm_mk ⟨hB, ?_⟩
        have S36 : St _ _ _ _ _ _ := ⟨S35, hK⟩
        exact hend (by kernel_rfl) (⟨_, S36.to ⟨rfl, rfl, rfl, rfl, trivial⟩ ⟨rfl, rfl, rfl, trivial⟩⟩)
      · skip
        have S27 : St _ _ _ _ _ _ := ⟨S26, hK⟩
        clear S26
        refine S27.allocA (want_none rfl) rfl rfl rfl (Try.zeroValue26 _) cellsZ26 (fun b6 a w hq3 hq4 S28 => ?_); clear S27 hq3 hq4
        refine wpList_n ?_
        have hB := S28.bag.base [(6, _)] ⟨rfl, trivial⟩
        have hK := S28.bag
        have S29 := S28.sl
        clear S28
        refine nrm_mk ⟨hB, ?_⟩
        refine Sl.hany [11] (by kernel_rfl) (by simp) ⟨⟨_, rfl, ?_⟩, trivial⟩
        have S30 : St _ _ _ _ _ _ := ⟨S29, hK⟩
        clear S29
        refine S30.callB (want_none rfl) rfl rfl rfl rfl Try.call213 (sBlob_any f _ _ px py _ (hF.below S30.bag.below) hf hx hy hdf) (fun a w hq2 S31 => ?_); clear S30 hq2
        refine wpList_n ?_
        have hB := S31.bag.base [(6, _)] ⟨rfl, trivial⟩
        have hK := S31.bag
        have S32 := S31.sl
        clear S31
        refine nrm_mk ⟨hB, ?_⟩
        refine Sl.hany [13] (by kernel_rfl) (by simp) ⟨⟨_, rfl, ?_⟩, trivial⟩
        have S33 : St _ _ _ _ _ _ := ⟨S32, hK⟩
        clear S32
        refine S33.storeF (want_none rfl) rfl rfl rfl rfl row26 6 rfl (fun a w S34 => ?_); clear S33
        refine wpList_n ?_
        have hB := S34.bag.base [(6, _), (6, _)] ⟨rfl, rfl, trivial⟩
        have hK := S34.bag
        have S35 := S34.sl
        clear S34
        refine nrm_mk ⟨hB, ?_⟩
        have S36 : St _ _ _ _ _ _ := ⟨S35, hK⟩
        exact hend (by kernel_rfl) (⟨_, S36.to ⟨rfl, rfl, rfl, rfl, trivial⟩ ⟨rfl, rfl, rfl, trivial⟩⟩)
    intro a w hP
    obtain ⟨b6, S37⟩ := hP
    refine then_n ?_
    refine wp_seq ?_
    refine wp_region_lit ?_
    refine S37.callB (want_none rfl) rfl rfl rfl rfl Try.call214 (sLess_any left (Fr.blobAt f px py) _ _ _ _ _ (S37.bag.frAt 4 rfl) (S37.bag.frAt 6 rfl)) (fun a w hq2 S38 => ?_); clear S37 hq2
    refine S38.storeF (want_none rfl) rfl rfl rfl rfl row26 4 rfl (fun a w S39 => ?_); clear S38
    refine wpList_n ?_
    refine then_n ?_
    refine wp_region_lit ?_
    refine S39.move (want_none rfl) rfl rfl rfl rfl (fun a S40 => ?_); clear S39
    refine S40.loadF (want_none rfl) rfl rfl rfl rfl row26 6 rfl (fun a S41 => ?_); clear S40
    refine S41.bslice (want_none rfl) rfl rfl rfl rfl (fun w => run_bs1 _ w) (fun b31 a w _ _ S42 => ?_)
    clear S41
    refine S42.append (want_none rfl) rfl rfl rfl rfl rfl Try.underlying47 infoFr rfl (by decide) (by decide) frE_len frE_one 7 rfl S42.bag.below.size (Reads.of_blk (S42.bag.at 31 rfl) (frE_arr (Fr.blobAt f px py))) (by simp; omega) (fun v32 a w _ S43 => ?_)
    clear S42
    have hB : Fr.blobs f left = Fr.blobAt f px py :: Fr.blobs f (left.less (Fr.blobAt f px py)) := by rw [Fr.blobs_cons hl hcl hz0, hfb]
    refine S43.asg (want_none rfl) rfl rfl rfl rfl (fun a S44 => ?_); clear S43
    refine wpList_n ?_
    refine blk_n ?_
    refine then_n ?_
    exact ⟨(left.less (Fr.blobAt f px py)).cnt, by rw [← hfb]; exact Fr.less_lt hl hcl hz0, left.less (Fr.blobAt f px py), done ++ [Fr.blobAt f px py], v32, Fr.ok_less hl, by rw [← hfb]; exact Fr.closed_next hl hcl hz0, by rw [List.append_assoc, List.singleton_append, ← hB]; exact hdone, rfl, S44.to ⟨rfl, rfl, rfl, trivial⟩ ⟨rfl, rfl, trivial⟩⟩

theorem sBlobsOf_ok (f : Fr) (w0 : World) (hf : f.ok = true) : Calls Try.prog 37 #[frV f] w0 (RetOwn2 26 frE 12 (Fr.blobs f f) 0 w0) := by
  refine St.enter Try.func37 rfl (show _ = 8 from rfl) rfl (L := [(0, _)]) rfl (fun a S0 => ?_)
  refine wp_seq ?_
  refine wp_region_lit ?_
  refine S0.boxA (want_none rfl) rfl rfl rfl rfl (fun b1 a w hq3 hq4 S1 => ?_); clear S0 hq3 hq4
  refine S1.asg (want_none rfl) rfl rfl rfl rfl (fun a S2 => ?_); clear S1
  refine S2.asg (want_none rfl) rfl rfl rfl rfl (fun a S3 => ?_); clear S2
  refine wpList_n ?_
  refine then_n ?_
  refine wp_seq ?_
  refine wp_seq ?_
  refine wp_region_lit ?_
  refine S3.callQ (want_none rfl) rfl rfl rfl rfl Try.call109 (sOk_ok f _ _ _ (S3.bag.frAt 1 rfl) hf) (fun a S4 => ?_); clear S3
  refine S4.un (want_none rfl) rfl rfl rfl rfl (notB _) (fun a S5 => ?_); clear S4
  refine wpList_n ?_
  refine then_n ?_
  refine S5.noB rfl (rfl) ?_
  refine wp_skip ?_
  refine then_n ?_
  refine wp_seq ?_
  refine wp_region_lit ?_
  refine S5.call (want_none rfl) rfl rfl rfl rfl Try.call134 (sBlobs_any f _ _ _ (S5.bag.frAt 1 rfl) hf) (fun e w hR => ?_)
  obtain ⟨v, rfl, hv, hb⟩ := hR
  refine ⟨_, rfl, fun a A => ?_⟩
  have S6 : St _ _ _ _ _ _ := ⟨A, S5.bag.callRow 7 hb hv⟩; clear A S5
  refine S6.asg (want_none rfl) rfl rfl rfl rfl (fun a S7 => ?_); clear S6
  refine S7.asg (want_none rfl) rfl rfl rfl rfl (fun a S8 => ?_); clear S7
  refine wpList_n ?_
  refine then_n ?_
  refine wp_ret ?_
  exact S8.ret2 rfl rfl rfl ⟨_, rfl, S8.bag.own? 7 rfl, S8.bag.below⟩
end Go.Proofs.Ythhimlicaiifdaa
